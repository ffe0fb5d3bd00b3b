/- Walks: are code, task, view and rules small. -/
import Derived.Test.YtcicbijpiffbkaaW6
namespace Go.Proofs.Ytcicbijpiffbkaa
open Go.RowKit
set_option linter.unusedVariables false
set_option linter.unusedSimpArgs false
set_option maxRecDepth 100000
set_option maxHeartbeats 2000000

/-- A view: the lengths of its techs, own entities and others. -/
structure VW where
  (a0 a1 a2 a3 a5 a6 a7 a10 : Value)
  (ta oa sa : Option Addr)
  (tn tc on oc sn sc : Nat)
abbrev VW.v (x : VW) : Value := .agg #[x.a0, x.a1, x.a2, x.a3, .slice x.ta x.tn x.tc, x.a5, x.a6, x.a7, .slice x.oa x.on x.oc, .slice x.sa x.sn x.sc, x.a10]
abbrev VW.o (x : VW) : Obj := .cells #[x.a0, x.a1, x.a2, x.a3, .slice x.ta x.tn x.tc, x.a5, x.a6, x.a7, .slice x.oa x.on x.oc, .slice x.sa x.sn x.sc, x.a10] 35
theorem few_any (x : VW) (w : World) : ∃ B : Bool, KB 19 #[x.v] (.bool B) w := by
  obtain ⟨w2, hw2⟩ : ∃ w2, w.alloc x.o = w2 := ⟨_, rfl⟩
  have HB2 := Lib.hid (show Below w.heap.size w w2 by rw [← hw2]; exact below_new _ _)
  have hx : w2.heap[w.heap.size]? = some x.o := by rw [← hw2]; exact tok_new _ _
  have c4 : w2.cell? ⟨w.heap.size, 4, none⟩ = some (.slice x.ta x.tn x.tc) := by rw [Lib.cell_of_heap hx]; rfl
  have c8 : w2.cell? ⟨w.heap.size, 8, none⟩ = some (.slice x.oa x.on x.oc) := by rw [Lib.cell_of_heap hx]; rfl
  have c9 : w2.cell? ⟨w.heap.size, 9, none⟩ = some (.slice x.sa x.sn x.sc) := by rw [Lib.cell_of_heap hx]; rfl
  have HW2 := Lib.hid hw2
  clear hw2 hx
  have hc : (x.on ≤ 100 ∧ x.sn ≤ 100) ∨ ¬ x.on ≤ 100 ∨ (x.on ≤ 100 ∧ ¬ x.sn ≤ 100) := by omega
  rcases hc with ⟨h1, h2⟩ | hc
  · refine ⟨decide ((x.tn : Int) ≤ 100), ?_⟩
    unfold KB
    go_enter Try.func19, Try.ntmps19
    go_upto_region 1 with fail
    rw [HW2.out]
    clear HW2
    go_wp2_with fail
    go_ret
    exact ⟨rfl, HB2.out⟩
  · refine ⟨false, ?_⟩
    unfold KB
    rcases hc with h1 | ⟨h1, h2⟩
    all_goals
      go_enter Try.func19, Try.ntmps19
      go_upto_region 1 with fail
      rw [HW2.out]
      clear HW2
      go_wp2_with fail
      go_ret
      exact ⟨rfl, HB2.out⟩
/-- The cells of a case. -/
structure CS where
  (st a wt : Int)
  (ca ia so ko ua xa : Option Addr)
  (n c m d ns nc nk kc un uc xn xc : Nat)
  (r1 : Value)
  (fuel : Int)
abbrev CS.o (y : CS) (x : VW) : Obj := .cells #[.slice y.ca y.n y.c, .slice y.ia y.m y.d, .int .i64 y.st, .int .i64 y.a, .int .i64 y.wt, .slice y.so y.ns y.nc, .slice y.ko y.nk y.kc, x.a0, x.a1, x.a2, x.a3, .slice x.ta x.tn x.tc, x.a5, x.a6, x.a7, .slice x.oa x.on x.oc, .slice x.sa x.sn x.sc, x.a10, .slice y.ua y.un y.uc, y.r1, .slice y.xa y.xn y.xc, .int .i64 y.fuel] 42
abbrev CS.v (y : CS) (x : VW) : Value := .agg #[.slice y.ca y.n y.c, .slice y.ia y.m y.d, .int .i64 y.st, .int .i64 y.a, .int .i64 y.wt, .slice y.so y.ns y.nc, .slice y.ko y.nk y.kc, x.a0, x.a1, x.a2, x.a3, .slice x.ta x.tn x.tc, x.a5, x.a6, x.a7, .slice x.oa x.on x.oc, .slice x.sa x.sn x.sc, x.a10, .slice y.ua y.un y.uc, y.r1, .slice y.xa y.xn y.xc, .int .i64 y.fuel]
theorem caseAt {w : World} {g : Nat} {y : CS} {x : VW} (h : w.heap[g]? = some (y.o x)) : w.cell? ⟨g, 0, none⟩ = some (.slice y.ca y.n y.c) ∧ w.cell? ⟨g, 1, none⟩ = some (.slice y.ia y.m y.d) ∧ w.cell? ⟨g, 2, none⟩ = some (.int .i64 y.st) ∧ w.cell? ⟨g, 3, none⟩ = some (.int .i64 y.a) ∧ w.cell? ⟨g, 4, none⟩ = some (.int .i64 y.wt) ∧ w.cell? ⟨g, 5, none⟩ = some (.slice y.so y.ns y.nc) ∧ w.cell? ⟨g, 6, none⟩ = some (.slice y.ko y.nk y.kc) ∧
    w.cell? ⟨g, 7, none⟩ = some x.a0 ∧ w.cell? ⟨g, 8, none⟩ = some x.a1 ∧ w.cell? ⟨g, 9, none⟩ = some x.a2 ∧ w.cell? ⟨g, 10, none⟩ = some x.a3 ∧ w.cell? ⟨g, 11, none⟩ = some (.slice x.ta x.tn x.tc) ∧ w.cell? ⟨g, 12, none⟩ = some x.a5 ∧ w.cell? ⟨g, 13, none⟩ = some x.a6 ∧ w.cell? ⟨g, 14, none⟩ = some x.a7 ∧ w.cell? ⟨g, 15, none⟩ = some (.slice x.oa x.on x.oc) ∧ w.cell? ⟨g, 16, none⟩ = some (.slice x.sa x.sn x.sc) ∧ w.cell? ⟨g, 17, none⟩ = some x.a10 ∧
    w.cell? ⟨g, 18, none⟩ = some (.slice y.ua y.un y.uc) ∧ w.cell? ⟨g, 19, none⟩ = some y.r1 ∧ w.cell? ⟨g, 20, none⟩ = some (.slice y.xa y.xn y.xc) ∧ w.cell? ⟨g, 21, none⟩ = some (.int .i64 y.fuel) := by
  refine ⟨?_, ?_, ?_, ?_, ?_, ?_, ?_, ?_, ?_, ?_, ?_, ?_, ?_, ?_, ?_, ?_, ?_, ?_, ?_, ?_, ?_, ?_⟩
  all_goals (rw [Lib.cell_of_heap h]; rfl)
theorem light_any (y : CS) (x : VW) (b1 : y.ns ≤ 140737488355328) (b2 : y.nk ≤ 140737488355328) (w : World) : ∃ B : Bool, KB 7 #[y.v x] (.bool B) w ∧ (B = true → y.m ≤ 3000 ∧ y.n ≤ 20 ∧ y.ns + y.nk ≤ 200) := by
  obtain ⟨w2, hw2⟩ : ∃ w2, w.alloc (y.o x) = w2 := ⟨_, rfl⟩
  have HB2 := Lib.hid (show Below w.heap.size w w2 by rw [← hw2]; exact below_new _ _)
  have HX2 := Lib.hid (show w2.heap[w.heap.size]? = some (y.o x) by rw [← hw2]; exact tok_new _ _)
  have HW2 := Lib.hid hw2
  obtain ⟨FB, hFB⟩ := few_any x w2
  have HFW := Lib.hid hFB
  obtain ⟨c0, c1, c2, c3, c4, c5, c6, c7, c8, c9, c10, c11, c12, c13, c14, c15, c16, c17, c18, c19, c20, c21⟩ := caseAt HX2.out
  clear hw2 hFB
  by_cases h : y.m ≤ 3000 ∧ y.n ≤ 20 ∧ y.ns + y.nk ≤ 200
  · obtain ⟨h1, h2, h3⟩ := h
    have e3 : (y.ns : Int) + (y.nk : Int) ≤ 200 := by omega
    have HH := Lib.hid (And.intro h1 (And.intro h2 h3))
    unfold KB at HFW ⊢
    cases FB
    · refine ⟨false, ?_, fun h => by cases h⟩
      go_enter Try.func7, Try.ntmps7
      go_upto_region 1 with fail
      rw [HW2.out]
      clear HW2
      go_wp2_with fail
      refine HFW.out.mono ?_
      rintro e w3 ⟨rfl, hb3⟩
      have HB3 := Lib.hid (HB2.out.trans (hb3.mono HB2.out.size))
      clear hb3 c0 c1 c2 c3 c4 c5 c6 c7 c8 c9 c10 c11 c12 c13 c14 c15 c16 c17 c18 c19 c20 c21
      go_wp2_with fail
      go_ret
      exact ⟨rfl, HB3.out⟩
    · by_cases hu : y.un ≤ 40
      · refine ⟨decide ((y.xn : Int) ≤ 40), ?_, fun _ => HH.out⟩
        go_enter Try.func7, Try.ntmps7
        go_upto_region 1 with fail
        rw [HW2.out]
        clear HW2
        go_wp2_with fail
        refine HFW.out.mono ?_
        rintro e w3 ⟨rfl, hb3⟩
        have HB3 := Lib.hid (HB2.out.trans (hb3.mono HB2.out.size))
        have HX3 := block_below hb3 HX2.out
        clear hb3 c0 c1 c2 c3 c4 c5 c6 c7 c8 c9 c10 c11 c12 c13 c14 c15 c16 c17 c18 c19 c20 c21
        obtain ⟨c0, c1, c2, c3, c4, c5, c6, c7, c8, c9, c10, c11, c12, c13, c14, c15, c16, c17, c18, c19, c20, c21⟩ := caseAt HX3
        clear HX3
        go_wp2_with fail
        go_ret
        exact ⟨rfl, HB3.out⟩
      · refine ⟨false, ?_, fun h => by cases h⟩
        go_enter Try.func7, Try.ntmps7
        go_upto_region 1 with fail
        rw [HW2.out]
        clear HW2
        go_wp2_with fail
        refine HFW.out.mono ?_
        rintro e w3 ⟨rfl, hb3⟩
        have HB3 := Lib.hid (HB2.out.trans (hb3.mono HB2.out.size))
        have HX3 := block_below hb3 HX2.out
        clear hb3 c0 c1 c2 c3 c4 c5 c6 c7 c8 c9 c10 c11 c12 c13 c14 c15 c16 c17 c18 c19 c20 c21
        obtain ⟨c0, c1, c2, c3, c4, c5, c6, c7, c8, c9, c10, c11, c12, c13, c14, c15, c16, c17, c18, c19, c20, c21⟩ := caseAt HX3
        clear HX3
        go_wp2_with fail
        go_ret
        exact ⟨rfl, HB3.out⟩
  · refine ⟨false, ?_, fun h => by cases h⟩
    have hc : ¬ y.m ≤ 3000 ∨ (y.m ≤ 3000 ∧ ¬ y.n ≤ 20) ∨ (y.m ≤ 3000 ∧ y.n ≤ 20 ∧ ¬ (y.ns : Int) + (y.nk : Int) ≤ 200) := by omega
    clear h HFW
    unfold KB
    rcases hc with h1 | ⟨h1, h2⟩ | ⟨h1, h2, h3⟩
    all_goals
      go_enter Try.func7, Try.ntmps7
      go_upto_region 1 with fail
      rw [HW2.out]
      clear HW2
      go_wp2_with fail
      go_ret
      exact ⟨rfl, HB2.out⟩
end Go.Proofs.Ytcicbijpiffbkaa
