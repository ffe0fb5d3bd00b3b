/- Walks: Run over the sample. -/
import Derived.Test.YtcicbijpiffbkaaW19
import Derived.Test.YtcicbijpiffbkaaW20
import Derived.Test.YtcicbijpiffbkaaW24
import Derived.Test.YtcicbijpiffbkaaW25
import Derived.Test.YtcicbijpiffbkaaW26
import Derived.Test.YtcicbijpiffbkaaW27
import Derived.Deep.Cut
import Derived.BigRegion
namespace Go.Proofs.Ytcicbijpiffbkaa
open Go.RowKit
set_option linter.unusedVariables false
set_option linter.unusedSimpArgs false
set_option maxRecDepth 100000
set_option maxHeartbeats 4000000

def stT (k : Nat) : Int := if k = 6 then 2 else 1
def wtT (k : Nat) : Int := if k = 6 then 5 else 0
def xsT (k : Nat) : List Int := if k < 2 then [0] else [2]
def ysT : Nat → List Int
  | 1 => [2]
  | 3 => [2]
  | 4 => [2, 3]
  | 5 => [5]
  | _ => []
abbrev nilS' : Value := .slice none 0 0
abbrev vr0 : VR := ⟨.int .i64 0, .int .i64 0, .int .i64 0, .int .i64 0, nilS', nilS', nilS', nilS', nilS', nilS', nilS', nilS', nilS', nilS'⟩
abbrev view0 : Value := .agg #[.int .i64 0, .int .i64 0, .int .i64 0, .int .i64 0, nilS', nilS', nilS', nilS', nilS', nilS', nilS']
abbrev rules0 : Value := .agg #[nilS', nilS', nilS']
theorem sm_valid : validB smE smI 1 0 0 1 0 = true := by decide
theorem sm_okE : OkE smE := by
  intro x hx
  simp [smE] at hx
  subst hx
  refine ⟨by simp, ⟨by decide, by decide⟩, ⟨by decide, by decide⟩⟩
theorem sm_okI : OkI smI := by
  intro x hx
  simp [smI] at hx
  rcases hx with rfl | rfl | rfl | rfl | rfl | rfl | rfl <;> exact ⟨⟨by decide, by decide⟩, ⟨by decide, by decide⟩, ⟨by decide, by decide⟩, by simp⟩
theorem al5 (w : World) (A B C D E : Obj) : ∃ W, (((((w.alloc A).alloc B).alloc C).alloc D).alloc E) = W ∧ W.heap[w.heap.size]? = some A ∧ W.heap[w.heap.size + 1]? = some B ∧ W.heap[w.heap.size + 1 + 1]? = some C ∧ W.heap[w.heap.size + 1 + 1 + 1]? = some D ∧ W.heap[w.heap.size + 1 + 1 + 1 + 1]? = some E ∧ Below w.heap.size w W ∧ W.heap.size = w.heap.size + 5 := by
  obtain ⟨h1, h2, h3⟩ := al3 w A B C
  refine ⟨_, rfl, alloc_keeps (alloc_keeps h1 _) _, alloc_keeps (alloc_keeps h2 _) _, alloc_keeps (alloc_keeps h3 _) _, ?_, ?_, ((((below_new w A).alloc (by simp) B).alloc (by simp; omega) C).alloc (by simp; omega) D).alloc (by simp; omega) E, by simp⟩
  · have h := tok_new (((w.alloc A).alloc B).alloc C) D
    rw [tok_size, tok_size, tok_size] at h
    exact alloc_keeps h _
  · have h := tok_new ((((w.alloc A).alloc B).alloc C).alloc D) E
    rw [tok_size, tok_size, tok_size, tok_size] at h
    exact h
abbrev codeO' (a b : Value) : Obj := .cells #[a, b] 25
abbrev viewO : Obj := .cells #[.int .i64 0, .int .i64 0, .int .i64 0, .int .i64 0, nilS', nilS', nilS', nilS', nilS', nilS', nilS'] 35
abbrev rulesO : Obj := .cells #[nilS', nilS', nilS'] 40
theorem blk10 {w : World} {g : Nat} (h : w.heap[g]? = some viewO) : w.cell? ⟨g, 0, none⟩ = some (.int .i64 0) ∧ w.cell? ⟨g, 1, none⟩ = some (.int .i64 0) ∧ w.cell? ⟨g, 2, none⟩ = some (.int .i64 0) ∧ w.cell? ⟨g, 3, none⟩ = some (.int .i64 0) ∧ w.cell? ⟨g, 4, none⟩ = some nilS' ∧ w.cell? ⟨g, 5, none⟩ = some nilS' ∧ w.cell? ⟨g, 6, none⟩ = some nilS' ∧ w.cell? ⟨g, 7, none⟩ = some nilS' ∧ w.cell? ⟨g, 8, none⟩ = some nilS' ∧ w.cell? ⟨g, 9, none⟩ = some nilS' ∧ w.cell? ⟨g, 10, none⟩ = some nilS' := by
  refine ⟨?_, ?_, ?_, ?_, ?_, ?_, ?_, ?_, ?_, ?_, ?_⟩
  all_goals (rw [Lib.cell_of_heap h]; rfl)
theorem mach_at {b : Nat} {st a wt : Int} {xs ys : List Int} {x : VR} {cv nv : Value} {w : World} (h : Mach b st a wt xs ys x cv nv w) (v : Int) : Mach b st v wt xs ys x cv nv (w.setCell ⟨b, 1, none⟩ (.int .i64 v)) := by
  obtain ⟨so, xc, ko, kc, hm, hs, hk, hne⟩ := h
  exact ⟨so, xc, ko, kc, heap_setCell_same _ b 1 _ _ _ hm, owns_set hs (by exact Nat.lt_succ_self _) _, owns_set hk (by exact Nat.lt_succ_self _) _, hne⟩
theorem run_fin {w wr : World} {b rb : Nat} {ko : Option Addr} {kc : Nat} {ys : List Int} (hb : Below w.heap.size w wr) (hr : w.heap.size ≤ rb) (hrb : rb < b + 1) (hk : wr.ownsRow (b + 1) 2 1 (.slice ko ys.length kc) ys.length (cellsOf intL ys)) (v0 v1 v2 v3 v4 : Value) :
    Below w.heap.size w (st5 wr rb v0 v1 v2 v3 v4).drew ∧ IntSl (st5 wr rb v0 v1 v2 v3 v4).drew (.slice ko ys.length kc) ys :=
  ⟨(st5_below hb hr).drew, sl_of_owns intL_len (owns_set (owns_set (owns_set (owns_set (owns_set hk (by exact hrb) _) (by exact hrb) _) (by exact hrb) _) (by exact hrb) _) (by exact hrb) _).drew⟩
theorem CloneI_nilC (c : Nat) : KC 28 #[.slice none 0 c] (.slice none 0 0) := by
  intro w
  have hq : ∀ (ao : Option Addr) (l c : Nat) (w : World), (binOp .eql 26 (.slice ao l c) (.slice none 0 0)).run Try.prog w = .ok (.bool ao.isNone) w := fun ao l c w => eql_nil 26 _ ao l c Try.underlying26 w
  go_enter Try.func28, Try.ntmps28
  go_wp2_with fail
  go_ret
  exact ⟨rfl, rfl⟩
theorem mach_start {b : Nat} {W : World} {xs : List Int} {so : Option Addr} {xc : Nat} (hm : W.heap[b]? = some (machO 1 0 0 (.slice so xs.length xc) nilS' vr0 nilS' nilS')) (hs : W.ownsRow (b + 1) 2 1 (.slice so xs.length xc) xs.length (cellsOf intL xs)) : Mach b 1 0 0 xs [] vr0 nilS' nilS' W :=
  ⟨so, xc, none, 0, hm, hs, World.ownsRow_nil _ _ _ _, fun g _ h => by cases h⟩
theorem owns_mono {w : World} {B B' e s n : Nat} {v : Value} {xs : List Value} (h : w.ownsRow B e s v n xs) (hB : B' ≤ B) : w.ownsRow B' e s v n xs := by
  refine ⟨h.1, ?_⟩
  rcases h.2 with y | ⟨q, cap, cur, y1, y2, y3⟩
  · exact Or.inl y
  · exact Or.inr ⟨q, cap, cur, y1, Nat.le_trans hB y2, y3⟩
theorem run5_end {b s cs cap : Nat} {w3 w4 w5 : World} {ao : Option Addr} (hm : w4.heap[b]? = some (machO 1 0 0 (.slice (some ⟨s, 0, none⟩) 1 cs) nilS' vr0 nilS' nilS')) (hz : w4.heap.size = b + 1) (hb3 : Below b w3 w4) (hbb : w5.heap[b]? = w4.drew.heap[b]?) (how : w5.ownsRow w4.drew.heap.size 2 1 (.slice ao 1 cap) 1 (cellsOf intL [0])) (hbl : Below w4.drew.heap.size w4.drew w5) :
    Mach b 1 0 0 [0] [] vr0 nilS' nilS' ((w5.setCell ⟨b, 3, none⟩ (.slice ao 1 cap)).setCell ⟨b, 4, none⟩ nilS') ∧ Below b w3 ((w5.setCell ⟨b, 3, none⟩ (.slice ao 1 cap)).setCell ⟨b, 4, none⟩ nilS') := by
  have hs : w4.drew.heap.size = b + 1 := hz
  rw [hs] at how hbl
  have h5 : w5.heap[b]? = some (machO 1 0 0 (.slice (some ⟨s, 0, none⟩) 1 cs) nilS' vr0 nilS' nilS') := hbb.trans hm
  refine ⟨mach_start (so := ao) (xc := cap) (xs := [0]) (heap_setCell_same _ b 4 _ _ _ (heap_setCell_same _ b 3 _ _ _ h5)) (owns_set (owns_set how (by exact Nat.lt_succ_self _) _) (by exact Nat.lt_succ_self _) _), ?_⟩
  exact (((hb3.drew).trans (hbl.mono (Nat.le_succ _))).setCell (Nat.le_refl _) _).setCell (Nat.le_refl _) _
theorem Run_sample (p q s c d cs : Nat) (F : Int) (K : Nat) (hK : (F = 100 ∧ K = 6) ∨ (F = 4 ∧ K = 4)) (hc : 1 ≤ c) (hd : 7 ≤ d) (w : World) (he : EntAt w ⟨p, 0, none⟩ smE) (hi : InsAt w ⟨q, 0, none⟩ smI) (hs : IntSl w (.slice (some ⟨s, 0, none⟩) 1 cs) [0]) :
    Calls Try.prog 14 #[codeV (.slice (some ⟨p, 0, none⟩) 1 c) (.slice (some ⟨q, 0, none⟩) 7 d), taskV 1 0 0 (.slice (some ⟨s, 0, none⟩) 1 cs) nilS', view0, rules0, .int .i64 F] w
      (fun e w' => Below w.heap.size w w' ∧ ∃ so xc ko kc, e = .returned (.tuple #[taskV (stT K) (K : Int) (wtT K) (.slice so (xsT K).length xc) (.slice ko (ysT K).length kc), nilS', nilS', .int .i64 (F - K)]) ∧ IntSl w' (.slice ko (ysT K).length kc) (ysT K)) := by
  have HVA := Lib.hid (fun w' (hb : Below w.heap.size w w') => Valid_any (some ⟨p, 0, none⟩) (some ⟨q, 0, none⟩) (some ⟨s, 0, none⟩) none c d 1 7 1 0 cs 0 smE smI 1 0 0 rfl rfl (by omega) (by omega) hc hd sm_okE sm_okI w' (Or.inr ⟨_, rfl, he.below Ent.l_len hb⟩) (Or.inr ⟨_, rfl, hi.below Ins.l_len hb⟩))
  rw [sm_valid] at HVA
  have HCL := Lib.hid (show clampF F 0 200 = F by unfold clampF; rcases hK with ⟨h, _⟩ | ⟨h, _⟩ <;> rw [h] <;> rfl)
  have HKC := Lib.hid (Clamp_any F 0 200)
  rw [HCL.out] at HKC
  have HK := Lib.hid hK
  have HI := Lib.hid hi; have HS := Lib.hid hs
  clear hK he hi hs HCL
  unfold KC at HKC
  unfold KB codeV at HVA
  unfold codeV
  go_enter Try.func14, Try.ntmps14
  go_upto_region 1 with fail
  obtain ⟨w2, hw2, hA, hB, hC, hD, hE, hb2, hz2⟩ := al5 w (codeO' (.slice (some ⟨p, 0, none⟩) 1 c) (.slice (some ⟨q, 0, none⟩) 7 d)) (taskO 1 0 0 (.slice (some ⟨s, 0, none⟩) 1 cs) nilS') viewO rulesO (taskO 0 0 0 nilS' nilS')
  rw [hw2]
  have HA := Lib.hid hA; have HB := Lib.hid hB; have HC := Lib.hid hC; have HD := Lib.hid hD; have HE := Lib.hid hE; have HB2 := Lib.hid hb2; have HZ2 := Lib.hid hz2
  clear hw2 hC hD hE hb2 hz2
  obtain ⟨a0, a1⟩ := cells2 hA
  obtain ⟨t0, t1, t2, t3, t4⟩ := blk5 hB
  clear hA hB
  go_wp2_with fail
  refine (HKC.out _).mono ?_
  rintro e w3 ⟨rfl, rfl⟩
  go_wp2_with fail
  refine (HVA.out _ HB2.out).mono ?_
  rintro e w3 ⟨rfl, hb3⟩
  have HB3 := Lib.hid (HB2.out.trans (hb3.mono HB2.out.size))
  have HA3 := Lib.hid (block_below hb3 HA.out); have HBB3 := Lib.hid (block_below hb3 HB.out); have HC3 := Lib.hid (block_below hb3 HC.out); have HD3 := Lib.hid (block_below hb3 HD.out); have HE3 := Lib.hid (block_below hb3 HE.out)
  have HZ3 := Lib.hid (show w.heap.size + 5 ≤ w3.heap.size by have := HZ2.out; have := hb3.size; omega)
  clear hb3 a0 a1 t0 t1 t2 t3 t4 HVA HA HB HC HD HE HKC
  obtain ⟨a0, a1⟩ := cells2 HA3.out
  obtain ⟨t0, t1, t2, t3, t4⟩ := blk5 HBB3.out
  obtain ⟨v0, v1, v2, v3, v4, v5, v6, v7, v8, v9, v10⟩ := blk10 HC3.out
  obtain ⟨r0, r1, r2⟩ := blk3 HD3.out
  go_upto_region 5 with fail
  obtain ⟨w4, hw4⟩ : ∃ x, w3.alloc (.cells #[.int .i64 1, .int .i64 0, .int .i64 0, .slice (some ⟨s, 0, none⟩) 1 cs, nilS', .int .i64 0, .int .i64 0, .int .i64 0, .int .i64 0, nilS', nilS', nilS', nilS', nilS', nilS', nilS', nilS', nilS', nilS', .slice none 0 0, .slice none 0 0] 78) = x := ⟨_, rfl⟩
  have HM4 := Lib.hid (show w4.heap[w3.heap.size]? = some (machO 1 0 0 (.slice (some ⟨s, 0, none⟩) 1 cs) nilS' vr0 nilS' nilS') by rw [← hw4]; exact tok_new _ _)
  have HBB4 := Lib.hid (show Below w3.heap.size w3 w4 by rw [← hw4]; exact below_new _ _)
  have HZ4 := Lib.hid (show w4.heap.size = w3.heap.size + 1 by rw [← hw4, tok_size])
  rw [hw4]
  clear hw4 a0 a1 v0 v1 v2 v3 v4 v5 v6 v7 v8 v9 v10 r0 r1 r2
  obtain ⟨b, hb⟩ : ∃ b, w3.heap.size = b := ⟨_, rfl⟩
  have HB4 := Lib.hid (show Below w.heap.size w w4 from HB3.out.trans (HBB4.out.mono (by have := HZ3.out; omega)))
  have t3' := cell_below (w := w3) (HBB4.out) t3
  have t4' := cell_below (w := w3) (HBB4.out) t4
  rw [hb] at HM4 HBB4 HZ4 HZ3 ⊢
  clear t0 t1 t2 t3 t4
  go_cut [14] from 17 (fun lv wc => lv = .int .i64 F ∧ Mach b 1 0 0 [0] [] vr0 nilS' nilS' wc ∧ Below b w3 wc)
  case first =>
    obtain ⟨⟨c0, c1, c2, c3, c4, c5, c19, c20⟩, f0, f1, f2, f3, f4, f19, f20⟩ := mach_cells HM4.out
    have hz4 := heap_lt HM4.out
    have hn1 : ¬ b = w.heap.size + 1 := by have := HZ3.out; omega
    have hn2 : ¬ w.heap.size + 1 = b := by have := HZ3.out; omega
    have HCN := Lib.hid (CloneI_nilC 0)
    unfold KC at HCN
    have HCS := Lib.hid (fun W (hW : Below w.heap.size w W) => CloneI_any (.slice (some ⟨s, 0, none⟩) 1 cs) [0] (by simp) W (HS.out.below hW))
    clear c0 c1 c2 c5 c19 c20 f0 f1 f2 f19 f20
    go_region_law ((go_simp; go_at_call 28; first
      | ((with_reducible refine (HCN.out _).mono ?_); rintro e w5 ⟨rfl, rfl⟩)
      | ((with_reducible refine (HCS.out _ ?hbl).mono ?_); (case hbl => (repeat' (first | exact HB4.out | refine Below.drew ?_ | refine below_dN ?_ _ | refine Below.setCell ?_ (by have := HZ3.out; first | omega | (simp; omega)) _))); rintro e w5 ⟨ao, cap, rfl, hown, hb5⟩; have kt4 : w5.cell? ⟨w.heap.size + 1, 4, none⟩ = some (.slice none 0 0) := cell_below hb5 (by first | exact t4' | go_keep); have km3 : w5.cell? ⟨b, 3, none⟩ = some (.slice (some ⟨s, 0, none⟩) 1 cs) := cell_below hb5 (by first | exact c3 | go_keep); have km4 : w5.cell? ⟨b, 4, none⟩ = some (.slice none 0 0) := cell_below hb5 (by first | exact c4 | go_keep); have hbb := hb5.block b (by have := HZ4.out; first | omega | (simp; omega)); have kf3 : w5.frozen? ⟨b, 3, none⟩ = false := (World.frozen?_of_block hbb).trans (by first | exact f3 | go_keep); have kf4 : w5.frozen? ⟨b, 4, none⟩ = false := (World.frozen?_of_block hbb).trans (by first | exact f4 | go_keep); have HBBL := Lib.hid hbb; have HOW := Lib.hid hown; have HBL := Lib.hid hb5; clear hbb hown hb5)))
    all_goals
      have hfin := Lib.hid (run5_end HM4.out HZ4.out HBB4.out HBBL.out HOW.out HBL.out)
      clear kt4 km3 km4 kf3 kf4 HBBL HOW HBL
      go_wp2_with fail
      go_meet
      case rel => exact ⟨rfl, by first | exact hfin.out.1 | exact hfin.out.1.drew, by first | exact hfin.out.2 | exact hfin.out.2.drew⟩
  case rest =>
    obtain ⟨rfl, hM, hBc⟩ := hcut
    have HM := Lib.hid hM; have HBC := Lib.hid hBc
    clear hM hBc HM4 HBB4 t3' t4'
    go_wp2_with fail
    go_loopw [14] (fun lv wr => ∃ k : Nat, k ≤ K ∧ lv = .int .i64 (F - k) ∧ Mach b (stT k) (k : Int) (wtT k) (xsT k) (ysT k) vr0 nilS' nilS' wr ∧ Below b w3 wr) (fun lv _ => (intOf lv).toNat)
    case atStart => exact ⟨0, by omega, by simp, HM.out, HBC.out⟩
    case round =>
      clear HM HBC
      obtain ⟨k, hk, rfl, hmach, hbel⟩ := hrel
      have HM := Lib.hid hmach
      have HBE := Lib.hid hbel
      have HBW := Lib.hid (HB3.out.trans (hbel.mono (by have := HZ3.out; omega)))
      have HAR := Lib.hid (below_keeps HA3.out (by have := HZ3.out; omega) hbel)
      clear hbel hmach
      obtain ⟨L, hL⟩ : ∃ L : Int, F - k = L := ⟨_, rfl⟩
      rw [hL]
      by_cases hkK : k < K
      · have hL0 : 0 < L := by rcases HK.out with ⟨h1, h2⟩ | ⟨h1, h2⟩ <;> omega
        have hL1 : L ≤ 100 := by rcases HK.out with ⟨h1, h2⟩ | ⟨h1, h2⟩ <;> omega
        have hk6 : k = 0 ∨ k = 1 ∨ k = 2 ∨ k = 3 ∨ k = 4 ∨ k = 5 := by rcases HK.out with ⟨h1, h2⟩ | ⟨h1, h2⟩ <;> omega
        have HNL := Lib.hid (show ∀ j : Nat, j = k + 1 → F - (j : Int) = L - 1 from fun j h => by omega)
        have HKK := Lib.hid hkK
        clear hL hk hkK
        rcases hk6 with rfl | rfl | rfl | rfl | rfl | rfl
        · obtain ⟨so, xc, ko, kc, hm, hs, hkk, hne⟩ := (show Mach b 1 0 0 [0] [] vr0 nilS' nilS' wr from HM.out)
          obtain ⟨⟨c0, c1, c2, c3, c4, c5, c19, c20⟩, f0, f1, f2, f3, f4, f19, f20⟩ := mach_cells hm
          have hz := heap_lt hm
          have HN7 := Lib.hid (show Mach b 1 1 0 [0] [] vr0 nilS' nilS' (wr.setCell ⟨b, 1, none⟩ (.int .i64 1)) from mach_at ⟨so, xc, ko, kc, hm, hs, hkk, hne⟩ 1)
          have HB7 := Lib.hid (HBE.out.setCell (p := ⟨b, 1, none⟩) (Nat.le_refl _) (.int .i64 1))
          clear hm hs hkk hne c2 c3 c4 c5 c19 c20 f0 f2 f3 f4 f19 f20 HM
          go_upto_region 10 with fail
          generalize hw7 : wr.setCell ⟨b, 1, none⟩ (.int .i64 1) = w7 at *
          have HBW7 := Lib.hid (HB3.out.trans (HB7.out.mono (by have := HZ3.out; omega)))
          have HA7 := Lib.hid (below_keeps HA3.out (by have := HZ3.out; omega) HB7.out)
          obtain ⟨a0, a1⟩ := cells2 HA7.out
          have hins := insAt (HI.out.below Ins.l_len HBW7.out) 0 (by decide)
          have i0 : w7.cell? ⟨q, 0, none⟩ = some (.int .i64 1) := hins.1
          have i1 : w7.cell? ⟨q, 1, none⟩ = some (.int .i64 0) := hins.2.1
          have i2 : w7.cell? ⟨q, 2, none⟩ = some (.int .i64 2) := hins.2.2.1
          have i3 : w7.cell? ⟨q, 3, none⟩ = some (.string (str [])) := hins.2.2.2
          have HOF := Lib.hid (show Calls Try.prog 29 #[.agg #[.int .i64 1, .int .i64 0, .int .i64 2, .string (str [])]] w7 (fun e w' => e = .returned (.iface 113 (.agg #[.int .i64 2])) ∧ Below w7.heap.size w7 w') from of_any ⟨1, 0, 2, []⟩ w7)
          have HDO := Lib.hid (fun W (hm : Mach b 1 1 0 [0] [] vr0 nilS' nilS' W) => doInt_any b 2 1 1 0 [0] [] vr0 nilS' nilS' (by simp) W hm)
          clear hins c0 c1 f1 hw7
          generalize hS0 : str [] = S0 at *
          go_wp2_with fail
          refine HOF.out.mono ?_
          rintro e w8 ⟨rfl, hb8⟩
          have HM8 := Lib.hid (mach_below HN7.out hb8)
          have HB8 := Lib.hid (HB7.out.trans (hb8.mono (Nat.le_of_lt (mach_lt HN7.out))))
          clear hb8 a0 a1 i0 i1 i2 i3 HOF
          go_wp2_with fail
          refine (HDO.out _ HM8.out).mono ?_
          rintro e w9 ⟨rfl, hb9, hm9⟩
          have HB9 := Lib.hid (HB8.out.trans hb9)
          have HM9 := Lib.hid hm9
          clear hb9 hm9 HDO
          go_wp2_with fail
          go_roundw
          case rel => exact ⟨1, HKK.out, by rw [HNL.out 1 rfl], HM9.out, HB9.out⟩
          case measure => simp [intOf]; omega
        · obtain ⟨so, xc, ko, kc, hm, hs, hkk, hne⟩ := (show Mach b 1 1 0 [0] [2] vr0 nilS' nilS' wr from HM.out)
          obtain ⟨⟨c0, c1, c2, c3, c4, c5, c19, c20⟩, f0, f1, f2, f3, f4, f19, f20⟩ := mach_cells hm
          have hz := heap_lt hm
          have HN7 := Lib.hid (show Mach b 1 2 0 [0] [2] vr0 nilS' nilS' (wr.setCell ⟨b, 1, none⟩ (.int .i64 2)) from mach_at ⟨so, xc, ko, kc, hm, hs, hkk, hne⟩ 2)
          have HB7 := Lib.hid (HBE.out.setCell (p := ⟨b, 1, none⟩) (Nat.le_refl _) (.int .i64 2))
          clear hm hs hkk hne c2 c3 c4 c5 c19 c20 f0 f2 f3 f4 f19 f20 HM
          go_upto_region 10 with fail
          generalize hw7 : wr.setCell ⟨b, 1, none⟩ (.int .i64 2) = w7 at *
          have HBW7 := Lib.hid (HB3.out.trans (HB7.out.mono (by have := HZ3.out; omega)))
          have HA7 := Lib.hid (below_keeps HA3.out (by have := HZ3.out; omega) HB7.out)
          obtain ⟨a0, a1⟩ := cells2 HA7.out
          have hins := insAt (HI.out.below Ins.l_len HBW7.out) 1 (by decide)
          have i0 : w7.cell? ⟨q, 4, none⟩ = some (.int .i64 3) := hins.1
          have i1 : w7.cell? ⟨q, 5, none⟩ = some (.int .i64 0) := hins.2.1
          have i2 : w7.cell? ⟨q, 6, none⟩ = some (.int .i64 0) := hins.2.2.1
          have i3 : w7.cell? ⟨q, 7, none⟩ = some (.string (str [])) := hins.2.2.2
          have HOF := Lib.hid (show Calls Try.prog 29 #[.agg #[.int .i64 3, .int .i64 0, .int .i64 0, .string (str [])]] w7 (fun e w' => e = .returned (.iface 116 (.agg #[.int .i64 0])) ∧ Below w7.heap.size w7 w') from of_any ⟨3, 0, 0, []⟩ w7)
          have HDO := Lib.hid (fun W (hm : Mach b 1 2 0 [0] [2] vr0 nilS' nilS' W) => doStore_any b 0 2 1 2 0 [0] [] vr0 nilS' nilS' (by simp) (by simp) (by simp) W hm)
          clear hins c0 c1 f1 hw7
          generalize hS0 : str [] = S0 at *
          go_wp2_with fail
          refine HOF.out.mono ?_
          rintro e w8 ⟨rfl, hb8⟩
          have HM8 := Lib.hid (mach_below HN7.out hb8)
          have HB8 := Lib.hid (HB7.out.trans (hb8.mono (Nat.le_of_lt (mach_lt HN7.out))))
          clear hb8 a0 a1 i0 i1 i2 i3 HOF
          go_wp2_with fail
          refine (HDO.out _ HM8.out).mono ?_
          rintro e w9 ⟨rfl, hb9, hm9⟩
          have HB9 := Lib.hid (HB8.out.trans hb9)
          have HM9 := Lib.hid hm9
          clear hb9 hm9 HDO
          go_wp2_with fail
          go_roundw
          case rel => exact ⟨2, HKK.out, by rw [HNL.out 2 rfl], HM9.out, HB9.out⟩
          case measure => simp [intOf]; omega
        · obtain ⟨so, xc, ko, kc, hm, hs, hkk, hne⟩ := (show Mach b 1 2 0 [2] [] vr0 nilS' nilS' wr from HM.out)
          obtain ⟨⟨c0, c1, c2, c3, c4, c5, c19, c20⟩, f0, f1, f2, f3, f4, f19, f20⟩ := mach_cells hm
          have hz := heap_lt hm
          have HN7 := Lib.hid (show Mach b 1 3 0 [2] [] vr0 nilS' nilS' (wr.setCell ⟨b, 1, none⟩ (.int .i64 3)) from mach_at ⟨so, xc, ko, kc, hm, hs, hkk, hne⟩ 3)
          have HB7 := Lib.hid (HBE.out.setCell (p := ⟨b, 1, none⟩) (Nat.le_refl _) (.int .i64 3))
          clear hm hs hkk hne c2 c3 c4 c5 c19 c20 f0 f2 f3 f4 f19 f20 HM
          go_upto_region 10 with fail
          generalize hw7 : wr.setCell ⟨b, 1, none⟩ (.int .i64 3) = w7 at *
          have HBW7 := Lib.hid (HB3.out.trans (HB7.out.mono (by have := HZ3.out; omega)))
          have HA7 := Lib.hid (below_keeps HA3.out (by have := HZ3.out; omega) HB7.out)
          obtain ⟨a0, a1⟩ := cells2 HA7.out
          have hins := insAt (HI.out.below Ins.l_len HBW7.out) 2 (by decide)
          have i0 : w7.cell? ⟨q, 8, none⟩ = some (.int .i64 2) := hins.1
          have i1 : w7.cell? ⟨q, 9, none⟩ = some (.int .i64 0) := hins.2.1
          have i2 : w7.cell? ⟨q, 10, none⟩ = some (.int .i64 0) := hins.2.2.1
          have i3 : w7.cell? ⟨q, 11, none⟩ = some (.string (str [])) := hins.2.2.2
          have HOF := Lib.hid (show Calls Try.prog 29 #[.agg #[.int .i64 2, .int .i64 0, .int .i64 0, .string (str [])]] w7 (fun e w' => e = .returned (.iface 115 (.agg #[.int .i64 0])) ∧ Below w7.heap.size w7 w') from of_any ⟨2, 0, 0, []⟩ w7)
          have HDO := Lib.hid (fun W (hm : Mach b 1 3 0 [2] [] vr0 nilS' nilS' W) => doLoad_any b 0 1 3 0 [2] [] vr0 nilS' nilS' (by simp) (by simp) (by simp) W hm)
          clear hins c0 c1 f1 hw7
          generalize hS0 : str [] = S0 at *
          go_wp2_with fail
          refine HOF.out.mono ?_
          rintro e w8 ⟨rfl, hb8⟩
          have HM8 := Lib.hid (mach_below HN7.out hb8)
          have HB8 := Lib.hid (HB7.out.trans (hb8.mono (Nat.le_of_lt (mach_lt HN7.out))))
          clear hb8 a0 a1 i0 i1 i2 i3 HOF
          go_wp2_with fail
          refine (HDO.out _ HM8.out).mono ?_
          rintro e w9 ⟨rfl, hb9, hm9⟩
          have HB9 := Lib.hid (HB8.out.trans hb9)
          have HM9 := Lib.hid hm9
          clear hb9 hm9 HDO
          go_wp2_with fail
          go_roundw
          case rel => exact ⟨3, HKK.out, by rw [HNL.out 3 rfl], HM9.out, HB9.out⟩
          case measure => simp [intOf]; omega
        · obtain ⟨so, xc, ko, kc, hm, hs, hkk, hne⟩ := (show Mach b 1 3 0 [2] [2] vr0 nilS' nilS' wr from HM.out)
          obtain ⟨⟨c0, c1, c2, c3, c4, c5, c19, c20⟩, f0, f1, f2, f3, f4, f19, f20⟩ := mach_cells hm
          have hz := heap_lt hm
          have HN7 := Lib.hid (show Mach b 1 4 0 [2] [2] vr0 nilS' nilS' (wr.setCell ⟨b, 1, none⟩ (.int .i64 4)) from mach_at ⟨so, xc, ko, kc, hm, hs, hkk, hne⟩ 4)
          have HB7 := Lib.hid (HBE.out.setCell (p := ⟨b, 1, none⟩) (Nat.le_refl _) (.int .i64 4))
          clear hm hs hkk hne c2 c3 c4 c5 c19 c20 f0 f2 f3 f4 f19 f20 HM
          go_upto_region 10 with fail
          generalize hw7 : wr.setCell ⟨b, 1, none⟩ (.int .i64 4) = w7 at *
          have HBW7 := Lib.hid (HB3.out.trans (HB7.out.mono (by have := HZ3.out; omega)))
          have HA7 := Lib.hid (below_keeps HA3.out (by have := HZ3.out; omega) HB7.out)
          obtain ⟨a0, a1⟩ := cells2 HA7.out
          have hins := insAt (HI.out.below Ins.l_len HBW7.out) 3 (by decide)
          have i0 : w7.cell? ⟨q, 12, none⟩ = some (.int .i64 1) := hins.1
          have i1 : w7.cell? ⟨q, 13, none⟩ = some (.int .i64 0) := hins.2.1
          have i2 : w7.cell? ⟨q, 14, none⟩ = some (.int .i64 3) := hins.2.2.1
          have i3 : w7.cell? ⟨q, 15, none⟩ = some (.string (str [])) := hins.2.2.2
          have HOF := Lib.hid (show Calls Try.prog 29 #[.agg #[.int .i64 1, .int .i64 0, .int .i64 3, .string (str [])]] w7 (fun e w' => e = .returned (.iface 113 (.agg #[.int .i64 3])) ∧ Below w7.heap.size w7 w') from of_any ⟨1, 0, 3, []⟩ w7)
          have HDO := Lib.hid (fun W (hm : Mach b 1 4 0 [2] [2] vr0 nilS' nilS' W) => doInt_any b 3 1 4 0 [2] [2] vr0 nilS' nilS' (by simp) W hm)
          clear hins c0 c1 f1 hw7
          generalize hS0 : str [] = S0 at *
          go_wp2_with fail
          refine HOF.out.mono ?_
          rintro e w8 ⟨rfl, hb8⟩
          have HM8 := Lib.hid (mach_below HN7.out hb8)
          have HB8 := Lib.hid (HB7.out.trans (hb8.mono (Nat.le_of_lt (mach_lt HN7.out))))
          clear hb8 a0 a1 i0 i1 i2 i3 HOF
          go_wp2_with fail
          refine (HDO.out _ HM8.out).mono ?_
          rintro e w9 ⟨rfl, hb9, hm9⟩
          have HB9 := Lib.hid (HB8.out.trans hb9)
          have HM9 := Lib.hid hm9
          clear hb9 hm9 HDO
          go_wp2_with fail
          go_roundw
          case rel => exact ⟨4, HKK.out, by rw [HNL.out 4 rfl], HM9.out, HB9.out⟩
          case measure => simp [intOf]; omega
        · obtain ⟨so, xc, ko, kc, hm, hs, hkk, hne⟩ := (show Mach b 1 4 0 [2] [2, 3] vr0 nilS' nilS' wr from HM.out)
          obtain ⟨⟨c0, c1, c2, c3, c4, c5, c19, c20⟩, f0, f1, f2, f3, f4, f19, f20⟩ := mach_cells hm
          have hz := heap_lt hm
          have HN7 := Lib.hid (show Mach b 1 5 0 [2] [2, 3] vr0 nilS' nilS' (wr.setCell ⟨b, 1, none⟩ (.int .i64 5)) from mach_at ⟨so, xc, ko, kc, hm, hs, hkk, hne⟩ 5)
          have HB7 := Lib.hid (HBE.out.setCell (p := ⟨b, 1, none⟩) (Nat.le_refl _) (.int .i64 5))
          clear hm hs hkk hne c2 c3 c4 c5 c19 c20 f0 f2 f3 f4 f19 f20 HM
          go_upto_region 10 with fail
          generalize hw7 : wr.setCell ⟨b, 1, none⟩ (.int .i64 5) = w7 at *
          have HBW7 := Lib.hid (HB3.out.trans (HB7.out.mono (by have := HZ3.out; omega)))
          have HA7 := Lib.hid (below_keeps HA3.out (by have := HZ3.out; omega) HB7.out)
          obtain ⟨a0, a1⟩ := cells2 HA7.out
          have hins := insAt (HI.out.below Ins.l_len HBW7.out) 4 (by decide)
          have i0 : w7.cell? ⟨q, 16, none⟩ = some (.int .i64 4) := hins.1
          have i1 : w7.cell? ⟨q, 17, none⟩ = some (.int .i64 3) := hins.2.1
          have i2 : w7.cell? ⟨q, 18, none⟩ = some (.int .i64 0) := hins.2.2.1
          have i3 : w7.cell? ⟨q, 19, none⟩ = some (.string (str [])) := hins.2.2.2
          have HOF := Lib.hid (show Calls Try.prog 29 #[.agg #[.int .i64 4, .int .i64 3, .int .i64 0, .string (str [])]] w7 (fun e w' => e = .returned (.iface 118 (.agg #[.int .i64 3])) ∧ Below w7.heap.size w7 w') from of_any ⟨4, 3, 0, []⟩ w7)
          have HDO := Lib.hid (fun W (hm : Mach b 1 5 0 [2] [2, 3] vr0 nilS' nilS' W) => doOp_two b 3 2 3 5 1 5 0 [2] [] vr0 nilS' nilS' rfl rfl binary_sample (by simp) W hm)
          clear hins c0 c1 f1 hw7
          generalize hS0 : str [] = S0 at *
          go_wp2_with fail
          refine HOF.out.mono ?_
          rintro e w8 ⟨rfl, hb8⟩
          have HM8 := Lib.hid (mach_below HN7.out hb8)
          have HB8 := Lib.hid (HB7.out.trans (hb8.mono (Nat.le_of_lt (mach_lt HN7.out))))
          clear hb8 a0 a1 i0 i1 i2 i3 HOF
          go_wp2_with fail
          refine (HDO.out _ HM8.out).mono ?_
          rintro e w9 ⟨rfl, hb9, hm9⟩
          have HB9 := Lib.hid (HB8.out.trans hb9)
          have HM9 := Lib.hid hm9
          clear hb9 hm9 HDO
          go_wp2_with fail
          go_roundw
          case rel => exact ⟨5, HKK.out, by rw [HNL.out 5 rfl], HM9.out, HB9.out⟩
          case measure => simp [intOf]; omega
        · obtain ⟨so, xc, ko, kc, hm, hs, hkk, hne⟩ := (show Mach b 1 5 0 [2] [5] vr0 nilS' nilS' wr from HM.out)
          obtain ⟨⟨c0, c1, c2, c3, c4, c5, c19, c20⟩, f0, f1, f2, f3, f4, f19, f20⟩ := mach_cells hm
          have hz := heap_lt hm
          have HN7 := Lib.hid (show Mach b 1 6 0 [2] [5] vr0 nilS' nilS' (wr.setCell ⟨b, 1, none⟩ (.int .i64 6)) from mach_at ⟨so, xc, ko, kc, hm, hs, hkk, hne⟩ 6)
          have HB7 := Lib.hid (HBE.out.setCell (p := ⟨b, 1, none⟩) (Nat.le_refl _) (.int .i64 6))
          clear hm hs hkk hne c2 c3 c4 c5 c19 c20 f0 f2 f3 f4 f19 f20 HM
          go_upto_region 10 with fail
          generalize hw7 : wr.setCell ⟨b, 1, none⟩ (.int .i64 6) = w7 at *
          have HBW7 := Lib.hid (HB3.out.trans (HB7.out.mono (by have := HZ3.out; omega)))
          have HA7 := Lib.hid (below_keeps HA3.out (by have := HZ3.out; omega) HB7.out)
          obtain ⟨a0, a1⟩ := cells2 HA7.out
          have hins := insAt (HI.out.below Ins.l_len HBW7.out) 5 (by decide)
          have i0 : w7.cell? ⟨q, 20, none⟩ = some (.int .i64 9) := hins.1
          have i1 : w7.cell? ⟨q, 21, none⟩ = some (.int .i64 0) := hins.2.1
          have i2 : w7.cell? ⟨q, 22, none⟩ = some (.int .i64 0) := hins.2.2.1
          have i3 : w7.cell? ⟨q, 23, none⟩ = some (.string (str [])) := hins.2.2.2
          have HOF := Lib.hid (show Calls Try.prog 29 #[.agg #[.int .i64 9, .int .i64 0, .int .i64 0, .string (str [])]] w7 (fun e w' => e = .returned (.iface 126 (.agg #[])) ∧ Below w7.heap.size w7 w') from of_any ⟨9, 0, 0, []⟩ w7)
          have HDO := Lib.hid (fun W (hm : Mach b 1 6 0 [2] [5] vr0 nilS' nilS' W) => doYield_any b 5 1 6 0 [2] [] vr0 nilS' nilS' (by simp) W hm)
          clear hins c0 c1 f1 hw7
          generalize hS0 : str [] = S0 at *
          go_wp2_with fail
          refine HOF.out.mono ?_
          rintro e w8 ⟨rfl, hb8⟩
          have HM8 := Lib.hid (mach_below HN7.out hb8)
          have HB8 := Lib.hid (HB7.out.trans (hb8.mono (Nat.le_of_lt (mach_lt HN7.out))))
          clear hb8 a0 a1 i0 i1 i2 i3 HOF
          go_wp2_with fail
          refine (HDO.out _ HM8.out).mono ?_
          rintro e w9 ⟨rfl, hb9, hm9⟩
          have HB9 := Lib.hid (HB8.out.trans hb9)
          have HM9 := Lib.hid hm9
          clear hb9 hm9 HDO
          go_wp2_with fail
          go_roundw
          case rel => exact ⟨6, HKK.out, by rw [HNL.out 6 rfl], HM9.out, HB9.out⟩
          case measure => simp [intOf]; omega
      · obtain rfl : k = K := by omega
        rcases HK.out with ⟨rfl, rfl⟩ | ⟨rfl, rfl⟩
        · obtain rfl : L = 94 := by omega
          obtain ⟨so, xc, ko, kc, hm, hs, hkk, hne⟩ := (show Mach b 2 6 5 [2] [] vr0 nilS' nilS' wr from HM.out)
          obtain ⟨⟨c0, c1, c2, c3, c4, c5, c19, c20⟩, f0, f1, f2, f3, f4, f19, f20⟩ := mach_cells hm
          have hz := heap_lt hm
          have HER := Lib.hid (below_keeps HE3.out (by have := HZ3.out; omega) HBE.out)
          obtain ⟨⟨y0, y1, y2, y3, y4⟩, q0, q1, q2, q3, q4⟩ := blk5f HER.out
          have hzr := heap_lt HER.out
          have hn1 : ¬ b = w.heap.size + 1 + 1 + 1 + 1 := by have := HZ3.out; omega
          have hn2 : ¬ w.heap.size + 1 + 1 + 1 + 1 = b := by have := HZ3.out; omega
          have HKK := Lib.hid hkk
          have HHM := Lib.hid hm
          clear hm hs hkk hne f0 f1 f2 f3 f4 f19 f20 HM HK hk hL hkK
          go_wp2_with fail
          go_region
          have hfin := fun v0 v1 v2 v3 v4 => run_fin (ys := []) HBW.out (show w.heap.size ≤ w.heap.size + 1 + 1 + 1 + 1 by omega) (show w.heap.size + 1 + 1 + 1 + 1 < b + 1 by have := HZ3.out; omega) HKK.out v0 v1 v2 v3 v4
          have HFIN := Lib.hid hfin
          clear hfin
          go_wp2_with fail
          exact bodyPost_ret (v := .tuple #[taskV 2 6 5 (.slice so 1 xc) (.slice ko 0 kc), nilS', nilS', .int .i64 94]) (by simp [results, Try.results14, go_sem, y0, y1, y2, y3, y4, q0, q1, q2, q3, q4, hzr]) rfl ⟨(HFIN.out _ _ _ _ _).1, so, xc, ko, kc, rfl, (HFIN.out _ _ _ _ _).2⟩
        · obtain rfl : L = 0 := by omega
          obtain ⟨so, xc, ko, kc, hm, hs, hkk, hne⟩ := (show Mach b 1 4 0 [2] [2, 3] vr0 nilS' nilS' wr from HM.out)
          obtain ⟨⟨c0, c1, c2, c3, c4, c5, c19, c20⟩, f0, f1, f2, f3, f4, f19, f20⟩ := mach_cells hm
          have hz := heap_lt hm
          have HER := Lib.hid (below_keeps HE3.out (by have := HZ3.out; omega) HBE.out)
          obtain ⟨⟨y0, y1, y2, y3, y4⟩, q0, q1, q2, q3, q4⟩ := blk5f HER.out
          have hzr := heap_lt HER.out
          have hn1 : ¬ b = w.heap.size + 1 + 1 + 1 + 1 := by have := HZ3.out; omega
          have hn2 : ¬ w.heap.size + 1 + 1 + 1 + 1 = b := by have := HZ3.out; omega
          have HKK := Lib.hid hkk
          have HHM := Lib.hid hm
          clear hm hs hkk hne f0 f1 f2 f3 f4 f19 f20 HM HK hk hL hkK
          go_wp2_with fail
          go_region
          have hfin := fun v0 v1 v2 v3 v4 => run_fin (ys := [2, 3]) HBW.out (show w.heap.size ≤ w.heap.size + 1 + 1 + 1 + 1 by omega) (show w.heap.size + 1 + 1 + 1 + 1 < b + 1 by have := HZ3.out; omega) HKK.out v0 v1 v2 v3 v4
          have HFIN := Lib.hid hfin
          clear hfin
          go_wp2_with fail
          exact bodyPost_ret (v := .tuple #[taskV 1 4 0 (.slice so 1 xc) (.slice ko 2 kc), nilS', nilS', .int .i64 0]) (by simp [results, Try.results14, go_sem, y0, y1, y2, y3, y4, q0, q1, q2, q3, q4, hzr]) rfl ⟨(HFIN.out _ _ _ _ _).1, so, xc, ko, kc, rfl, (HFIN.out _ _ _ _ _).2⟩
end Go.Proofs.Ytcicbijpiffbkaa
