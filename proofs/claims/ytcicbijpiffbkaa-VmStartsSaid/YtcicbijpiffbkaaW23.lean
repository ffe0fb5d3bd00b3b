/- Walks: the instructions of numbers, slots, waiting. -/
import Derived.Test.YtcicbijpiffbkaaW22
namespace Go.Proofs.Ytcicbijpiffbkaa
open Go.RowKit
set_option linter.unusedVariables false
set_option linter.unusedSimpArgs false
set_option maxRecDepth 100000
set_option maxHeartbeats 4000000

theorem mach_below {b : Nat} {st a wt : Int} {xs ys : List Int} {x : VR} {cv nv : Value} {w w' : World} (h : Mach b st a wt xs ys x cv nv w) (hb : Below w.heap.size w w') : Mach b st a wt xs ys x cv nv w' := by
  obtain ⟨so, xc, ko, kc, hm, hs, hk, hne⟩ := h
  exact ⟨so, xc, ko, kc, block_below hb hm, ownsRow_below hs hb, ownsRow_below hk hb, hne⟩
theorem mach_lt {b : Nat} {st a wt : Int} {xs ys : List Int} {x : VR} {cv nv : Value} {w : World} (h : Mach b st a wt xs ys x cv nv w) : b < w.heap.size := by
  obtain ⟨so, xc, ko, kc, hm, _⟩ := h
  exact heap_lt hm
theorem doInt_any (b : Nat) (n st a wt : Int) (xs ys : List Int) (x : VR) (cv nv : Value) (hy : ys.length ≤ 90000) (w : World) (h : Mach b st a wt xs ys x cv nv w) :
    Calls Try.prog 95 #[.agg #[.int .i64 n], .pointer (some ⟨b, 0, none⟩)] w (fun e w' => e = .returned (.bool true) ∧ Below b w w' ∧ Mach b st a wt xs (ys ++ [n]) x cv nv w') := by
  have HP := Lib.hid (fun w' (hb : Below w.heap.size w w') => push_any b n st a wt xs ys x cv nv (by omega) w' (mach_below h hb))
  have HL := Lib.hid (mach_lt h)
  clear h
  go_enter Try.func95, Try.ntmps95
  go_wp2_with fail
  refine (HP.out _ (below_new _ _)).mono ?_
  rintro e w3 ⟨rfl, hb3, hm3⟩
  have HB3 := Lib.hid (((below_new w (.cells #[.int .i64 n] 113)).mono (Nat.le_of_lt HL.out)).trans hb3)
  have HM3 := Lib.hid hm3
  clear hb3 hm3 HP
  go_wp2_with fail
  go_ret
  exact ⟨rfl, HB3.out, HM3.out⟩
def waitF (v : Int) : Int := if v ≤ 1 then 1 else if 1048576 ≤ v then 1048576 else v
theorem doYield_any (b : Nat) (v st a wt : Int) (xs ys : List Int) (x : VR) (cv nv : Value) (hy : ys.length ≤ 90000) (w : World) (h : Mach b st a wt xs (ys ++ [v]) x cv nv w) :
    Calls Try.prog 119 #[.agg #[], .pointer (some ⟨b, 0, none⟩)] w (fun e w' => e = .returned (.bool true) ∧ Below b w w' ∧ Mach b 2 a (waitF v) xs ys x cv nv w') := by
  have HP := Lib.hid (fun w' (hb : Below w.heap.size w w') => pop_any b 1 (ys.length + 1) ys.length st a wt xs (ys ++ [v]) x cv nv (by simp) rfl (by omega) (by omega) w' (mach_below h hb))
  rw [List.take_left, List.drop_left] at HP
  have HL := Lib.hid (mach_lt h)
  clear h
  go_enter Try.func119, Try.ntmps119
  go_wp2_with fail
  refine (HP.out _ (below_new _ _)).mono ?_
  rintro e w3 ⟨q, cap, rfl, hq, hown, hb3, hm3, _, _⟩
  have hc0 : w3.cell? ⟨q, 0, none⟩ = some (.int .i64 v) := hown.cellAt 0 (by omega)
  obtain ⟨so, xc, ko, kc, hm, hs, hk, hne⟩ := hm3
  obtain ⟨⟨c0, c1, c2, c3, c4, c5, c18, c19⟩, f0, f1, f2, f3, f4, f18, f19⟩ := mach_cells hm
  have hz := heap_lt hm
  have HB3 := Lib.hid (((below_new w (.cells #[] 126)).mono (Nat.le_of_lt HL.out)).trans hb3)
  have HM := Lib.hid hm; have HS := Lib.hid hs; have HK := Lib.hid hk; have HNE := Lib.hid hne
  clear hown hb3 hm hs hk hne HP
  go_wp2_with fail
  all_goals
    go_ret
    refine ⟨rfl, (HB3.out.setCell (Nat.le_refl _) _).setCell (Nat.le_refl _) _, so, xc, ko, kc, ?_, owns_set (owns_set HS.out (by exact Nat.lt_succ_self _) _) (by exact Nat.lt_succ_self _) _, owns_set (owns_set HK.out (by exact Nat.lt_succ_self _) _) (by exact Nat.lt_succ_self _) _, HNE.out⟩
    first
      | (rw [show waitF v = 1 by unfold waitF; split <;> (try split) <;> omega]; exact heap_setCell_same _ b 2 _ _ _ (heap_setCell_same _ b 0 _ _ _ HM.out))
      | (rw [show waitF v = 1048576 by unfold waitF; split <;> (try split) <;> omega]; exact heap_setCell_same _ b 2 _ _ _ (heap_setCell_same _ b 0 _ _ _ HM.out))
      | (rw [show waitF v = v by unfold waitF; split <;> (try split) <;> omega]; exact heap_setCell_same _ b 2 _ _ _ (heap_setCell_same _ b 0 _ _ _ HM.out))
theorem doLoad_any (b : Nat) (i : Nat) (st a wt : Int) (xs ys : List Int) (x : VR) (cv nv : Value) (hi : i < xs.length) (hx : xs.length ≤ 1000000) (hy : ys.length ≤ 90000) (w : World) (h : Mach b st a wt xs ys x cv nv w) :
    Calls Try.prog 97 #[.agg #[.int .i64 (i : Int)], .pointer (some ⟨b, 0, none⟩)] w (fun e w' => e = .returned (.bool true) ∧ Below b w w' ∧ Mach b st a wt xs (ys ++ [xs[i]]) x cv nv w') := by
  have HP := Lib.hid (fun w' (hb : Below w.heap.size w w') => push_any b xs[i] st a wt xs ys x cv nv (by omega) w' (mach_below h hb))
  have HL := Lib.hid (mach_lt h)
  obtain ⟨so, xc, ko, kc, hm, hs, hk, hne⟩ := h
  obtain ⟨g, cap', hv, hg0, hg1⟩ := hs.form (by omega)
  injection hv with hv1 hv2 hv3
  subst hv1
  have hsx := hs.cellAt i (by omega)
  rw [cellsOf_map, List.getElem?_map, List.getElem?_eq_getElem hi] at hsx
  replace hsx : w.cell? ⟨g, i, none⟩ = some (.int .i64 xs[i]) := hsx
  obtain ⟨v, hxi⟩ : ∃ v, xs[i] = v := ⟨_, rfl⟩
  obtain ⟨l, hl⟩ : ∃ l, xs.length = l := ⟨_, rfl⟩
  rw [hxi] at HP hsx
  rw [hxi]
  rw [hl] at hm hi hx
  obtain ⟨w2, hw2⟩ : ∃ w2, w.alloc (.cells #[.int .i64 (i : Int)] 115) = w2 := ⟨_, rfl⟩
  have hb2 : Below w.heap.size w w2 := by rw [← hw2]; exact below_new _ _
  have HX2 := Lib.hid (show w2.heap[w.heap.size]? = some (.cells #[.int .i64 (i : Int)] 115) by rw [← hw2]; exact tok_new _ _)
  have HM2 := Lib.hid (block_below hb2 hm)
  have HS2 := Lib.hid (cell_below hb2 hsx)
  have HB2 := Lib.hid hb2
  have HW2 := Lib.hid hw2
  clear hm hs hk hne hsx hw2 hb2 hxi hl hv2 hv3
  go_enter Try.func97, Try.ntmps97
  go_upto_region 1 with fail
  rw [HW2.out]
  clear HW2
  obtain ⟨⟨c0, c1, c2, c3, c4, c5, c18, c19⟩, f0, f1, f2, f3, f4, f18, f19⟩ := mach_cells HM2.out
  have hx0 : w2.cell? ⟨w.heap.size, 0, none⟩ = some (.int .i64 (i : Int)) := by rw [Lib.cell_of_heap HX2.out]; rfl
  have hsx := HS2.out
  have e1 : (0 : Int) ≤ (i : Int) := by omega
  have e2 : (i : Int) < (l : Int) := by omega
  go_still_tail 10, (by kernel_rfl)
  change wpList _ _ _ _ _ w2.drew
  have HB3 := Lib.hid HB2.out.drew
  generalize w2.drew = w3 at HB3 ⊢
  go_wp2_with fail
  refine (HP.out _ HB3.out).mono ?_
  rintro e w4 ⟨rfl, hb4, hm4⟩
  have HB4 := Lib.hid ((HB3.out.mono (Nat.le_of_lt HL.out)).trans hb4)
  have HM4 := Lib.hid hm4
  clear hb4 hm4 HP
  go_wp2_with fail
  go_ret
  exact ⟨rfl, HB4.out, HM4.out⟩
end Go.Proofs.Ytcicbijpiffbkaa
