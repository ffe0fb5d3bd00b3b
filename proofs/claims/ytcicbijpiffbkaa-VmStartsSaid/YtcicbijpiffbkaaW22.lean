/- Walks: pop. -/
import Derived.Test.YtcicbijpiffbkaaW21
namespace Go.Proofs.Ytcicbijpiffbkaa
open Go.RowKit
set_option linter.unusedVariables false
set_option linter.unusedSimpArgs false
set_option maxRecDepth 100000
set_option maxHeartbeats 4000000

theorem cellsOf_map (xs : List Int) : cellsOf intL xs = xs.map (Value.int .i64) := by
  unfold cellsOf
  induction xs with
  | nil => rfl
  | cons x xs ih => rw [List.flatMap_cons, ih]; rfl
theorem owns_cap {w : World} {B e : Nat} {g cap l : Nat} {vs : List Value} (h : w.ownsRow B e 1 (.slice (some ⟨g, 0, none⟩) l cap) l vs) : l ≤ cap := by
  rcases h.2 with ⟨h1, _⟩ | ⟨q, cap2, cur, h1, h2, h3, h4⟩
  · cases h1
  · injection h1 with a1 a2 a3
    subst a3
    exact h4.1
theorem owns_take {w : World} {B e : Nat} {g cap l p : Nat} {ys : List Int} (h : w.ownsRow B e 1 (.slice (some ⟨g, 0, none⟩) l cap) l (cellsOf intL ys)) (hl : ys.length = l) (hp : p ≤ l) : w.ownsRow B e 1 (.slice (some ⟨g, 0, none⟩) p cap) p (cellsOf intL (ys.take p)) := by
  refine ⟨by rw [cellsOf_len intL_len, List.length_take]; omega, Or.inr ?_⟩
  rcases h.2 with ⟨h1, _⟩ | ⟨q, cap2, cur, h1, h2, h3, h4⟩
  · cases h1
  · injection h1 with a1 a2 a3
    injection a1 with a1
    injection a1 with a1
    subst a1 a3
    refine ⟨g, cap, cur, rfl, h2, h3, by omega, h4.2.1, h4.2.2.1, ?_⟩
    have h5 := h4.2.2.2
    rw [Nat.mul_one] at h5 ⊢
    rw [cellsOf_map] at h5 ⊢
    rw [List.map_take, ← h5, List.take_take, Nat.min_eq_left hp]
theorem owns_at {w : World} {B e : Nat} {g cap l p : Nat} {ys : List Int} (h : w.ownsRow B e 1 (.slice (some ⟨g, 0, none⟩) l cap) l (cellsOf intL ys)) (hl : ys.length = l) : IntAt w ⟨g, p, none⟩ (ys.drop p) := by
  intro i hi j hj
  obtain rfl : j = 0 := by omega
  rw [List.length_drop] at hi
  have h1 := h.cellAt (p + i) (by omega)
  rw [cellsOf_map, List.getElem?_map, List.getElem?_eq_getElem (by omega)] at h1
  have h2 : (((⟨g, p, none⟩ : Addr).add (i * 1)).add 0) = ⟨g, p + i, none⟩ := by
    unfold Addr.add
    by_cases h0 : i = 0
    · subst h0; simp
    · simp [h0]
  rw [h2, List.getElem_drop]
  exact h1
theorem pop_any (b : Nat) (k l p : Nat) (st a wt : Int) (xs ys : List Int) (x : VR) (cv nv : Value) (hl : ys.length = l) (hp : l = p + k) (hk0 : 0 < k) (hy : l ≤ 100000) (w : World) (h : Mach b st a wt xs ys x cv nv w) :
    Calls Try.prog 99 #[.pointer (some ⟨b, 0, none⟩), .int .i64 (k : Int)] w (fun e w' => ∃ q cap, e = .returned (.slice (some ⟨q, 0, none⟩) k cap) ∧ w.heap.size ≤ q ∧ w'.ownsRow w.heap.size 2 1 (.slice (some ⟨q, 0, none⟩) k cap) k (cellsOf intL (ys.drop p)) ∧ Below b w w' ∧ Mach b st a wt xs (ys.take p) x cv nv w' ∧ (∀ j, j < w.heap.size → j ≠ b → w'.heap[j]? = w.heap[j]?) ∧ (∀ sv, w.cell? ⟨b, 3, none⟩ = some sv → w'.cell? ⟨b, 3, none⟩ = some sv)) := by
  obtain ⟨so, xc, ko, kc, hm, hs, hk, hne⟩ := h
  obtain ⟨⟨c0, c1, c2, c3, c4, c5, c18, c19⟩, f0, f1, f2, f3, f4, f18, f19⟩ := mach_cells hm
  rw [hl] at hk c4 hm hne
  obtain ⟨g, cap', hv, hg0, hg1⟩ := hk.form (by omega)
  injection hv with hv1 hv2 hv3
  subst hv1
  have HM := Lib.hid hm; have HS := Lib.hid hs; have HK := Lib.hid hk; have HNE := Lib.hid hne
  have hbl := heap_lt hm
  have HBL := Lib.hid hbl
  have HL := Lib.hid hl
  have hcap : l ≤ kc := owns_cap HK.out
  clear hm hs hk hne hl hv2 hv3
  go_enter Try.func99, Try.ntmps99
  go_upto_region 2 with fail
  have e1 : (0 : Int) ≤ (p : Int) := by omega
  have hdl : (ys.drop p).length = k := by rw [List.length_drop, HL.out]; omega
  have HCL := Lib.hid (CloneI_some ⟨g, p, none⟩ k (kc - p) (ys.drop p) hdl (by omega) w (owns_at HK.out HL.out))
  subst hp
  clear hdl
  go_wp2_with fail
  refine HCL.out.mono ?_
  rintro e w3 ⟨ao, cap, rfl, hown, hb3⟩
  obtain ⟨q, cq, hv, hq0, hq1⟩ := hown.form hk0
  injection hv with hv1 hv2 hv3
  subst hv1
  have HO3 := Lib.hid hown
  have HM3 := Lib.hid (block_below hb3 HM.out)
  have HS3 := Lib.hid (ownsRow_below HS.out hb3)
  have HK3 := Lib.hid (ownsRow_below HK.out hb3)
  have HB3 := Lib.hid (hb3.mono (Nat.le_of_lt HBL.out))
  have HBK := Lib.hid hb3.block
  clear hown hb3 hv2 hv3 HCL c0 c1 c2 c3 c4 c5 c18 c19 f0 f1 f2 f3 f4 f18 f19
  obtain ⟨⟨c0, c1, c2, c3, c4, c5, c18, c19⟩, f0, f1, f2, f3, f4, f18, f19⟩ := mach_cells HM3.out
  have hz3 := heap_lt HM3.out
  have hpc : p ≤ kc := by omega
  go_wp2_with fail
  go_ret
  refine ⟨q, cap, rfl, hq0, ?_, HB3.out.setCell (Nat.le_refl _) _, ⟨so, xc, some ⟨g, 0, none⟩, kc, ?_, ?_, ?_, ?_⟩, fun j hj hjb => by rw [Below.heap_setCell _ _ _ _ hjb]; exact HBK.out j hj, fun sv hsv => ?_⟩
  · exact ownsRow_setCell_below HO3.out (by exact HBL.out) _
  · rw [List.length_take, HL.out, Nat.min_eq_left (by omega)]
    exact heap_setCell_same _ b 4 _ _ _ HM3.out
  · exact owns_set HS3.out (by exact Nat.lt_succ_self _) _
  · rw [List.length_take, HL.out, Nat.min_eq_left (by omega)]
    exact owns_set (owns_take HK3.out HL.out (by omega)) (by exact Nat.lt_succ_self _) _
  · intro j hj e
    exact HNE.out j hj e
  · have h1 := (mach_cells HM.out).1.2.2.2.1
    rw [h1] at hsv
    rw [← hsv, Lib.cell_of_heap (heap_setCell_same _ b 4 _ _ _ HM3.out)]
    rfl
end Go.Proofs.Ytcicbijpiffbkaa
