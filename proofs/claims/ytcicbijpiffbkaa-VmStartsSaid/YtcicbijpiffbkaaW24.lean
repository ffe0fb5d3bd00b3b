/- Walks: a value into a slot. -/
import Derived.Test.YtcicbijpiffbkaaW23
import Derived.Laws.OwnMore
import Derived.Deep.RegionLaw
namespace Go.Proofs.Ytcicbijpiffbkaa
open Go.RowKit
set_option linter.unusedVariables false
set_option linter.unusedSimpArgs false
set_option maxRecDepth 100000
set_option maxHeartbeats 2000000

theorem owns_setne {w : World} {base e size n : Nat} {v : Value} {xs : List Value} (o : w.ownsRow base e size v n xs) (p : Addr) (u : Value) (hp : ∀ j, v.ownBlock = some j → p.block ≠ j) : (w.setCell p u).ownsRow base e size v n xs := by
  refine ⟨o.1, ?_⟩
  rcases o.2 with h2 | ⟨g', cap, cur, h1, h2, h3, h4⟩
  · exact Or.inl h2
  · exact Or.inr ⟨g', cap, cur, h1, h2, by rw [Below.heap_setCell _ _ _ _ (fun e => hp g' (by rw [h1]; rfl) e.symm)]; exact h3, h4⟩
theorem store_end {w w' w3 : World} {b g l xc i : Nat} {v st a wt : Int} {xs ys : List Int} {x : VR} {cv nv : Value} (h : Mach b st a wt xs ys x cv nv w3) (k3 : w3.cell? ⟨b, 3, none⟩ = some (.slice (some ⟨g, 0, none⟩) l xc)) (hl : xs.length = l) (hB : Below b w w') (h3 : Below b w' w3) :
    Below b w (w3.setCell ⟨g, i, none⟩ (.int .i64 v)) ∧ Mach b st a wt (xs.set i v) ys x cv nv (w3.setCell ⟨g, i, none⟩ (.int .i64 v)) := by
  obtain ⟨so, sc, ko, kc, hm, hs, hk, hne⟩ := h
  have h1 := (mach_cells hm).1.2.2.2.1
  rw [k3] at h1
  injection h1 with h1
  injection h1 with a1 a2 a3
  subst a1 a3
  have hgb := (hs.lt g rfl).1
  refine ⟨(hB.trans h3).setCell (by exact Nat.le_of_succ_le hgb) _, some ⟨g, 0, none⟩, xc, ko, kc, ?_, ?_, ?_, ?_⟩
  · rw [List.length_set, Below.heap_setCell _ _ _ _ (by exact Nat.ne_of_lt hgb)]
    exact hm
  · have h2 := (hs.stored i (.int .i64 v)).1
    rw [List.length_set, cellsOf_map, List.map_set, ← cellsOf_map]
    exact h2
  · exact owns_setne hk _ _ (fun j hj e => hne g rfl (by rw [hj, ← e]))
  · rw [List.length_set]
    exact hne
theorem doStore_any (b : Nat) (i : Nat) (v st a wt : Int) (xs ys : List Int) (x : VR) (cv nv : Value) (hi : i < xs.length) (hx : xs.length ≤ 1000000) (hy : ys.length ≤ 90000) (w : World) (h : Mach b st a wt xs (ys ++ [v]) x cv nv w) :
    Calls Try.prog 98 #[.agg #[.int .i64 (i : Int)], .pointer (some ⟨b, 0, none⟩)] w (fun e w' => e = .returned (.bool true) ∧ Below b w w' ∧ Mach b st a wt (xs.set i v) ys x cv nv w') := by
  have HP := Lib.hid (fun w' (hb : Below w.heap.size w w') => pop_any b 1 (ys.length + 1) ys.length st a wt xs (ys ++ [v]) x cv nv (by simp) rfl (by omega) (by omega) w' (mach_below h hb))
  rw [List.take_left, List.drop_left] at HP
  have HL := Lib.hid (mach_lt h)
  obtain ⟨so, xc, ko, kc, hm, hs, hk, hne⟩ := h
  obtain ⟨g, cap', hv, hg0, hg1⟩ := hs.form (by omega)
  injection hv with hv1 hv2 hv3
  subst hv1
  obtain ⟨l, hl⟩ : ∃ l, xs.length = l := ⟨_, rfl⟩
  have HXL := Lib.hid hl
  rw [hl] at hm hi hx
  obtain ⟨w2, hw2⟩ : ∃ w2, w.alloc (.cells #[.int .i64 (i : Int)] 116) = w2 := ⟨_, rfl⟩
  have hb2 : Below w.heap.size w w2 := by rw [← hw2]; exact below_new _ _
  have HX2 := Lib.hid (show w2.heap[w.heap.size]? = some (.cells #[.int .i64 (i : Int)] 116) by rw [← hw2]; exact tok_new _ _)
  have HZ2 := Lib.hid (show w2.heap.size = w.heap.size + 1 by rw [← hw2, tok_size])
  have HM2 := Lib.hid (block_below hb2 hm)
  have HB2 := Lib.hid hb2
  have HW2 := Lib.hid hw2
  have hgc := hs.cellAt i (by omega)
  have hgf := hs.frozenAt i
  have HGL := Lib.hid hg1
  have HGB := Lib.hid hg0
  rw [cellsOf_map, List.getElem?_map, List.getElem?_eq_getElem (by omega)] at hgc
  replace hgc : w.cell? ⟨g, i, none⟩ = some (.int .i64 (xs[i]'(by omega))) := hgc
  generalize xs[i]'(by omega) = z at hgc
  have HGC := Lib.hid (cell_below hb2 hgc)
  have HGF := Lib.hid (show w2.frozen? ⟨g, i, none⟩ = false from (World.frozen?_of_block (hb2.block g hg1)).trans hgf)
  have HBB := Lib.hid (hb2.mono (Nat.le_of_lt HL.out))
  clear hm hs hk hne hw2 hb2 hl hv2 hv3 hgc hgf hg0 hg1
  go_enter Try.func98, Try.ntmps98
  go_upto_region 1 with fail
  rw [HW2.out]
  clear HW2
  obtain ⟨⟨c0, c1, c2, c3, c4, c5, c18, c19⟩, f0, f1, f2, f3, f4, f18, f19⟩ := mach_cells HM2.out
  have hx0 : w2.cell? ⟨w.heap.size, 0, none⟩ = some (.int .i64 (i : Int)) := by rw [Lib.cell_of_heap HX2.out]; rfl
  have e1 : (0 : Int) ≤ (i : Int) := by omega
  have e2 : (i : Int) < (l : Int) := by omega
  clear c0 c1 c2 c4 c5 c18 c19 f0 f1 f2 f3 f4 f18 f19
  go_region_law ((go_simp; go_at_call 99; refine (HP.out _ (by first | exact HB2.out | exact HB2.out.drew | exact below_dN HB2.out _)).mono ?_; rintro e w3 ⟨q, cap, rfl, hq, hown, hb3, hm3, hfr, hsv⟩; have k3 := hsv _ (by first | exact c3 | exact c3); have kx : w3.cell? ⟨w.heap.size, 0, none⟩ = some (.int .i64 (i : Int)) := ((World.cell?_of_block (hfr w.heap.size (by have := HZ2.out; first | omega | (simp; omega)) (by have := HL.out; omega))).trans (by first | exact hx0 | exact hx0)); have kq : w3.cell? ⟨q, 0, none⟩ = some (.int .i64 v) := hown.cellAt 0 (by omega); have kb := hfr g (by have := HZ2.out; have := HGL.out; first | omega | (simp; omega)) (by have := HGB.out; omega); have kg : w3.cell? ⟨g, i, none⟩ = some (.int .i64 z) := (World.cell?_of_block kb).trans HGC.out; have kf : w3.frozen? ⟨g, i, none⟩ = false := (World.frozen?_of_block kb).trans HGF.out; have hEND := Lib.hid (store_end (i := i) (v := v) hm3 k3 HXL.out (by first | exact HBB.out | exact HBB.out.drew | exact below_dN HBB.out _) hb3); clear hm3 hb3 hown hfr hsv kb))
  all_goals
    go_wp2_with fail
    go_ret
    exact ⟨rfl, by first | exact hEND.out.1 | exact hEND.out.1.drew, by first | exact hEND.out.2 | exact hEND.out.2.drew⟩
end Go.Proofs.Ytcicbijpiffbkaa
