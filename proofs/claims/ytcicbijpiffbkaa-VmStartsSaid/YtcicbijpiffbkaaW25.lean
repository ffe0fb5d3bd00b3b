/- Walks: an operator of two values that has a result. -/
import Derived.Test.YtcicbijpiffbkaaW23
import Derived.BigQuiet
namespace Go.Proofs.Ytcicbijpiffbkaa
open Go.RowKit
set_option linter.unusedVariables false
set_option linter.unusedSimpArgs false
set_option maxRecDepth 100000
set_option maxHeartbeats 2000000

theorem binary_sample : KC 101 #[.int .i64 3, .int .i64 2, .int .i64 3] (.tuple #[.int .i64 5, .bool true]) := by
  intro w
  go_enter Try.func101, Try.ntmps101
  go_wp2_with fail
  go_ret2
  exact ⟨rfl, rfl⟩
theorem doOp_two (b : Nat) (op u v r st a wt : Int) (xs ys : List Int) (x : VR) (cv nv : Value) (h8 : (op == 8) = false) (h17 : (op == 17) = false) (hbin : KC 101 #[.int .i64 op, .int .i64 u, .int .i64 v] (.tuple #[.int .i64 r, .bool true])) (hy : ys.length ≤ 90000) (w : World) (h : Mach b st a wt xs (ys ++ [u, v]) x cv nv w) :
    Calls Try.prog 100 #[.agg #[.int .i64 op], .pointer (some ⟨b, 0, none⟩)] w (fun e w' => e = .returned (.bool true) ∧ Below b w w' ∧ Mach b st a wt xs (ys ++ [r]) x cv nv w') := by
  have HP := Lib.hid (fun w' (hb : Below w.heap.size w w') => pop_any b 2 (ys.length + 2) ys.length st a wt xs (ys ++ [u, v]) x cv nv (by simp) rfl (by omega) (by omega) w' (mach_below h hb))
  rw [List.take_left, List.drop_left] at HP
  have HQ := Lib.hid (fun w' (hm : Mach b st a wt xs ys x cv nv w') => push_any b r st a wt xs ys x cv nv (by omega) w' hm)
  have HL := Lib.hid (mach_lt h)
  have HBIN := Lib.hid hbin
  obtain ⟨w2, hw2⟩ : ∃ w2, w.alloc (.cells #[.int .i64 op] 118) = w2 := ⟨_, rfl⟩
  have HB2 := Lib.hid (show Below w.heap.size w w2 by rw [← hw2]; exact below_new _ _)
  have HX2 := Lib.hid (show w2.heap[w.heap.size]? = some (.cells #[.int .i64 op] 118) by rw [← hw2]; exact tok_new _ _)
  have HZ2 := Lib.hid (show w2.heap.size = w.heap.size + 1 by rw [← hw2, tok_size])
  have HW2 := Lib.hid hw2
  clear h hw2 hbin
  go_enter Try.func100, Try.ntmps100
  go_upto_region 1 with fail
  rw [HW2.out]
  clear HW2
  have hx0 : w2.cell? ⟨w.heap.size, 0, none⟩ = some (.int .i64 op) := by rw [Lib.cell_of_heap HX2.out]; rfl
  go_wp2_with fail
  refine (HP.out _ HB2.out).mono ?_
  rintro e w3 ⟨q, cap, rfl, hq, hown, hb3, hm3, hfr, hsv⟩
  have c0 : w3.cell? ⟨q, 0, none⟩ = some (.int .i64 u) := hown.cellAt 0 (by omega)
  have c1 : w3.cell? ⟨q, 1, none⟩ = some (.int .i64 v) := hown.cellAt 1 (by omega)
  have hx3 : w3.cell? ⟨w.heap.size, 0, none⟩ = some (.int .i64 op) := (World.cell?_of_block (hfr w.heap.size (by have := HZ2.out; omega) (by have := HL.out; omega))).trans hx0
  have HM3 := Lib.hid hm3
  have HB3 := Lib.hid ((HB2.out.mono (Nat.le_of_lt HL.out)).trans hb3)
  clear hown hb3 hm3 hfr hsv hx0 HP
  go_wp2_with fail
  go_quiet ((go_at_call 101; exact (HBIN.out.quiet _ _)))
  go_wp2_with fail
  refine (HQ.out _ (mach_below HM3.out (below_dN (Below.refl _ _) _))).mono ?_
  rintro e w4 ⟨rfl, hb4, hm4⟩
  have HB4 := Lib.hid (HB3.out.trans ((below_dN (Below.refl b w3) _).trans hb4))
  have HM4 := Lib.hid hm4
  clear hb4 hm4
  go_wp2_with fail
  go_ret
  exact ⟨rfl, HB4.out, HM4.out⟩
end Go.Proofs.Ytcicbijpiffbkaa
