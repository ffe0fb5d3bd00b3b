/- Walks: the sample's two questions. -/
import Derived.Test.YtcicbijpiffbkaaW6
namespace Go.Proofs.Ytcicbijpiffbkaa
open Go.RowKit
set_option linter.unusedVariables false
set_option linter.unusedSimpArgs false
set_option maxRecDepth 100000
set_option maxHeartbeats 2000000

abbrev nilQ : Value := .slice none 0 0
theorem Query_ore (w : World) : KB 21 #[.agg #[.int .i64 0, .int .i64 0, .int .i64 7, .int .i64 0, nilQ, nilQ, nilQ, nilQ, nilQ, nilQ, nilQ], .int .i64 2, .string ⟨#[]⟩, nilQ] (.tuple #[.int .i64 7, .bool true]) w := by
  have HA := Lib.hid (fun w => show Calls Try.prog 35 #[.int .i64 2] w (fun e w' => e = .returned (.tuple #[.int .i64 0, .bool false, .bool true]) ∧ Below w.heap.size w w') from Arity_any 2 w)
  obtain ⟨w2, hw2⟩ : ∃ w2, w.alloc (.cells #[.int .i64 0, .int .i64 0, .int .i64 7, .int .i64 0, nilQ, nilQ, nilQ, nilQ, nilQ, nilQ, nilQ] 35) = w2 := ⟨_, rfl⟩
  have HB2 := Lib.hid (show Below w.heap.size w w2 by rw [← hw2]; exact below_new _ _)
  have HX2 := Lib.hid (show w2.heap[w.heap.size]? = some (.cells #[.int .i64 0, .int .i64 0, .int .i64 7, .int .i64 0, nilQ, nilQ, nilQ, nilQ, nilQ, nilQ, nilQ] 35) by rw [← hw2]; exact tok_new _ _)
  have HW2 := Lib.hid hw2
  clear hw2
  unfold KB
  go_enter Try.func21, Try.ntmps21
  go_upto_region 1 with fail
  rw [HW2.out]
  clear HW2
  go_wp2_with fail
  refine (HA.out _).mono ?_
  rintro e w3 ⟨rfl, hb3⟩
  have HX3 := block_below hb3 HX2.out
  have c2 : w3.cell? ⟨w.heap.size, 2, none⟩ = some (.int .i64 7) := by rw [Lib.cell_of_heap HX3]; rfl
  have HB3 := Lib.hid (HB2.out.trans (hb3.mono HB2.out.size))
  clear hb3 HX3
  go_wp2_with fail
  go_ret2
  exact ⟨rfl, HB3.out⟩
theorem Query_x (w : World) : KB 21 #[.agg #[.int .i64 0, .int .i64 0, .int .i64 0, .int .i64 0, nilQ, nilQ, nilQ, nilQ, nilQ, nilQ, nilQ], .int .i64 7, .string ⟨#[]⟩, nilQ] (.tuple #[.int .i64 0, .bool false]) w := by
  have HA := Lib.hid (fun w => show Calls Try.prog 35 #[.int .i64 7] w (fun e w' => e = .returned (.tuple #[.int .i64 1, .bool false, .bool true]) ∧ Below w.heap.size w w') from Arity_any 7 w)
  unfold KB
  go_enter Try.func21, Try.ntmps21
  go_wp2_with fail
  refine (HA.out _).mono ?_
  rintro e w3 ⟨rfl, hb3⟩
  have HB3 := Lib.hid ((below_new w (.cells #[.int .i64 0, .int .i64 0, .int .i64 0, .int .i64 0, nilQ, nilQ, nilQ, nilQ, nilQ, nilQ, nilQ] 35)).trans (hb3.mono (by simp)))
  clear hb3
  go_wp2_with fail
  go_ret2
  exact ⟨rfl, HB3.out⟩
end Go.Proofs.Ytcicbijpiffbkaa
