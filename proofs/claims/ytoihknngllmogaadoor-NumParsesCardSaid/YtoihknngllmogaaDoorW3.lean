/- Walks: abs, Mul and the small functions of the num package and of its reference. -/
import Derived.Test.YtoihknngllmogaaDoorW2
import Derived.Test.YtoihknngllmogaaDoorShelf
namespace Go.Proofs.YtoihknngllmogaaDoor
open Go.RowKit
set_option linter.unusedVariables false
set_option linter.unusedSimpArgs false

theorem abs_any (a : Int) (h0 : -9223372036854775808 ≤ a) (h1 : a ≤ 9223372036854775807) (w : World) : Calls Tryd.prog 27 #[.int .i64 a] w fun e w' => e = .returned (.int .u64 (a.natAbs : Int)) ∧ w = w' := by
  go_enter Tryd.func27, Tryd.ntmps27
  go_wp2
  all_goals go_ret
  · exact ⟨ret1i (by rw [IntKind.wrap_u64, IntKind.wrap_u64]; omega), rfl⟩
  · exact ⟨ret1i (by omega), rfl⟩
theorem size_any (a : Int) (h0 : -9223372036854775808 ≤ a) (h1 : a ≤ 9223372036854775807) (w : World) : Calls Tryd.prog 29 #[.int .i64 a] w fun e w' => e = .returned (.int .u64 (a.natAbs : Int)) ∧ w = w' := by
  go_enter Tryd.func29, Tryd.ntmps29
  go_wp2
  all_goals go_ret
  all_goals exact ⟨ret1i (by omega), rfl⟩
theorem clamp_any (a b c : Int) (w : World) : Calls Tryd.prog 16 #[.int .i64 a, .int .i64 b, .int .i64 c] w fun e w' => e = .returned (.int .i64 (max b (min a c))) ∧ w = w' := by
  go_enter Tryd.func16, Tryd.ntmps16
  go_wp2
  all_goals go_ret
  all_goals exact ⟨ret1i (by omega), rfl⟩
theorem rclamp_any (a b c : Int) (w : World) : Calls Tryd.prog 17 #[.int .i64 a, .int .i64 b, .int .i64 c] w fun e w' => e = .returned (.int .i64 (max b (min a c))) ∧ w = w' := by
  go_enter Tryd.func17, Tryd.ntmps17
  go_wp2
  all_goals go_ret
  all_goals exact ⟨ret1i (by omega), rfl⟩
theorem cell_any (a : Int) (w : World) : Calls Tryd.prog 18 #[.int .i64 a] w fun e w' => e = .returned (.int .i64 (a / 256)) ∧ w = w' := by
  go_enter Tryd.func18, Tryd.ntmps18
  go_wp2
  go_ret
  exact ⟨rfl, rfl⟩
theorem dv_256 (a : Int) : dv a 256 = a / 256 := by
  unfold dv fl
  rw [if_neg (by omega), if_neg (by omega), if_pos (by omega)]
theorem rcell_any (a : Int) (h0 : -9223372036854775808 ≤ a) (h1 : a ≤ 9223372036854775807) (w : World) : Calls Tryd.prog 19 #[.int .i64 a] w fun e w' => e = .returned (.int .i64 (a / 256)) ∧ Below w.heap.size w w' := by
  have HD := Lib.hid (rdiv_any a 256 h0 h1 w)
  rw [dv_256] at HD
  go_enter Tryd.func19, Tryd.ntmps19
  go_wp2_with fail
  refine HD.out.mono ?_
  rintro e w1 ⟨rfl, hb⟩
  go_wp2_with fail
  go_ret
  exact ⟨rfl, hb⟩
def cen (c : Int) : Int := if 36028797018963967 < c then 9223372036854775807 else if c < -36028797018963968 then -9223372036854775808 else c * 256 + 128
theorem center_any (a : Int) (w : World) : Calls Tryd.prog 20 #[.int .i64 a] w fun e w' => e = .returned (.int .i64 (cen a)) ∧ w = w' := by
  go_enter Tryd.func20, Tryd.ntmps20
  go_wp2
  all_goals go_ret
  all_goals exact ⟨ret1i (by unfold cen; split <;> (try split) <;> omega), rfl⟩
theorem rcenter_any (a : Int) (w : World) : Calls Tryd.prog 21 #[.int .i64 a] w fun e w' => e = .returned (.int .i64 (cen a)) ∧ w = w' := by
  go_enter Tryd.func21, Tryd.ntmps21
  go_wp2
  all_goals go_ret
  all_goals exact ⟨ret1i (by unfold cen; split <;> (try split) <;> omega), rfl⟩

end Go.Proofs.YtoihknngllmogaaDoor
