/- Walks: Mul of the num package, factors of different signs. -/
import Derived.Test.YtoihknngllmogaaDoorW4
namespace Go.Proofs.YtoihknngllmogaaDoor
open Go.RowKit
set_option linter.unusedVariables false
set_option linter.unusedSimpArgs false

set_option maxHeartbeats 1000000 in
theorem mulD_00t (a b : Int) (M : MulC a b 0 0) (ha : decide (a < 0) = true) (hb : decide (b < 0) = false) (w : World) : Calls Tryd.prog 13 #[.int .i64 a, .int .i64 b] w fun e w' => e = .returned (.tuple #[.int .i64 0, .int .i64 0]) ∧ w = w' := by
  obtain ⟨x, y, C, ca, cb⟩ := M.ex
  have HC := Lib.hid C
  have HA := Lib.hid ca
  have HB := Lib.hid cb
  clear C ca cb M
  go_enter Tryd.func13, Tryd.ntmps13
  go_wp2_with fail
  refine (HA.out _).mono ?_
  rintro e w1 ⟨rfl, rfl⟩
  go_wp2_with fail
  refine (HB.out _).mono ?_
  rintro e w1 ⟨rfl, rfl⟩
  go_wp2_with fail
  refine (HC.out _).mono ?_
  rintro e w1 ⟨rfl, rfl⟩
  clear HA HB HC
  go_wp2_with fail
  all_goals go_ret2
  all_goals exact ⟨ret2i (by rw [show bits BinOp.or IntKind.u64 0 0 = 0 by decide +kernel]; unfold wrap64; omega), rfl⟩

set_option maxHeartbeats 1000000 in
theorem mulD_Azt (a b hi lo r : Int) (M : MulC a b hi lo) (h1 : 256 ≤ hi) (h2 : hi < 4611686018427387905) (l0 : 0 ≤ lo) (hr : bits BinOp.and IntKind.u64 lo 255 = 0) (ha : decide (a < 0) = true) (hb : decide (b < 0) = false) (w : World) : Calls Tryd.prog 13 #[.int .i64 a, .int .i64 b] w fun e w' => e = .returned (.tuple #[.int .i64 (-9223372036854775808), .int .i64 3]) ∧ w = w' := by
  obtain ⟨x, y, C, ca, cb⟩ := M.ex
  have HC := Lib.hid C
  have HA := Lib.hid ca
  have HB := Lib.hid cb
  clear C ca cb M
  go_enter Tryd.func13, Tryd.ntmps13
  go_wp2_with fail
  refine (HA.out _).mono ?_
  rintro e w1 ⟨rfl, rfl⟩
  go_wp2_with fail
  refine (HB.out _).mono ?_
  rintro e w1 ⟨rfl, rfl⟩
  go_wp2_with fail
  refine (HC.out _).mono ?_
  rintro e w1 ⟨rfl, rfl⟩
  clear HA HB HC
  go_wp2_with fail
  all_goals go_ret2
  all_goals exact ⟨rfl, rfl⟩

set_option maxHeartbeats 1000000 in
theorem mulD_Bzgt (a b hi lo wh r : Int) (M : MulC a b hi lo) (h1 : 0 < hi) (h2 : hi < 256) (l0 : 0 ≤ lo) (ho : bits BinOp.or IntKind.u64 (lo / 256) (hi * 72057594037927936) = wh) (hr : bits BinOp.and IntKind.u64 lo 255 = 0) (ha : decide (a < 0) = true) (hb : decide (b < 0) = false) (g : 9223372036854775808 < wh) (w : World) : Calls Tryd.prog 13 #[.int .i64 a, .int .i64 b] w fun e w' => e = .returned (.tuple #[.int .i64 (-9223372036854775808), .int .i64 3]) ∧ w = w' := by
  obtain ⟨x, y, C, ca, cb⟩ := M.ex
  have HC := Lib.hid C
  have HA := Lib.hid ca
  have HB := Lib.hid cb
  clear C ca cb M
  go_enter Tryd.func13, Tryd.ntmps13
  go_wp2_with fail
  refine (HA.out _).mono ?_
  rintro e w1 ⟨rfl, rfl⟩
  go_wp2_with fail
  refine (HB.out _).mono ?_
  rintro e w1 ⟨rfl, rfl⟩
  go_wp2_with fail
  refine (HC.out _).mono ?_
  rintro e w1 ⟨rfl, rfl⟩
  clear HA HB HC
  go_wp2_with fail
  all_goals go_ret2
  all_goals exact ⟨rfl, rfl⟩

set_option maxHeartbeats 1000000 in
theorem mulD_Bzlt (a b hi lo wh r : Int) (M : MulC a b hi lo) (h1 : 0 < hi) (h2 : hi < 256) (l0 : 0 ≤ lo) (ho : bits BinOp.or IntKind.u64 (lo / 256) (hi * 72057594037927936) = wh) (hr : bits BinOp.and IntKind.u64 lo 255 = 0) (ha : decide (a < 0) = true) (hb : decide (b < 0) = false) (g0 : 0 < wh) (g : wh ≤ 9223372036854775808) (w : World) : Calls Tryd.prog 13 #[.int .i64 a, .int .i64 b] w fun e w' => e = .returned (.tuple #[.int .i64 (-wh), .int .i64 0]) ∧ w = w' := by
  obtain ⟨x, y, C, ca, cb⟩ := M.ex
  have HC := Lib.hid C
  have HA := Lib.hid ca
  have HB := Lib.hid cb
  clear C ca cb M
  go_enter Tryd.func13, Tryd.ntmps13
  go_wp2_with fail
  refine (HA.out _).mono ?_
  rintro e w1 ⟨rfl, rfl⟩
  go_wp2_with fail
  refine (HB.out _).mono ?_
  rintro e w1 ⟨rfl, rfl⟩
  go_wp2_with fail
  refine (HC.out _).mono ?_
  rintro e w1 ⟨rfl, rfl⟩
  clear HA HB HC
  go_wp2_with fail
  all_goals go_ret2
  all_goals exact ⟨ret2i (by first | (rw [IntKind.wrap_u64]; unfold wrap64; omega) | omega), rfl⟩

set_option maxHeartbeats 1000000 in
theorem mulD_0zt (a b lo wh r : Int) (M : MulC a b 0 lo) (l0 : 0 ≤ lo) (l1 : (lo != 0) = true) (l2 : (lo == 0) = false) (ho : bits BinOp.or IntKind.u64 (lo / 256) 0 = wh) (hr : bits BinOp.and IntKind.u64 lo 255 = 0) (ha : decide (a < 0) = true) (hb : decide (b < 0) = false) (g0 : 0 ≤ wh) (g : wh ≤ 72057594037927936) (w : World) : Calls Tryd.prog 13 #[.int .i64 a, .int .i64 b] w fun e w' => e = .returned (.tuple #[.int .i64 (-wh), .int .i64 0]) ∧ w = w' := by
  obtain ⟨x, y, C, ca, cb⟩ := M.ex
  have HC := Lib.hid C
  have HA := Lib.hid ca
  have HB := Lib.hid cb
  clear C ca cb M
  go_enter Tryd.func13, Tryd.ntmps13
  go_wp2_with fail
  refine (HA.out _).mono ?_
  rintro e w1 ⟨rfl, rfl⟩
  go_wp2_with fail
  refine (HB.out _).mono ?_
  rintro e w1 ⟨rfl, rfl⟩
  go_wp2_with fail
  refine (HC.out _).mono ?_
  rintro e w1 ⟨rfl, rfl⟩
  clear HA HB HC
  go_wp2_with fail
  all_goals go_ret2
  all_goals exact ⟨ret2i (by first | (rw [IntKind.wrap_u64]; unfold wrap64; omega) | omega), rfl⟩

set_option maxHeartbeats 1000000 in
theorem mulD_Ant (a b hi lo r : Int) (M : MulC a b hi lo) (h1 : 256 ≤ hi) (h2 : hi < 4611686018427387905) (l0 : 0 ≤ lo) (hr : bits BinOp.and IntKind.u64 lo 255 = r) (r0 : (r != 0) = true) (r1 : (r == 0) = false) (ha : decide (a < 0) = true) (hb : decide (b < 0) = false) (w : World) : Calls Tryd.prog 13 #[.int .i64 a, .int .i64 b] w fun e w' => e = .returned (.tuple #[.int .i64 (-9223372036854775808), .int .i64 3]) ∧ w = w' := by
  obtain ⟨x, y, C, ca, cb⟩ := M.ex
  have HC := Lib.hid C
  have HA := Lib.hid ca
  have HB := Lib.hid cb
  clear C ca cb M
  go_enter Tryd.func13, Tryd.ntmps13
  go_wp2_with fail
  refine (HA.out _).mono ?_
  rintro e w1 ⟨rfl, rfl⟩
  go_wp2_with fail
  refine (HB.out _).mono ?_
  rintro e w1 ⟨rfl, rfl⟩
  go_wp2_with fail
  refine (HC.out _).mono ?_
  rintro e w1 ⟨rfl, rfl⟩
  clear HA HB HC
  go_wp2_with fail
  all_goals go_ret2
  all_goals exact ⟨rfl, rfl⟩

set_option maxHeartbeats 1000000 in
theorem mulD_Bntt (a b hi lo wh r : Int) (M : MulC a b hi lo) (h1 : 0 < hi) (h2 : hi < 256) (l0 : 0 ≤ lo) (ho : bits BinOp.or IntKind.u64 (lo / 256) (hi * 72057594037927936) = 18446744073709551615) (hr : bits BinOp.and IntKind.u64 lo 255 = r) (r0 : (r != 0) = true) (r1 : (r == 0) = false) (ha : decide (a < 0) = true) (hb : decide (b < 0) = false) (w : World) : Calls Tryd.prog 13 #[.int .i64 a, .int .i64 b] w fun e w' => e = .returned (.tuple #[.int .i64 (-9223372036854775808), .int .i64 3]) ∧ w = w' := by
  obtain ⟨x, y, C, ca, cb⟩ := M.ex
  have HC := Lib.hid C
  have HA := Lib.hid ca
  have HB := Lib.hid cb
  clear C ca cb M
  go_enter Tryd.func13, Tryd.ntmps13
  go_wp2_with fail
  refine (HA.out _).mono ?_
  rintro e w1 ⟨rfl, rfl⟩
  go_wp2_with fail
  refine (HB.out _).mono ?_
  rintro e w1 ⟨rfl, rfl⟩
  go_wp2_with fail
  refine (HC.out _).mono ?_
  rintro e w1 ⟨rfl, rfl⟩
  clear HA HB HC
  go_wp2_with fail
  all_goals go_ret2
  all_goals exact ⟨rfl, rfl⟩

set_option maxHeartbeats 1000000 in
theorem mulD_Bngt (a b hi lo wh r : Int) (M : MulC a b hi lo) (h1 : 0 < hi) (h2 : hi < 256) (l0 : 0 ≤ lo) (ho : bits BinOp.or IntKind.u64 (lo / 256) (hi * 72057594037927936) = wh) (hr : bits BinOp.and IntKind.u64 lo 255 = r) (r0 : (r != 0) = true) (r1 : (r == 0) = false) (ha : decide (a < 0) = true) (hb : decide (b < 0) = false) (g : 9223372036854775807 < wh) (g1 : wh < 18446744073709551615) (w : World) : Calls Tryd.prog 13 #[.int .i64 a, .int .i64 b] w fun e w' => e = .returned (.tuple #[.int .i64 (-9223372036854775808), .int .i64 3]) ∧ w = w' := by
  obtain ⟨x, y, C, ca, cb⟩ := M.ex
  have HC := Lib.hid C
  have HA := Lib.hid ca
  have HB := Lib.hid cb
  clear C ca cb M
  go_enter Tryd.func13, Tryd.ntmps13
  go_wp2_with fail
  refine (HA.out _).mono ?_
  rintro e w1 ⟨rfl, rfl⟩
  go_wp2_with fail
  refine (HB.out _).mono ?_
  rintro e w1 ⟨rfl, rfl⟩
  go_wp2_with fail
  refine (HC.out _).mono ?_
  rintro e w1 ⟨rfl, rfl⟩
  clear HA HB HC
  go_wp2_with fail
  all_goals go_ret2
  all_goals exact ⟨rfl, rfl⟩

set_option maxHeartbeats 1000000 in
theorem mulD_Bnlt (a b hi lo wh r : Int) (M : MulC a b hi lo) (h1 : 0 < hi) (h2 : hi < 256) (l0 : 0 ≤ lo) (ho : bits BinOp.or IntKind.u64 (lo / 256) (hi * 72057594037927936) = wh) (hr : bits BinOp.and IntKind.u64 lo 255 = r) (r0 : (r != 0) = true) (r1 : (r == 0) = false) (ha : decide (a < 0) = true) (hb : decide (b < 0) = false) (g0 : 0 ≤ wh) (g : wh ≤ 9223372036854775807) (w : World) : Calls Tryd.prog 13 #[.int .i64 a, .int .i64 b] w fun e w' => e = .returned (.tuple #[.int .i64 (-(wh + 1)), .int .i64 0]) ∧ w = w' := by
  obtain ⟨x, y, C, ca, cb⟩ := M.ex
  have HC := Lib.hid C
  have HA := Lib.hid ca
  have HB := Lib.hid cb
  clear C ca cb M
  go_enter Tryd.func13, Tryd.ntmps13
  go_wp2_with fail
  refine (HA.out _).mono ?_
  rintro e w1 ⟨rfl, rfl⟩
  go_wp2_with fail
  refine (HB.out _).mono ?_
  rintro e w1 ⟨rfl, rfl⟩
  go_wp2_with fail
  refine (HC.out _).mono ?_
  rintro e w1 ⟨rfl, rfl⟩
  clear HA HB HC
  go_wp2_with fail
  all_goals go_ret2
  all_goals exact ⟨ret2i (by first | (rw [IntKind.wrap_u64]; unfold wrap64; omega) | omega), rfl⟩

set_option maxHeartbeats 1000000 in
theorem mulD_0nt (a b lo wh r : Int) (M : MulC a b 0 lo) (l0 : 0 ≤ lo) (l1 : (lo != 0) = true) (l2 : (lo == 0) = false) (ho : bits BinOp.or IntKind.u64 (lo / 256) 0 = wh) (hr : bits BinOp.and IntKind.u64 lo 255 = r) (r0 : (r != 0) = true) (r1 : (r == 0) = false) (ha : decide (a < 0) = true) (hb : decide (b < 0) = false) (g0 : 0 ≤ wh) (g : wh ≤ 72057594037927936) (w : World) : Calls Tryd.prog 13 #[.int .i64 a, .int .i64 b] w fun e w' => e = .returned (.tuple #[.int .i64 (-(wh + 1)), .int .i64 0]) ∧ w = w' := by
  obtain ⟨x, y, C, ca, cb⟩ := M.ex
  have HC := Lib.hid C
  have HA := Lib.hid ca
  have HB := Lib.hid cb
  clear C ca cb M
  go_enter Tryd.func13, Tryd.ntmps13
  go_wp2_with fail
  refine (HA.out _).mono ?_
  rintro e w1 ⟨rfl, rfl⟩
  go_wp2_with fail
  refine (HB.out _).mono ?_
  rintro e w1 ⟨rfl, rfl⟩
  go_wp2_with fail
  refine (HC.out _).mono ?_
  rintro e w1 ⟨rfl, rfl⟩
  clear HA HB HC
  go_wp2_with fail
  all_goals go_ret2
  all_goals exact ⟨ret2i (by first | (rw [IntKind.wrap_u64]; unfold wrap64; omega) | omega), rfl⟩

set_option maxHeartbeats 1000000 in
theorem mulD_00f (a b : Int) (M : MulC a b 0 0) (ha : decide (a < 0) = false) (hb : decide (b < 0) = true) (w : World) : Calls Tryd.prog 13 #[.int .i64 a, .int .i64 b] w fun e w' => e = .returned (.tuple #[.int .i64 0, .int .i64 0]) ∧ w = w' := by
  obtain ⟨x, y, C, ca, cb⟩ := M.ex
  have HC := Lib.hid C
  have HA := Lib.hid ca
  have HB := Lib.hid cb
  clear C ca cb M
  go_enter Tryd.func13, Tryd.ntmps13
  go_wp2_with fail
  refine (HA.out _).mono ?_
  rintro e w1 ⟨rfl, rfl⟩
  go_wp2_with fail
  refine (HB.out _).mono ?_
  rintro e w1 ⟨rfl, rfl⟩
  go_wp2_with fail
  refine (HC.out _).mono ?_
  rintro e w1 ⟨rfl, rfl⟩
  clear HA HB HC
  go_wp2_with fail
  all_goals go_ret2
  all_goals exact ⟨ret2i (by rw [show bits BinOp.or IntKind.u64 0 0 = 0 by decide +kernel]; unfold wrap64; omega), rfl⟩

set_option maxHeartbeats 1000000 in
theorem mulD_Azf (a b hi lo r : Int) (M : MulC a b hi lo) (h1 : 256 ≤ hi) (h2 : hi < 4611686018427387905) (l0 : 0 ≤ lo) (hr : bits BinOp.and IntKind.u64 lo 255 = 0) (ha : decide (a < 0) = false) (hb : decide (b < 0) = true) (w : World) : Calls Tryd.prog 13 #[.int .i64 a, .int .i64 b] w fun e w' => e = .returned (.tuple #[.int .i64 (-9223372036854775808), .int .i64 3]) ∧ w = w' := by
  obtain ⟨x, y, C, ca, cb⟩ := M.ex
  have HC := Lib.hid C
  have HA := Lib.hid ca
  have HB := Lib.hid cb
  clear C ca cb M
  go_enter Tryd.func13, Tryd.ntmps13
  go_wp2_with fail
  refine (HA.out _).mono ?_
  rintro e w1 ⟨rfl, rfl⟩
  go_wp2_with fail
  refine (HB.out _).mono ?_
  rintro e w1 ⟨rfl, rfl⟩
  go_wp2_with fail
  refine (HC.out _).mono ?_
  rintro e w1 ⟨rfl, rfl⟩
  clear HA HB HC
  go_wp2_with fail
  all_goals go_ret2
  all_goals exact ⟨rfl, rfl⟩

set_option maxHeartbeats 1000000 in
theorem mulD_Bzgf (a b hi lo wh r : Int) (M : MulC a b hi lo) (h1 : 0 < hi) (h2 : hi < 256) (l0 : 0 ≤ lo) (ho : bits BinOp.or IntKind.u64 (lo / 256) (hi * 72057594037927936) = wh) (hr : bits BinOp.and IntKind.u64 lo 255 = 0) (ha : decide (a < 0) = false) (hb : decide (b < 0) = true) (g : 9223372036854775808 < wh) (w : World) : Calls Tryd.prog 13 #[.int .i64 a, .int .i64 b] w fun e w' => e = .returned (.tuple #[.int .i64 (-9223372036854775808), .int .i64 3]) ∧ w = w' := by
  obtain ⟨x, y, C, ca, cb⟩ := M.ex
  have HC := Lib.hid C
  have HA := Lib.hid ca
  have HB := Lib.hid cb
  clear C ca cb M
  go_enter Tryd.func13, Tryd.ntmps13
  go_wp2_with fail
  refine (HA.out _).mono ?_
  rintro e w1 ⟨rfl, rfl⟩
  go_wp2_with fail
  refine (HB.out _).mono ?_
  rintro e w1 ⟨rfl, rfl⟩
  go_wp2_with fail
  refine (HC.out _).mono ?_
  rintro e w1 ⟨rfl, rfl⟩
  clear HA HB HC
  go_wp2_with fail
  all_goals go_ret2
  all_goals exact ⟨rfl, rfl⟩

set_option maxHeartbeats 1000000 in
theorem mulD_Bzlf (a b hi lo wh r : Int) (M : MulC a b hi lo) (h1 : 0 < hi) (h2 : hi < 256) (l0 : 0 ≤ lo) (ho : bits BinOp.or IntKind.u64 (lo / 256) (hi * 72057594037927936) = wh) (hr : bits BinOp.and IntKind.u64 lo 255 = 0) (ha : decide (a < 0) = false) (hb : decide (b < 0) = true) (g0 : 0 < wh) (g : wh ≤ 9223372036854775808) (w : World) : Calls Tryd.prog 13 #[.int .i64 a, .int .i64 b] w fun e w' => e = .returned (.tuple #[.int .i64 (-wh), .int .i64 0]) ∧ w = w' := by
  obtain ⟨x, y, C, ca, cb⟩ := M.ex
  have HC := Lib.hid C
  have HA := Lib.hid ca
  have HB := Lib.hid cb
  clear C ca cb M
  go_enter Tryd.func13, Tryd.ntmps13
  go_wp2_with fail
  refine (HA.out _).mono ?_
  rintro e w1 ⟨rfl, rfl⟩
  go_wp2_with fail
  refine (HB.out _).mono ?_
  rintro e w1 ⟨rfl, rfl⟩
  go_wp2_with fail
  refine (HC.out _).mono ?_
  rintro e w1 ⟨rfl, rfl⟩
  clear HA HB HC
  go_wp2_with fail
  all_goals go_ret2
  all_goals exact ⟨ret2i (by first | (rw [IntKind.wrap_u64]; unfold wrap64; omega) | omega), rfl⟩

set_option maxHeartbeats 1000000 in
theorem mulD_0zf (a b lo wh r : Int) (M : MulC a b 0 lo) (l0 : 0 ≤ lo) (l1 : (lo != 0) = true) (l2 : (lo == 0) = false) (ho : bits BinOp.or IntKind.u64 (lo / 256) 0 = wh) (hr : bits BinOp.and IntKind.u64 lo 255 = 0) (ha : decide (a < 0) = false) (hb : decide (b < 0) = true) (g0 : 0 ≤ wh) (g : wh ≤ 72057594037927936) (w : World) : Calls Tryd.prog 13 #[.int .i64 a, .int .i64 b] w fun e w' => e = .returned (.tuple #[.int .i64 (-wh), .int .i64 0]) ∧ w = w' := by
  obtain ⟨x, y, C, ca, cb⟩ := M.ex
  have HC := Lib.hid C
  have HA := Lib.hid ca
  have HB := Lib.hid cb
  clear C ca cb M
  go_enter Tryd.func13, Tryd.ntmps13
  go_wp2_with fail
  refine (HA.out _).mono ?_
  rintro e w1 ⟨rfl, rfl⟩
  go_wp2_with fail
  refine (HB.out _).mono ?_
  rintro e w1 ⟨rfl, rfl⟩
  go_wp2_with fail
  refine (HC.out _).mono ?_
  rintro e w1 ⟨rfl, rfl⟩
  clear HA HB HC
  go_wp2_with fail
  all_goals go_ret2
  all_goals exact ⟨ret2i (by first | (rw [IntKind.wrap_u64]; unfold wrap64; omega) | omega), rfl⟩

set_option maxHeartbeats 1000000 in
theorem mulD_Anf (a b hi lo r : Int) (M : MulC a b hi lo) (h1 : 256 ≤ hi) (h2 : hi < 4611686018427387905) (l0 : 0 ≤ lo) (hr : bits BinOp.and IntKind.u64 lo 255 = r) (r0 : (r != 0) = true) (r1 : (r == 0) = false) (ha : decide (a < 0) = false) (hb : decide (b < 0) = true) (w : World) : Calls Tryd.prog 13 #[.int .i64 a, .int .i64 b] w fun e w' => e = .returned (.tuple #[.int .i64 (-9223372036854775808), .int .i64 3]) ∧ w = w' := by
  obtain ⟨x, y, C, ca, cb⟩ := M.ex
  have HC := Lib.hid C
  have HA := Lib.hid ca
  have HB := Lib.hid cb
  clear C ca cb M
  go_enter Tryd.func13, Tryd.ntmps13
  go_wp2_with fail
  refine (HA.out _).mono ?_
  rintro e w1 ⟨rfl, rfl⟩
  go_wp2_with fail
  refine (HB.out _).mono ?_
  rintro e w1 ⟨rfl, rfl⟩
  go_wp2_with fail
  refine (HC.out _).mono ?_
  rintro e w1 ⟨rfl, rfl⟩
  clear HA HB HC
  go_wp2_with fail
  all_goals go_ret2
  all_goals exact ⟨rfl, rfl⟩

set_option maxHeartbeats 1000000 in
theorem mulD_Bntf (a b hi lo wh r : Int) (M : MulC a b hi lo) (h1 : 0 < hi) (h2 : hi < 256) (l0 : 0 ≤ lo) (ho : bits BinOp.or IntKind.u64 (lo / 256) (hi * 72057594037927936) = 18446744073709551615) (hr : bits BinOp.and IntKind.u64 lo 255 = r) (r0 : (r != 0) = true) (r1 : (r == 0) = false) (ha : decide (a < 0) = false) (hb : decide (b < 0) = true) (w : World) : Calls Tryd.prog 13 #[.int .i64 a, .int .i64 b] w fun e w' => e = .returned (.tuple #[.int .i64 (-9223372036854775808), .int .i64 3]) ∧ w = w' := by
  obtain ⟨x, y, C, ca, cb⟩ := M.ex
  have HC := Lib.hid C
  have HA := Lib.hid ca
  have HB := Lib.hid cb
  clear C ca cb M
  go_enter Tryd.func13, Tryd.ntmps13
  go_wp2_with fail
  refine (HA.out _).mono ?_
  rintro e w1 ⟨rfl, rfl⟩
  go_wp2_with fail
  refine (HB.out _).mono ?_
  rintro e w1 ⟨rfl, rfl⟩
  go_wp2_with fail
  refine (HC.out _).mono ?_
  rintro e w1 ⟨rfl, rfl⟩
  clear HA HB HC
  go_wp2_with fail
  all_goals go_ret2
  all_goals exact ⟨rfl, rfl⟩

set_option maxHeartbeats 1000000 in
theorem mulD_Bngf (a b hi lo wh r : Int) (M : MulC a b hi lo) (h1 : 0 < hi) (h2 : hi < 256) (l0 : 0 ≤ lo) (ho : bits BinOp.or IntKind.u64 (lo / 256) (hi * 72057594037927936) = wh) (hr : bits BinOp.and IntKind.u64 lo 255 = r) (r0 : (r != 0) = true) (r1 : (r == 0) = false) (ha : decide (a < 0) = false) (hb : decide (b < 0) = true) (g : 9223372036854775807 < wh) (g1 : wh < 18446744073709551615) (w : World) : Calls Tryd.prog 13 #[.int .i64 a, .int .i64 b] w fun e w' => e = .returned (.tuple #[.int .i64 (-9223372036854775808), .int .i64 3]) ∧ w = w' := by
  obtain ⟨x, y, C, ca, cb⟩ := M.ex
  have HC := Lib.hid C
  have HA := Lib.hid ca
  have HB := Lib.hid cb
  clear C ca cb M
  go_enter Tryd.func13, Tryd.ntmps13
  go_wp2_with fail
  refine (HA.out _).mono ?_
  rintro e w1 ⟨rfl, rfl⟩
  go_wp2_with fail
  refine (HB.out _).mono ?_
  rintro e w1 ⟨rfl, rfl⟩
  go_wp2_with fail
  refine (HC.out _).mono ?_
  rintro e w1 ⟨rfl, rfl⟩
  clear HA HB HC
  go_wp2_with fail
  all_goals go_ret2
  all_goals exact ⟨rfl, rfl⟩

set_option maxHeartbeats 1000000 in
theorem mulD_Bnlf (a b hi lo wh r : Int) (M : MulC a b hi lo) (h1 : 0 < hi) (h2 : hi < 256) (l0 : 0 ≤ lo) (ho : bits BinOp.or IntKind.u64 (lo / 256) (hi * 72057594037927936) = wh) (hr : bits BinOp.and IntKind.u64 lo 255 = r) (r0 : (r != 0) = true) (r1 : (r == 0) = false) (ha : decide (a < 0) = false) (hb : decide (b < 0) = true) (g0 : 0 ≤ wh) (g : wh ≤ 9223372036854775807) (w : World) : Calls Tryd.prog 13 #[.int .i64 a, .int .i64 b] w fun e w' => e = .returned (.tuple #[.int .i64 (-(wh + 1)), .int .i64 0]) ∧ w = w' := by
  obtain ⟨x, y, C, ca, cb⟩ := M.ex
  have HC := Lib.hid C
  have HA := Lib.hid ca
  have HB := Lib.hid cb
  clear C ca cb M
  go_enter Tryd.func13, Tryd.ntmps13
  go_wp2_with fail
  refine (HA.out _).mono ?_
  rintro e w1 ⟨rfl, rfl⟩
  go_wp2_with fail
  refine (HB.out _).mono ?_
  rintro e w1 ⟨rfl, rfl⟩
  go_wp2_with fail
  refine (HC.out _).mono ?_
  rintro e w1 ⟨rfl, rfl⟩
  clear HA HB HC
  go_wp2_with fail
  all_goals go_ret2
  all_goals exact ⟨ret2i (by first | (rw [IntKind.wrap_u64]; unfold wrap64; omega) | omega), rfl⟩

set_option maxHeartbeats 1000000 in
theorem mulD_0nf (a b lo wh r : Int) (M : MulC a b 0 lo) (l0 : 0 ≤ lo) (l1 : (lo != 0) = true) (l2 : (lo == 0) = false) (ho : bits BinOp.or IntKind.u64 (lo / 256) 0 = wh) (hr : bits BinOp.and IntKind.u64 lo 255 = r) (r0 : (r != 0) = true) (r1 : (r == 0) = false) (ha : decide (a < 0) = false) (hb : decide (b < 0) = true) (g0 : 0 ≤ wh) (g : wh ≤ 72057594037927936) (w : World) : Calls Tryd.prog 13 #[.int .i64 a, .int .i64 b] w fun e w' => e = .returned (.tuple #[.int .i64 (-(wh + 1)), .int .i64 0]) ∧ w = w' := by
  obtain ⟨x, y, C, ca, cb⟩ := M.ex
  have HC := Lib.hid C
  have HA := Lib.hid ca
  have HB := Lib.hid cb
  clear C ca cb M
  go_enter Tryd.func13, Tryd.ntmps13
  go_wp2_with fail
  refine (HA.out _).mono ?_
  rintro e w1 ⟨rfl, rfl⟩
  go_wp2_with fail
  refine (HB.out _).mono ?_
  rintro e w1 ⟨rfl, rfl⟩
  go_wp2_with fail
  refine (HC.out _).mono ?_
  rintro e w1 ⟨rfl, rfl⟩
  clear HA HB HC
  go_wp2_with fail
  all_goals go_ret2
  all_goals exact ⟨ret2i (by first | (rw [IntKind.wrap_u64]; unfold wrap64; omega) | omega), rfl⟩
end Go.Proofs.YtoihknngllmogaaDoor
