/- Walks: Mul of the reference of the num package. -/
import Derived.Test.YtoihknngllmogaaDoorW7
namespace Go.Proofs.YtoihknngllmogaaDoor
open Go.RowKit
set_option linter.unusedVariables false
set_option linter.unusedSimpArgs false

structure RMulC (a b hi lo : Int) : Prop where
  ex : ∃ x y : Nat, (∀ W : World, Calls Tryd.prog 28 #[.int .u64 x, .int .u64 y] W fun e w' => e = .returned (.tuple #[.int .u64 hi, .int .u64 lo]) ∧ W = w') ∧
    (∀ W : World, Calls Tryd.prog 29 #[.int .i64 a] W fun e w' => e = .returned (.int .u64 x) ∧ W = w') ∧
    (∀ W : World, Calls Tryd.prog 29 #[.int .i64 b] W fun e w' => e = .returned (.int .u64 y) ∧ W = w')

set_option maxHeartbeats 1000000 in
theorem rmulS_At (a b hi lo : Int) (M : RMulC a b hi lo) (h1 : 256 ≤ hi) (h2 : hi < 4611686018427387905) (l0 : 0 ≤ lo) (ha : decide (a < 0) = true) (hb : decide (b < 0) = true) (w : World) : Calls Tryd.prog 14 #[.int .i64 a, .int .i64 b] w fun e w' => e = .returned (.tuple #[.int .i64 9223372036854775807, .int .i64 3]) ∧ w = w' := by
  obtain ⟨x, y, C, ca, cb⟩ := M.ex
  have HC := Lib.hid C
  have HA := Lib.hid ca
  have HB := Lib.hid cb
  clear C ca cb M
  go_enter Tryd.func14, Tryd.ntmps14
  go_wp2_with fail
  refine (HA.out _).mono ?_
  rintro e w1 ⟨rfl, rfl⟩
  go_wp2_with fail
  refine (HB.out _).mono ?_
  rintro e w1 ⟨rfl, rfl⟩
  go_wp2_with fail
  refine (HC.out _).mono ?_
  rintro e w1 ⟨rfl, rfl⟩
  clear HA HB HC
  go_wp2_with fail
  all_goals go_ret2
  all_goals exact ⟨rfl, rfl⟩

set_option maxHeartbeats 1000000 in
theorem rmulS_Bgt (a b hi lo wh : Int) (M : RMulC a b hi lo) (h1 : 0 < hi) (h2 : hi < 256) (l0 : 0 ≤ lo) (ho : bits BinOp.or IntKind.u64 (hi * 72057594037927936) (lo / 256) = wh) (ha : decide (a < 0) = true) (hb : decide (b < 0) = true) (g : 9223372036854775807 < wh) (w : World) : Calls Tryd.prog 14 #[.int .i64 a, .int .i64 b] w fun e w' => e = .returned (.tuple #[.int .i64 9223372036854775807, .int .i64 3]) ∧ w = w' := by
  obtain ⟨x, y, C, ca, cb⟩ := M.ex
  have HC := Lib.hid C
  have HA := Lib.hid ca
  have HB := Lib.hid cb
  clear C ca cb M
  go_enter Tryd.func14, Tryd.ntmps14
  go_wp2_with fail
  refine (HA.out _).mono ?_
  rintro e w1 ⟨rfl, rfl⟩
  go_wp2_with fail
  refine (HB.out _).mono ?_
  rintro e w1 ⟨rfl, rfl⟩
  go_wp2_with fail
  refine (HC.out _).mono ?_
  rintro e w1 ⟨rfl, rfl⟩
  clear HA HB HC
  go_wp2_with fail
  all_goals go_ret2
  all_goals exact ⟨rfl, rfl⟩

set_option maxHeartbeats 1000000 in
theorem rmulS_Blt (a b hi lo wh : Int) (M : RMulC a b hi lo) (h1 : 0 < hi) (h2 : hi < 256) (l0 : 0 ≤ lo) (ho : bits BinOp.or IntKind.u64 (hi * 72057594037927936) (lo / 256) = wh) (ha : decide (a < 0) = true) (hb : decide (b < 0) = true) (g0 : 0 ≤ wh) (g : wh ≤ 9223372036854775807) (w : World) : Calls Tryd.prog 14 #[.int .i64 a, .int .i64 b] w fun e w' => e = .returned (.tuple #[.int .i64 wh, .int .i64 0]) ∧ w = w' := by
  obtain ⟨x, y, C, ca, cb⟩ := M.ex
  have HC := Lib.hid C
  have HA := Lib.hid ca
  have HB := Lib.hid cb
  clear C ca cb M
  go_enter Tryd.func14, Tryd.ntmps14
  go_wp2_with fail
  refine (HA.out _).mono ?_
  rintro e w1 ⟨rfl, rfl⟩
  go_wp2_with fail
  refine (HB.out _).mono ?_
  rintro e w1 ⟨rfl, rfl⟩
  go_wp2_with fail
  refine (HC.out _).mono ?_
  rintro e w1 ⟨rfl, rfl⟩
  clear HA HB HC
  go_wp2_with fail
  all_goals go_ret2
  all_goals exact ⟨rfl, rfl⟩

set_option maxHeartbeats 1000000 in
theorem rmulS_0t (a b lo wh : Int) (M : RMulC a b 0 lo) (l0 : 0 ≤ lo) (ho : bits BinOp.or IntKind.u64 0 (lo / 256) = wh) (g0 : 0 ≤ wh) (g : wh ≤ 9223372036854775807) (ha : decide (a < 0) = true) (hb : decide (b < 0) = true) (w : World) : Calls Tryd.prog 14 #[.int .i64 a, .int .i64 b] w fun e w' => e = .returned (.tuple #[.int .i64 wh, .int .i64 0]) ∧ w = w' := by
  obtain ⟨x, y, C, ca, cb⟩ := M.ex
  have HC := Lib.hid C
  have HA := Lib.hid ca
  have HB := Lib.hid cb
  clear C ca cb M
  go_enter Tryd.func14, Tryd.ntmps14
  go_wp2_with fail
  refine (HA.out _).mono ?_
  rintro e w1 ⟨rfl, rfl⟩
  go_wp2_with fail
  refine (HB.out _).mono ?_
  rintro e w1 ⟨rfl, rfl⟩
  go_wp2_with fail
  refine (HC.out _).mono ?_
  rintro e w1 ⟨rfl, rfl⟩
  clear HA HB HC
  go_wp2_with fail
  all_goals go_ret2
  all_goals exact ⟨rfl, rfl⟩

set_option maxHeartbeats 1000000 in
theorem rmulS_Af (a b hi lo : Int) (M : RMulC a b hi lo) (h1 : 256 ≤ hi) (h2 : hi < 4611686018427387905) (l0 : 0 ≤ lo) (ha : decide (a < 0) = false) (hb : decide (b < 0) = false) (w : World) : Calls Tryd.prog 14 #[.int .i64 a, .int .i64 b] w fun e w' => e = .returned (.tuple #[.int .i64 9223372036854775807, .int .i64 3]) ∧ w = w' := by
  obtain ⟨x, y, C, ca, cb⟩ := M.ex
  have HC := Lib.hid C
  have HA := Lib.hid ca
  have HB := Lib.hid cb
  clear C ca cb M
  go_enter Tryd.func14, Tryd.ntmps14
  go_wp2_with fail
  refine (HA.out _).mono ?_
  rintro e w1 ⟨rfl, rfl⟩
  go_wp2_with fail
  refine (HB.out _).mono ?_
  rintro e w1 ⟨rfl, rfl⟩
  go_wp2_with fail
  refine (HC.out _).mono ?_
  rintro e w1 ⟨rfl, rfl⟩
  clear HA HB HC
  go_wp2_with fail
  all_goals go_ret2
  all_goals exact ⟨rfl, rfl⟩

set_option maxHeartbeats 1000000 in
theorem rmulS_Bgf (a b hi lo wh : Int) (M : RMulC a b hi lo) (h1 : 0 < hi) (h2 : hi < 256) (l0 : 0 ≤ lo) (ho : bits BinOp.or IntKind.u64 (hi * 72057594037927936) (lo / 256) = wh) (ha : decide (a < 0) = false) (hb : decide (b < 0) = false) (g : 9223372036854775807 < wh) (w : World) : Calls Tryd.prog 14 #[.int .i64 a, .int .i64 b] w fun e w' => e = .returned (.tuple #[.int .i64 9223372036854775807, .int .i64 3]) ∧ w = w' := by
  obtain ⟨x, y, C, ca, cb⟩ := M.ex
  have HC := Lib.hid C
  have HA := Lib.hid ca
  have HB := Lib.hid cb
  clear C ca cb M
  go_enter Tryd.func14, Tryd.ntmps14
  go_wp2_with fail
  refine (HA.out _).mono ?_
  rintro e w1 ⟨rfl, rfl⟩
  go_wp2_with fail
  refine (HB.out _).mono ?_
  rintro e w1 ⟨rfl, rfl⟩
  go_wp2_with fail
  refine (HC.out _).mono ?_
  rintro e w1 ⟨rfl, rfl⟩
  clear HA HB HC
  go_wp2_with fail
  all_goals go_ret2
  all_goals exact ⟨rfl, rfl⟩

set_option maxHeartbeats 1000000 in
theorem rmulS_Blf (a b hi lo wh : Int) (M : RMulC a b hi lo) (h1 : 0 < hi) (h2 : hi < 256) (l0 : 0 ≤ lo) (ho : bits BinOp.or IntKind.u64 (hi * 72057594037927936) (lo / 256) = wh) (ha : decide (a < 0) = false) (hb : decide (b < 0) = false) (g0 : 0 ≤ wh) (g : wh ≤ 9223372036854775807) (w : World) : Calls Tryd.prog 14 #[.int .i64 a, .int .i64 b] w fun e w' => e = .returned (.tuple #[.int .i64 wh, .int .i64 0]) ∧ w = w' := by
  obtain ⟨x, y, C, ca, cb⟩ := M.ex
  have HC := Lib.hid C
  have HA := Lib.hid ca
  have HB := Lib.hid cb
  clear C ca cb M
  go_enter Tryd.func14, Tryd.ntmps14
  go_wp2_with fail
  refine (HA.out _).mono ?_
  rintro e w1 ⟨rfl, rfl⟩
  go_wp2_with fail
  refine (HB.out _).mono ?_
  rintro e w1 ⟨rfl, rfl⟩
  go_wp2_with fail
  refine (HC.out _).mono ?_
  rintro e w1 ⟨rfl, rfl⟩
  clear HA HB HC
  go_wp2_with fail
  all_goals go_ret2
  all_goals exact ⟨rfl, rfl⟩

set_option maxHeartbeats 1000000 in
theorem rmulS_0f (a b lo wh : Int) (M : RMulC a b 0 lo) (l0 : 0 ≤ lo) (ho : bits BinOp.or IntKind.u64 0 (lo / 256) = wh) (g0 : 0 ≤ wh) (g : wh ≤ 9223372036854775807) (ha : decide (a < 0) = false) (hb : decide (b < 0) = false) (w : World) : Calls Tryd.prog 14 #[.int .i64 a, .int .i64 b] w fun e w' => e = .returned (.tuple #[.int .i64 wh, .int .i64 0]) ∧ w = w' := by
  obtain ⟨x, y, C, ca, cb⟩ := M.ex
  have HC := Lib.hid C
  have HA := Lib.hid ca
  have HB := Lib.hid cb
  clear C ca cb M
  go_enter Tryd.func14, Tryd.ntmps14
  go_wp2_with fail
  refine (HA.out _).mono ?_
  rintro e w1 ⟨rfl, rfl⟩
  go_wp2_with fail
  refine (HB.out _).mono ?_
  rintro e w1 ⟨rfl, rfl⟩
  go_wp2_with fail
  refine (HC.out _).mono ?_
  rintro e w1 ⟨rfl, rfl⟩
  clear HA HB HC
  go_wp2_with fail
  all_goals go_ret2
  all_goals exact ⟨rfl, rfl⟩

set_option maxHeartbeats 1000000 in
theorem rmulD_00t (a b : Int) (M : RMulC a b 0 0) (ha : decide (a < 0) = true) (hb : decide (b < 0) = false) (w : World) : Calls Tryd.prog 14 #[.int .i64 a, .int .i64 b] w fun e w' => e = .returned (.tuple #[.int .i64 0, .int .i64 0]) ∧ w = w' := by
  obtain ⟨x, y, C, ca, cb⟩ := M.ex
  have HC := Lib.hid C
  have HA := Lib.hid ca
  have HB := Lib.hid cb
  clear C ca cb M
  go_enter Tryd.func14, Tryd.ntmps14
  go_wp2_with fail
  refine (HA.out _).mono ?_
  rintro e w1 ⟨rfl, rfl⟩
  go_wp2_with fail
  refine (HB.out _).mono ?_
  rintro e w1 ⟨rfl, rfl⟩
  go_wp2_with fail
  refine (HC.out _).mono ?_
  rintro e w1 ⟨rfl, rfl⟩
  clear HA HB HC
  go_wp2_with fail
  all_goals go_ret2
  all_goals exact ⟨ret2i (by rw [show bits BinOp.or IntKind.u64 0 0 = 0 by decide +kernel]; unfold wrap64; omega), rfl⟩

set_option maxHeartbeats 1000000 in
theorem rmulD_Azt (a b hi lo up : Int) (M : RMulC a b hi lo) (h0 : (hi == 0) = false) (h1 : 256 ≤ hi) (h2 : hi < 4611686018427387905) (h3 : 0 < hi) (l0 : 0 ≤ lo) (hu : IntKind.u64.wrap (lo + 255) = up) (cz : lo ≤ up) (u0 : 0 ≤ up) (ha : decide (a < 0) = true) (hb : decide (b < 0) = false) (w : World) : Calls Tryd.prog 14 #[.int .i64 a, .int .i64 b] w fun e w' => e = .returned (.tuple #[.int .i64 (-9223372036854775808), .int .i64 3]) ∧ w = w' := by
  obtain ⟨x, y, C, ca, cb⟩ := M.ex
  have HC := Lib.hid C
  have HA := Lib.hid ca
  have HB := Lib.hid cb
  clear C ca cb M
  go_enter Tryd.func14, Tryd.ntmps14
  go_wp2_with fail
  refine (HA.out _).mono ?_
  rintro e w1 ⟨rfl, rfl⟩
  go_wp2_with fail
  refine (HB.out _).mono ?_
  rintro e w1 ⟨rfl, rfl⟩
  go_wp2_with fail
  refine (HC.out _).mono ?_
  rintro e w1 ⟨rfl, rfl⟩
  clear HA HB HC
  go_wp2_with fail
  all_goals go_ret2
  all_goals exact ⟨rfl, rfl⟩

set_option maxHeartbeats 1000000 in
theorem rmulD_Bzgt (a b hi lo up wh : Int) (M : RMulC a b hi lo) (h0 : (hi == 0) = false) (h1 : 0 < hi) (h2 : hi < 256) (l0 : 0 ≤ lo) (hu : IntKind.u64.wrap (lo + 255) = up) (cz : lo ≤ up) (u0 : 0 ≤ up) (ho : bits BinOp.or IntKind.u64 (hi * 72057594037927936) (up / 256) = wh) (ha : decide (a < 0) = true) (hb : decide (b < 0) = false) (g : 9223372036854775808 < wh) (w : World) : Calls Tryd.prog 14 #[.int .i64 a, .int .i64 b] w fun e w' => e = .returned (.tuple #[.int .i64 (-9223372036854775808), .int .i64 3]) ∧ w = w' := by
  obtain ⟨x, y, C, ca, cb⟩ := M.ex
  have HC := Lib.hid C
  have HA := Lib.hid ca
  have HB := Lib.hid cb
  clear C ca cb M
  go_enter Tryd.func14, Tryd.ntmps14
  go_wp2_with fail
  refine (HA.out _).mono ?_
  rintro e w1 ⟨rfl, rfl⟩
  go_wp2_with fail
  refine (HB.out _).mono ?_
  rintro e w1 ⟨rfl, rfl⟩
  go_wp2_with fail
  refine (HC.out _).mono ?_
  rintro e w1 ⟨rfl, rfl⟩
  clear HA HB HC
  go_wp2_with fail
  all_goals go_ret2
  all_goals exact ⟨rfl, rfl⟩

set_option maxHeartbeats 1000000 in
theorem rmulD_Bzlt (a b hi lo up wh : Int) (M : RMulC a b hi lo) (h0 : (hi == 0) = false) (h1 : 0 < hi) (h2 : hi < 256) (l0 : 0 ≤ lo) (hu : IntKind.u64.wrap (lo + 255) = up) (cz : lo ≤ up) (u0 : 0 ≤ up) (ho : bits BinOp.or IntKind.u64 (hi * 72057594037927936) (up / 256) = wh) (ha : decide (a < 0) = true) (hb : decide (b < 0) = false) (g0 : 1 ≤ wh) (g : wh ≤ 9223372036854775808) (w : World) : Calls Tryd.prog 14 #[.int .i64 a, .int .i64 b] w fun e w' => e = .returned (.tuple #[.int .i64 (-wh), .int .i64 0]) ∧ w = w' := by
  obtain ⟨x, y, C, ca, cb⟩ := M.ex
  have HC := Lib.hid C
  have HA := Lib.hid ca
  have HB := Lib.hid cb
  clear C ca cb M
  go_enter Tryd.func14, Tryd.ntmps14
  go_wp2_with fail
  refine (HA.out _).mono ?_
  rintro e w1 ⟨rfl, rfl⟩
  go_wp2_with fail
  refine (HB.out _).mono ?_
  rintro e w1 ⟨rfl, rfl⟩
  go_wp2_with fail
  refine (HC.out _).mono ?_
  rintro e w1 ⟨rfl, rfl⟩
  clear HA HB HC
  go_wp2_with fail
  all_goals go_ret2
  all_goals exact ⟨ret2i (by first | rfl | omega | (simp only [IntKind.wrap_u64]; unfold wrap64; omega)), rfl⟩

set_option maxHeartbeats 1000000 in
theorem rmulD_0zt (a b lo up wh : Int) (M : RMulC a b 0 lo) (l0 : 0 ≤ lo) (l2 : (lo == 0) = false) (hu : IntKind.u64.wrap (lo + 255) = up) (cz : lo ≤ up) (u0 : 0 ≤ up) (ho : bits BinOp.or IntKind.u64 0 (up / 256) = wh) (ha : decide (a < 0) = true) (hb : decide (b < 0) = false) (g0 : 1 ≤ wh) (g : wh ≤ 9223372036854775808) (w : World) : Calls Tryd.prog 14 #[.int .i64 a, .int .i64 b] w fun e w' => e = .returned (.tuple #[.int .i64 (-wh), .int .i64 0]) ∧ w = w' := by
  obtain ⟨x, y, C, ca, cb⟩ := M.ex
  have HC := Lib.hid C
  have HA := Lib.hid ca
  have HB := Lib.hid cb
  clear C ca cb M
  go_enter Tryd.func14, Tryd.ntmps14
  go_wp2_with fail
  refine (HA.out _).mono ?_
  rintro e w1 ⟨rfl, rfl⟩
  go_wp2_with fail
  refine (HB.out _).mono ?_
  rintro e w1 ⟨rfl, rfl⟩
  go_wp2_with fail
  refine (HC.out _).mono ?_
  rintro e w1 ⟨rfl, rfl⟩
  clear HA HB HC
  go_wp2_with fail
  all_goals go_ret2
  all_goals exact ⟨ret2i (by first | rfl | omega | (simp only [IntKind.wrap_u64]; unfold wrap64; omega)), rfl⟩

set_option maxHeartbeats 1000000 in
theorem rmulD_Act (a b hi lo up : Int) (M : RMulC a b hi lo) (h0 : (hi == 0) = false) (h1 : 256 ≤ hi + 1) (h2 : hi < 4611686018427387905) (h3 : 0 < hi) (l0 : 0 ≤ lo) (hu : IntKind.u64.wrap (lo + 255) = up) (cz : up < lo) (u0 : 0 ≤ up) (ha : decide (a < 0) = true) (hb : decide (b < 0) = false) (w : World) : Calls Tryd.prog 14 #[.int .i64 a, .int .i64 b] w fun e w' => e = .returned (.tuple #[.int .i64 (-9223372036854775808), .int .i64 3]) ∧ w = w' := by
  obtain ⟨x, y, C, ca, cb⟩ := M.ex
  have HC := Lib.hid C
  have HA := Lib.hid ca
  have HB := Lib.hid cb
  clear C ca cb M
  go_enter Tryd.func14, Tryd.ntmps14
  go_wp2_with fail
  refine (HA.out _).mono ?_
  rintro e w1 ⟨rfl, rfl⟩
  go_wp2_with fail
  refine (HB.out _).mono ?_
  rintro e w1 ⟨rfl, rfl⟩
  go_wp2_with fail
  refine (HC.out _).mono ?_
  rintro e w1 ⟨rfl, rfl⟩
  clear HA HB HC
  go_wp2_with fail
  all_goals go_ret2
  all_goals exact ⟨rfl, rfl⟩

set_option maxHeartbeats 1000000 in
theorem rmulD_Bcgt (a b hi lo up wh : Int) (M : RMulC a b hi lo) (h0 : (hi == 0) = false) (h1 : 0 < hi) (h2 : hi + 1 < 256) (l0 : 0 ≤ lo) (hu : IntKind.u64.wrap (lo + 255) = up) (cz : up < lo) (u0 : 0 ≤ up) (ho : bits BinOp.or IntKind.u64 ((hi + 1) * 72057594037927936) (up / 256) = wh) (ha : decide (a < 0) = true) (hb : decide (b < 0) = false) (g : 9223372036854775808 < wh) (w : World) : Calls Tryd.prog 14 #[.int .i64 a, .int .i64 b] w fun e w' => e = .returned (.tuple #[.int .i64 (-9223372036854775808), .int .i64 3]) ∧ w = w' := by
  obtain ⟨x, y, C, ca, cb⟩ := M.ex
  have HC := Lib.hid C
  have HA := Lib.hid ca
  have HB := Lib.hid cb
  clear C ca cb M
  go_enter Tryd.func14, Tryd.ntmps14
  go_wp2_with fail
  refine (HA.out _).mono ?_
  rintro e w1 ⟨rfl, rfl⟩
  go_wp2_with fail
  refine (HB.out _).mono ?_
  rintro e w1 ⟨rfl, rfl⟩
  go_wp2_with fail
  refine (HC.out _).mono ?_
  rintro e w1 ⟨rfl, rfl⟩
  clear HA HB HC
  go_wp2_with fail
  all_goals go_ret2
  all_goals exact ⟨rfl, rfl⟩

set_option maxHeartbeats 1000000 in
theorem rmulD_Bclt (a b hi lo up wh : Int) (M : RMulC a b hi lo) (h0 : (hi == 0) = false) (h1 : 0 < hi) (h2 : hi + 1 < 256) (l0 : 0 ≤ lo) (hu : IntKind.u64.wrap (lo + 255) = up) (cz : up < lo) (u0 : 0 ≤ up) (ho : bits BinOp.or IntKind.u64 ((hi + 1) * 72057594037927936) (up / 256) = wh) (ha : decide (a < 0) = true) (hb : decide (b < 0) = false) (g0 : 1 ≤ wh) (g : wh ≤ 9223372036854775808) (w : World) : Calls Tryd.prog 14 #[.int .i64 a, .int .i64 b] w fun e w' => e = .returned (.tuple #[.int .i64 (-wh), .int .i64 0]) ∧ w = w' := by
  obtain ⟨x, y, C, ca, cb⟩ := M.ex
  have HC := Lib.hid C
  have HA := Lib.hid ca
  have HB := Lib.hid cb
  clear C ca cb M
  go_enter Tryd.func14, Tryd.ntmps14
  go_wp2_with fail
  refine (HA.out _).mono ?_
  rintro e w1 ⟨rfl, rfl⟩
  go_wp2_with fail
  refine (HB.out _).mono ?_
  rintro e w1 ⟨rfl, rfl⟩
  go_wp2_with fail
  refine (HC.out _).mono ?_
  rintro e w1 ⟨rfl, rfl⟩
  clear HA HB HC
  go_wp2_with fail
  all_goals go_ret2
  all_goals exact ⟨ret2i (by first | rfl | omega | (simp only [IntKind.wrap_u64]; unfold wrap64; omega)), rfl⟩

set_option maxHeartbeats 1000000 in
theorem rmulD_0ct (a b lo up wh : Int) (M : RMulC a b 0 lo) (l0 : 0 ≤ lo) (l2 : (lo == 0) = false) (hu : IntKind.u64.wrap (lo + 255) = up) (cz : up < lo) (u0 : 0 ≤ up) (ho : bits BinOp.or IntKind.u64 72057594037927936 (up / 256) = wh) (ha : decide (a < 0) = true) (hb : decide (b < 0) = false) (g0 : 1 ≤ wh) (g : wh ≤ 9223372036854775808) (w : World) : Calls Tryd.prog 14 #[.int .i64 a, .int .i64 b] w fun e w' => e = .returned (.tuple #[.int .i64 (-wh), .int .i64 0]) ∧ w = w' := by
  obtain ⟨x, y, C, ca, cb⟩ := M.ex
  have HC := Lib.hid C
  have HA := Lib.hid ca
  have HB := Lib.hid cb
  clear C ca cb M
  go_enter Tryd.func14, Tryd.ntmps14
  go_wp2_with fail
  refine (HA.out _).mono ?_
  rintro e w1 ⟨rfl, rfl⟩
  go_wp2_with fail
  refine (HB.out _).mono ?_
  rintro e w1 ⟨rfl, rfl⟩
  go_wp2_with fail
  refine (HC.out _).mono ?_
  rintro e w1 ⟨rfl, rfl⟩
  clear HA HB HC
  go_wp2_with fail
  all_goals go_ret2
  all_goals exact ⟨ret2i (by first | rfl | omega | (simp only [IntKind.wrap_u64]; unfold wrap64; omega)), rfl⟩

set_option maxHeartbeats 1000000 in
theorem rmulD_00f (a b : Int) (M : RMulC a b 0 0) (ha : decide (a < 0) = false) (hb : decide (b < 0) = true) (w : World) : Calls Tryd.prog 14 #[.int .i64 a, .int .i64 b] w fun e w' => e = .returned (.tuple #[.int .i64 0, .int .i64 0]) ∧ w = w' := by
  obtain ⟨x, y, C, ca, cb⟩ := M.ex
  have HC := Lib.hid C
  have HA := Lib.hid ca
  have HB := Lib.hid cb
  clear C ca cb M
  go_enter Tryd.func14, Tryd.ntmps14
  go_wp2_with fail
  refine (HA.out _).mono ?_
  rintro e w1 ⟨rfl, rfl⟩
  go_wp2_with fail
  refine (HB.out _).mono ?_
  rintro e w1 ⟨rfl, rfl⟩
  go_wp2_with fail
  refine (HC.out _).mono ?_
  rintro e w1 ⟨rfl, rfl⟩
  clear HA HB HC
  go_wp2_with fail
  all_goals go_ret2
  all_goals exact ⟨ret2i (by rw [show bits BinOp.or IntKind.u64 0 0 = 0 by decide +kernel]; unfold wrap64; omega), rfl⟩

set_option maxHeartbeats 1000000 in
theorem rmulD_Azf (a b hi lo up : Int) (M : RMulC a b hi lo) (h0 : (hi == 0) = false) (h1 : 256 ≤ hi) (h2 : hi < 4611686018427387905) (h3 : 0 < hi) (l0 : 0 ≤ lo) (hu : IntKind.u64.wrap (lo + 255) = up) (cz : lo ≤ up) (u0 : 0 ≤ up) (ha : decide (a < 0) = false) (hb : decide (b < 0) = true) (w : World) : Calls Tryd.prog 14 #[.int .i64 a, .int .i64 b] w fun e w' => e = .returned (.tuple #[.int .i64 (-9223372036854775808), .int .i64 3]) ∧ w = w' := by
  obtain ⟨x, y, C, ca, cb⟩ := M.ex
  have HC := Lib.hid C
  have HA := Lib.hid ca
  have HB := Lib.hid cb
  clear C ca cb M
  go_enter Tryd.func14, Tryd.ntmps14
  go_wp2_with fail
  refine (HA.out _).mono ?_
  rintro e w1 ⟨rfl, rfl⟩
  go_wp2_with fail
  refine (HB.out _).mono ?_
  rintro e w1 ⟨rfl, rfl⟩
  go_wp2_with fail
  refine (HC.out _).mono ?_
  rintro e w1 ⟨rfl, rfl⟩
  clear HA HB HC
  go_wp2_with fail
  all_goals go_ret2
  all_goals exact ⟨rfl, rfl⟩

set_option maxHeartbeats 1000000 in
theorem rmulD_Bzgf (a b hi lo up wh : Int) (M : RMulC a b hi lo) (h0 : (hi == 0) = false) (h1 : 0 < hi) (h2 : hi < 256) (l0 : 0 ≤ lo) (hu : IntKind.u64.wrap (lo + 255) = up) (cz : lo ≤ up) (u0 : 0 ≤ up) (ho : bits BinOp.or IntKind.u64 (hi * 72057594037927936) (up / 256) = wh) (ha : decide (a < 0) = false) (hb : decide (b < 0) = true) (g : 9223372036854775808 < wh) (w : World) : Calls Tryd.prog 14 #[.int .i64 a, .int .i64 b] w fun e w' => e = .returned (.tuple #[.int .i64 (-9223372036854775808), .int .i64 3]) ∧ w = w' := by
  obtain ⟨x, y, C, ca, cb⟩ := M.ex
  have HC := Lib.hid C
  have HA := Lib.hid ca
  have HB := Lib.hid cb
  clear C ca cb M
  go_enter Tryd.func14, Tryd.ntmps14
  go_wp2_with fail
  refine (HA.out _).mono ?_
  rintro e w1 ⟨rfl, rfl⟩
  go_wp2_with fail
  refine (HB.out _).mono ?_
  rintro e w1 ⟨rfl, rfl⟩
  go_wp2_with fail
  refine (HC.out _).mono ?_
  rintro e w1 ⟨rfl, rfl⟩
  clear HA HB HC
  go_wp2_with fail
  all_goals go_ret2
  all_goals exact ⟨rfl, rfl⟩

set_option maxHeartbeats 1000000 in
theorem rmulD_Bzlf (a b hi lo up wh : Int) (M : RMulC a b hi lo) (h0 : (hi == 0) = false) (h1 : 0 < hi) (h2 : hi < 256) (l0 : 0 ≤ lo) (hu : IntKind.u64.wrap (lo + 255) = up) (cz : lo ≤ up) (u0 : 0 ≤ up) (ho : bits BinOp.or IntKind.u64 (hi * 72057594037927936) (up / 256) = wh) (ha : decide (a < 0) = false) (hb : decide (b < 0) = true) (g0 : 1 ≤ wh) (g : wh ≤ 9223372036854775808) (w : World) : Calls Tryd.prog 14 #[.int .i64 a, .int .i64 b] w fun e w' => e = .returned (.tuple #[.int .i64 (-wh), .int .i64 0]) ∧ w = w' := by
  obtain ⟨x, y, C, ca, cb⟩ := M.ex
  have HC := Lib.hid C
  have HA := Lib.hid ca
  have HB := Lib.hid cb
  clear C ca cb M
  go_enter Tryd.func14, Tryd.ntmps14
  go_wp2_with fail
  refine (HA.out _).mono ?_
  rintro e w1 ⟨rfl, rfl⟩
  go_wp2_with fail
  refine (HB.out _).mono ?_
  rintro e w1 ⟨rfl, rfl⟩
  go_wp2_with fail
  refine (HC.out _).mono ?_
  rintro e w1 ⟨rfl, rfl⟩
  clear HA HB HC
  go_wp2_with fail
  all_goals go_ret2
  all_goals exact ⟨ret2i (by first | rfl | omega | (simp only [IntKind.wrap_u64]; unfold wrap64; omega)), rfl⟩

set_option maxHeartbeats 1000000 in
theorem rmulD_0zf (a b lo up wh : Int) (M : RMulC a b 0 lo) (l0 : 0 ≤ lo) (l2 : (lo == 0) = false) (hu : IntKind.u64.wrap (lo + 255) = up) (cz : lo ≤ up) (u0 : 0 ≤ up) (ho : bits BinOp.or IntKind.u64 0 (up / 256) = wh) (ha : decide (a < 0) = false) (hb : decide (b < 0) = true) (g0 : 1 ≤ wh) (g : wh ≤ 9223372036854775808) (w : World) : Calls Tryd.prog 14 #[.int .i64 a, .int .i64 b] w fun e w' => e = .returned (.tuple #[.int .i64 (-wh), .int .i64 0]) ∧ w = w' := by
  obtain ⟨x, y, C, ca, cb⟩ := M.ex
  have HC := Lib.hid C
  have HA := Lib.hid ca
  have HB := Lib.hid cb
  clear C ca cb M
  go_enter Tryd.func14, Tryd.ntmps14
  go_wp2_with fail
  refine (HA.out _).mono ?_
  rintro e w1 ⟨rfl, rfl⟩
  go_wp2_with fail
  refine (HB.out _).mono ?_
  rintro e w1 ⟨rfl, rfl⟩
  go_wp2_with fail
  refine (HC.out _).mono ?_
  rintro e w1 ⟨rfl, rfl⟩
  clear HA HB HC
  go_wp2_with fail
  all_goals go_ret2
  all_goals exact ⟨ret2i (by first | rfl | omega | (simp only [IntKind.wrap_u64]; unfold wrap64; omega)), rfl⟩

set_option maxHeartbeats 1000000 in
theorem rmulD_Acf (a b hi lo up : Int) (M : RMulC a b hi lo) (h0 : (hi == 0) = false) (h1 : 256 ≤ hi + 1) (h2 : hi < 4611686018427387905) (h3 : 0 < hi) (l0 : 0 ≤ lo) (hu : IntKind.u64.wrap (lo + 255) = up) (cz : up < lo) (u0 : 0 ≤ up) (ha : decide (a < 0) = false) (hb : decide (b < 0) = true) (w : World) : Calls Tryd.prog 14 #[.int .i64 a, .int .i64 b] w fun e w' => e = .returned (.tuple #[.int .i64 (-9223372036854775808), .int .i64 3]) ∧ w = w' := by
  obtain ⟨x, y, C, ca, cb⟩ := M.ex
  have HC := Lib.hid C
  have HA := Lib.hid ca
  have HB := Lib.hid cb
  clear C ca cb M
  go_enter Tryd.func14, Tryd.ntmps14
  go_wp2_with fail
  refine (HA.out _).mono ?_
  rintro e w1 ⟨rfl, rfl⟩
  go_wp2_with fail
  refine (HB.out _).mono ?_
  rintro e w1 ⟨rfl, rfl⟩
  go_wp2_with fail
  refine (HC.out _).mono ?_
  rintro e w1 ⟨rfl, rfl⟩
  clear HA HB HC
  go_wp2_with fail
  all_goals go_ret2
  all_goals exact ⟨rfl, rfl⟩

set_option maxHeartbeats 1000000 in
theorem rmulD_Bcgf (a b hi lo up wh : Int) (M : RMulC a b hi lo) (h0 : (hi == 0) = false) (h1 : 0 < hi) (h2 : hi + 1 < 256) (l0 : 0 ≤ lo) (hu : IntKind.u64.wrap (lo + 255) = up) (cz : up < lo) (u0 : 0 ≤ up) (ho : bits BinOp.or IntKind.u64 ((hi + 1) * 72057594037927936) (up / 256) = wh) (ha : decide (a < 0) = false) (hb : decide (b < 0) = true) (g : 9223372036854775808 < wh) (w : World) : Calls Tryd.prog 14 #[.int .i64 a, .int .i64 b] w fun e w' => e = .returned (.tuple #[.int .i64 (-9223372036854775808), .int .i64 3]) ∧ w = w' := by
  obtain ⟨x, y, C, ca, cb⟩ := M.ex
  have HC := Lib.hid C
  have HA := Lib.hid ca
  have HB := Lib.hid cb
  clear C ca cb M
  go_enter Tryd.func14, Tryd.ntmps14
  go_wp2_with fail
  refine (HA.out _).mono ?_
  rintro e w1 ⟨rfl, rfl⟩
  go_wp2_with fail
  refine (HB.out _).mono ?_
  rintro e w1 ⟨rfl, rfl⟩
  go_wp2_with fail
  refine (HC.out _).mono ?_
  rintro e w1 ⟨rfl, rfl⟩
  clear HA HB HC
  go_wp2_with fail
  all_goals go_ret2
  all_goals exact ⟨rfl, rfl⟩

set_option maxHeartbeats 1000000 in
theorem rmulD_Bclf (a b hi lo up wh : Int) (M : RMulC a b hi lo) (h0 : (hi == 0) = false) (h1 : 0 < hi) (h2 : hi + 1 < 256) (l0 : 0 ≤ lo) (hu : IntKind.u64.wrap (lo + 255) = up) (cz : up < lo) (u0 : 0 ≤ up) (ho : bits BinOp.or IntKind.u64 ((hi + 1) * 72057594037927936) (up / 256) = wh) (ha : decide (a < 0) = false) (hb : decide (b < 0) = true) (g0 : 1 ≤ wh) (g : wh ≤ 9223372036854775808) (w : World) : Calls Tryd.prog 14 #[.int .i64 a, .int .i64 b] w fun e w' => e = .returned (.tuple #[.int .i64 (-wh), .int .i64 0]) ∧ w = w' := by
  obtain ⟨x, y, C, ca, cb⟩ := M.ex
  have HC := Lib.hid C
  have HA := Lib.hid ca
  have HB := Lib.hid cb
  clear C ca cb M
  go_enter Tryd.func14, Tryd.ntmps14
  go_wp2_with fail
  refine (HA.out _).mono ?_
  rintro e w1 ⟨rfl, rfl⟩
  go_wp2_with fail
  refine (HB.out _).mono ?_
  rintro e w1 ⟨rfl, rfl⟩
  go_wp2_with fail
  refine (HC.out _).mono ?_
  rintro e w1 ⟨rfl, rfl⟩
  clear HA HB HC
  go_wp2_with fail
  all_goals go_ret2
  all_goals exact ⟨ret2i (by first | rfl | omega | (simp only [IntKind.wrap_u64]; unfold wrap64; omega)), rfl⟩

set_option maxHeartbeats 1000000 in
theorem rmulD_0cf (a b lo up wh : Int) (M : RMulC a b 0 lo) (l0 : 0 ≤ lo) (l2 : (lo == 0) = false) (hu : IntKind.u64.wrap (lo + 255) = up) (cz : up < lo) (u0 : 0 ≤ up) (ho : bits BinOp.or IntKind.u64 72057594037927936 (up / 256) = wh) (ha : decide (a < 0) = false) (hb : decide (b < 0) = true) (g0 : 1 ≤ wh) (g : wh ≤ 9223372036854775808) (w : World) : Calls Tryd.prog 14 #[.int .i64 a, .int .i64 b] w fun e w' => e = .returned (.tuple #[.int .i64 (-wh), .int .i64 0]) ∧ w = w' := by
  obtain ⟨x, y, C, ca, cb⟩ := M.ex
  have HC := Lib.hid C
  have HA := Lib.hid ca
  have HB := Lib.hid cb
  clear C ca cb M
  go_enter Tryd.func14, Tryd.ntmps14
  go_wp2_with fail
  refine (HA.out _).mono ?_
  rintro e w1 ⟨rfl, rfl⟩
  go_wp2_with fail
  refine (HB.out _).mono ?_
  rintro e w1 ⟨rfl, rfl⟩
  go_wp2_with fail
  refine (HC.out _).mono ?_
  rintro e w1 ⟨rfl, rfl⟩
  clear HA HB HC
  go_wp2_with fail
  all_goals go_ret2
  all_goals exact ⟨ret2i (by first | rfl | omega | (simp only [IntKind.wrap_u64]; unfold wrap64; omega)), rfl⟩
end Go.Proofs.YtoihknngllmogaaDoor
