/- Walks: Mul of the num package. -/
import Derived.Test.YtoihknngllmogaaDoorW3
import Derived.Laws.BitsAllLaws
import Derived.Laws.BitsLemmas
namespace Go.Proofs.YtoihknngllmogaaDoor
open Go.RowKit
set_option linter.unusedVariables false
set_option linter.unusedSimpArgs false

theorem ret22 {k k' : IntKind} {a b c d : Int} (h : a = b) (h' : c = d) : Ending.returned (.tuple #[.int k a, .int k' c]) = .returned (.tuple #[.int k b, .int k' d]) := by rw [h, h']

/-- The calls that Mul makes. -/
structure MulC (a b hi lo : Int) : Prop where
  ex : ∃ x y : Nat, (∀ W : World, Calls Tryd.prog 26 #[.int .u64 x, .int .u64 y] W fun e w' => e = .returned (.tuple #[.int .u64 hi, .int .u64 lo]) ∧ W = w') ∧
    (∀ W : World, Calls Tryd.prog 27 #[.int .i64 a] W fun e w' => e = .returned (.int .u64 x) ∧ W = w') ∧
    (∀ W : World, Calls Tryd.prog 27 #[.int .i64 b] W fun e w' => e = .returned (.int .u64 y) ∧ W = w')

set_option maxHeartbeats 1000000 in
theorem mulS_At (a b hi lo : Int) (M : MulC a b hi lo) (h1 : 256 ≤ hi) (h2 : hi < 4611686018427387905) (l0 : 0 ≤ lo) (ha : decide (a < 0) = true) (hb : decide (b < 0) = true) (w : World) : Calls Tryd.prog 13 #[.int .i64 a, .int .i64 b] w fun e w' => e = .returned (.tuple #[.int .i64 9223372036854775807, .int .i64 3]) ∧ w = w' := by
  obtain ⟨x, y, C, ca, cb⟩ := M.ex
  have HC := Lib.hid C
  have HA := Lib.hid ca
  have HB := Lib.hid cb
  clear C ca cb M
  go_enter Tryd.func13, Tryd.ntmps13
  go_wp2_with fail
  refine (HA.out _).mono ?_
  rintro e w1 ⟨rfl, rfl⟩
  go_wp2_with fail
  refine (HB.out _).mono ?_
  rintro e w1 ⟨rfl, rfl⟩
  go_wp2_with fail
  refine (HC.out _).mono ?_
  rintro e w1 ⟨rfl, rfl⟩
  clear HA HB HC
  go_wp2_with fail
  all_goals go_ret2
  all_goals exact ⟨rfl, rfl⟩

set_option maxHeartbeats 1000000 in
theorem mulS_Bgt (a b hi lo wh : Int) (M : MulC a b hi lo) (h1 : 0 < hi) (h2 : hi < 256) (l0 : 0 ≤ lo) (ho : bits BinOp.or IntKind.u64 (lo / 256) (hi * 72057594037927936) = wh) (g : 9223372036854775807 < wh) (ha : decide (a < 0) = true) (hb : decide (b < 0) = true) (w : World) : Calls Tryd.prog 13 #[.int .i64 a, .int .i64 b] w fun e w' => e = .returned (.tuple #[.int .i64 9223372036854775807, .int .i64 3]) ∧ w = w' := by
  obtain ⟨x, y, C, ca, cb⟩ := M.ex
  have HC := Lib.hid C
  have HA := Lib.hid ca
  have HB := Lib.hid cb
  clear C ca cb M
  go_enter Tryd.func13, Tryd.ntmps13
  go_wp2_with fail
  refine (HA.out _).mono ?_
  rintro e w1 ⟨rfl, rfl⟩
  go_wp2_with fail
  refine (HB.out _).mono ?_
  rintro e w1 ⟨rfl, rfl⟩
  go_wp2_with fail
  refine (HC.out _).mono ?_
  rintro e w1 ⟨rfl, rfl⟩
  clear HA HB HC
  go_wp2_with fail
  all_goals go_ret2
  all_goals exact ⟨rfl, rfl⟩

set_option maxHeartbeats 1000000 in
theorem mulS_Blt (a b hi lo wh : Int) (M : MulC a b hi lo) (h1 : 0 < hi) (h2 : hi < 256) (l0 : 0 ≤ lo) (ho : bits BinOp.or IntKind.u64 (lo / 256) (hi * 72057594037927936) = wh) (g0 : 0 ≤ wh) (g : wh ≤ 9223372036854775807) (ha : decide (a < 0) = true) (hb : decide (b < 0) = true) (w : World) : Calls Tryd.prog 13 #[.int .i64 a, .int .i64 b] w fun e w' => e = .returned (.tuple #[.int .i64 wh, .int .i64 0]) ∧ w = w' := by
  obtain ⟨x, y, C, ca, cb⟩ := M.ex
  have HC := Lib.hid C
  have HA := Lib.hid ca
  have HB := Lib.hid cb
  clear C ca cb M
  go_enter Tryd.func13, Tryd.ntmps13
  go_wp2_with fail
  refine (HA.out _).mono ?_
  rintro e w1 ⟨rfl, rfl⟩
  go_wp2_with fail
  refine (HB.out _).mono ?_
  rintro e w1 ⟨rfl, rfl⟩
  go_wp2_with fail
  refine (HC.out _).mono ?_
  rintro e w1 ⟨rfl, rfl⟩
  clear HA HB HC
  go_wp2_with fail
  all_goals go_ret2
  all_goals exact ⟨rfl, rfl⟩

set_option maxHeartbeats 1000000 in
theorem mulS_0t (a b lo wh : Int) (M : MulC a b 0 lo) (l0 : 0 ≤ lo) (ho : bits BinOp.or IntKind.u64 (lo / 256) 0 = wh) (g0 : 0 ≤ wh) (g : wh ≤ 9223372036854775807) (ha : decide (a < 0) = true) (hb : decide (b < 0) = true) (w : World) : Calls Tryd.prog 13 #[.int .i64 a, .int .i64 b] w fun e w' => e = .returned (.tuple #[.int .i64 wh, .int .i64 0]) ∧ w = w' := by
  obtain ⟨x, y, C, ca, cb⟩ := M.ex
  have HC := Lib.hid C
  have HA := Lib.hid ca
  have HB := Lib.hid cb
  clear C ca cb M
  go_enter Tryd.func13, Tryd.ntmps13
  go_wp2_with fail
  refine (HA.out _).mono ?_
  rintro e w1 ⟨rfl, rfl⟩
  go_wp2_with fail
  refine (HB.out _).mono ?_
  rintro e w1 ⟨rfl, rfl⟩
  go_wp2_with fail
  refine (HC.out _).mono ?_
  rintro e w1 ⟨rfl, rfl⟩
  clear HA HB HC
  go_wp2_with fail
  all_goals go_ret2
  all_goals exact ⟨rfl, rfl⟩

set_option maxHeartbeats 1000000 in
theorem mulS_Af (a b hi lo : Int) (M : MulC a b hi lo) (h1 : 256 ≤ hi) (h2 : hi < 4611686018427387905) (l0 : 0 ≤ lo) (ha : decide (a < 0) = false) (hb : decide (b < 0) = false) (w : World) : Calls Tryd.prog 13 #[.int .i64 a, .int .i64 b] w fun e w' => e = .returned (.tuple #[.int .i64 9223372036854775807, .int .i64 3]) ∧ w = w' := by
  obtain ⟨x, y, C, ca, cb⟩ := M.ex
  have HC := Lib.hid C
  have HA := Lib.hid ca
  have HB := Lib.hid cb
  clear C ca cb M
  go_enter Tryd.func13, Tryd.ntmps13
  go_wp2_with fail
  refine (HA.out _).mono ?_
  rintro e w1 ⟨rfl, rfl⟩
  go_wp2_with fail
  refine (HB.out _).mono ?_
  rintro e w1 ⟨rfl, rfl⟩
  go_wp2_with fail
  refine (HC.out _).mono ?_
  rintro e w1 ⟨rfl, rfl⟩
  clear HA HB HC
  go_wp2_with fail
  all_goals go_ret2
  all_goals exact ⟨rfl, rfl⟩

set_option maxHeartbeats 1000000 in
theorem mulS_Bgf (a b hi lo wh : Int) (M : MulC a b hi lo) (h1 : 0 < hi) (h2 : hi < 256) (l0 : 0 ≤ lo) (ho : bits BinOp.or IntKind.u64 (lo / 256) (hi * 72057594037927936) = wh) (g : 9223372036854775807 < wh) (ha : decide (a < 0) = false) (hb : decide (b < 0) = false) (w : World) : Calls Tryd.prog 13 #[.int .i64 a, .int .i64 b] w fun e w' => e = .returned (.tuple #[.int .i64 9223372036854775807, .int .i64 3]) ∧ w = w' := by
  obtain ⟨x, y, C, ca, cb⟩ := M.ex
  have HC := Lib.hid C
  have HA := Lib.hid ca
  have HB := Lib.hid cb
  clear C ca cb M
  go_enter Tryd.func13, Tryd.ntmps13
  go_wp2_with fail
  refine (HA.out _).mono ?_
  rintro e w1 ⟨rfl, rfl⟩
  go_wp2_with fail
  refine (HB.out _).mono ?_
  rintro e w1 ⟨rfl, rfl⟩
  go_wp2_with fail
  refine (HC.out _).mono ?_
  rintro e w1 ⟨rfl, rfl⟩
  clear HA HB HC
  go_wp2_with fail
  all_goals go_ret2
  all_goals exact ⟨rfl, rfl⟩

set_option maxHeartbeats 1000000 in
theorem mulS_Blf (a b hi lo wh : Int) (M : MulC a b hi lo) (h1 : 0 < hi) (h2 : hi < 256) (l0 : 0 ≤ lo) (ho : bits BinOp.or IntKind.u64 (lo / 256) (hi * 72057594037927936) = wh) (g0 : 0 ≤ wh) (g : wh ≤ 9223372036854775807) (ha : decide (a < 0) = false) (hb : decide (b < 0) = false) (w : World) : Calls Tryd.prog 13 #[.int .i64 a, .int .i64 b] w fun e w' => e = .returned (.tuple #[.int .i64 wh, .int .i64 0]) ∧ w = w' := by
  obtain ⟨x, y, C, ca, cb⟩ := M.ex
  have HC := Lib.hid C
  have HA := Lib.hid ca
  have HB := Lib.hid cb
  clear C ca cb M
  go_enter Tryd.func13, Tryd.ntmps13
  go_wp2_with fail
  refine (HA.out _).mono ?_
  rintro e w1 ⟨rfl, rfl⟩
  go_wp2_with fail
  refine (HB.out _).mono ?_
  rintro e w1 ⟨rfl, rfl⟩
  go_wp2_with fail
  refine (HC.out _).mono ?_
  rintro e w1 ⟨rfl, rfl⟩
  clear HA HB HC
  go_wp2_with fail
  all_goals go_ret2
  all_goals exact ⟨rfl, rfl⟩

set_option maxHeartbeats 1000000 in
theorem mulS_0f (a b lo wh : Int) (M : MulC a b 0 lo) (l0 : 0 ≤ lo) (ho : bits BinOp.or IntKind.u64 (lo / 256) 0 = wh) (g0 : 0 ≤ wh) (g : wh ≤ 9223372036854775807) (ha : decide (a < 0) = false) (hb : decide (b < 0) = false) (w : World) : Calls Tryd.prog 13 #[.int .i64 a, .int .i64 b] w fun e w' => e = .returned (.tuple #[.int .i64 wh, .int .i64 0]) ∧ w = w' := by
  obtain ⟨x, y, C, ca, cb⟩ := M.ex
  have HC := Lib.hid C
  have HA := Lib.hid ca
  have HB := Lib.hid cb
  clear C ca cb M
  go_enter Tryd.func13, Tryd.ntmps13
  go_wp2_with fail
  refine (HA.out _).mono ?_
  rintro e w1 ⟨rfl, rfl⟩
  go_wp2_with fail
  refine (HB.out _).mono ?_
  rintro e w1 ⟨rfl, rfl⟩
  go_wp2_with fail
  refine (HC.out _).mono ?_
  rintro e w1 ⟨rfl, rfl⟩
  clear HA HB HC
  go_wp2_with fail
  all_goals go_ret2
  all_goals exact ⟨rfl, rfl⟩
end Go.Proofs.YtoihknngllmogaaDoor
