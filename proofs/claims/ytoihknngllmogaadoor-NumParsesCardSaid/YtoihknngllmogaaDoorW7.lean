/- Walks: the product of the reference of the num package. -/
import Derived.Test.YtoihknngllmogaaDoorW6
namespace Go.Proofs.YtoihknngllmogaaDoor
open Go.RowKit
set_option linter.unusedVariables false
set_option linter.unusedSimpArgs false

theorem and_low (x : Nat) (h : x < 18446744073709551616) : bits BinOp.and IntKind.u64 (x : Int) 4294967295 = ((x % 4294967296 : Nat) : Int) := by
  have := bits_and_u64_nat x 4294967295 h (by omega)
  rw [show ((4294967295 : Nat) : Int) = 4294967295 from rfl] at this
  rw [this, show x &&& 4294967295 = x &&& (2 ^ 32 - 1) from rfl, Nat.and_two_pow_sub_one_eq_mod]

theorem prod_plain (x y : Nat) (hx : x < 18446744073709551616) (hy : y < 18446744073709551616) :
    (IntKind.u64.wrap (IntKind.u64.wrap (IntKind.u64.wrap (((x / 4294967296 : Nat) : Int) * ((y / 4294967296 : Nat) : Int)) +
        IntKind.u64.wrap (IntKind.u64.wrap (((x / 4294967296 : Nat) : Int) * ((y % 4294967296 : Nat) : Int)) + IntKind.u64.wrap (((x % 4294967296 : Nat) : Int) * ((y % 4294967296 : Nat) : Int)) / 4294967296) / 4294967296) +
      IntKind.u64.wrap (bits BinOp.and IntKind.u64 (IntKind.u64.wrap (IntKind.u64.wrap (((x / 4294967296 : Nat) : Int) * ((y % 4294967296 : Nat) : Int)) + IntKind.u64.wrap (((x % 4294967296 : Nat) : Int) * ((y % 4294967296 : Nat) : Int)) / 4294967296)) 4294967295 +
        IntKind.u64.wrap (((x % 4294967296 : Nat) : Int) * ((y / 4294967296 : Nat) : Int))) / 4294967296)) = ((x * y / 18446744073709551616 : Nat) : Int) := by
  have e : x * y = (x / 4294967296) * (y / 4294967296) * 18446744073709551616 + ((x / 4294967296) * (y % 4294967296) + (x % 4294967296) * (y / 4294967296)) * 4294967296 + (x % 4294967296) * (y % 4294967296) := by
    conv => lhs; rw [← Nat.div_add_mod x 4294967296, ← Nat.div_add_mod y 4294967296]
    rw [Nat.add_mul, Nat.mul_add, Nat.mul_add, Nat.mul_mul_mul_comm, Nat.add_mul, Nat.mul_comm (4294967296 * 4294967296), Nat.mul_assoc 4294967296, Nat.mul_comm 4294967296, Nat.mul_left_comm (x % 4294967296), Nat.mul_comm 4294967296]
    omega
  have m1 : (x / 4294967296) * (y / 4294967296) ≤ 4294967295 * 4294967295 := Nat.mul_le_mul (by omega) (by omega)
  have m2 : (x / 4294967296) * (y % 4294967296) ≤ 4294967295 * 4294967295 := Nat.mul_le_mul (by omega) (by omega)
  have m3 : (x % 4294967296) * (y / 4294967296) ≤ 4294967295 * 4294967295 := Nat.mul_le_mul (by omega) (by omega)
  have m4 : (x % 4294967296) * (y % 4294967296) ≤ 4294967295 * 4294967295 := Nat.mul_le_mul (by omega) (by omega)
  have hlt : x * y < 18446744073709551616 * 18446744073709551616 := Nat.mul_lt_mul'' hx hy
  rw [e] at hlt ⊢
  clear e
  simp only [← Int.natCast_mul]
  generalize (x / 4294967296) * (y / 4294967296) = p11 at *
  generalize (x / 4294967296) * (y % 4294967296) = p10 at *
  generalize (x % 4294967296) * (y / 4294967296) = p01 at *
  generalize (x % 4294967296) * (y % 4294967296) = p00 at *
  have ht : IntKind.u64.wrap (IntKind.u64.wrap (p10 : Int) + IntKind.u64.wrap (p00 : Int) / 4294967296) = ((p10 + p00 / 4294967296 : Nat) : Int) := by
    rw [IntKind.wrap_u64, IntKind.wrap_u64, IntKind.wrap_u64]; omega
  rw [ht, and_low _ (by omega)]
  rw [IntKind.wrap_u64, IntKind.wrap_u64, IntKind.wrap_u64, IntKind.wrap_u64, IntKind.wrap_u64]
  omega

theorem prod_any (x y : Nat) (hx : Hid (x < 18446744073709551616)) (hy : Hid (y < 18446744073709551616)) (w : World) :
    Calls Tryd.prog 28 #[.int .u64 x, .int .u64 y] w fun e w' => e = .returned (.tuple #[.int .u64 ((x * y / 18446744073709551616 : Nat) : Int), .int .u64 ((x * y % 18446744073709551616 : Nat) : Int)]) ∧ w = w' := by
  have ha0 := and_low x hx
  have hb0 := and_low y hy
  have ha1 : (x : Int) / 4294967296 = ((x / 4294967296 : Nat) : Int) := by omega
  have hb1 : (y : Int) / 4294967296 = ((y / 4294967296 : Nat) : Int) := by omega
  have hpl := prod_plain x y hx hy
  have hmd : IntKind.u64.wrap ((x : Int) * (y : Int)) = ((x * y % 18446744073709551616 : Nat) : Int) := by
    rw [← Int.natCast_mul, IntKind.wrap_u64]; omega
  have HP := Lib.hid hpl
  have HM := Lib.hid hmd
  clear hpl hmd
  generalize ((x / 4294967296 : Nat) : Int) = a1 at *
  generalize ((x % 4294967296 : Nat) : Int) = a0 at *
  generalize ((y / 4294967296 : Nat) : Int) = b1 at *
  generalize ((y % 4294967296 : Nat) : Int) = b0 at *
  go_enter Tryd.func28, Tryd.ntmps28
  go_wp2
  go_ret2
  exact ⟨ret22 HP.out HM.out, rfl⟩
end Go.Proofs.YtoihknngllmogaaDoor
