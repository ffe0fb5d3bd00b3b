/- Plain facts on reading hexadecimal digits. -/
import Derived.Test.YtnhgejmdcfpeaaaDoorPlainHex
import Derived.Lib.AtoiAllMem
import Derived.Laws.Closers25b
namespace Go.Proofs.YtnhgejmdcfpeaaaDoor
open Go Go.RowKit
set_option linter.unusedVariables false
set_option linter.unusedSimpArgs false

/-- The value of a hexadecimal digit in either case; 16 if it is none. -/
def hxv (c : UInt8) : Nat := if 48 ≤ c.toNat ∧ c.toNat ≤ 57 then c.toNat - 48 else if 97 ≤ c.toNat ∧ c.toNat ≤ 102 then c.toNat - 87 else if 65 ≤ c.toNat ∧ c.toNat ≤ 70 then c.toNat - 55 else 16
def p16 (acc : Nat) : List UInt8 → Lib.NumEnd Nat
  | [] => .ok acc
  | c :: r => if hxv c = 16 then .syntax else if 1152921504606846976 ≤ acc then .range else p16 (acc * 16 + hxv c) r

def lowB (c : Nat) : Nat := (BitVec.ofNat 8 c ||| 32#8).toNat
theorem low_eq (c : UInt8) : bits .or .u8 (c.toNat : Int) 32 = (lowB c.toNat : Int) := by
  show IntKind.u8.wrap ((BitVec.ofInt 8 (c.toNat : Int) ||| BitVec.ofInt 8 32).toNat : Int) = _
  rw [BitVec.ofInt_natCast]
  unfold lowB
  have := (BitVec.ofNat 8 c.toNat ||| 32#8).isLt
  show IntKind.u8.wrap ((BitVec.ofNat 8 c.toNat ||| 32#8).toNat : Int) = _
  generalize (BitVec.ofNat 8 c.toNat ||| 32#8).toNat = m at *
  simp [IntKind.wrap, IntKind.bits, IntKind.signed]
  omega
theorem low_class (c : UInt8) :
    (48 ≤ c.toNat ∧ c.toNat ≤ 57 ∧ hxv c = c.toNat - 48) ∨
    (57 < c.toNat ∧ c.toNat ≠ 95 ∧ 97 ≤ lowB c.toNat ∧ lowB c.toNat ≤ 102 ∧ hxv c = lowB c.toNat - 87) ∨
    (57 < c.toNat ∧ c.toNat ≠ 95 ∧ 103 ≤ lowB c.toNat ∧ lowB c.toNat ≤ 122 ∧ hxv c = 16) ∨
    ((c.toNat < 48 ∨ 57 < c.toNat) ∧ (lowB c.toNat < 97 ∨ 122 < lowB c.toNat) ∧ lowB c.toNat ≤ 255 ∧ hxv c = 16) := by
  have h : ∀ n : Fin 256, (48 ≤ n.val ∧ n.val ≤ 57 ∧ hxv (UInt8.ofNat n.val) = n.val - 48) ∨
    (57 < n.val ∧ n.val ≠ 95 ∧ 97 ≤ lowB n.val ∧ lowB n.val ≤ 102 ∧ hxv (UInt8.ofNat n.val) = lowB n.val - 87) ∨
    (57 < n.val ∧ n.val ≠ 95 ∧ 103 ≤ lowB n.val ∧ lowB n.val ≤ 122 ∧ hxv (UInt8.ofNat n.val) = 16) ∨
    ((n.val < 48 ∨ 57 < n.val) ∧ (lowB n.val < 97 ∨ 122 < lowB n.val) ∧ lowB n.val ≤ 255 ∧ hxv (UInt8.ofNat n.val) = 16) := by decide +kernel
  have := h ⟨c.toNat, c.toNat_lt⟩
  simpa using this
theorem hxv_le (c : UInt8) : hxv c ≤ 16 := by
  unfold hxv; split <;> (try split) <;> (try split) <;> omega
end Go.Proofs.YtnhgejmdcfpeaaaDoor
