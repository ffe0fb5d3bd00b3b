/- Walks: the reference's rows. -/
import Derived.Test.YtmiceolkmiiahaaDoorW20
namespace Go.Proofs.YtmiceolkmiiahaaDoor
open Go.RowKit
set_option linter.unusedVariables false
set_option linter.unusedSimpArgs false
set_option maxRecDepth 100000
set_option maxHeartbeats 32000000

def RrRel (w1 : World) (W : Int) (cs : List Cel) (RA RB : List UInt8) (a b i : Value) (wr : World) : Prop :=
  ∃ (k : Nat) (A B : List UInt8), a = .string (str A) ∧ b = .string (str B) ∧ i = .int .i64 (k : Int) ∧ k ≤ cs.length ∧ A.length ≤ 2 * k ∧ B.length ≤ 2 * k ∧ A ++ rowsL kindC W k (cs.drop k) = RA ∧ B ++ rowsL highC W k (cs.drop k) = RB ∧ Below w1.heap.size w1 wr
theorem sign_at (k : Int) (h : 1 ≤ k ∧ k ≤ 5) (c : Cel) (hc : c.k = k) : (⟨#[46, 126, 35, 84, 42]⟩ : ByteArray).extract (k.toNat - 1) k.toNat = str [kindC c] := by
  unfold kindC
  rw [hc]
  obtain rfl | rfl | rfl | rfl | rfl : k = 1 ∨ k = 2 ∨ k = 3 ∨ k = 4 ∨ k = 5 := by omega
  all_goals decide +kernel
theorem high_at (k : Int) (h : 0 ≤ k ∧ k ≤ 3) (c : Cel) (hc : c.h = k) : (⟨#[48, 49, 50, 51, 52, 53, 54, 55, 56, 57]⟩ : ByteArray).extract k.toNat (k + 1).toNat = str [highC c] := by
  unfold highC
  rw [hc]
  obtain rfl | rfl | rfl | rfl : k = 0 ∨ k = 1 ∨ k = 2 ∨ k = 3 := by omega
  all_goals decide +kernel
end Go.Proofs.YtmiceolkmiiahaaDoor
