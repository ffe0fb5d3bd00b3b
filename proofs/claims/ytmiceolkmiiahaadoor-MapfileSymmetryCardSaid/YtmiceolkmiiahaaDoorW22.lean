/- Walks: the reference's Print. -/
import Derived.Test.YtmiceolkmiiahaaDoorW21
namespace Go.Proofs.YtmiceolkmiiahaaDoor
open Go.RowKit
set_option linter.unusedVariables false
set_option linter.unusedSimpArgs false
set_option maxRecDepth 100000
set_option maxHeartbeats 32000000

def itS (x : Int) : ByteArray := str (Lib.itoa x)
def RpRel (w2 : World) (W : Int) (cs : List Cel) (R : List UInt8) (s i : Value) (wr : World) : Prop :=
  ∃ (k : Nat) (acc : List UInt8), s = .string (str acc) ∧ i = .int .i64 (k : Int) ∧ k ≤ cs.length ∧ acc.length ≤ 300000 + 100 * k ∧ acc ++ amountsL W k (cs.drop k) = R ∧ Below w2.heap.size w2 wr
def RsRel (w2 : World) (ps : List Po) (R : List UInt8) (s i : Value) (wr : World) : Prop :=
  ∃ (k : Nat) (acc : List UInt8), s = .string (str acc) ∧ i = .int .i64 (k : Int) ∧ k ≤ ps.length ∧ acc.length ≤ 500000 + 100 * k ∧ acc ++ startsL (ps.drop k) = R ∧ Below w2.heap.size w2 wr
theorem itoa_sz (x : Int) (h : 0 ≤ x ∧ x ≤ 9223372036854775807) : (str (Lib.itoa x)).size ≤ 21 := by rw [str_size]; exact Lib.itoa_length_le x (by omega) h.2
end Go.Proofs.YtmiceolkmiiahaaDoor
