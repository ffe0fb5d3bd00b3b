/- Walks: Print. -/
import Derived.Test.YtmiceolkmiiahaaGreatDoorW17
namespace Go.Proofs.YtmiceolkmiiahaaGreatDoor
open Go.RowKit
set_option linter.unusedVariables false
set_option linter.unusedSimpArgs false
set_option maxRecDepth 100000
set_option maxHeartbeats 16000000

theorem At_nat (W : Int) (k : Nat) (hW : 1 ≤ W) (hW2 : W ≤ 1000000) (hk : k ≤ 1000000) (w : World) : KB 24 #[.int .i64 W, .int .i64 (k : Int)] (Po.v ⟨(k : Int) % W, (k : Int) / W⟩) w := by
  have h := At_any W (k : Int) hW (by omega) hW2 (by omega) w
  rwa [Int.tmod_eq_emod_of_nonneg (by omega), Int.tdiv_eq_ediv_of_nonneg (by omega)] at h

theorem intAt_new {w : World} {t : Nat} (ns : List Int) : IntAt (w.alloc (.cells (ns.map (Value.int .i64)).toArray t)) ⟨w.heap.size, 0, none⟩ ns := fun i hi j hj => by
  obtain rfl : j = 0 := by omega
  have h := tok_new w (.cells (ns.map (Value.int .i64)).toArray t)
  have e : (((⟨w.heap.size, 0, none⟩ : Addr).add (i * 1)).add 0) = ⟨w.heap.size, i, none⟩ := by rw [add_add0]; simp
  rw [e, Lib.cell_of_heap h]
  simp [hi]
theorem intAt_two {w : World} {t : Nat} (x y : Int) : IntAt (w.alloc (.cells #[.int .i64 x, .int .i64 y] t)) ⟨w.heap.size, 0, none⟩ [x, y] := intAt_new [x, y]
theorem intAt_three {w : World} {t : Nat} (x y z : Int) : IntAt (w.alloc (.cells #[.int .i64 x, .int .i64 y, .int .i64 z] t)) ⟨w.heap.size, 0, none⟩ [x, y, z] := intAt_new [x, y, z]

def amountW : List UInt8 := [97, 109, 111, 117, 110, 116]
def startW : List UInt8 := [115, 116, 97, 114, 116]
def mapW : List UInt8 := [109, 97, 112, 32]
def amountsL (W : Int) : Nat → List Cel → List UInt8
  | _, [] => []
  | k, c :: cs => (if richB c.k then lineL amountW [(k : Int) % W, (k : Int) / W, c.a] else []) ++ amountsL W (k + 1) cs
def startsL (ps : List Po) : List UInt8 := ps.flatMap fun p => lineL startW [p.x, p.y]
def headL (n : List UInt8) (W H : Int) : List UInt8 := lineL (mapW ++ n) [W, H]
def printL (n : List UInt8) (W H : Int) (cs : List Cel) (ps : List Po) : List UInt8 :=
  headL n W H ++ rowsL kindC W 0 cs ++ rowsL highC W 0 cs ++ amountsL W 0 cs ++ startsL ps

theorem Print_err (n : ByteArray) (W H : Int) (cv pv : Value) (r : Int) (hr : r ≠ 0) (w : World) (h1 : ∀ w', Below w.heap.size w w' → KB 11 #[fileV n W H cv pv] (.int .i64 r) w') :
    KB 9 #[fileV n W H cv pv] (.tuple #[.string ⟨#[]⟩, .int .i64 r]) w := by
  have H1 := Lib.hid h1
  clear h1
  unfold KB fileV at *
  have e1 : (r != 0) = true := by simpa using hr
  go_enter Tryz.func9, Tryz.ntmps9
  go_wp2_with fail
  refine (H1.out _ (below_new _ _)).mono ?_
  rintro e w1 ⟨rfl, hb⟩
  obtain ⟨n1, hb1, hz1⟩ := new_below hb
  go_wp2_with fail
  go_ret2
  exact ⟨rfl, hb1⟩

def PrRel (B : Nat) (wo : World) (W : Int) (cs : List Cel) (R : List UInt8) (i : Value) (wr : World) : Prop :=
  ∃ (k : Nat) (acc : List UInt8), i = .int .i64 (k : Int) ∧ k ≤ cs.length ∧ acc.length ≤ 300000 + 100 * k ∧ acc ++ amountsL W k (cs.drop k) = R ∧ IB B B acc wr ∧ Below B wo wr
def PsRel (B : Nat) (wo : World) (ps : List Po) (R : List UInt8) (i : Value) (wr : World) : Prop :=
  ∃ (k : Nat) (acc : List UInt8), i = .int .i64 (k : Int) ∧ k ≤ ps.length ∧ acc.length ≤ 500000 + 100 * k ∧ acc ++ startsL (ps.drop k) = R ∧ IB B B acc wr ∧ Below B wo wr
theorem lineL_len (l : List UInt8) (ns : List Int) (hb : ∀ x ∈ ns, I64 x) : (lineL l ns).length ≤ l.length + 22 * ns.length + 1 := by
  unfold lineL
  have := numsL_len ns hb
  simp
  omega
theorem rowsL_len (f : Cel → UInt8) (W : Int) (cs : List Cel) : ∀ k, (rowsL f W k cs).length ≤ 2 * cs.length := by
  induction cs with
  | nil => intro k; simp [rowsL]
  | cons c cs ih =>
    intro k
    have := ih (k + 1)
    unfold rowsL
    cases nlB W k <;> simp <;> omega
end Go.Proofs.YtmiceolkmiiahaaGreatDoor
