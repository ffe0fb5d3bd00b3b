/-
  No cell of these rows narrows 'for every input' (looked for: loops, veiled, ifaces, maps, wideKeys, modest, calm, conditions, laid).
  DERIVED. THE GIVEN ROWS OF THIS SEAT. 4 by the template 'for every input the law returns true; each argument reads behind the call as it read before'; 0 by the template 'total and deterministic' (their statements: YtcicbijpiffbkaaTotals.lean).
  GIVEN WITH THE SEED: the statements are not yours to turn. If you find one false, say at which input.
  Laid BY PROGRAM, IN A SANDBOX (cutbox-rows.mjs): the forced cells as the released guide's own fill.sh prints them over the translation fbdb9a045cb26fc9… (all of the seat's roots in one cut). By AI agents, Wed Nov 11 2026. No macro, syntax, notation, axiom, sorry.
-/
import Derived.Test.YtcicbijpiffbkaaChecked
import GoSem.Claim
import GoSem.ClaimJoined
import GoSem.ClaimMapViews
import Derived.JoinedTies
import Derived.KernelRfl
namespace Go.Proofs.Ytcicbijpiffbkaa
/- THE CELL 'sum', in the pinned program and in every row, IS THE sha256 OF THE DUMP (.gsa) THAT YtcicbijpiffbkaaProg.lean LOADS. Nothing in Lean hashes anything: it is a label: what it is worth is what the hold of that sum in a sandbox is worth. -/
noncomputable def Try.pinned : Pinned := { name := "ytcicbijpiffbkaa", sum := "fbdb9a045cb26fc9615f74ff777e2e47f3c4259ca7fec856d5ca0a44c60091dd", checked := Try.checked }
namespace Rows
def none {H : Type} : Left H := { results := [], args := [] }

/-- 'skirmishlaw39.VmStarts': WHATEVER THE INPUT: true; the input reads as it did. -/
def vmStartsSpec : ChangeSpec := { name := "vmStarts", fn := fun _ => fun
  | [d1, d2] => { results := [.lit (.bool true)], args := [d1, d2] }
  | _ => none }
def vmStartsRow : OpenClaim := { program := "ytcicbijpiffbkaa", sum := "fbdb9a045cb26fc9615f74ff777e2e47f3c4259ca7fec856d5ca0a44c60091dd", func := "skirmish/skirmishlaw39.VmStarts", spec := "vmStarts", unfollowed := true, recurses := true, apart := false }
def VmStartsSaid : Prop := vmStartsRow.holds Try.pinned (OpenSpec.ofChange vmStartsSpec)

/-- ITS FALSE NEIGHBOUR: 'it returns false'. Refute it at one input. -/
def vmStartsWrong : ChangeSpec := { name := "vmStarts", fn := fun _ => fun
  | [d1, d2] => { results := [.lit (.bool false)], args := [d1, d2] }
  | _ => none }
def VmStartsWrongFalsely : Prop := vmStartsRow.holds Try.pinned (OpenSpec.ofChange vmStartsWrong)

/-- 'skirmishlaw39.VmBudget': WHATEVER THE INPUT: true; the input reads as it did. -/
def vmBudgetSpec : ChangeSpec := { name := "vmBudget", fn := fun _ => fun
  | [d1, d2] => { results := [.lit (.bool true)], args := [d1, d2] }
  | _ => none }
def vmBudgetRow : OpenClaim := { program := "ytcicbijpiffbkaa", sum := "fbdb9a045cb26fc9615f74ff777e2e47f3c4259ca7fec856d5ca0a44c60091dd", func := "skirmish/skirmishlaw39.VmBudget", spec := "vmBudget", unfollowed := true, recurses := true, apart := false }
def VmBudgetSaid : Prop := vmBudgetRow.holds Try.pinned (OpenSpec.ofChange vmBudgetSpec)

/-- ITS FALSE NEIGHBOUR: 'it returns false'. Refute it at one input. -/
def vmBudgetWrong : ChangeSpec := { name := "vmBudget", fn := fun _ => fun
  | [d1, d2] => { results := [.lit (.bool false)], args := [d1, d2] }
  | _ => none }
def VmBudgetWrongFalsely : Prop := vmBudgetRow.holds Try.pinned (OpenSpec.ofChange vmBudgetWrong)

/-- 'skirmishlaw39.VmOwn': WHATEVER THE INPUT: true; the input reads as it did. -/
def vmOwnSpec : ChangeSpec := { name := "vmOwn", fn := fun _ => fun
  | [d] => { results := [.lit (.bool true)], args := [d] }
  | _ => none }
def vmOwnRow : OpenClaim := { program := "ytcicbijpiffbkaa", sum := "fbdb9a045cb26fc9615f74ff777e2e47f3c4259ca7fec856d5ca0a44c60091dd", func := "skirmish/skirmishlaw39.VmOwn", spec := "vmOwn", unfollowed := true, recurses := true, apart := false }
def VmOwnSaid : Prop := vmOwnRow.holds Try.pinned (OpenSpec.ofChange vmOwnSpec)

/-- ITS FALSE NEIGHBOUR: 'it returns false'. Refute it at one input. -/
def vmOwnWrong : ChangeSpec := { name := "vmOwn", fn := fun _ => fun
  | [d] => { results := [.lit (.bool false)], args := [d] }
  | _ => none }
def VmOwnWrongFalsely : Prop := vmOwnRow.holds Try.pinned (OpenSpec.ofChange vmOwnWrong)

/-- 'skirmishlaw39.VmSame': WHATEVER THE INPUT: true; the input reads as it did. -/
def vmSameSpec : ChangeSpec := { name := "vmSame", fn := fun _ => fun
  | [d1, d2] => { results := [.lit (.bool true)], args := [d1, d2] }
  | _ => none }
def vmSameRow : OpenClaim := { program := "ytcicbijpiffbkaa", sum := "fbdb9a045cb26fc9615f74ff777e2e47f3c4259ca7fec856d5ca0a44c60091dd", func := "skirmish/skirmishlaw39.VmSame", spec := "vmSame", unfollowed := true, recurses := true, apart := false }
def VmSameSaid : Prop := vmSameRow.holds Try.pinned (OpenSpec.ofChange vmSameSpec)

/-- ITS FALSE NEIGHBOUR: 'it returns false'. Refute it at one input. -/
def vmSameWrong : ChangeSpec := { name := "vmSame", fn := fun _ => fun
  | [d1, d2] => { results := [.lit (.bool false)], args := [d1, d2] }
  | _ => none }
def VmSameWrongFalsely : Prop := vmSameRow.holds Try.pinned (OpenSpec.ofChange vmSameWrong)

/- THE SECOND FORM. 'bulk': how many values and letters a reading holds, each counted each time it is reached (what is shared counts as often as it is met; a slice's spare places count too). A statement '..UptoSaid' is the law's where the arguments, and the package variables that the reading takes, are together of bulk at most 1048576: NARROWER than '..Said'. Prove '..Said' where nothing that the law and all that it calls make is longer than what came in: it says more and counts as full. Else prove '..UptoSaid'. A law counts once. -/
mutual
def uptoBulk {H : Type} : DataW H → Nat
  | .lit (.string bytes) => bytes.length + 1
  | .lit _ => 1
  | .nil => 1
  | .ptr d => uptoBulk d + 1
  | .slice elems spare => uptoBulkAll elems + uptoBulkAll spare + 1
  | .agg parts => uptoBulkAll parts + 1
  | .iface _ d => uptoBulk d + 1
  | .map entries => uptoBulkEntries entries + 1
  | .held _ => 1
def uptoBulkAll {H : Type} : List (DataW H) → Nat
  | [] => 0
  | d :: r => uptoBulk d + uptoBulkAll r
def uptoBulkEntries {H : Type} : List (Lit × DataW H) → Nat
  | [] => 0
  | x :: r => uptoBulkEntry x + uptoBulkEntries r
def uptoBulkEntry {H : Type} : Lit × DataW H → Nat
  | (.string bytes, d) => bytes.length + uptoBulk d + 1
  | (_, d) => uptoBulk d + 1
 end
def uptoSmall : (H : Type) → List (DataW H) → Bool := fun _ ds => decide (uptoBulkAll ds ≤ 1048576)
def OpenSpec.upto (s : _root_.Go.ChangeSpec) : _root_.Go.OpenSpec := { _root_.Go.OpenSpec.ofChange s with cond := some uptoSmall }

/-- 'skirmishlaw39.VmStarts', WHERE WHAT IT READS IS OF BULK AT MOST 1048576: true; the input reads as it did. -/
def vmStartsUptoRow : OpenClaim := { program := "ytcicbijpiffbkaa", sum := "fbdb9a045cb26fc9615f74ff777e2e47f3c4259ca7fec856d5ca0a44c60091dd", func := "skirmish/skirmishlaw39.VmStarts", spec := "vmStarts", unfollowed := true, recurses := true, apart := false, narrowed := true }
def VmStartsUptoSaid : Prop := vmStartsUptoRow.holds Try.pinned (OpenSpec.upto vmStartsSpec)

/-- 'skirmishlaw39.VmBudget', WHERE WHAT IT READS IS OF BULK AT MOST 1048576: true; the input reads as it did. -/
def vmBudgetUptoRow : OpenClaim := { program := "ytcicbijpiffbkaa", sum := "fbdb9a045cb26fc9615f74ff777e2e47f3c4259ca7fec856d5ca0a44c60091dd", func := "skirmish/skirmishlaw39.VmBudget", spec := "vmBudget", unfollowed := true, recurses := true, apart := false, narrowed := true }
def VmBudgetUptoSaid : Prop := vmBudgetUptoRow.holds Try.pinned (OpenSpec.upto vmBudgetSpec)

/-- 'skirmishlaw39.VmOwn', WHERE WHAT IT READS IS OF BULK AT MOST 1048576: true; the input reads as it did. -/
def vmOwnUptoRow : OpenClaim := { program := "ytcicbijpiffbkaa", sum := "fbdb9a045cb26fc9615f74ff777e2e47f3c4259ca7fec856d5ca0a44c60091dd", func := "skirmish/skirmishlaw39.VmOwn", spec := "vmOwn", unfollowed := true, recurses := true, apart := false, narrowed := true }
def VmOwnUptoSaid : Prop := vmOwnUptoRow.holds Try.pinned (OpenSpec.upto vmOwnSpec)

/-- 'skirmishlaw39.VmSame', WHERE WHAT IT READS IS OF BULK AT MOST 1048576: true; the input reads as it did. -/
def vmSameUptoRow : OpenClaim := { program := "ytcicbijpiffbkaa", sum := "fbdb9a045cb26fc9615f74ff777e2e47f3c4259ca7fec856d5ca0a44c60091dd", func := "skirmish/skirmishlaw39.VmSame", spec := "vmSame", unfollowed := true, recurses := true, apart := false, narrowed := true }
def VmSameUptoSaid : Prop := vmSameUptoRow.holds Try.pinned (OpenSpec.upto vmSameSpec)

end Rows
end Go.Proofs.Ytcicbijpiffbkaa
