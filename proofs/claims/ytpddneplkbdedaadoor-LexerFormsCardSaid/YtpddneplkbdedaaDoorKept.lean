/- A region that draws its order and calls functions that make memory: one walk in the order of the text, in whatever world that keeps what was there. -/
import Derived.Test.YtpddneplkbdedaaDoorProg
import Derived.RowKit
import Derived.WalkKit
import Derived.Below
import Derived.Deep.QuietTactic
import Derived.BigQuiet
namespace Go.Proofs.YtpddneplkbdedaaDoor
open Go.RowKit
set_option linter.unusedVariables false

/-- A world that keeps what was there. -/
structure Kept (w : World) where
  W : World
  below : Below w.heap.size w W

instance (w : World) : Nonempty (Kept w) := ⟨⟨w, Below.refl _ _⟩⟩

theorem wp_region_kept {P : Program} {id : Nat} {Q : Exit → Act → World → Prop} {a : Act} {w : World} {l : List Oper} (hm : P.follows .mixedOrders = true) (hB : Region.lexB .any l.toArray = true)
    (h : wpQuiet P l.toArray (fun w' => ∃ x : Kept w, w' = x.W) (fun a' => ∀ w', (∃ x : Kept w, w' = x.W) → Q .normal a' w') l a) : (Code.region id l.toArray true).wp P Q a w :=
  wp_region_quiet (C := fun w' => ∃ x : Kept w, w' = x.W) hm hB ⟨⟨{ w with drawn := w.drawn + 1 }, ⟨rfl, rfl, rfl, Nat.le_refl _, fun _ _ => rfl⟩⟩, rfl⟩ (by simpa using h)
theorem kept_cell {w : World} {a : Addr} {v : Value} (h : w.cell? a = some v) : ∀ x : Kept w, x.W.cell? a = some v := fun x => by
  have hlt : a.block < w.heap.size := by
    rcases Nat.lt_or_ge a.block w.heap.size with h' | h'
    · exact h'
    · unfold World.cell? at h
      rw [Array.getElem?_eq_none h'] at h; simp at h
  rw [x.below.cell hlt]
  exact h
theorem Kept.call {P : Program} {f : FuncId} {xs : Array Value} {v : Value} {w : World} {x : Kept w} (h : Calls P f xs x.W fun e w' => e = .returned v ∧ Below x.W.heap.size x.W w') :
    Calls P f xs x.W fun e w'' => e = .returned v ∧ ∃ y : Kept w, w'' = y.W :=
  h.mono fun _ w'' ⟨he, hb⟩ => ⟨he, ⟨w'', x.below.trans (hb.mono x.below.size)⟩, rfl⟩
theorem Kept.quiet {P : Program} {f : FuncId} {xs : Array Value} {v : Value} {w : World} {x : Kept w} (h : Calls P f xs x.W fun e w' => e = .returned v ∧ x.W = w') :
    Calls P f xs x.W fun e w'' => e = .returned v ∧ ∃ y : Kept w, w'' = y.W :=
  h.mono fun _ w'' ⟨he, hb⟩ => ⟨he, x, hb.symm⟩
end Go.Proofs.YtpddneplkbdedaaDoor
