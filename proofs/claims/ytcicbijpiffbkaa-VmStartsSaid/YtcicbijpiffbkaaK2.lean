/- Common: blocks, a slice of ints, a map of ints. -/
import Derived.Test.YtcicbijpiffbkaaW6
import Derived.Test.YtcicbijpiffbkaaP2
import Derived.Deep.AppendLies
import Derived.Maps.Own
import Derived.Maps.OwnOps
import Derived.Maps.Views
namespace Go.Proofs.Ytcicbijpiffbkaa
open Go.RowKit Go.Maps
set_option linter.unusedVariables false
set_option linter.unusedSimpArgs false
set_option maxRecDepth 100000

theorem int_info : ∃ i0, Try.prog.info? 3 = some i0 ∧ i0.zero = some (.int .i64 0) ∧ i0.size = 1 ∧ i0.bytes = 8 := by
  have hi : (Try.prog.info? 3).map (fun i => (i.bytes, i.size, i.zero)) = some (8, 1, some (.int .i64 0)) := by kernel_rfl
  obtain ⟨i, h1, h2⟩ := Option.map_eq_some_iff.1 hi
  injection h2 with h2 h3
  injection h3 with h3 h4
  exact ⟨i, h1, h4, h3, h2⟩
theorem one_int (T : Int) : ∀ u ∈ [Value.int .i64 T], u.oneCell' = true := by
  intro u hu
  simp at hu
  subst hu
  rfl
theorem cells2 {w : World} {g t : Nat} {a b : Value} (h : w.heap[g]? = some (.cells #[a, b] t)) : w.cell? ⟨g, 0, none⟩ = some a ∧ w.cell? ⟨g, 1, none⟩ = some b :=
  ⟨by rw [Lib.cell_of_heap h]; rfl, by rw [Lib.cell_of_heap h]; rfl⟩
theorem below_keeps {B : Nat} {w w' : World} {g : Nat} {o : Obj} (h : w.heap[g]? = some o) (hg : g < B) (hb : Below B w w') : w'.heap[g]? = some o := by rw [hb.block g hg]; exact h
theorem blk4 {w : World} {g t : Nat} {a b c d : Value} (h : w.heap[g]? = some (.cells #[a, b, c, d] t)) : w.cell? ⟨g, 0, none⟩ = some a ∧ w.cell? ⟨g, 1, none⟩ = some b ∧ w.cell? ⟨g, 2, none⟩ = some c ∧ w.cell? ⟨g, 3, none⟩ = some d :=
  ⟨by rw [Lib.cell_of_heap h]; rfl, by rw [Lib.cell_of_heap h]; rfl, by rw [Lib.cell_of_heap h]; rfl, by rw [Lib.cell_of_heap h]; rfl⟩
theorem blk5 {w : World} {g t : Nat} {a b c d e : Value} (h : w.heap[g]? = some (.cells #[a, b, c, d, e] t)) : w.cell? ⟨g, 0, none⟩ = some a ∧ w.cell? ⟨g, 1, none⟩ = some b ∧ w.cell? ⟨g, 2, none⟩ = some c ∧ w.cell? ⟨g, 3, none⟩ = some d ∧ w.cell? ⟨g, 4, none⟩ = some e :=
  ⟨by rw [Lib.cell_of_heap h]; rfl, by rw [Lib.cell_of_heap h]; rfl, by rw [Lib.cell_of_heap h]; rfl, by rw [Lib.cell_of_heap h]; rfl, by rw [Lib.cell_of_heap h]; rfl⟩
theorem blk3 {w : World} {g t : Nat} {a b c : Value} (h : w.heap[g]? = some (.cells #[a, b, c] t)) : w.cell? ⟨g, 0, none⟩ = some a ∧ w.cell? ⟨g, 1, none⟩ = some b ∧ w.cell? ⟨g, 2, none⟩ = some c :=
  ⟨by rw [Lib.cell_of_heap h]; rfl, by rw [Lib.cell_of_heap h]; rfl, by rw [Lib.cell_of_heap h]; rfl⟩
theorem ownsMap_below {H : Type} {w w1 : World} {P : Program} {k : TypeId} {R : Value → Option (DataW H × List MemPlace)} {b n : Nat} {D : DataW H} (h : w.ownsMap P k R b n D) (hb : Below w.heap.size w w1) : w1.ownsMap P k R b n D := by
  obtain ⟨es, clock, h1, h2⟩ := h
  exact ⟨es, clock, block_below hb h1, h2⟩
theorem grown_keeps {w w' : World} {r g : Nat} {o : Obj} (h : w.heap[g]? = some o) (hg : w.grownBy w' (some r)) (hne : g ≠ r) : w'.heap[g]? = some o := by
  rw [hg.block g (heap_lt h) (by intro e; injection e with e; exact hne e)]; exact h
theorem grown_keeps2 {w w' : World} {row : Option Nat} {g : Nat} {o : Obj} (h : w.heap[g]? = some o) (hg : w.grownBy w' row) (hne : row ≠ some g) : w'.heap[g]? = some o := by
  rw [hg.block g (heap_lt h) (fun e => hne e.symm)]; exact h
theorem alloc_keeps {w : World} {g : Nat} {o : Obj} (h : w.heap[g]? = some o) (x : Obj) : (w.alloc x).heap[g]? = some o := block_below (below_new w x) h
abbrev DU := DataW Unit
theorem ikey : Keyed Try.prog 3 := int_keyed Try.underlying3
theorem izero (w : World) : (zeroValue 3).run Try.prog w = .ok (.int .i64 0) w := by kernel_rfl
/-- The map of the depths behind k instructions from f on. -/
def DM (L : List Ins) (f : Nat) : Nat → DU
  | 0 => .map []
  | k + 1 => (DM L f k).put (.int .i64 ((f + k : Nat) : Int)) (.lit (.int .i64 (dep L k)))
theorem DM_map (L : List Ins) (f : Nat) : ∀ k, IsMap (DM L f k)
  | 0 => isMap_empty
  | k + 1 => (DM_map L f k).put _ _
theorem DM_at (L : List Ins) (f : Nat) (z : DU) : ∀ k j, j < k → (DM L f k).atKey (.int .i64 ((f + j : Nat) : Int)) z = .lit (.int .i64 (dep L j)) := by
  intro k
  induction k with
  | zero => intro j h; omega
  | succ k ih =>
    intro j h
    unfold DM
    by_cases hj : j = k
    · subst hj
      exact atKey_put_same (DM_map L f j) (show WideAt.IsKeyLit (.int .i64 _) from trivial) _ _
    · rw [atKey_put_other (by intro e; injection e with e1 e2; omega)]
      exact ih j (by omega)
theorem DM_look {L : List Ins} {f k : Nat} {a D c : Int} (h : (DM L f k).atKey (.int .i64 a) (.lit (.int .i64 0)) = .lit (.int .i64 c)) (j : Nat) (hj : j < k) (ha : a = ((f + j : Nat) : Int)) (hD : dep L j = D) : c = D := by
  subst ha
  rw [DM_at L f _ k j hj, hD] at h
  injection h with h
  injection h with h1 h2
  exact h2.symm
theorem put_look {M : DU} (hM : IsMap M) {a D c : Int} (h : (M.put (.int .i64 a) (.lit (.int .i64 D))).atKey (.int .i64 a) (.lit (.int .i64 0)) = .lit (.int .i64 c)) : c = D := by
  rw [atKey_put_same hM (show WideAt.IsKeyLit (.int .i64 a) from trivial)] at h
  injection h with h
  injection h with h1 h2
  exact h2.symm
theorem wf64 {a : Int} (h : I64 a) : (Lit.int .i64 a).wf = true := WalkArith.wf_i64 (by have := h.1; have := h.2; omega)
end Go.Proofs.Ytcicbijpiffbkaa
