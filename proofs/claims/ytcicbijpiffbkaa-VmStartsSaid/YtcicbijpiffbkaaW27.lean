/- Walks: Clamp; the sample. -/
import Derived.Test.YtcicbijpiffbkaaW18
namespace Go.Proofs.Ytcicbijpiffbkaa
open Go.RowKit
set_option linter.unusedVariables false
set_option linter.unusedSimpArgs false
set_option maxRecDepth 100000
set_option maxHeartbeats 2000000

def clampF (n lo hi : Int) : Int := if n ≤ hi then (if lo ≤ n then n else lo) else (if lo ≤ hi then hi else lo)
theorem Clamp_any (n lo hi : Int) : KC 27 #[.int .i64 n, .int .i64 lo, .int .i64 hi] (.int .i64 (clampF n lo hi)) := by
  intro w
  obtain ⟨r, hr⟩ : ∃ r, clampF n lo hi = r := ⟨_, rfl⟩
  rw [hr]
  have HR := Lib.hid hr
  clear hr
  go_enter Try.func27, Try.ntmps27
  go_wp2_with fail
  all_goals
    go_ret
    refine ⟨?_, rfl⟩
    first
      | (rw [show r = n by rw [← HR.out]; unfold clampF; split <;> split <;> omega]; rfl)
      | (rw [show r = lo by rw [← HR.out]; unfold clampF; split <;> split <;> omega]; rfl)
      | (rw [show r = hi by rw [← HR.out]; unfold clampF; split <;> split <;> omega]; rfl)
def smE : List Ent := [⟨[109, 97, 105, 110], 0, 1⟩]
def smI : List Ins := [⟨1, 0, 2, []⟩, ⟨3, 0, 0, []⟩, ⟨2, 0, 0, []⟩, ⟨1, 0, 3, []⟩, ⟨4, 3, 0, []⟩, ⟨9, 0, 0, []⟩, ⟨11, 0, 0, []⟩]
theorem al3 (w : World) (A B C : Obj) : (((w.alloc A).alloc B).alloc C).heap[w.heap.size]? = some A ∧ (((w.alloc A).alloc B).alloc C).heap[w.heap.size + 1]? = some B ∧ (((w.alloc A).alloc B).alloc C).heap[w.heap.size + 1 + 1]? = some C := by
  refine ⟨alloc_keeps (alloc_keeps (tok_new _ _) _) _, ?_, ?_⟩
  · have h := tok_new (w.alloc A) B
    rw [tok_size] at h
    exact alloc_keeps h _
  · have h := tok_new ((w.alloc A).alloc B) C
    rw [tok_size, tok_size] at h
    exact h
theorem slat_block {M : Type} {C : Nat} {E : M → List Value} (hE : ∀ m, (E m).length = C) {w : World} {q t : Nat} {X : Array Value} {ms : List M} (h : w.heap[q]? = some (.cells X t)) (hX : X.toList = cellsOf E ms) : SlAt C E w ⟨q, 0, none⟩ ms := fun i hi j hj => by
  rw [add_add0, ← cellsOf_get hE ms i hi j hj, ← hX, Lib.cell_of_heap h]
  simp
theorem cells2f {w : World} {g t : Nat} {a b : Value} (h : w.heap[g]? = some (.cells #[a, b] t)) : (w.cell? ⟨g, 0, none⟩ = some a ∧ w.cell? ⟨g, 1, none⟩ = some b) ∧ w.frozen? ⟨g, 0, none⟩ = false ∧ w.frozen? ⟨g, 1, none⟩ = false :=
  ⟨cells2 h, by rw [Lib.frozen_of_heap h], by rw [Lib.frozen_of_heap h]⟩
theorem sample_any (w : World) : Calls Try.prog 20 #[] w (fun e w' => ∃ p q c d, e = .returned (codeV (.slice (some ⟨p, 0, none⟩) 1 c) (.slice (some ⟨q, 0, none⟩) 7 d)) ∧ 1 ≤ c ∧ 7 ≤ d ∧ EntAt w' ⟨p, 0, none⟩ smE ∧ InsAt w' ⟨q, 0, none⟩ smI ∧ Below w.heap.size w w') := by
  go_enter Try.func20, Try.ntmps20
  go_wp2_with fail
  obtain ⟨h1, h2, h3⟩ := al3 w (.cells #[.slice (some ⟨w.heap.size + 1, 0, none⟩) 1 1, .slice (some ⟨w.heap.size + 1 + 1, 0, none⟩) 7 7] 25) (.cells #[.string ⟨#[109, 97, 105, 110]⟩, .int .i64 0, .int .i64 1] 68)
    (.cells #[.int .i64 1, .int .i64 0, .int .i64 2, .string ⟨#[]⟩, .int .i64 3, .int .i64 0, .int .i64 0, .string ⟨#[]⟩, .int .i64 2, .int .i64 0, .int .i64 0, .string ⟨#[]⟩, .int .i64 1, .int .i64 0, .int .i64 3, .string ⟨#[]⟩,
      .int .i64 4, .int .i64 3, .int .i64 0, .string ⟨#[]⟩, .int .i64 9, .int .i64 0, .int .i64 0, .string ⟨#[]⟩, .int .i64 11, .int .i64 0, .int .i64 0, .string ⟨#[]⟩] 71)
  obtain ⟨⟨r0, r1⟩, s0, s1⟩ := cells2f h1
  have hz := heap_lt h1
  have HB := ((below_new w (.cells #[.slice (some ⟨w.heap.size + 1, 0, none⟩) 1 1, .slice (some ⟨w.heap.size + 1 + 1, 0, none⟩) 7 7] 25)).alloc (by simp) (.cells #[.string ⟨#[109, 97, 105, 110]⟩, .int .i64 0, .int .i64 1] 68)).alloc (by simp; omega)
    (.cells #[.int .i64 1, .int .i64 0, .int .i64 2, .string ⟨#[]⟩, .int .i64 3, .int .i64 0, .int .i64 0, .string ⟨#[]⟩, .int .i64 2, .int .i64 0, .int .i64 0, .string ⟨#[]⟩, .int .i64 1, .int .i64 0, .int .i64 3, .string ⟨#[]⟩,
      .int .i64 4, .int .i64 3, .int .i64 0, .string ⟨#[]⟩, .int .i64 9, .int .i64 0, .int .i64 0, .string ⟨#[]⟩, .int .i64 11, .int .i64 0, .int .i64 0, .string ⟨#[]⟩] 71)
  have hE := slat_block (E := Ent.l) (ms := smE) Ent.l_len h2 rfl
  have hI := slat_block (E := Ins.l) (ms := smI) Ins.l_len h3 rfl
  generalize ((w.alloc _).alloc _).alloc _ = W at *
  exact bodyPost_ret (v := codeV (.slice (some ⟨w.heap.size + 1, 0, none⟩) 1 1) (.slice (some ⟨w.heap.size + 1 + 1, 0, none⟩) 7 7)) (by simp [results, Try.results20, go_sem, codeV, r0, r1, s0, s1, hz]) rfl ⟨_, _, _, _, rfl, Nat.le_refl _, Nat.le_refl _, hE, hI, HB⟩
end Go.Proofs.Ytcicbijpiffbkaa
