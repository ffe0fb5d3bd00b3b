/- Arguments that are slices, read as lists of elements. -/
import Derived.Test.YtpddneplkbdedaaDoorProg
import Derived.RowKit
import Derived.WalkKit
import Derived.SizedLaws
import Derived.Deep.Slices
import Derived.Deep.Strs
import Derived.ChangeArms
import Derived.DataReads
namespace Go.Proofs.YtpddneplkbdedaaDoor
open Go.RowKit
set_option linter.unusedVariables false
set_option linter.unusedSimpArgs false

theorem list_of {M : Type} (Q : Nat → M → Prop) : ∀ n, (∀ i, i < n → ∃ m, Q i m) → ∃ ms : List M, ms.length = n ∧ ∀ i (h : i < ms.length), Q i ms[i] := by
  intro n
  induction n with
  | zero => intro _; exact ⟨[], rfl, fun i h => absurd h (by simp)⟩
  | succ n ih =>
    intro h
    obtain ⟨ms, hl, hq⟩ := ih fun i hi => h i (by omega)
    obtain ⟨m, hm⟩ := h n (by omega)
    refine ⟨ms ++ [m], by simp [hl], fun i hi => ?_⟩
    rw [List.length_append, List.length_singleton] at hi
    by_cases hin : i < ms.length
    · rw [List.getElem_append_left hin]; exact hq i hin
    · obtain rfl : i = ms.length := by omega
      rw [List.getElem_append_right (Nat.le_refl _)]
      simp only [Nat.sub_self, List.getElem_cons_zero]
      rw [hl]; exact hm

section
variable {H : Type} {enc : TypeId × Value → H} {P : Program} {w : World} {base : Nat} {spare : Nat → Bool} {held : Bool}

/-- Each string, slice and map of a datum is within the reach. -/
def Light (P : Program) (t : TypeId) (d : DataW H) : Prop := ∀ n ∈ d.weights P t, n ≤ reachBytes

theorem light_all {e : TypeId} {ds : List (DataW H)} (h : ∀ n ∈ DataW.weightsAll P e ds, n ≤ reachBytes) : ∀ d ∈ ds, Light P e d := by
  induction ds with
  | nil => intro d hd; simp at hd
  | cons d0 ds ih =>
    intro d hd
    simp only [DataW.weightsAll, List.mem_append] at h
    rcases List.mem_cons.1 hd with rfl | hd
    · exact fun n hn => h n (Or.inl hn)
    · exact ih (fun n hn => h n (Or.inr hn)) d hd
theorem light_each {ts : List TypeId} {ds : List (DataW H)} (h : (DataW.weightsEach P ts ds).all (· ≤ reachBytes) = true) {j : Nat} {t : TypeId} {d : DataW H} (ht : ts[j]? = some t) (hd : ds[j]? = some d) : Light P t d := fun n hn => by
  have := List.all_eq_true.1 h _ (DataW.weights_mem_each ht hd n hn)
  simpa using this
theorem light_part {ts : List TypeId} {ds : List (DataW H)} (h : ∀ n ∈ DataW.weightsEach P ts ds, n ≤ reachBytes) {j : Nat} {t : TypeId} {d : DataW H} (ht : ts[j]? = some t) (hd : ds[j]? = some d) : Light P t d := fun n hn => h n (DataW.weights_mem_each ht hd n hn)

/-- A slice: E says an element's cells, Ok what holds of it. -/
theorem open_list {M : Type} (E : M → List Value) (Ok : M → Prop) {t e : TypeId} {C : Nat} (ht : P.underlying t = some (.slice e)) (hC : P.cellsOf e = C)
    (hE : ∀ n cs x, DataW.trod enc P w base spare held n e cs = some x → Light P e x.1 → ∃ m, Ok m ∧ cs = E m)
    {fuel : Nat} {v : Value} {x : DataW H × List MemPlace} (h : DataW.trod enc P w base spare held fuel t [v] = some x) (hl : Light P t x.1) :
    ∃ (ms : List M) (ao : Option Addr) (cap : Nat), v = .slice ao ms.length cap ∧ (∀ m ∈ ms, Ok m) ∧ ms.length * P.bytesOf e ≤ reachBytes ∧ ms.length ≤ cap ∧ cap ≤ maxLen ∧
      (ms = [] ∨ ∃ a, ao = some a ∧ ∀ i (hi : i < ms.length), ∀ j, j < C → w.cell? ((a.add (i * C)).add j) = (E ms[i])[j]?) := by
  rcases Deep.open_slice ht h with ⟨hv, hx⟩ | ⟨a, len, cap, m, n, D, Pl, hv, hb, hlc, hcm, hm, hx, hi⟩
  · obtain rfl : v = .slice none 0 0 := by simpa using hv
    exact ⟨[], none, 0, rfl, by simp, by simp, Nat.le_refl _, Nat.zero_le _, Or.inl rfl⟩
  · obtain rfl : v = .slice (some a) len cap := by simpa using hv
    have hmm : len ≤ m := by rw [hm]; split <;> omega
    rw [hx] at hl
    unfold Light at hl
    simp only [DataW.weights, ht] at hl
    have hb2 := hl _ (List.mem_cons_self)
    have hel : ∀ d ∈ (List.range len).map D, Light P e d := light_all fun n hn => hl n (List.mem_cons_of_mem _ (List.mem_append_left _ hn))
    obtain ⟨ms, hml, hq⟩ := list_of (fun i (m : M) => Ok m ∧ ∀ j, j < C → w.cell? ((a.add (i * C)).add j) = (E m)[j]?) len fun i hil => by
      obtain ⟨cs', hc, ht'⟩ := hi i (by omega)
      obtain ⟨mm, hok, hcs⟩ := hE n cs' _ ht' (hel (D i) (List.mem_map.2 ⟨i, List.mem_range.2 hil, rfl⟩))
      obtain ⟨_, _, hat⟩ := World.cells?_some hc
      refine ⟨mm, hok, fun j hj => ?_⟩
      rw [hC] at hat
      rw [hat j hj, hcs]
    subst hml
    refine ⟨ms, some a, cap, rfl, fun m hm => ?_, ?_, hlc, hcm, Or.inr ⟨a, rfl, fun i hi => (hq i hi).2⟩⟩
    · obtain ⟨i, hi, rfl⟩ := List.getElem_of_mem hm
      exact (hq i hi).1
    · rw [List.length_map, List.length_range] at hb2
      exact Nat.le_trans (Nat.mul_le_mul_right _ (Nat.le_add_right _ _)) hb2
end
end Go.Proofs.YtpddneplkbdedaaDoor
