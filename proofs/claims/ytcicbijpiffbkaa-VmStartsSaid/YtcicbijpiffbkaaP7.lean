/- Plain: a task that Start returns is valid. -/
import Derived.Test.YtcicbijpiffbkaaP6
namespace Go.Proofs.Ytcicbijpiffbkaa
open Go.RowKit
set_option linter.unusedVariables false
set_option linter.unusedSimpArgs false

theorem at_rise {es : List Ent} {m : Nat} (h : ∀ i (hi : i < es.length), rnB es m i hi) : ∀ d i (hi : i + d < es.length), es[i].at' ≤ es[i + d].at' := by
  intro d
  induction d with
  | zero => intro i hi; exact Int.le_refl _
  | succ d ih =>
    intro i hi
    have h1 := ih i (by omega)
    have h2 := (h (i + (d + 1)) hi).2.1 (by omega)
    have e : i + (d + 1) - 1 = i + d := by omega
    simp only [e] at h2
    omega
theorem at_less {es : List Ent} {m : Nat} (h : ∀ i (hi : i < es.length), rnB es m i hi) {i j : Nat} (hij : i < j) (hj : j < es.length) : es[i].at' < es[j].at' := by
  have h1 := at_rise h (j - 1 - i) i (by omega)
  have e : i + (j - 1 - i) = j - 1 := by omega
  simp only [e] at h1
  have h2 := (h j hj).2.1 (by omega)
  omega
theorem entP_own {es : List Ent} {m k : Nat} (h : ∀ i (hi : i < es.length), rnB es m i hi) (hk : k < es.length) : ∀ n, n ≤ es.length → k < n → entP es es[k].at' n = es[k] := by
  intro n
  induction n with
  | zero => intro _ h0; omega
  | succ n ih =>
    intro hn hkn
    rw [entP_s (by omega)]
    by_cases hke : k = n
    · subst hke
      rw [if_pos (Int.le_refl _)]
    · have := at_less h (show k < n by omega) (by omega)
      rw [if_neg (by omega)]
      exact ih (by omega) (by omega)
theorem entA_own {es : List Ent} {is : List Ins} (h : codeE es is = 0) {k : Nat} (hk : k < es.length) : entA es es[k].at' = es[k] := by
  obtain ⟨_, _, _, _, h5, _⟩ := code_ok h
  rw [← entP_all]
  exact entP_own (fun i hi => num_rn h5 i hi) hk es.length (Nat.le_refl _) hk
theorem start_valid {es : List Ent} {is : List Ins} (h : codeE es is = 0) {k : Nat} (hk : k < es.length) : validB es is 1 es[k].at' 0 es[k].sl.toNat 0 = true := by
  obtain ⟨_, _, _, _, h5, _⟩ := code_ok h
  have hn := (num_iff hk).1 (h5 k hk)
  have hc : codeE es is = 0 ∧ 0 ≤ es[k].at' ∧ es[k].at' < is.length := ⟨h, hn.2.1, by omega⟩
  rw [valid_go hc (by omega), if_pos (Or.inl ⟨rfl, rfl⟩)]
  unfold fillB depA
  rw [entA_own h hk, dep_start]
  have h1 : ((es[k].sl.toNat : Nat) : Int) = es[k].sl := by omega
  rw [h1]
  simp
end Go.Proofs.Ytcicbijpiffbkaa
