/- Plain: the reference's numbers of entries. -/
import Derived.Test.YtcicbijpiffbkaaP4
namespace Go.Proofs.Ytcicbijpiffbkaa
open Go.RowKit
set_option linter.unusedVariables false
set_option linter.unusedSimpArgs false

def rnB (es : List Ent) (m i : Nat) (h : i < es.length) : Prop := (i = 0 → es[i].at' = 0) ∧ (0 < i → es[i - 1].at' < es[i].at') ∧ es[i].at' < m ∧ 0 ≤ es[i].sl ∧ es[i].sl ≤ 32
theorem rn_pos {es : List Ent} {m : Nat} (h : ∀ i (h : i < es.length), rnB es m i h) : ∀ i (h : i < es.length), 0 ≤ es[i].at' := by
  intro i
  induction i with
  | zero => intro hi; have := (h 0 hi).1 rfl; omega
  | succ i ih =>
    intro hi
    have := (h (i + 1) hi).2.1 (by omega)
    have := ih (by omega)
    simp only [Nat.add_sub_cancel] at *
    omega
theorem rn_num {es : List Ent} {m : Nat} (h : ∀ i (h : i < es.length), rnB es m i h) (i : Nat) (hi : i < es.length) : numB es m i hi = true := by
  rw [num_iff]
  have h0 := rn_pos h i hi
  obtain ⟨h1, h2, h3, h4, h5⟩ := h i hi
  unfold toI
  split
  · rename_i hn
    obtain ⟨_, g2, g3, _, _⟩ := h (i + 1) hn
    have := g2 (by omega)
    simp only [Nat.add_sub_cancel] at this
    exact ⟨h1, h0, this, by omega, h4, h5⟩
  · exact ⟨h1, h0, by omega, by omega, h4, h5⟩
theorem num_rn {es : List Ent} {m : Nat} (h : ∀ i (h : i < es.length), numB es m i h = true) (i : Nat) (hi : i < es.length) : rnB es m i hi := by
  obtain ⟨h1, h2, h3, h4, h5, h6⟩ := (num_iff hi).1 (h i hi)
  refine ⟨h1, fun hp => ?_, by omega, h5, h6⟩
  obtain ⟨_, _, g3, _, _, _⟩ := (num_iff (by omega)).1 (h (i - 1) (by omega))
  unfold toI at g3
  rw [dif_pos (by omega)] at g3
  simp only [show i - 1 + 1 = i by omega] at g3
  exact g3
theorem allB_rn {es : List Ent} {is : List Ins} {i : Nat} (hi : i < es.length) (h : ¬ rnB es is.length i hi) : allB es is = false := by
  unfold allB
  rw [decide_eq_false_iff_not]
  exact fun h2 => h (num_rn (fun i hi => (h2 i hi).1) i hi)
theorem allB_sg {es : List Ent} {is : List Ins} {i : Nat} (hi : i < es.length) (h : segB es is es[i].sl es[i].at'.toNat (toI es is.length i).toNat = false) : allB es is = false := by
  unfold allB
  rw [decide_eq_false_iff_not]
  intro h2
  rw [(h2 i hi).2] at h; cases h
theorem allB_yes {es : List Ent} {is : List Ins} (h : ∀ i (h : i < es.length), rnB es is.length i h) (h2 : ∀ i (hi : i < es.length), segB es is es[i].sl es[i].at'.toNat (toI es is.length i).toNat = true) : allB es is = true := by
  unfold allB
  rw [decide_eq_true_iff]
  exact fun i hi => ⟨rn_num h i hi, h2 i hi⟩
theorem rn_nat {es : List Ent} {m : Nat} (h : ∀ i (h : i < es.length), rnB es m i h) (k : Nat) (hk : k < es.length) : ∃ f t : Nat, es[k].at' = (f : Int) ∧ toI es m k = (t : Int) ∧ f < t ∧ t ≤ m := by
  obtain ⟨h1, h2, h3, h4, h5, h6⟩ := (num_iff hk).1 (rn_num h k hk)
  exact ⟨es[k].at'.toNat, (toI es m k).toNat, by omega, by omega, by omega, by omega⟩
theorem dup_at {es : List Ent} {i k : Nat} (hi : i < es.length) (hk : k < i) (h : (es[k].n == es[i].n) = true) : (es.take i).any (isN es[i].n) = true := (any_take hi _).2 ⟨k, hk, by rw [beq_iff_eq] at h; exact h⟩
theorem dup_no {es : List Ent} {i : Nat} (hi : i < es.length) (h : ∀ k (hk : k < i), (es[k].n == es[i].n) = false) : (es.take i).any (isN es[i].n) = false := by
  rw [← Bool.not_eq_true, any_take hi]
  rintro ⟨k, hk, e⟩
  have := h k hk
  rw [e] at this
  simp at this
end Go.Proofs.Ytcicbijpiffbkaa
