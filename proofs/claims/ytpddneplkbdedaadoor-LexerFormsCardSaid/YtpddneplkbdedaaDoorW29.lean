/- Plain: valid and Form answer alike. -/
import Derived.Test.YtpddneplkbdedaaDoorW28
namespace Go.Proofs.YtpddneplkbdedaaDoor
open Go.RowKit
set_option linter.unusedVariables false
set_option linter.unusedSimpArgs false

theorem tw_all (P : UInt8 → Bool) (l : List UInt8) (h : (l.takeWhile P).length = l.length) : l.takeWhile P = l := (List.takeWhile_sublist P).eq_of_length h
theorem all_sub (P Q : UInt8 → Bool) (l : List UInt8) (h : l.all P = true) (hpq : ∀ c, P c = true → Q c = true) : l.all Q = true := by
  rw [List.all_eq_true] at *
  exact fun c hc => hpq c (h c hc)
theorem marks_next : ∀ m ∈ marksL, m ≠ [] ∧ nextT m = (4, m, m.length, 0) := by decide +kernel
theorem words_next : ∀ m ∈ wordsL, m ≠ [] ∧ nextT m = (5, m, m.length, 0) := by decide +kernel
theorem intE_no (l : List UInt8) (h : l.all isDg = false) : intE l = 5 := by unfold intE; rw [if_pos h]
theorem lc_dg (c : UInt8) (h : isLc c = true) : isDg c = false := by
  unfold isLc lcI at h
  unfold isDg digI
  simp at h
  rw [Bool.and_eq_false_iff]
  right
  simp
  omega

/-- next's token is the whole text. -/
def whole (k : Int) (tx : List UInt8) : Bool := (nextT tx).2.2.2 == 0 && (nextT tx).2.2.1 == tx.length && (nextT tx).1 == k && (nextT tx).2.1 == tx
theorem whole_iff (k : Int) (tx : List UInt8) : whole k tx = true ↔ nextT tx = (k, tx, tx.length, 0) := by
  unfold whole
  obtain ⟨⟨a, b, c, d⟩, h⟩ : ∃ t, nextT tx = t := ⟨_, rfl⟩
  rw [h]
  simp
  constructor
  · rintro ⟨⟨⟨rfl, rfl⟩, rfl⟩, rfl⟩; exact ⟨rfl, rfl, rfl, rfl⟩
  · rintro ⟨rfl, rfl, rfl, rfl⟩; exact ⟨⟨⟨rfl, rfl⟩, rfl⟩, rfl⟩

theorem bool_eq {a b : Bool} (h : a = true ↔ b = true) : a = b := by cases a <;> cases b <;> simp_all

theorem whole_form (k : Int) (c : UInt8) (r : List UInt8) (hk : k = 1 ∨ k = 2 ∨ k = 4 ∨ k = 5) : whole k (c :: r) = formT k (c :: r) := by
  apply bool_eq
  rw [whole_iff]
  rcases hk with rfl | rfl | rfl | rfl
  · have hf : formT 1 (c :: r) = (decide ((c :: r).length ≤ 12) && (isLc c && (((c :: r).takeWhile isPt).length == (c :: r).length && !isWord (c :: r)))) := by
      unfold formT
      rw [if_pos rfl, decide_eq_true (show 0 < (c :: r).length by simp), Bool.true_and]
      have hh : ((c :: r).head?.map isLc == some true) = isLc c := by
        show (some (isLc c) == some true) = isLc c
        cases isLc c <;> rfl
      rw [hh]
    rw [hf]
    simp only [Bool.and_eq_true, decide_eq_true_iff, beq_iff_eq, Bool.not_eq_true']
    unfold nextT
    dsimp only
    by_cases h2 : isLc c = true
    · rw [if_pos h2]
      constructor
      · intro h
        by_cases h3 : isWord ((c :: r).takeWhile isPt) = true
        · rw [if_pos h3] at h; simp at h
        · rw [if_neg h3] at h
          by_cases h4 : 12 < ((c :: r).takeWhile isPt).length
          · rw [if_pos h4] at h; simp at h
          · rw [if_neg h4] at h
            have e : (c :: r).takeWhile isPt = c :: r := by
              injection h with _ h
              injection h
            rw [e] at h3 h4
            refine ⟨by omega, h2, by rw [e], by simpa using h3⟩
      · rintro ⟨h3, _, h4, h5⟩
        rw [tw_all _ _ h4, if_neg (by rw [h5]; decide), if_neg (by omega)]
    · constructor
      · intro h
        rw [if_neg h2] at h
        split at h
        · injection h with h _; exact absurd h (by decide)
        · split at h
          · split at h
            · injection h with h _; exact absurd h (by decide)
            · injection h with h _; exact absurd h (by decide)
          · split at h
            · injection h with h _; exact absurd h (by decide)
            · injection h with h _; exact absurd h (by decide)
      · rintro ⟨_, h, _⟩
        exact absurd h h2
  · have hf : formT 2 (c :: r) = (intE (c :: r) == 0) := rfl
    rw [hf, beq_iff_eq]
    by_cases h2 : isLc c = true
    · have h3 : intE (c :: r) = 5 := intE_no _ (by rw [List.all_cons, lc_dg c h2, Bool.false_and])
      rw [h3]
      refine ⟨fun h => ?_, fun h => absurd h (by decide)⟩
      unfold nextT at h
      dsimp only at h
      rw [if_pos h2] at h
      split at h
      · injection h with h _; exact absurd h (by decide)
      · split at h
        · injection h with h _; exact absurd h (by decide)
        · injection h with h _; exact absurd h (by decide)
    · by_cases h3 : isDg c = true
      · unfold nextT
        dsimp only
        rw [if_neg h2, if_pos h3]
        constructor
        · intro h
          injection h with _ h
          injection h with h1 h
          injection h with h4 h5
          rw [h1] at h5
          exact h5
        · intro h
          have ha : (c :: r).all isDg = true := by
            by_cases ha : (c :: r).all isDg = true
            · exact ha
            · rw [intE_no _ (by simpa using ha)] at h; exact absurd h (by decide)
          rw [all_take isPt _ (all_sub _ _ _ ha part_dg), h]
      · have h4 : intE (c :: r) = 5 := intE_no _ (by rw [List.all_cons]; simp [h3])
        rw [h4]
        refine ⟨fun h => ?_, fun h => absurd h (by decide)⟩
        unfold nextT at h
        dsimp only at h
        rw [if_neg h2, if_neg h3] at h
        split at h
        · split at h
          · injection h with h _; exact absurd h (by decide)
          · injection h with h _; exact absurd h (by decide)
        · split at h
          · injection h with h _; exact absurd h (by decide)
          · injection h with h _; exact absurd h (by decide)
  · have hf : formT 4 (c :: r) = marksL.contains (c :: r) := rfl
    rw [hf]
    constructor
    · intro h
      unfold nextT at h
      dsimp only at h
      split at h
      · split at h
        · injection h with h _; exact absurd h (by decide)
        · split at h
          · injection h with h _; exact absurd h (by decide)
          · injection h with h _; exact absurd h (by decide)
      · split at h
        · injection h with h _; exact absurd h (by decide)
        · split at h
          · split at h
            · injection h with h _; exact absurd h (by decide)
            · injection h with h _; exact absurd h (by decide)
          · split at h
            · injection h with h _; exact absurd h (by decide)
            · injection h with _ h
              injection h with h _
              unfold firstPre at h
              cases hm : marksL.find? (fun m => Lib.hasPrefix (c :: r) m) with
              | none => rw [hm] at h; cases h
              | some m =>
                rw [hm] at h
                have : m = c :: r := h
                rw [← this]
                have := List.mem_of_find?_eq_some hm
                simpa using this
    · intro h
      have : c :: r ∈ marksL := by simpa using h
      exact (marks_next _ this).2
  · have hf : formT 5 (c :: r) = isWord (c :: r) := rfl
    rw [hf]
    constructor
    · intro h
      unfold nextT at h
      dsimp only at h
      split at h
      · split at h
        · rename_i h3
          injection h with _ h
          injection h with h _
          rw [h] at h3
          exact h3
        · split at h
          · injection h with h _; exact absurd h (by decide)
          · injection h with h _; exact absurd h (by decide)
      · split at h
        · injection h with h _; exact absurd h (by decide)
        · split at h
          · split at h
            · injection h with h _; exact absurd h (by decide)
            · injection h with h _; exact absurd h (by decide)
          · split at h
            · injection h with h _; exact absurd h (by decide)
            · injection h with h _; exact absurd h (by decide)
    · intro h
      have : c :: r ∈ wordsL := by unfold isWord at h; simpa using h
      exact (words_next _ this).2

theorem form_valid (k : Int) (tx : List UInt8) : formT k tx = validT k tx := by
  unfold validT
  by_cases h3 : k = 3
  · subst h3; rfl
  · rw [if_neg h3]
    by_cases hk : k = 1 ∨ k = 2 ∨ k = 4 ∨ k = 5
    · rw [if_pos hk]
      cases tx with
      | nil => rw [if_pos rfl]; rcases hk with rfl | rfl | rfl | rfl <;> decide +kernel
      | cons c r => rw [if_neg (List.cons_ne_nil _ _)]; exact (whole_form k c r hk).symm
    · rw [if_neg hk]
      unfold formT
      rw [if_neg (fun e => hk (Or.inl e)), if_neg (fun e => hk (Or.inr (Or.inl e))), if_neg h3, if_neg (fun e => hk (Or.inr (Or.inr (Or.inl e)))), if_neg (fun e => hk (Or.inr (Or.inr (Or.inr e))))]
end Go.Proofs.YtpddneplkbdedaaDoor
