/- Walk of LexerForms. -/
import Derived.Test.YtpddneplkbdedaaDoorW35
namespace Go.Proofs.YtpddneplkbdedaaDoor
open Go.RowKit
set_option linter.unusedVariables false
set_option linter.unusedSimpArgs false

theorem okT_drop (ts : List Tk) : ∀ (a : Int) (k : Nat), okT a ts = true → okT (lastL a (ts.take k)) (ts.drop k) = true := by
  induction ts with
  | nil => intro a k h; simp [okT]
  | cons t ts ih =>
    intro a k h
    cases k with
    | zero => exact h
    | succ k =>
      rw [okT, Bool.and_eq_true] at h
      rw [List.take_succ_cons, List.drop_succ_cons]
      exact ih t.2.1 k h.2
theorem okT_at (ts : List Tk) (h : okT 1 ts = true) (k : Nat) (hk : k < ts.length) : validT ts[k].1 ts[k].2.2 = true ∧ 1 ≤ ts[k].2.1 ∧ (∀ (h0 : 0 < k), (ts[k - 1]'(by omega)).2.1 ≤ ts[k].2.1) := by
  have hd := okT_drop ts 1 k h
  rw [List.drop_eq_getElem_cons hk, okT, Bool.and_eq_true, Bool.and_eq_true] at hd
  have hle : lastL 1 (ts.take k) ≤ ts[k].2.1 := by
    have := hd.1.2
    simp at this
    omega
  have hlast : ∀ (h0 : 0 < k), lastL 1 (ts.take k) = (ts[k - 1]'(by omega)).2.1 := fun h0 => by
    obtain ⟨j, rfl⟩ : ∃ j, k = j + 1 := ⟨k - 1, by omega⟩
    unfold lastL
    rw [List.take_succ_eq_append_getElem (by omega), List.foldl_append]
    rfl
  have hone : ∀ k, k ≤ ts.length → 1 ≤ lastL 1 (ts.take k) := by
    intro k
    induction k with
    | zero => intro _; exact Int.le_refl _
    | succ k ih =>
      intro hk
      have h1 := ih (by omega)
      have hd := okT_drop ts 1 k h
      rw [List.drop_eq_getElem_cons (by omega), okT, Bool.and_eq_true, Bool.and_eq_true] at hd
      have h2 := hd.1.2
      simp at h2
      unfold lastL at h1 h2 ⊢
      rw [List.take_succ_eq_append_getElem (by omega), List.foldl_append]
      simp only [List.foldl_cons, List.foldl_nil]
      omega
  refine ⟨hd.1.1, ?_, fun h0 => ?_⟩
  · have := hone k (by omega)
    omega
  · rw [← hlast h0]
    exact hle

/-- The tokens of a text of at most 6000 bytes fit. -/
theorem nextT_text (l : List UInt8) : (nextT l).2.1.length ≤ l.length + 2 := by
  cases l with
  | nil => decide
  | cons c r =>
    have hpl := tw_len isPt (c :: r)
    have hpr := tw_len isPr r
    have hfp := firstPre_le (c :: r)
    unfold nextT
    dsimp only
    by_cases h2 : isLc c = true
    · rw [if_pos h2]
      by_cases h3 : isWord ((c :: r).takeWhile isPt) = true
      · rw [if_pos h3]; dsimp only; omega
      · rw [if_neg h3]
        by_cases h4 : 12 < ((c :: r).takeWhile isPt).length
        · rw [if_pos h4]; simp
        · rw [if_neg h4]; dsimp only; omega
    · rw [if_neg h2]
      by_cases h3 : isDg c = true
      · rw [if_pos h3]; dsimp only; omega
      · rw [if_neg h3]
        by_cases h4 : c = 34
        · rw [if_pos h4]
          by_cases h5 : r[(r.takeWhile isPr).length]? = some 34
          · rw [if_pos h5]; dsimp only; rw [List.length_cons]; omega
          · rw [if_neg h5]; simp
        · rw [if_neg h4]
          by_cases h5 : firstPre marksL (c :: r) = []
          · rw [if_pos h5]; simp
          · rw [if_neg h5]; dsimp only; omega
def TkIn (t : Tk) : Prop := t.2.2.length ≤ 10000 ∧ t.2.1 ≤ 10000
theorem tokF_fits (f : Nat) : ∀ (line : Int) (l : List UInt8) (acc : List Tk), l.length ≤ 5000 → line + l.length ≤ 10000 → (∀ t ∈ acc, TkIn t) → ∀ t ∈ (tokF f line l acc).1, TkIn t := by
  induction f with
  | zero => intro line l acc _ _ _ t ht; rw [tokF] at ht; simp at ht
  | succ f ih =>
    intro line l acc hl hll hac
    rw [tokF]
    by_cases he : l.drop (skip false l) = []
    · rw [if_pos he]; exact hac
    · rw [if_neg he]
      by_cases h0 : (nextT (l.drop (skip false l))).2.2.2 = 0
      · rw [if_pos h0]
        have hc := count_le l (skip false l) 10
        have hs := skip_le l false
        have ht := nextT_text (l.drop (skip false l))
        rw [List.length_drop] at ht
        refine ih _ _ _ ?_ ?_ ?_
        · rw [List.length_drop, List.length_drop]; omega
        · rw [List.length_drop, List.length_drop]; omega
        · intro t hm
          rcases List.mem_append.1 hm with hm | hm
          · exact hac t hm
          · rw [List.mem_singleton.1 hm]
            exact ⟨by dsimp only; omega, by dsimp only; omega⟩
      · rw [if_neg h0]
        intro t ht
        simp at ht
theorem tokL_fits (l : List UInt8) : Fits (tokL l).1 := by
  unfold tokL
  by_cases hl : 4096 < l.length
  · rw [if_pos hl]; exact ⟨by simp, fun i hi => absurd hi (by simp)⟩
  · rw [if_neg hl]
    have h1 := tokF_fits (l.length + 1) 1 l [] (by omega) (by omega) (by simp)
    have h2 := tokF_len (l.length + 1) 1 l []
    refine ⟨by simp at h2; omega, fun i hi => ?_⟩
    have := h1 _ (List.getElem_mem hi)
    exact ⟨by have := this.1; omega, by have := this.2; omega⟩
end Go.Proofs.YtpddneplkbdedaaDoor
