/- Plain facts for the lexer: classes of bytes, blanks. -/
import Derived.Test.YtpddneplkbdedaaDoorW2
namespace Go.Proofs.YtpddneplkbdedaaDoor
open Go.RowKit
set_option linter.unusedVariables false
set_option linter.unusedSimpArgs false

abbrev str (l : List UInt8) : ByteArray := ⟨l.toArray⟩
theorem str_size (l : List UInt8) : (str l).size = l.length := rfl
theorem str_append (a b : List UInt8) : str a ++ str b = str (a ++ b) := by
  apply ByteArray.ext; rw [ByteArray.data_append]; simp [str]
theorem str_data (l : List UInt8) : (str l).data.toList = l := by simp [str]
theorem str_get (l : List UInt8) (k : Nat) (h : k < (str l).size) : (str l)[k] = l[k]'h := rfl
theorem str_take (l : List UInt8) (n : Nat) : (str l).extract 0 n = str (l.take n) := by
  apply ByteArray.ext
  rw [ByteArray.data_extract]
  simp [str]
theorem str_drop (l : List UInt8) (n : Nat) : (str l).extract n (str l).size = str (l.drop n) := by
  apply ByteArray.ext
  rw [ByteArray.data_extract, str_size]
  apply Array.toList_inj.1
  simp [str]
  rw [List.take_of_length_le (by simp)]

theorem tw_len (P : UInt8 → Bool) (l : List UInt8) : (l.takeWhile P).length ≤ l.length := (List.takeWhile_sublist _).length_le
theorem tw_take (P : UInt8 → Bool) (l : List UInt8) : l.take (l.takeWhile P).length = l.takeWhile P := by
  have take_of : ∀ (a b R : List UInt8), a ++ b = R → R.take a.length = a := fun a b R h => by subst h; exact List.take_left' rfl
  exact take_of _ _ _ (List.takeWhile_append_dropWhile (p := P) (l := l))
theorem tw_facts (P : UInt8 → Bool) (l : List UInt8) : (∀ k (h : k < l.length), k < (l.takeWhile P).length → P l[k] = true) ∧ (l.length ≤ (l.takeWhile P).length ∨ ∃ h : (l.takeWhile P).length < l.length, P l[(l.takeWhile P).length] = false) := by
  induction l with
  | nil => exact ⟨fun k h => absurd h (by simp), Or.inl (by simp)⟩
  | cons x r ih =>
    by_cases hx : P x = true
    · rw [List.takeWhile_cons, if_pos hx]
      refine ⟨fun k h hk => ?_, ?_⟩
      · cases k with
        | zero => exact hx
        | succ k => exact ih.1 k (by simpa using h) (by simpa using hk)
      · rcases ih.2 with h | ⟨h, h2⟩
        · exact Or.inl (by simpa using h)
        · exact Or.inr ⟨by simpa using h, by simpa using h2⟩
    · rw [List.takeWhile_cons, if_neg hx]
      exact ⟨fun k h hk => absurd hk (by simp), Or.inr ⟨by simp, by simpa using hx⟩⟩

/-- The bytes ahead that are blanks or stand in a comment. -/
def skip : Bool → List UInt8 → Nat
  | _, [] => 0
  | cm, c :: l => if c = 10 then 1 + skip false l else if cm || c == 32 || c == 9 then 1 + skip cm l else if c = 35 then 1 + skip true l else 0

theorem skip_le (l : List UInt8) : ∀ cm, skip cm l ≤ l.length := by
  induction l with
  | nil => intro cm; simp [skip]
  | cons c l ih =>
    intro cm
    rw [skip, List.length_cons]
    have := ih false; have := ih true; have := ih cm
    split
    · omega
    · split
      · omega
      · split <;> omega

/-- A comment ends ahead of the line's end. -/
theorem skip_true (l : List UInt8) : skip true l = (l.takeWhile fun c => c != 10).length + skip false (l.drop (l.takeWhile fun c => c != 10).length) := by
  induction l with
  | nil => rfl
  | cons c l ih =>
    rw [List.takeWhile_cons]
    by_cases h : c = 10
    · subst h
      simp [skip]
    · have hb : (c != 10) = true := by simpa using h
      rw [if_pos hb, skip, if_neg h]
      simp only [Bool.true_or, if_true, List.length_cons, List.drop_succ_cons]
      rw [ih]
      omega

theorem skip_step (l : List UInt8) (k : Nat) (h : k < l.length) : skip false (l.drop k) =
    if l[k] = 10 ∨ l[k] = 32 ∨ l[k] = 9 then 1 + skip false (l.drop (k + 1)) else if l[k] = 35 then 1 + skip true (l.drop (k + 1)) else 0 := by
  rw [List.drop_eq_getElem_cons h, skip]
  generalize l[k] = c
  by_cases h1 : c = 10
  · simp [h1]
  · by_cases h2 : c = 32
    · simp [h2]
    · by_cases h3 : c = 9
      · simp [h3]
      · simp [h1, h2, h3]

theorem skip_hash (l : List UInt8) (k : Nat) (h : k < l.length) (hc : l[k] = 35) :
    skip false (l.drop k) = ((l.drop k).takeWhile fun c => c != 10).length + skip false (l.drop (k + ((l.drop k).takeWhile fun c => c != 10).length)) := by
  rw [skip_step l k h, hc, if_neg (by decide), if_pos rfl, skip_true]
  have e : (l.drop k).takeWhile (fun c => c != 10) = 35 :: (l.drop (k + 1)).takeWhile (fun c => c != 10) := by
    rw [List.drop_eq_getElem_cons h, hc, List.takeWhile_cons, if_pos (by decide)]
  rw [e, List.length_cons, List.drop_drop]
  rw [show k + 1 + ((l.drop (k + 1)).takeWhile fun c => c != 10).length = k + (((l.drop (k + 1)).takeWhile fun c => c != 10).length + 1) by omega]
  omega
end Go.Proofs.YtpddneplkbdedaaDoor
