/- What the reference's one computes, told by lists. -/
import Derived.Test.YtpddneplkbdedaaDoorW19
namespace Go.Proofs.YtpddneplkbdedaaDoor
open Go.RowKit
set_option linter.unusedVariables false
set_option linter.unusedSimpArgs false

theorem tw_eq (P : UInt8 → Bool) (a b : List UInt8) (x : UInt8) (ha : a.all P = true) (hx : P x = false) : (a ++ x :: b).takeWhile P = a := by
  induction a with
  | nil => rw [List.nil_append, List.takeWhile_cons, if_neg (by rw [hx]; decide)]
  | cons c a ih =>
    rw [List.all_cons, Bool.and_eq_true] at ha
    rw [List.cons_append, List.takeWhile_cons, if_pos ha.1, ih ha.2]
theorem tw_split (P : UInt8 → Bool) (l : List UInt8) (h : (l.takeWhile P).length < l.length) : l = l.takeWhile P ++ l[(l.takeWhile P).length] :: l.drop ((l.takeWhile P).length + 1) := by
  have h1 := List.take_append_drop (l.takeWhile P).length l
  rw [tw_take, List.drop_eq_getElem_cons h] at h1
  exact h1.symm
theorem str_mid (c : UInt8) (r : List UInt8) (k : Nat) : (str (c :: r)).extract 1 (1 + k) = str (r.take k) := by
  apply ByteArray.ext
  rw [ByteArray.data_extract]
  apply Array.toList_inj.1
  simp [str]

theorem str_cases (r : List UInt8) : (r[(r.takeWhile isPr).length]? = some 34 ∧ (r.takeWhile fun c => c != 34) = r.takeWhile isPr ∧ (r.takeWhile fun c => c != 34).length < r.length) ∨
    (¬ r[(r.takeWhile isPr).length]? = some 34 ∧ (r.length ≤ (r.takeWhile fun c => c != 34).length ∨ ((r.takeWhile fun c => c != 34).length < r.length ∧ (r.takeWhile fun c => c != 34).all isPr = false))) := by
  have hpr : isPr 34 = false := by decide
  by_cases h : r[(r.takeWhile isPr).length]? = some 34
  · refine Or.inl ⟨h, ?_⟩
    obtain ⟨hlt, hv⟩ := List.getElem?_eq_some_iff.1 h
    have hs := tw_split isPr r hlt
    rw [hv] at hs
    have hall : (r.takeWhile isPr).all (fun c => c != 34) = true := by
      rw [List.all_eq_true]
      intro x hx
      have : isPr x = true := by
        have := List.all_takeWhile (p := isPr) (l := r)
        rw [List.all_eq_true] at this
        exact this x hx
      rw [bne_iff_ne]
      intro e
      rw [e, hpr] at this
      cases this
    have h2 : (r.takeWhile fun c => c != 34) = r.takeWhile isPr := by
      conv => lhs; rw [hs]
      exact tw_eq _ _ _ _ hall (by decide)
    exact ⟨h2, by rw [h2]; exact hlt⟩
  · refine Or.inr ⟨h, ?_⟩
    by_cases hq : r.length ≤ (r.takeWhile fun c => c != 34).length
    · exact Or.inl hq
    · refine Or.inr ⟨by omega, ?_⟩
      by_cases ha : (r.takeWhile fun c => c != 34).all isPr = true
      · exfalso
        have hlt : (r.takeWhile fun c => c != 34).length < r.length := by omega
        have hs := tw_split (fun c => c != 34) r hlt
        have hv : r[(r.takeWhile fun c => c != 34).length] = 34 := by
          rcases (tw_facts (fun c => c != 34) r).2 with h1 | ⟨h1, h2⟩
          · omega
          · simpa using h2
        rw [hv] at hs
        have h2 : r.takeWhile isPr = r.takeWhile fun c => c != 34 := by
          conv => lhs; rw [hs]
          exact tw_eq _ _ _ _ ha hpr
        rw [h2, List.getElem?_eq_getElem hlt, hv] at h
        exact h rfl
      · simpa using ha

theorem one_any (l : List UInt8) (h1 : 1 ≤ l.length) (hl : l.length ≤ 100000) (w : World) : KB 22 #[.string (str l)] (retV (nextT l)) w := by
  obtain ⟨c, r, rfl⟩ : ∃ c r, l = c :: r := by
    cases l with
    | nil => simp at h1
    | cons c r => exact ⟨c, r, rfl⟩
  have hsz : 0 < (str (c :: r)).size := by rw [str_size]; simp
  have z : (str (c :: r)).size ≤ 1000000 := by rw [str_size]; omega
  have hp := run_list (c :: r) (by omega)
  have hpl := tw_len isPt (c :: r)
  have zn : ((c :: r).takeWhile isPt).length ≤ (str (c :: r)).size := by rw [str_size]; exact hpl
  have hx : (str (c :: r)).extract 0 ((c :: r).takeWhile isPt).length = str ((c :: r).takeWhile isPt) := by rw [str_take, tw_take]
  have a0 : ((str (c :: r))[0]'hsz) = c := rfl
  unfold nextT retV
  dsimp only
  by_cases h2 : isLc c = true
  · rw [if_pos h2]
    have b1 : KC 33 #[.int .u8 (((str (c :: r))[0]'hsz).toNat : Int)] (.bool true) := fun w => by rw [a0, ← h2]; exact rletter_any _ w
    by_cases h3 : isWord ((c :: r).takeWhile isPt) = true
    · rw [if_pos h3]
      have b3 : ∀ w, KB 14 #[.string ((str (c :: r)).extract 0 ((c :: r).takeWhile isPt).length)] (.bool true) w := fun w => by rw [hx, ← h3]; exact rword_any _ w
      have := one_word (str (c :: r)) ByteArray.empty _ hsz z zn hp b1 b3 w
      rw [hx] at this
      exact this
    · rw [if_neg h3]
      have b3 : ∀ w, KB 14 #[.string ((str (c :: r)).extract 0 ((c :: r).takeWhile isPt).length)] (.bool false) w := fun w => by
        have : isWord ((c :: r).takeWhile isPt) = false := by simpa using h3
        rw [hx, ← this]; exact rword_any _ w
      by_cases h4 : 12 < ((c :: r).takeWhile isPt).length
      · rw [if_pos h4]
        exact one_long (str (c :: r)) ByteArray.empty _ hsz z zn hp b1 b3 h4 w
      · rw [if_neg h4]
        have := one_name (str (c :: r)) ByteArray.empty _ hsz z zn hp b1 b3 (by omega) w
        rw [hx] at this
        exact this
  · rw [if_neg h2]
    have h2' : isLc c = false := by simpa using h2
    have b1 : KC 33 #[.int .u8 (((str (c :: r))[0]'hsz).toNat : Int)] (.bool false) := fun w => by rw [a0, ← h2']; exact rletter_any _ w
    by_cases h3 : isDg c = true
    · rw [if_pos h3]
      have b2 : KC 50 #[.int .u8 (((str (c :: r))[0]'hsz).toNat : Int)] (.bool true) := fun w => by rw [a0, ← h3]; exact rdigit_any _ w
      have b5 : KC 35 #[.string ((str (c :: r)).extract 0 ((c :: r).takeWhile isPt).length)] (.int .i64 (intE ((c :: r).takeWhile isPt))) := by rw [hx]; exact rint_any _ (by omega)
      have := one_int (str (c :: r)) ByteArray.empty _ hsz z zn hp b1 b2 _ b5 w
      rw [hx] at this
      exact this
    · rw [if_neg h3]
      have h3' : isDg c = false := by simpa using h3
      have b2 : KC 50 #[.int .u8 (((str (c :: r))[0]'hsz).toNat : Int)] (.bool false) := fun w => by rw [a0, ← h3']; exact rdigit_any _ w
      by_cases h4 : c = 34
      · rw [if_pos h4]
        subst h4
        have hl' : r.length + 1 ≤ 100000 := by simpa using hl
        have hd : (str (34 :: r)).extract 1 (str (34 :: r)).size = str r := str_drop (34 :: r) 1
        have hq := quote_list r (by omega)
        unfold quoteI at hq
        rcases str_cases r with ⟨h5, h6, h7⟩ | ⟨h5, h7 | ⟨h7, h8⟩⟩
        · rw [if_pos h5, ← h6]
          rw [if_neg (by omega)] at hq
          have hm := str_mid 34 r (r.takeWhile fun c => c != 34).length
          have ht : r.take (r.takeWhile fun c => c != 34).length = r.takeWhile fun c => c != 34 := tw_take _ _
          have hpl2 : KC 36 #[.string ((str (34 :: r)).extract 1 (1 + (r.takeWhile fun c => c != 34).length))] (.bool true) := by
            have := plain_list (r.takeWhile fun c => c != 34) (by omega)
            rw [hm, ht]
            rw [show (r.takeWhile fun c => c != 34).all isPr = true by rw [h6]; exact List.all_takeWhile] at this
            exact this
          have := one_str (str (34 :: r)) ByteArray.empty _ hsz z zn hp b1 b2 (by rw [a0]; rfl) (r.takeWhile fun c => c != 34).length (by rw [str_size, List.length_cons]; omega) (by rw [hd]; exact hq) hpl2 w
          rw [hm, ht] at this
          exact this
        · rw [if_neg h5]
          rw [if_pos h7] at hq
          exact one_strno (str (34 :: r)) ByteArray.empty _ hsz z zn hp b1 b2 (by rw [a0]; rfl) (by rw [hd]; exact hq) w
        · rw [if_neg h5]
          rw [if_neg (by omega)] at hq
          have hm := str_mid 34 r (r.takeWhile fun c => c != 34).length
          have ht : r.take (r.takeWhile fun c => c != 34).length = r.takeWhile fun c => c != 34 := tw_take _ _
          have hpl2 : KC 36 #[.string ((str (34 :: r)).extract 1 (1 + (r.takeWhile fun c => c != 34).length))] (.bool false) := by
            have := plain_list (r.takeWhile fun c => c != 34) (by omega)
            rw [hm, ht]
            rw [h8] at this
            exact this
          exact one_strbad (str (34 :: r)) ByteArray.empty _ hsz z zn hp b1 b2 (by rw [a0]; rfl) (r.takeWhile fun c => c != 34).length (by rw [str_size, List.length_cons]; omega) (by rw [hd]; exact hq) hpl2 w
      · rw [if_neg h4]
        have h34 : ((((str (c :: r))[0]'hsz).toNat : Int) == 34) = false := by
          rw [a0]
          have : c.toNat ≠ 34 := fun e => h4 (UInt8.toNat_inj.mp (by simpa using e))
          rw [beq_eq_false_iff_ne]
          omega
        obtain ⟨e, he, hno, hx2⟩ := find_pre marksL (c :: r)
        refine one_none (str (c :: r)) (c :: r) _ rfl hsz z hp b1 b2 h34 e he hno _ ?_ w
        rcases hx2 with ⟨h5, h6⟩ | ⟨h5, h6, h7⟩
        · refine Or.inl ⟨h5, ?_⟩
          rw [if_pos h6]
          rfl
        · refine Or.inr ⟨h5, h6, ?_⟩
          rw [h7]
          rw [if_neg]
          · rw [str_size]
          · have : ∀ x ∈ marksL, x ≠ [] := by decide
            exact this _ (List.getElem_mem _)
end Go.Proofs.YtpddneplkbdedaaDoor
