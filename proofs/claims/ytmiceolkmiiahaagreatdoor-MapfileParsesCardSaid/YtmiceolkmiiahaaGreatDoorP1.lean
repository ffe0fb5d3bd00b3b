/- Plain: the pieces of a text between the occurrences of a byte; no program in sight. -/
import Derived.Lib.SplitLaws
import Derived.Lib.CutLaws
import Derived.Lib.ItoaNum
import Derived.Lib.AtoiAll
import Derived.Lib.AtoiTie
namespace Go.Proofs.YtmiceolkmiiahaaGreatDoor
set_option linter.unusedVariables false
set_option linter.unusedSimpArgs false

def addHead (b : UInt8) : List (List UInt8) → List (List UInt8)
  | [] => [[b]]
  | p :: ps => (b :: p) :: ps
/-- The pieces of a text between the occurrences of c. -/
def sp (c : UInt8) : List UInt8 → List (List UInt8)
  | [] => [[]]
  | b :: s => if b = c then [] :: sp c s else addHead b (sp c s)
theorem sp_ne (c : UInt8) (s : List UInt8) : sp c s ≠ [] := by
  cases s with
  | nil => simp [sp]
  | cons b s =>
    unfold sp
    split
    · simp
    · cases sp c s <;> simp [addHead]
theorem sp_eq (c : UInt8) (s : List UInt8) : sp c (c :: s) = [] :: sp c s := by rw [sp, if_pos rfl]
theorem sp_neq (c b : UInt8) (s : List UInt8) (h : b ≠ c) : sp c (b :: s) = addHead b (sp c s) := by rw [sp, if_neg h]
theorem sp_none (c : UInt8) (l : List UInt8) (h : c ∉ l) : sp c l = [l] := by
  induction l with
  | nil => rfl
  | cons b l ih =>
    rw [List.mem_cons, not_or] at h
    rw [sp_neq c b l (fun e => h.1 e.symm), ih h.2]
    rfl
theorem sp_hit (c : UInt8) (l r : List UInt8) (h : c ∉ l) : sp c (l ++ c :: r) = l :: sp c r := by
  induction l with
  | nil => exact sp_eq c r
  | cons b l ih =>
    rw [List.mem_cons, not_or] at h
    rw [List.cons_append, sp_neq c b _ (fun e => h.1 e.symm), ih h.2]
    rfl
/-- A text has a first piece and what follows it, or is one piece. -/
theorem sp_cases (c : UInt8) (s : List UInt8) : (c ∉ s ∧ sp c s = [s]) ∨ ∃ l r, s = l ++ c :: r ∧ c ∉ l ∧ sp c s = l :: sp c r := by
  by_cases h : c ∈ s
  · right
    obtain ⟨l, r, hs, hl⟩ : ∃ l r, s = l ++ c :: r ∧ c ∉ l := by
      induction s with
      | nil => simp at h
      | cons b s ih =>
        by_cases hb : c = b
        · exact ⟨[], s, by rw [hb]; rfl, by simp⟩
        · rw [List.mem_cons] at h
          obtain ⟨l, r, h1, h2⟩ := ih (h.resolve_left hb)
          exact ⟨b :: l, r, by rw [h1]; rfl, by rw [List.mem_cons, not_or]; exact ⟨hb, h2⟩⟩
    exact ⟨l, r, hs, hl, by rw [hs]; exact sp_hit c l r hl⟩
  · exact Or.inl ⟨h, sp_none c s h⟩

theorem index_no (c : UInt8) (s : List UInt8) (h : c ∉ s) : Lib.index s [c] = -1 := by
  induction s with
  | nil => rfl
  | cons b s ih =>
    rw [List.mem_cons, not_or] at h
    rw [Lib.index, ih h.2]
    simp [List.isPrefixOf, h.1]
theorem index_at (c : UInt8) (l r : List UInt8) (h : c ∉ l) : Lib.index (l ++ c :: r) [c] = (l.length : Int) := by
  induction l with
  | nil => rw [List.nil_append, Lib.index]; simp [List.isPrefixOf]
  | cons b l ih =>
    rw [List.mem_cons, not_or] at h
    rw [List.cons_append, Lib.index, ih h.2]
    have e1 : ([c] : List UInt8).isPrefixOf (b :: (l ++ c :: r)) = false := by simp [List.isPrefixOf, h.1]
    have e2 : ((l.length : Int) == -1) = false := by rw [beq_eq_false_iff_ne]; omega
    rw [e1, e2]
    simp
theorem cut_no (c : UInt8) (s : List UInt8) (h : c ∉ s) : Lib.cut s [c] = (s, [], false) := by
  unfold Lib.cut
  rw [index_no c s h, if_neg (by omega)]
theorem cut_at (c : UInt8) (l r : List UInt8) (h : c ∉ l) : Lib.cut (l ++ c :: r) [c] = (l, r, true) := by
  unfold Lib.cut
  rw [index_at c l r h, if_pos (by omega)]
  simp
theorem split_sp (c : UInt8) (s : List UInt8) : Lib.splitK [c] 0 (Lib.count s [c]) s = sp c s := by
  induction hn : s.length using Nat.strongRecOn generalizing s with
  | ind n ih =>
    rcases sp_cases c s with ⟨h1, h2⟩ | ⟨l, r, h1, h2, h3⟩
    · rw [Lib.count_miss (index_no c s h1), h2]
      rfl
    · have hi := index_at c l r h2
      rw [h3, h1]
      rw [Lib.count_hit (by simp) hi]
      have hd : (l ++ c :: r).drop (l.length + [c].length) = r := by simp
      rw [hd, Nat.add_comm 1, Lib.splitK, hi]
      have e2 : ((l.length : Int) == -1) = false := by rw [beq_eq_false_iff_ne]; omega
      rw [e2]
      have e3 : ((l.length : Int)).toNat = l.length := by omega
      rw [e3, hd]
      have := ih r.length (by rw [← hn, h1]; simp; omega) r rfl
      rw [this]
      simp
theorem sp_all (c : UInt8) (s : List UInt8) : ∀ p ∈ sp c s, c ∉ p := by
  induction hn : s.length using Nat.strongRecOn generalizing s with
  | ind n ih =>
    rcases sp_cases c s with ⟨h1, h2⟩ | ⟨l, r, h1, h2, h3⟩
    · rw [h2]; intro p hp; rw [List.mem_singleton] at hp; rw [hp]; exact h1
    · rw [h3]
      intro p hp
      rw [List.mem_cons] at hp
      rcases hp with rfl | hp
      · exact h2
      · exact ih r.length (by rw [← hn, h1]; simp; omega) r rfl p hp
theorem sp_len (c : UInt8) (s : List UInt8) : (sp c s).length ≤ s.length + 1 := by
  induction s with
  | nil => simp [sp]
  | cons b s ih =>
    unfold sp
    split
    · simp; omega
    · cases h : sp c s with
      | nil => exact absurd h (sp_ne c s)
      | cons p ps => rw [h] at ih; simp [addHead] at ih ⊢; omega
theorem sp_le (c : UInt8) (s : List UInt8) : ∀ p ∈ sp c s, p.length ≤ s.length := by
  induction hn : s.length using Nat.strongRecOn generalizing s with
  | ind n ih =>
    rcases sp_cases c s with ⟨h1, h2⟩ | ⟨l, r, h1, h2, h3⟩
    · rw [h2]; intro p hp; rw [List.mem_singleton] at hp; rw [hp]; omega
    · rw [h3]
      intro p hp
      rw [List.mem_cons] at hp
      have hl : s.length = l.length + (r.length + 1) := by rw [h1]; simp
      rcases hp with rfl | hp
      · omega
      · have := ih r.length (by omega) r rfl p hp; omega

/-- The value of a number in a text; -1 if it is none. -/
def numT (s : List UInt8) : Int :=
  if s.length < 1 ∨ 7 < s.length ∨ (1 < s.length ∧ s[0]? = some 48) then -1
  else match Lib.decFrom 0 s with
    | none => -1
    | some n => if 1000000 < n then -1 else (n : Int)

theorem decFrom_append (a b : List UInt8) : ∀ acc, Lib.decFrom acc (a ++ b) = (Lib.decFrom acc a).bind fun n => Lib.decFrom n b := by
  induction a with
  | nil => intro acc; rfl
  | cons x a ih =>
    intro acc
    rw [List.cons_append, Lib.decFrom, Lib.decFrom]
    cases Lib.digitVal x with
    | none => rfl
    | some d => exact ih _
theorem digit_of (d : Nat) (h : d < 10) : Lib.digitVal (UInt8.ofNat (48 + d)) = some d := by
  have e : (UInt8.ofNat (48 + d)).toNat = 48 + d := by simp; omega
  unfold Lib.digitVal
  rw [e, if_pos (by omega)]
  congr 1
  omega
theorem digit_is {b : UInt8} {d : Nat} (h : Lib.digitVal b = some d) : d < 10 ∧ b = UInt8.ofNat (48 + d) := by
  unfold Lib.digitVal at h
  split at h
  · injection h with h
    refine ⟨by omega, ?_⟩
    apply UInt8.toNat_inj.1
    simp
    omega
  · cases h
theorem dec_of (n : Nat) : Lib.decFrom 0 (Lib.decDigits n) = some n := by
  induction n using Nat.strongRecOn with
  | ind n ih =>
    rw [Lib.decDigits]
    split
    · rename_i h
      show (match Lib.digitVal (UInt8.ofNat (48 + n)) with | some d => Lib.decFrom (0 * 10 + d) [] | none => none) = _
      rw [digit_of n h]
      simp [Lib.decFrom]
    · rw [decFrom_append, ih (n / 10) (by omega)]
      show (match Lib.digitVal (UInt8.ofNat (48 + n % 10)) with | some d => Lib.decFrom (n / 10 * 10 + d) [] | none => none) = _
      rw [digit_of _ (by omega)]
      simp [Lib.decFrom]
      omega
theorem decFrom_ge (l : List UInt8) : ∀ acc n, Lib.decFrom acc l = some n → acc * 10 ^ l.length ≤ n := by
  induction l with
  | nil => intro acc n h; simp [Lib.decFrom] at h; simp [h]
  | cons b l ih =>
    intro acc n h
    rw [Lib.decFrom] at h
    cases hd : Lib.digitVal b with
    | none => rw [hd] at h; cases h
    | some d =>
      rw [hd] at h
      have := ih _ _ h
      rw [List.length_cons, Nat.pow_succ]
      have e : acc * (10 ^ l.length * 10) = acc * 10 * 10 ^ l.length := by rw [Nat.mul_assoc acc 10, Nat.mul_comm 10]
      rw [e]
      refine Nat.le_trans (Nat.mul_le_mul_right _ ?_) this
      omega
theorem snoc_cases (l : List UInt8) : l = [] ∨ ∃ a b, l = a ++ [b] := by
  rcases List.eq_nil_or_concat l with h | ⟨a, b, h⟩
  · exact Or.inl h
  · exact Or.inr ⟨a, b, by rw [h, List.concat_eq_append]⟩
/-- A row of digits with no nought ahead spells the numeral of its value. -/
theorem dec_is (l : List UInt8) (n : Nat) (h0 : l ≠ []) (h1 : ¬ (1 < l.length ∧ l[0]? = some 48)) (h : Lib.decFrom 0 l = some n) : l = Lib.decDigits n := by
  induction hn : l.length using Nat.strongRecOn generalizing l n with
  | ind k ih =>
    rcases snoc_cases l with rfl | ⟨a, b, rfl⟩
    · exact absurd rfl h0
    · rw [decFrom_append] at h
      cases ha : Lib.decFrom 0 a with
      | none => rw [ha] at h; cases h
      | some m =>
        rw [ha] at h
        replace h : (match Lib.digitVal b with | some d => Lib.decFrom (m * 10 + d) [] | none => none) = some n := h
        cases hd : Lib.digitVal b with
        | none => rw [hd] at h; cases h
        | some d =>
          rw [hd] at h
          simp [Lib.decFrom] at h
          obtain ⟨hd1, hd2⟩ := digit_is hd
          by_cases hae : a = []
          · subst hae
            simp [Lib.decFrom] at ha
            subst ha
            rw [Lib.decDigits, dif_pos (by omega), hd2, ← h]
            simp
          · have hal : 0 < a.length := List.length_pos_iff.2 hae
            have ih' := ih a.length (by rw [← hn]; simp) a m hae (fun hh => h1 ⟨by simp; omega, by rw [List.getElem?_append_left (by omega)]; exact hh.2⟩) ha rfl
            have hm : 1 ≤ m := by
              match a, hal, ha, h1 with
              | x :: a', _, ha, h1 =>
                rw [Lib.decFrom] at ha
                cases hx : Lib.digitVal x with
                | none => rw [hx] at ha; cases ha
                | some dx =>
                  rw [hx] at ha
                  have hge := decFrom_ge a' _ _ ha
                  obtain ⟨_, hx2⟩ := digit_is hx
                  have hx0 : dx ≠ 0 := fun e => h1 ⟨by simp, by rw [hx2, e]; rfl⟩
                  have : 1 ≤ 10 ^ a'.length := Nat.one_le_pow _ _ (by decide)
                  have : 1 * 1 ≤ (0 * 10 + dx) * 10 ^ a'.length := Nat.mul_le_mul (by omega) this
                  omega
            rw [Lib.decDigits, dif_neg (by omega), ih', hd2, ← h]
            congr 3
            · omega
            · omega
theorem dd_small (n : Nat) (h : n < 10) : Lib.decDigits n = [UInt8.ofNat (48 + n)] := by rw [Lib.decDigits, dif_pos h]
theorem dd_big (n : Nat) (h : ¬ n < 10) : Lib.decDigits n = Lib.decDigits (n / 10) ++ [UInt8.ofNat (48 + n % 10)] := by rw [Lib.decDigits, dif_neg h]
theorem dd_len : ∀ (k n : Nat), n < 10 ^ (k + 1) → 1 ≤ (Lib.decDigits n).length ∧ (Lib.decDigits n).length ≤ k + 1 := by
  intro k
  induction k with
  | zero => intro n h; rw [dd_small n (by simpa using h)]; simp
  | succ k ih =>
    intro n h
    by_cases hn : n < 10
    · rw [dd_small n hn]; simp
    · rw [dd_big n hn, List.length_append]
      have := ih (n / 10) (by rw [Nat.pow_succ] at h; omega)
      simp
      omega
theorem dd_head (n : Nat) (hn : 1 ≤ n) : ∃ c t, Lib.decDigits n = c :: t ∧ c ≠ 48 ∧ Lib.digitVal c ≠ none := by
  induction n using Nat.strongRecOn with
  | ind n ih =>
    by_cases h : n < 10
    · refine ⟨_, [], dd_small n h, ?_, by rw [digit_of n h]; simp⟩
      intro e
      have := congrArg UInt8.toNat e
      simp at this
      omega
    · obtain ⟨c, t, h1, h2, h3⟩ := ih (n / 10) (by omega) (by omega)
      exact ⟨c, t ++ [UInt8.ofNat (48 + n % 10)], by rw [dd_big n h, h1]; rfl, h2, h3⟩
theorem dd_digits (n : Nat) : ∀ b ∈ Lib.decDigits n, 48 ≤ b.toNat ∧ b.toNat ≤ 57 := by
  induction n using Nat.strongRecOn with
  | ind n ih =>
    have key : ∀ d, d < 10 → 48 ≤ (UInt8.ofNat (48 + d)).toNat ∧ (UInt8.ofNat (48 + d)).toNat ≤ 57 := fun d hd => by simp; omega
    by_cases h : n < 10
    · rw [dd_small n h]; intro b hb; rw [List.mem_singleton] at hb; rw [hb]; exact key n h
    · rw [dd_big n h]
      intro b hb
      rw [List.mem_append, List.mem_singleton] at hb
      rcases hb with hb | rfl
      · exact ih _ (by omega) b hb
      · exact key _ (by omega)
theorem numT_dec (n : Nat) (h : n ≤ 1000000) : numT (Lib.decDigits n) = (n : Int) := by
  have hl := dd_len 6 n (by omega)
  unfold numT
  rw [if_neg, dec_of]
  · show (if 1000000 < n then (-1 : Int) else (n : Int)) = _
    rw [if_neg (by omega)]
  · rintro (h1 | h1 | ⟨h1, h2⟩)
    · omega
    · omega
    · by_cases h0 : n = 0
      · subst h0; rw [dd_small 0 (by omega)] at h1; simp at h1
      · obtain ⟨c, t, hc, hne, _⟩ := dd_head n (by omega)
        rw [hc] at h2
        simp at h2
        exact hne h2
theorem numT_is (s : List UInt8) (h : numT s ≠ -1) : ∃ n : Nat, n ≤ 1000000 ∧ s = Lib.decDigits n ∧ numT s = (n : Int) := by
  unfold numT at h ⊢
  split at h
  · exact absurd rfl h
  · rename_i h0
    rw [if_neg h0]
    cases hd : Lib.decFrom 0 s with
    | none => rw [hd] at h; exact absurd rfl h
    | some n =>
      rw [hd] at h
      replace h : (if 1000000 < n then (-1 : Int) else (n : Int)) ≠ -1 := h
      by_cases hn : 1000000 < n
      · rw [if_pos hn] at h; exact absurd rfl h
      · refine ⟨n, by omega, dec_is s n (fun e => h0 (Or.inl (by rw [e]; simp))) (fun hh => h0 (Or.inr (Or.inr hh))) hd, ?_⟩
        show (if 1000000 < n then (-1 : Int) else (n : Int)) = _
        rw [if_neg hn]
theorem numT_range (s : List UInt8) : numT s = -1 ∨ (0 ≤ numT s ∧ numT s ≤ 1000000) := by
  by_cases h : numT s = -1
  · exact Or.inl h
  · obtain ⟨n, h1, _, h2⟩ := numT_is s h
    exact Or.inr (by omega)
end Go.Proofs.YtmiceolkmiiahaaGreatDoor
