/- What the reference's Parse of the num package computes. -/
import Derived.Test.YtoihknngllmogaaDoorW29
namespace Go.Proofs.YtoihknngllmogaaDoor
open Go.RowKit
set_option linter.unusedVariables false
set_option linter.unusedSimpArgs false

def satN (v : Nat) : Nat := if 36028797018963968 < v then 36028797018963968 else v
def ldE (R : List UInt8) : Nat := (R.takeWhile isD).length
def ldW (R : List UInt8) (k : Nat) : Int := (satN (valF 0 (R.take k)) : Int)
def ldL (R : List UInt8) (k : Nat) : Bool := decide (36028797018963968 < valF 0 (R.take k))

theorem tw_mem (R : List UInt8) : ∀ x ∈ R.takeWhile isD, isD x = true := by
  induction R with
  | nil => simp
  | cons y l ih =>
    intro x hx
    rw [List.takeWhile_cons] at hx
    by_cases hy : isD y = true
    · rw [if_pos hy] at hx
      rcases List.mem_cons.1 hx with e | e
      · rw [e]; exact hy
      · exact ih x e
    · rw [if_neg hy] at hx
      simp at hx
theorem take_of (a b R : List UInt8) (h : a ++ b = R) : R.take a.length = a := by subst h; exact List.take_left' rfl
theorem ld_split (R : List UInt8) : (R = R.takeWhile isD ∧ ldE R = R.length) ∨ ∃ c B, R = R.takeWhile isD ++ c :: B ∧ isD c = false := by
  induction R with
  | nil => exact Or.inl ⟨rfl, rfl⟩
  | cons x l ih =>
    unfold ldE
    by_cases hx : isD x = true
    · rw [List.takeWhile_cons, if_pos hx]
      rcases ih with ⟨h, _⟩ | ⟨c, B, h, hc⟩
      · refine Or.inl ⟨by rw [← h], ?_⟩
        rw [List.length_cons, List.length_cons, ← h]
      · exact Or.inr ⟨c, B, by rw [List.cons_append, ← h], hc⟩
    · rw [List.takeWhile_cons, if_neg hx]
      exact Or.inr ⟨x, l, rfl, by simpa using hx⟩

theorem ld_all (R : List UInt8) : allD (R.takeWhile isD) = true := by
  unfold allD
  rw [List.all_eq_true]
  intro x hx
  exact tw_mem _ _ hx

theorem ld_le (R : List UInt8) : ldE R ≤ R.length := (List.takeWhile_sublist _).length_le

theorem ld_take (R : List UInt8) : R.take (ldE R) = R.takeWhile isD := by
  exact take_of _ _ _ (List.takeWhile_append_dropWhile (p := isD) (l := R))

theorem ld_at (R : List UInt8) (k : Nat) (h : k < R.length) (hk : k < ldE R) : isD R[k] = true := by
  have h1 : k < (R.take (ldE R)).length := by rw [List.length_take]; omega
  have h2 : (R.take (ldE R))[k] = R[k] := List.getElem_take
  have h3 := List.getElem_mem h1
  rw [h2] at h3
  rw [ld_take] at h3
  exact tw_mem _ _ h3

theorem lead_ok (R : List UInt8) : Lead (str R) (ldE R) (ldW R) (ldL R) := by
  intro k h hk
  have hkR : k < R.length := h
  have hd := ld_at R k hkR hk
  have e1 : (str R)[k] = R[k] := rfl
  simp only [isD, Bool.and_eq_true, decide_eq_true_eq] at hd
  rw [e1]
  have hstep : valF 0 (R.take (k + 1)) = valF 0 (R.take k) * 10 + (R[k].toNat - 48) := by
    rw [← List.take_append_getElem hkR, valF_snoc]
  unfold ldW ldL satN
  rw [hstep]
  generalize valF 0 (R.take k) = v
  generalize R[k].toNat = d at *
  refine ⟨hd, by omega, by split <;> omega, ?_⟩
  by_cases h1 : 36028797018963968 < v
  · rw [if_pos h1, if_pos (show 36028797018963968 < v * 10 + (d - 48) by omega), decide_eq_true (show 36028797018963968 < v * 10 + (d - 48) by omega)]
    exact Or.inl ⟨by omega, rfl, rfl⟩
  · rw [if_neg h1]
    by_cases h2 : 36028797018963968 < v * 10 + (d - 48)
    · rw [if_pos h2, decide_eq_true h2]
      exact Or.inl ⟨by omega, rfl, rfl⟩
    · rw [if_neg h2, decide_eq_false h1, decide_eq_false h2]
      exact Or.inr ⟨by omega, by omega, rfl⟩

/-- What is ahead of the point, and the point. -/
theorem pre_split (l : List UInt8) : (pN l = true ∧ l = 45 :: pR l) ∨ (pN l = false ∧ l = pR l ∧ l.head? ≠ some 45) := by
  unfold pN pR Lib.trimPrefix Lib.hasPrefix
  cases l with
  | nil => exact Or.inr ⟨rfl, rfl, by simp⟩
  | cons x r =>
    by_cases hx : (45 == x) = true
    · have : x = 45 := by simpa using (beq_iff_eq.1 hx).symm
      subst this
      exact Or.inl ⟨rfl, rfl⟩
    · have hx' : (45 == x) = false := by simpa using hx
      refine Or.inr ⟨by simp [List.isPrefixOf, hx'], by simp [List.isPrefixOf, hx'], ?_⟩
      intro e
      have : x = 45 := by simpa using e
      rw [this] at hx'
      exact absurd hx' (by decide)

theorem ld_ne (R : List UInt8) : ∀ x ∈ R.takeWhile isD, ¬ x = 46 := fun x hx => (isD_ne x (tw_mem _ _ hx)).1

/-- The three shapes of a text: digits alone, digits and a point, digits and another byte. -/
theorem shape_all (l : List UInt8) (h : pR l = (pR l).takeWhile isD) : pA l = (pR l).takeWhile isD ∧ pB l = [] ∧ pD l = false := by
  have hm : ∀ x ∈ pR l, ¬ x = 46 := fun x hx => by rw [h] at hx; exact ld_ne _ x hx
  unfold pA pB pD
  rw [cut_miss 46 _ hm]
  exact ⟨h, rfl, rfl⟩
theorem shape_dot (l B : List UInt8) (h : pR l = (pR l).takeWhile isD ++ 46 :: B) : pA l = (pR l).takeWhile isD ∧ pB l = B ∧ pD l = true := by
  have := cut_hit 46 ((pR l).takeWhile isD) B (ld_ne _)
  unfold pA pB pD
  generalize hT : (pR l).takeWhile isD = T at *
  rw [h, this]
  exact ⟨rfl, rfl, rfl⟩
theorem shape_bad (l B : List UInt8) (c : UInt8) (h : pR l = (pR l).takeWhile isD ++ c :: B) (hc : isD c = false) (h46 : ¬ c = 46) : digs (pA l) = false := by
  cases hd : digs (pA l) with
  | false => rfl
  | true =>
    exfalso
    have hm := digs_mem _ hd
    rcases split_at 46 (pR l) with h1 | ⟨A, B', h1, hA⟩
    · have e : pA l = pR l := by unfold pA; rw [cut_miss 46 _ h1]
      have := hm c (by rw [e, h]; simp)
      rw [hc] at this
      exact absurd this (by decide)
    · have e : pA l = A := by unfold pA; rw [h1, cut_hit 46 A B' hA]
      rw [e] at hm
      have t1 : (A ++ 46 :: B').takeWhile isD = A := by
        rw [List.takeWhile_append_of_pos hm, List.takeWhile_cons, if_neg (by decide), List.append_nil]
      rw [← h1] at t1
      rw [t1] at h
      rw [h] at h1
      have := List.append_cancel_left h1
      exact h46 (by simpa using (List.cons.inj this).1)

/-- The value where the text is well formed, but for a zero with a sign. -/
theorem pval_good (l : List UInt8) (g1 : digs (pA l) = true) (g2 : ¬ (1 < (pA l).length ∧ (pA l).head? = some 48)) (g3 : pD l = true → fracOk (pB l) = true) :
    pVal l = if pN l = true ∧ satN (valF 0 (pA l)) * 256 + pU l = 0 then (0, 5)
      else if 36028797018963968 < valF 0 (pA l) then (0, 3)
      else if pN l then (if satN (valF 0 (pA l)) * 256 + pU l ≤ 9223372036854775808 then (-((satN (valF 0 (pA l)) * 256 + pU l : Nat) : Int), 0) else (0, 3))
      else (if satN (valF 0 (pA l)) * 256 + pU l ≤ 9223372036854775807 then (((satN (valF 0 (pA l)) * 256 + pU l : Nat) : Int), 0) else (0, 3)) := by
  have hb : PBad l ↔ (pN l = true ∧ satN (valF 0 (pA l)) * 256 + pU l = 0) := by
    unfold PBad
    constructor
    · rintro (h | h | h | h)
      · rw [g1] at h; exact absurd h (by decide)
      · exact absurd h g2
      · rw [g3 h.1] at h; exact absurd h.2 (by decide)
      · refine ⟨h.1, ?_⟩
        rw [h.2.1, h.2.2]
        decide
    · rintro ⟨h1, h2⟩
      have : valF 0 (pA l) = 0 := by
        unfold satN at h2
        split at h2 <;> omega
      refine Or.inr (Or.inr (Or.inr ⟨h1, ?_, by omega⟩))
      have hd := dec_back _ g1 g2
      rw [this, dec_lt (by omega)] at hd
      exact hd.symm
  unfold pVal
  by_cases hbad : PBad l
  · rw [if_pos hbad, if_pos (hb.1 hbad)]
  · rw [if_neg hbad, if_neg fun h => hbad (hb.2 h)]
    by_cases hv : 36028797018963968 < valF 0 (pA l)
    · rw [if_pos hv, if_pos hv]
    · rw [if_neg hv, if_neg hv]
      have : satN (valF 0 (pA l)) = valF 0 (pA l) := by unfold satN; rw [if_neg hv]
      rw [this]
      rfl
end Go.Proofs.YtoihknngllmogaaDoor
