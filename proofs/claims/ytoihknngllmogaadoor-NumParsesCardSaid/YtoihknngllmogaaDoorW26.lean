/- Plain facts for the num laws: Parse is the inverse of Format. -/
import Derived.Test.YtoihknngllmogaaDoorW25
namespace Go.Proofs.YtoihknngllmogaaDoor
open Go.RowKit
set_option linter.unusedVariables false
set_option linter.unusedSimpArgs false

/-- A text by its parts. -/
def joinT (N : Bool) (A : List UInt8) (D : Bool) (B : List UInt8) : List UInt8 := (if N then [45] else []) ++ (A ++ (if D then 46 :: B else []))

theorem digs_mem (A : List UInt8) (h : digs A = true) : ∀ x ∈ A, isD x = true := by
  unfold digs allD at h
  rw [Bool.and_eq_true, List.all_eq_true] at h
  exact h.1
theorem digs_ne (A : List UInt8) (h : digs A = true) : ∃ x l, A = x :: l ∧ isD x = true := by
  cases A with
  | nil => simp [digs] at h
  | cons x l => exact ⟨x, l, rfl, digs_mem _ h x (by simp)⟩
theorem isD_ne (x : UInt8) (h : isD x = true) : ¬ x = 46 ∧ ¬ x = 45 := by
  constructor
  · intro e; rw [e] at h; exact absurd h (by decide)
  · intro e; rw [e] at h; exact absurd h (by decide)

theorem parts (N D : Bool) (A B : List UInt8) (h : digs A = true) :
    pN (joinT N A D B) = N ∧ pA (joinT N A D B) = A ∧ pB (joinT N A D B) = (if D then B else []) ∧ pD (joinT N A D B) = D := by
  have hm : ∀ x ∈ A, ¬ x = 46 := fun x hx => (isD_ne x (digs_mem A h x hx)).1
  obtain ⟨y, r, hy, hyd⟩ := digs_ne A h
  have hy5 := (isD_ne y hyd).2
  have hpre : Lib.hasPrefix (A ++ (if D then 46 :: B else [])) [45] = false := by
    rw [hy]
    have : (45 == y) = false := by simpa using fun e => hy5 e.symm
    simp [Lib.hasPrefix, List.isPrefixOf, this]
  have hN : pN (joinT N A D B) = N ∧ pR (joinT N A D B) = A ++ (if D then 46 :: B else []) := by
    unfold pN pR Lib.trimPrefix joinT
    cases N
    · simp only [Bool.false_eq_true, if_false, List.nil_append, hpre]
      simp
    · simp [Lib.hasPrefix, List.isPrefixOf]
  have hc : Lib.cut (pR (joinT N A D B)) [46] = (A, if D then B else [], D) := by
    rw [hN.2]
    cases D
    · simp only [Bool.false_eq_true, if_false, List.append_nil]
      exact cut_miss 46 A hm
    · exact cut_hit 46 A B hm
  unfold pA pB pD
  rw [hc]
  exact ⟨hN.1, rfl, rfl, rfl⟩

theorem unparts (l : List UInt8) : l = joinT (pN l) (pA l) (pD l) (pB l) := by
  have h1 : l = (if pN l then [45] else []) ++ pR l := by
    unfold pN pR Lib.trimPrefix Lib.hasPrefix
    cases l with
    | nil => simp [List.isPrefixOf]
    | cons x r =>
      by_cases hx : (45 == x) = true
      · have : x = 45 := by simpa using (beq_iff_eq.1 hx).symm
        subst this
        simp [List.isPrefixOf]
      · have hx' : (45 == x) = false := by simpa using hx
        simp [List.isPrefixOf, hx']
  have h2 : pR l = pA l ++ (if pD l then 46 :: pB l else []) := by
    unfold pA pB pD
    rcases split_at 46 (pR l) with h | ⟨A, B, h, hA⟩
    · rw [cut_miss 46 _ h]; simp
    · rw [h, cut_hit 46 A B hA]; simp
  unfold joinT
  rw [← h2]
  exact h1

theorem fmtL_join (n : Int) : fmtL n = joinT (decide (n < 0)) (Lib.decDigits (n.natAbs / 256)) (!decide (n.natAbs % 256 = 0)) (fracL (n.natAbs % 256)) := by
  unfold fmtL joinT
  by_cases h : n < 0 <;> by_cases h2 : n.natAbs % 256 = 0 <;> simp [h, h2]

theorem dec_zero (q : Nat) (h : Lib.decDigits q = [48]) : q = 0 := (dec_facts q).2.2.2 (by rw [h]; rfl)

theorem pval_fmt (n : Int) (h0 : -9223372036854775808 ≤ n) (h1 : n ≤ 9223372036854775807) : pVal (fmtL n) = (n, 0) := by
  have hf := fmtL_join n
  obtain ⟨p1, p2, p3, p4⟩ := parts (decide (n < 0)) (!decide (n.natAbs % 256 = 0)) (Lib.decDigits (n.natAbs / 256)) (fracL (n.natAbs % 256)) (dec_digs _)
  rw [← hf] at p1 p2 p3 p4
  obtain ⟨f1, f2, f3, f4⟩ := dec_facts (n.natAbs / 256)
  have hU : pU (fmtL n) = n.natAbs % 256 := by
    unfold pU
    rw [p3, p4]
    by_cases h : n.natAbs % 256 = 0
    · simp [h]
    · rcases frac_all ⟨n.natAbs % 256, by omega⟩ with g | g
      · exact absurd g h
      · simp [h]
        exact g.2.1
  have hB : ¬ PBad (fmtL n) := by
    unfold PBad
    rw [p1, p2, p3, p4, hU]
    rintro (h | h | h | h)
    · rw [dec_digs] at h; exact absurd h (by decide)
    · have := f4 h.2
      rw [this, dec_lt (by omega)] at h
      simp at h
    · obtain ⟨ha, hb⟩ := h
      rw [ha] at hb
      rcases frac_all ⟨n.natAbs % 256, by omega⟩ with g | g
      · have g : n.natAbs % 256 = 0 := g
        simp [g] at ha
      · have g := g.1
        simp only [if_true] at hb
        rw [hb] at g
        exact absurd g (by decide)
    · obtain ⟨ha, hb, hc⟩ := h
      have := dec_zero _ hb
      have ha : n < 0 := by simpa using ha
      omega
  have hn : pNum (fmtL n) = n.natAbs := by
    unfold pNum
    rw [p2, f2, hU]
    omega
  unfold pVal
  rw [if_neg hB, p2, f2, if_neg (by omega), p1, hn]
  by_cases h : n < 0
  · rw [if_pos (by simpa using h), if_pos (by omega)]
    congr 1
    omega
  · rw [if_neg (by simpa using h), if_pos (by omega)]
    congr 1
    omega

theorem pU_le (l : List UInt8) : pU l ≤ 255 := by
  unfold pU
  split
  · exact fracV_le _
  · omega

theorem fmt_of (l : List UInt8) (hb : ¬ PBad l) (n : Int) (ha : n.natAbs = pNum l) (hs : decide (n < 0) = pN l) : fmtL n = l := by
  have hU := pU_le l
  unfold PBad at hb
  have g1 : digs (pA l) = true := by
    cases h : digs (pA l) with
    | true => rfl
    | false => exact absurd (Or.inl h) hb
  have g2 : ¬ (1 < (pA l).length ∧ (pA l).head? = some 48) := fun h => hb (Or.inr (Or.inl h))
  have g3 : pD l = true → fracOk (pB l) = true := fun hD => by
    cases h : fracOk (pB l) with
    | true => rfl
    | false => exact absurd (Or.inr (Or.inr (Or.inl ⟨hD, h⟩))) hb
  have hq : n.natAbs / 256 = valF 0 (pA l) := by rw [ha]; unfold pNum; omega
  have hr : n.natAbs % 256 = pU l := by rw [ha]; unfold pNum; omega
  rw [fmtL_join, hq, hr, dec_back _ g1 g2, hs]
  conv => rhs; rw [unparts l]
  cases hD : pD l with
  | false =>
    have : pU l = 0 := by unfold pU; rw [hD]; rfl
    rw [this]
    simp [joinT]
  | true =>
    have : pU l = fracV (pB l) := by unfold pU; rw [hD]; rfl
    obtain ⟨k1, k2, k3⟩ := frac_back _ (g3 hD)
    rw [this, k1]
    have : ¬ fracV (pB l) = 0 := by omega
    simp [this]

theorem fmt_pval (l : List UInt8) (h : (pVal l).2 = 0) : fmtL (pVal l).1 = l ∧ -9223372036854775808 ≤ (pVal l).1 ∧ (pVal l).1 ≤ 9223372036854775807 := by
  unfold pVal at h ⊢
  by_cases hb : PBad l
  · rw [if_pos hb] at h; exact absurd h (by decide)
  rw [if_neg hb] at h ⊢
  by_cases hv : 36028797018963968 < valF 0 (pA l)
  · rw [if_pos hv] at h; exact absurd h (by decide)
  rw [if_neg hv] at h ⊢
  cases hN : pN l with
  | true =>
    rw [hN] at h
    simp only [if_true] at h ⊢
    by_cases hn : pNum l ≤ 9223372036854775808
    · rw [if_pos hn]
      refine ⟨fmt_of l hb _ (by simp) ?_, by (first | omega | (simp; omega) | simp), by (first | omega | (simp; omega) | simp)⟩
      rw [hN]
      have : pNum l ≠ 0 := by
        intro e
        unfold pNum at e
        apply hb
        unfold PBad
        refine Or.inr (Or.inr (Or.inr ⟨hN, ?_, by omega⟩))
        by_cases hd : digs (pA l) = true
        · by_cases hz : 1 < (pA l).length ∧ (pA l).head? = some 48
          · exact absurd (Or.inr (Or.inl hz)) hb
          · have := dec_back _ hd hz
            rw [show valF 0 (pA l) = 0 by omega, dec_lt (by omega)] at this
            exact this.symm
        · exact absurd (Or.inl (by simpa using hd)) hb
      simp; omega
    · rw [if_neg hn] at h; exact absurd h (by decide)
  | false =>
    rw [hN] at h
    simp only [Bool.false_eq_true, if_false] at h ⊢
    by_cases hn : pNum l ≤ 9223372036854775807
    · rw [if_pos hn]
      refine ⟨fmt_of l hb _ (by simp) ?_, by (first | omega | (simp; omega) | simp), by (first | omega | (simp; omega) | simp)⟩
      rw [hN]
      simp
    · rw [if_neg hn] at h; exact absurd h (by decide)
end Go.Proofs.YtoihknngllmogaaDoor
