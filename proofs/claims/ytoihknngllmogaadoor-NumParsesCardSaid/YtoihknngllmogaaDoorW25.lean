/- Plain facts for the num laws: decimal texts there and back. -/
import Derived.Test.YtoihknngllmogaaDoorW24
namespace Go.Proofs.YtoihknngllmogaaDoor
open Go.RowKit
set_option linter.unusedVariables false
set_option linter.unusedSimpArgs false

theorem idx_hit (c : UInt8) (b : List UInt8) : ∀ a : List UInt8, (∀ x ∈ a, ¬ x = c) → Lib.index (a ++ c :: b) [c] = a.length := by
  intro a
  induction a with
  | nil => intro _; simp [Lib.index]
  | cons x l ih =>
    intro h
    have hx : ¬ x = c := h x (by simp)
    have hx' : (c == x) = false := by simpa using fun e => hx e.symm
    have := ih fun y hy => h y (by simp [hy])
    rw [List.cons_append, Lib.index, this]
    simp [List.isPrefixOf, hx']
theorem idx_miss (c : UInt8) : ∀ a : List UInt8, (∀ x ∈ a, ¬ x = c) → Lib.index a [c] = -1 := by
  intro a
  induction a with
  | nil => intro _; simp [Lib.index]
  | cons x l ih =>
    intro h
    have hx : ¬ x = c := h x (by simp)
    have hx' : (c == x) = false := by simpa using fun e => hx e.symm
    have := ih fun y hy => h y (by simp [hy])
    rw [Lib.index, this]
    simp [List.isPrefixOf, hx']
theorem cut_hit (c : UInt8) (a b : List UInt8) (h : ∀ x ∈ a, ¬ x = c) : Lib.cut (a ++ c :: b) [c] = (a, b, true) := by
  unfold Lib.cut
  rw [idx_hit c b a h, if_pos (by omega)]
  simp
theorem cut_miss (c : UInt8) (a : List UInt8) (h : ∀ x ∈ a, ¬ x = c) : Lib.cut a [c] = (a, [], false) := by
  unfold Lib.cut
  rw [idx_miss c a h, if_neg (by omega)]
theorem split_at (c : UInt8) : ∀ R : List UInt8, (∀ x ∈ R, ¬ x = c) ∨ ∃ A B, R = A ++ c :: B ∧ ∀ x ∈ A, ¬ x = c := by
  intro R
  induction R with
  | nil => exact Or.inl (by simp)
  | cons y l ih =>
    by_cases hy : y = c
    · exact Or.inr ⟨[], l, by rw [hy]; rfl, by simp⟩
    · rcases ih with h | ⟨A, B, h1, h2⟩
      · refine Or.inl fun x hx => ?_
        rcases List.mem_cons.1 hx with e | e
        · rw [e]; exact hy
        · exact h x e
      · refine Or.inr ⟨y :: A, B, by rw [h1]; rfl, fun x hx => ?_⟩
        rcases List.mem_cons.1 hx with e | e
        · rw [e]; exact hy
        · exact h2 x e

theorem digit_nat (d : Nat) (h : d < 10) : (UInt8.ofNat (48 + d)).toNat = 48 + d := by
  rw [UInt8.toNat_ofNat']; omega
theorem isD_digit (d : Nat) (h : d < 10) : isD (UInt8.ofNat (48 + d)) = true := by
  unfold isD
  rw [digit_nat d h]
  simp; omega
theorem valF_snoc (acc : Nat) (l : List UInt8) (c : UInt8) : valF acc (l ++ [c]) = valF acc l * 10 + (c.toNat - 48) := by
  unfold valF; rw [List.foldl_append]; rfl
theorem dec_lt {q : Nat} (h : q < 10) : Lib.decDigits q = [UInt8.ofNat (48 + q)] := Lib.decDigits_one h
theorem dec_ge {q : Nat} (h : ¬ q < 10) : Lib.decDigits q = Lib.decDigits (q / 10) ++ [UInt8.ofNat (48 + q % 10)] := by
  rw [Lib.decDigits]; rw [dif_neg h]
theorem dec_facts (q : Nat) : allD (Lib.decDigits q) = true ∧ valF 0 (Lib.decDigits q) = q ∧ Lib.decDigits q ≠ [] ∧ ((Lib.decDigits q).head? = some 48 → q = 0) := by
  induction q using Nat.strongRecOn with
  | _ q ih =>
    by_cases h : q < 10
    · rw [dec_lt h]
      refine ⟨by unfold allD; rw [List.all_cons, isD_digit q h]; rfl, ?_, by simp, ?_⟩
      · show 0 * 10 + ((UInt8.ofNat (48 + q)).toNat - 48) = q
        rw [digit_nat q h]; omega
      · intro e
        have e : UInt8.ofNat (48 + q) = 48 := by simpa using e
        have := congrArg UInt8.toNat e
        rw [digit_nat q h] at this
        have : 48 + q = 48 := this
        omega
    · obtain ⟨h1, h2, h3, h4⟩ := ih (q / 10) (by omega)
      rw [dec_ge h]
      refine ⟨?_, ?_, by simp, ?_⟩
      · unfold allD at h1 ⊢
        rw [List.all_append, h1, List.all_cons, isD_digit (q % 10) (by omega)]
        rfl
      · rw [valF_snoc, h2, digit_nat _ (by omega)]; omega
      · intro e
        have : (Lib.decDigits (q / 10)).head? = some 48 := by
          cases hd : Lib.decDigits (q / 10) with
          | nil => exact absurd hd h3
          | cons x l => rw [hd] at e; exact e
        have := h4 this
        omega
theorem dec_digs (q : Nat) : digs (Lib.decDigits q) = true := by
  obtain ⟨h1, _, h3, _⟩ := dec_facts q
  unfold digs
  rw [h1]
  cases hd : Lib.decDigits q with
  | nil => exact absurd hd h3
  | cons x l => rfl

theorem isD_back (c : UInt8) (h : isD c = true) : c = UInt8.ofNat (48 + (c.toNat - 48)) ∧ c.toNat - 48 < 10 := by
  simp [isD] at h
  refine ⟨?_, by omega⟩
  apply UInt8.toNat_inj.mp
  rw [digit_nat _ (by omega)]
  omega

/-- Digits are the digits of their value behind zeros. -/
theorem pad_any : ∀ (k : Nat) (L : List UInt8), L.length = k + 1 → allD L = true → ∃ z, L = List.replicate z 48 ++ Lib.decDigits (valF 0 L) := by
  intro k
  induction k with
  | zero =>
    intro L hL ha
    match L, hL with
    | [c], _ =>
      have hc : isD c = true := by simpa [allD] using ha
      obtain ⟨h1, h2⟩ := isD_back c hc
      refine ⟨0, ?_⟩
      have hv : valF 0 [c] = c.toNat - 48 := by show 0 * 10 + (c.toNat - 48) = _; omega
      rw [hv, dec_lt h2, ← h1]; rfl
  | succ k ih =>
    intro L hL ha
    obtain ⟨l0, c, rfl⟩ := snoc_of L (by omega)
    have hl0 : l0.length = k + 1 := by simp at hL; omega
    have h' : allD l0 = true ∧ isD c = true := by unfold allD at ha ⊢; rw [List.all_append] at ha; simpa using ha
    obtain ⟨z, hz⟩ := ih l0 hl0 h'.1
    obtain ⟨h1, h2⟩ := isD_back c h'.2
    rw [valF_snoc]
    by_cases hv : valF 0 l0 * 10 + (c.toNat - 48) < 10
    · have h0 : valF 0 l0 = 0 := by omega
      rw [h0, Nat.zero_mul, Nat.zero_add, dec_lt h2, ← h1]
      rw [h0, dec_lt (by omega)] at hz
      refine ⟨z + 1, ?_⟩
      rw [hz, List.replicate_succ']
      rfl
    · refine ⟨z, ?_⟩
      rw [dec_ge hv, show (valF 0 l0 * 10 + (c.toNat - 48)) / 10 = valF 0 l0 by omega, show (valF 0 l0 * 10 + (c.toNat - 48)) % 10 = c.toNat - 48 by omega, ← h1, ← List.append_assoc, ← hz]

theorem dec_back (A : List UInt8) (h : digs A = true) (hz : ¬ (1 < A.length ∧ A.head? = some 48)) : Lib.decDigits (valF 0 A) = A := by
  unfold digs at h
  rw [Bool.and_eq_true] at h
  have hlen : 1 ≤ A.length := by
    cases A with
    | nil => simp at h
    | cons x l => simp
  obtain ⟨z, e⟩ := pad_any (A.length - 1) A (by omega) h.1
  obtain ⟨_, _, h3, _⟩ := dec_facts (valF 0 A)
  have hd : 1 ≤ (Lib.decDigits (valF 0 A)).length := by
    cases hd : Lib.decDigits (valF 0 A) with
    | nil => exact absurd hd h3
    | cons x l => simp
  rcases Nat.eq_zero_or_pos z with hz0 | hz0
  · rw [hz0] at e
    exact e.symm
  · exfalso
    obtain ⟨y, rfl⟩ : ∃ y, z = y + 1 := ⟨z - 1, by omega⟩
    apply hz
    constructor
    · rw [e, List.length_append]; simp; omega
    · rw [e, List.replicate_succ]; rfl

theorem rep_eq (c : Nat) : Lib.repeatL [48] c = List.replicate c 48 := by
  induction c with
  | zero => rfl
  | succ c ih => rw [Lib.repeatL, ih, List.replicate_succ]; rfl
theorem pad8_back (L : List UInt8) (hl : L.length = 8) (ha : allD L = true) : pad8 (Lib.decDigits (valF 0 L)) = L := by
  obtain ⟨z, e⟩ := pad_any 7 L hl ha
  have hlen := congrArg List.length e
  rw [List.length_append, List.length_replicate, hl] at hlen
  unfold pad8
  rw [rep_eq, show 8 - (Lib.decDigits (valF 0 L)).length = z by omega]
  exact e.symm

theorem pv_take (l : List UInt8) (i : Nat) (hi : i ≤ l.length + 8) : pv l i = valF 0 ((l ++ List.replicate 8 48).take i) := by
  induction i with
  | zero => simp [pv, valF]
  | succ i ih =>
    have hlt : i < (l ++ List.replicate 8 (48 : UInt8)).length := by simp; omega
    rw [pv, ih (by omega), ← List.take_append_getElem hlt, valF_snoc]
    congr 1
    by_cases h : i < l.length
    · rw [if_pos h, List.getElem_append_left h, List.getD_eq_getElem?_getD, List.getElem?_eq_getElem h, Option.getD_some]
    · rw [if_neg h, List.getElem_append_right (by omega), List.getElem_replicate]
      rfl
theorem pv_8 (l : List UInt8) (h : l.length ≤ 8) : pv l 8 = valF 0 (l ++ List.replicate (8 - l.length) 48) := by
  rw [pv_take l 8 (by omega), List.take_append, List.take_of_length_le h, List.take_replicate, Nat.min_eq_left (by omega)]

theorem trim_rep (B : List UInt8) (k : Nat) : Lib.trimRightB (B ++ List.replicate k 48) 48 = Lib.trimRightB B 48 := by
  induction k with
  | zero => simp
  | succ k ih => rw [List.replicate_succ', ← List.append_assoc, trim_snoc, if_pos (by decide), ih]

theorem frac_back (B : List UInt8) (h : fracOk B = true) : fracL (fracV B) = B ∧ 0 < fracV B ∧ fracV B < 256 := by
  have hv := fracV_le B
  unfold fracOk at h
  simp only [Bool.and_eq_true, decide_eq_true_eq] at h
  obtain ⟨⟨⟨hd, h8⟩, hl⟩, hm⟩ := h
  have hV : fracV B = pv B 8 / 390625 := by
    unfold fracV
    rw [if_pos]
    simp only [Bool.and_eq_true, decide_eq_true_eq]
    exact ⟨⟨hd, h8⟩, hl⟩
  have hd' : allD B = true ∧ B ≠ [] := by
    unfold digs at hd
    rw [Bool.and_eq_true] at hd
    exact ⟨hd.1, by intro e; rw [e] at hd; simp at hd⟩
  have key : fracL (fracV B) = B := by
    unfold fracL
    rw [hV, show pv B 8 / 390625 * 390625 = pv B 8 by omega, pv_8 B h8, pad8_back _ (by simp; omega) ?_, trim_rep]
    · obtain ⟨l0, x, rfl⟩ := snoc_of B (by cases B with | nil => exact absurd rfl hd'.2 | cons x l => simp)
      rw [trim_snoc]
      have hx : (x == 48) = false := by simpa using hl
      rw [hx]; rfl
    · have h1 := hd'.1
      unfold allD at h1 ⊢
      rw [List.all_append, h1]
      simp [isD]
  refine ⟨key, ?_, by omega⟩
  rcases Nat.eq_zero_or_pos (fracV B) with h0 | h0
  · exfalso
    rw [h0] at key
    have : fracL 0 = [] := by decide +kernel
    exact hd'.2 (key.symm.trans this)
  · exact h0
end Go.Proofs.YtoihknngllmogaaDoor
