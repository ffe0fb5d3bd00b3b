/- Plain facts on decimal texts, and the lexer's integer. -/
import Derived.Test.YtpddneplkbdedaaDoorW16
import Derived.Test.YtpddneplkbdedaaDoorShelf
namespace Go.Proofs.YtpddneplkbdedaaDoor
open Go.RowKit
set_option linter.unusedVariables false
set_option linter.unusedSimpArgs false

/-- The value of decimal digits, behind a number. -/
def valF (acc : Nat) (l : List UInt8) : Nat := l.foldl (fun a c => a * 10 + (c.toNat - 48)) acc

theorem valF_nil (acc : Nat) : valF acc [] = acc := rfl
theorem valF_cons (acc : Nat) (c : UInt8) (l : List UInt8) : valF acc (c :: l) = valF (acc * 10 + (c.toNat - 48)) l := by unfold valF; rw [List.foldl_cons]
theorem valF_ge (l : List UInt8) : ∀ acc, acc ≤ valF acc l := by
  induction l with
  | nil => intro acc; exact Nat.le_refl _
  | cons c l ih => intro acc; rw [valF_cons]; have := ih (acc * 10 + (c.toNat - 48)); omega

theorem isDg_iff (c : UInt8) : isDg c = true ↔ 48 ≤ c.toNat ∧ c.toNat ≤ 57 := by
  unfold isDg digI
  rw [Bool.and_eq_true, decide_eq_true_iff, decide_eq_true_iff]
  omega

theorem valF_lin (l : List UInt8) : ∀ acc, valF acc l = acc * 10 ^ l.length + valF 0 l := by
  induction l with
  | nil => intro acc; simp [valF_nil]
  | cons c l ih =>
    intro acc
    rw [valF_cons, valF_cons, ih, ih (0 * 10 + (c.toNat - 48)), List.length_cons, Nat.pow_succ]
    generalize 10 ^ l.length = p
    generalize c.toNat - 48 = d
    rw [Nat.add_mul, Nat.mul_assoc, Nat.mul_comm p 10, Nat.zero_mul, Nat.zero_add, Nat.add_assoc]
theorem valF_split (c : UInt8) (l : List UInt8) : valF 0 (c :: l) = (c.toNat - 48) * 10 ^ l.length + valF 0 l := by
  rw [valF_cons, valF_lin l (0 * 10 + (c.toNat - 48)), Nat.zero_mul, Nat.zero_add]
theorem valF_lt (l : List UInt8) (h : l.all isDg = true) : valF 0 l < 10 ^ l.length := by
  induction l with
  | nil => simp [valF_nil]
  | cons c l ih =>
    rw [List.all_cons, Bool.and_eq_true] at h
    have hd := (isDg_iff c).1 h.1
    have := ih h.2
    rw [valF_split, List.length_cons, Nat.pow_succ]
    generalize 10 ^ l.length = p at *
    have h9 : (c.toNat - 48) * p ≤ 9 * p := Nat.mul_le_mul_right _ (by omega)
    omega
theorem valF_head (c : UInt8) (l : List UInt8) (hc : isDg c = true) (h0 : c ≠ 48) : 10 ^ l.length ≤ valF 0 (c :: l) := by
  have hd := (isDg_iff c).1 hc
  have h1 : c.toNat ≠ 48 := fun e => h0 (UInt8.toNat_inj.mp (by simpa using e))
  rw [valF_split]
  have : 1 * 10 ^ l.length ≤ (c.toNat - 48) * 10 ^ l.length := Nat.mul_le_mul_right _ (by omega)
  omega
theorem less_val (a : List UInt8) : ∀ b : List UInt8, a.length = b.length → a.all isDg = true → b.all isDg = true → Op.bytesLess a b = decide (valF 0 a < valF 0 b) := by
  induction a with
  | nil =>
    intro b hl _ _
    cases b with
    | nil => simp [Op.bytesLess, valF_nil]
    | cons y b => simp at hl
  | cons x a ih =>
    intro b hl ha hb
    cases b with
    | nil => simp at hl
    | cons y b =>
      rw [List.all_cons, Bool.and_eq_true] at ha hb
      have hx := (isDg_iff x).1 ha.1
      have hy := (isDg_iff y).1 hb.1
      have hl' : a.length = b.length := by simpa using hl
      have va := valF_lt a ha.2
      have vb := valF_lt b hb.2
      have hi := ih b hl' ha.2 hb.2
      rw [Op.bytesLess, hi, valF_split, valF_split, hl']
      rw [hl'] at va
      generalize 10 ^ b.length = p at *
      by_cases h1 : x.toNat < y.toNat
      · have e1 : decide (x < y) = true := by simpa [UInt8.lt_iff_toNat_lt] using h1
        have hm : ((x.toNat - 48) + 1) * p ≤ ((y.toNat - 48)) * p := Nat.mul_le_mul_right _ (by omega)
        rw [Nat.add_mul] at hm
        rw [e1, Bool.true_or]
        symm
        rw [decide_eq_true_iff]
        omega
      · have e1 : decide (x < y) = false := by simpa [UInt8.lt_iff_toNat_lt] using h1
        by_cases h2 : x = y
        · subst h2
          rw [e1]
          simp
        · have h3 : (x == y) = false := by simpa using h2
          have h4 : x.toNat ≠ y.toNat := fun e => h2 (UInt8.toNat_inj.mp e)
          have hm : ((y.toNat - 48) + 1) * p ≤ ((x.toNat - 48)) * p := Nat.mul_le_mul_right _ (by omega)
          rw [Nat.add_mul] at hm
          rw [e1, h3]
          symm
          simp only [Bool.false_and, Bool.or_false]
          rw [decide_eq_false_iff_not]
          omega

theorem val_inj (a : List UInt8) : ∀ b : List UInt8, a.length = b.length → a.all isDg = true → b.all isDg = true → valF 0 a = valF 0 b → a = b := by
  induction a with
  | nil => intro b hl _ _ _; cases b with
    | nil => rfl
    | cons y b => simp at hl
  | cons x a ih =>
    intro b hl ha hb hv
    cases b with
    | nil => simp at hl
    | cons y b =>
      rw [List.all_cons, Bool.and_eq_true] at ha hb
      have hx := (isDg_iff x).1 ha.1
      have hy := (isDg_iff y).1 hb.1
      have hl' : a.length = b.length := by simpa using hl
      have va := valF_lt a ha.2
      have vb := valF_lt b hb.2
      have hi := ih b hl' ha.2 hb.2
      rw [valF_split, valF_split, hl'] at hv
      rw [hl'] at va
      generalize 10 ^ b.length = p at *
      have hxy : x.toNat = y.toNat := by
        rcases Nat.lt_trichotomy x.toNat y.toNat with h | h | h
        · have hm : ((x.toNat - 48) + 1) * p ≤ (y.toNat - 48) * p := Nat.mul_le_mul_right _ (by omega)
          rw [Nat.add_mul] at hm
          omega
        · exact h
        · have hm : ((y.toNat - 48) + 1) * p ≤ (x.toNat - 48) * p := Nat.mul_le_mul_right _ (by omega)
          rw [Nat.add_mul] at hm
          omega
      obtain rfl : x = y := UInt8.toNat_inj.mp hxy
      rw [hi (by omega)]

def mostL : List UInt8 := [57, 50, 50, 51, 51, 55, 50, 48, 51, 54, 56, 53, 52, 55, 55, 53, 56, 48, 55]
theorem most_val : valF 0 mostL = 9223372036854775807 := by decide +kernel

/-- The error of a text that begins with a digit. -/
def intE (l : List UInt8) : Int := if l.all isDg = false then 5 else if l = [] then 5 else if 1 < l.length ∧ l.head? = some 48 then 5 else if valF 0 l ≤ 9223372036854775807 then 0 else 3

theorem parseM (M : Nat) (hM : M < 18446744073709551620) (l : List UInt8) : ∀ acc, l.all isDg = true → Lib.parseUintM M acc l = .ok (valF acc l) ∨ (Lib.parseUintM M acc l = .range ∧ M < valF acc l) := by
  induction l with
  | nil => intro acc _; exact Or.inl rfl
  | cons c l ih =>
    intro acc h
    rw [List.all_cons, Bool.and_eq_true] at h
    have hd := (isDg_iff c).1 h.1
    have hg := valF_ge l (acc * 10 + (c.toNat - 48))
    rw [Lib.parseUintM, if_pos hd, valF_cons]
    have hq : 1844674407370955162 ≤ acc → M < acc * 10 + (c.toNat - 48) := fun h => by omega
    generalize acc * 10 + (c.toNat - 48) = q at *
    by_cases h1 : 1844674407370955162 ≤ acc
    · rw [if_pos h1]
      exact Or.inr ⟨rfl, Nat.lt_of_lt_of_le (hq h1) hg⟩
    · rw [if_neg h1]
      by_cases h2 : M < q
      · rw [if_pos h2]
        exact Or.inr ⟨rfl, Nat.lt_of_lt_of_le h2 hg⟩
      · rw [if_neg h2]
        exact ih _ h.2

theorem parseI (c : UInt8) (l : List UInt8) (h : (c :: l).all isDg = true) : Lib.parseIntB 64 (c :: l) = if valF 0 (c :: l) ≤ 9223372036854775807 then .ok (valF 0 (c :: l) : Int) else .range := by
  have hc : isDg c = true := by rw [List.all_cons, Bool.and_eq_true] at h; exact h.1
  have hd := (isDg_iff c).1 hc
  unfold Lib.parseIntB
  dsimp only
  rw [if_neg (by omega)]
  unfold Lib.parseUintB
  rw [if_neg (List.cons_ne_nil _ _), show (2 ^ 64 - 1 : Nat) = 18446744073709551615 from rfl, show (2 ^ (64 - 1) : Nat) = 9223372036854775808 from rfl]
  rcases parseM 18446744073709551615 (by decide) (c :: l) 0 h with h1 | ⟨h1, h2⟩
  · rw [h1]
    dsimp only
    by_cases h3 : valF 0 (c :: l) ≤ 9223372036854775807
    · rw [if_pos h3, if_neg (by omega), if_neg (by omega), if_neg (by omega)]
    · rw [if_neg h3, if_pos (by omega)]
  · rw [h1]
    dsimp only
    rw [if_neg (by omega)]
end Go.Proofs.YtpddneplkbdedaaDoor
