/- Plain facts for the num laws: the floor of a quotient. -/
import Derived.RowKit
import Derived.Laws.Wrap64
import Derived.IntWalk
namespace Go.Proofs.YtoihknngllmogaaDoor
open Go Go.RowKit
set_option linter.unusedVariables false
set_option linter.unusedSimpArgs false

/-- The floor of a quotient. -/
def fl (a b : Int) : Int := if 0 < b then a / b else (-a) / (-b)
def dv (a b : Int) : Int := if b = 0 then 0 else if a = -9223372036854775808 ∧ b = -1 then 0 else fl a b
def de (a b : Int) : Int := if b = 0 then 1 else if a = -9223372036854775808 ∧ b = -1 then 3 else 0

theorem fl_unique (a b q r : Int) (hb : 0 < b) (h : r + b * q = a) (h0 : 0 ≤ r) (h1 : r < b) : a / b = q :=
  ((Int.ediv_emod_unique hb).2 ⟨h, h0, h1⟩).1

theorem neg_ediv (x b : Int) (hb : 0 < b) : (-x) / b = if x % b = 0 then -(x / b) else -(x / b) - 1 := by
  have h := Int.mul_ediv_add_emod x b
  have h0 := Int.emod_nonneg x (Int.ne_of_gt hb)
  have h1 := Int.emod_lt_of_pos x hb
  split
  · rename_i hz
    apply fl_unique _ _ _ 0 hb _ (by omega) hb
    rw [Int.mul_neg]; omega
  · rename_i hz
    apply fl_unique _ _ _ (b - x % b) hb _ (by omega) (by omega)
    rw [Int.mul_sub, Int.mul_neg, Int.mul_one]; omega

theorem ediv_bd (x b : Int) (hx : 0 ≤ x) (hb : 0 < b) : 0 ≤ x / b ∧ x / b ≤ x := ⟨Int.ediv_nonneg hx (Int.le_of_lt hb), Int.ediv_le_self b hx⟩

/-- The quotient towards zero and the rest of it, by the signs. -/
theorem td_nn (a b : Int) (ha : 0 ≤ a) : a.tdiv b = if 0 ≤ b then a / b else -(a / (-b)) := by
  split
  · exact Int.tdiv_eq_ediv_of_nonneg ha
  · obtain ⟨c, rfl⟩ : ∃ c, b = -c := ⟨-b, by omega⟩
    rw [Int.tdiv_neg, Int.tdiv_eq_ediv_of_nonneg ha, Int.neg_neg]
theorem td_n (a b : Int) (ha : a < 0) : a.tdiv b = if 0 ≤ b then -((-a) / b) else (-a) / (-b) := by
  obtain ⟨c, rfl⟩ : ∃ c, a = -c := ⟨-a, by omega⟩
  rw [Int.neg_tdiv, td_nn c b (by omega), Int.neg_neg]
  split <;> simp
theorem tm_nn (a b : Int) (ha : 0 ≤ a) : a.tmod b = if 0 ≤ b then a % b else a % (-b) := by
  split
  · exact Int.tmod_eq_emod_of_nonneg ha
  · obtain ⟨c, rfl⟩ : ∃ c, b = -c := ⟨-b, by omega⟩
    rw [Int.tmod_neg, Int.tmod_eq_emod_of_nonneg ha, Int.neg_neg]
theorem tm_n (a b : Int) (ha : a < 0) : a.tmod b = if 0 ≤ b then -((-a) % b) else -((-a) % (-b)) := by
  obtain ⟨c, rfl⟩ : ∃ c, a = -c := ⟨-a, by omega⟩
  rw [Int.neg_tmod, tm_nn c b (by omega), Int.neg_neg]
  split <;> rfl

/-- What the program's text comes to. -/
theorem fl_text (a b : Int) (hb : b ≠ 0) : fl a b = if a.tmod b ≠ 0 ∧ (decide (a < 0) ≠ decide (b < 0)) then a.tdiv b - 1 else a.tdiv b := by
  unfold fl
  by_cases ha : a < 0
  · have h1 := td_n a b ha
    have h2 := tm_n a b ha
    by_cases hp : 0 < b
    · rw [if_pos (by omega)] at h1 h2
      have hl : ¬ b < 0 := by omega
      have := neg_ediv (-a) b hp
      rw [Int.neg_neg] at this
      rw [if_pos hp, h1, h2, this]
      by_cases hz : (-a) % b = 0
      · simp [hz]
      · have hz' : -(-a % b) ≠ 0 := by omega
        rw [if_neg hz, if_pos ⟨hz', by simp [ha, hl]⟩]
    · rw [if_neg (by omega)] at h1
      have hl : b < 0 := by omega
      rw [if_neg hp, h1, if_neg (by simp [ha, hl])]
  · have h1 := td_nn a b (by omega)
    have h2 := tm_nn a b (by omega)
    by_cases hp : 0 < b
    · rw [if_pos (by omega)] at h1
      have hl : ¬ b < 0 := by omega
      rw [if_pos hp, h1, if_neg (by simp [ha, hl])]
    · rw [if_neg (by omega)] at h1 h2
      have hl : b < 0 := by omega
      have hb' : 0 < -b := by omega
      rw [if_neg hp, h1, h2, neg_ediv a (-b) hb']
      by_cases hz : a % (-b) = 0
      · simp [hz]
      · rw [if_neg hz, if_pos ⟨hz, by simp [ha, hl]⟩]

theorem td_bd (a b : Int) (h0 : -9223372036854775808 ≤ a) (h1 : a ≤ 9223372036854775807) (hb : b ≠ 0) (ho : ¬ (a = -9223372036854775808 ∧ b = -1)) : -9223372036854775808 ≤ a.tdiv b ∧ a.tdiv b ≤ 9223372036854775807 := by
  by_cases ha : a < 0
  · rw [td_n a b ha]
    by_cases hp : 0 ≤ b
    · rw [if_pos hp]
      have := ediv_bd (-a) b (by omega) (by omega)
      omega
    · rw [if_neg hp]
      have := ediv_bd (-a) (-b) (by omega) (by omega)
      by_cases hm : b = -1
      · subst hm
        have e : (-a) / (- -1) = -a := by rw [show (- -1 : Int) = 1 by rfl, Int.ediv_one]
        omega
      · have : (-a) / (-b) < -a := Int.ediv_lt_self_of_pos_of_ne_one (by omega) (by omega)
        omega
  · rw [td_nn a b (by omega)]
    by_cases hp : 0 ≤ b
    · rw [if_pos hp]
      have := ediv_bd a b (by omega) (by omega)
      omega
    · rw [if_neg hp]
      have := ediv_bd a (-b) (by omega) (by omega)
      omega

theorem ediv_ge (a b : Int) (hb : 0 < b) : a ≤ a / b ∨ 0 ≤ a / b := by
  by_cases ha : 0 ≤ a
  · exact .inr (Int.ediv_nonneg ha (by omega))
  · refine .inl (Int.le_ediv_of_mul_le hb ?_)
    have := Int.mul_le_mul_of_nonpos_left (a := a) (b := b) (c := 1) (by omega) (by omega)
    omega
theorem fl_ge (a b : Int) (h0 : -9223372036854775808 ≤ a) (h1 : a ≤ 9223372036854775807) (hb : b ≠ 0) : -9223372036854775808 ≤ fl a b := by
  unfold fl
  split
  · rename_i h; have := ediv_ge a b h; omega
  · have := ediv_ge (-a) (-b) (by omega); omega
end Go.Proofs.YtoihknngllmogaaDoor
