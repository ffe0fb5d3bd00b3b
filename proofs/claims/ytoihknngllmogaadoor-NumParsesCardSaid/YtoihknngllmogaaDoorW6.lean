/- Walks: Mul of the num package, for all factors. -/
import Derived.Test.YtoihknngllmogaaDoorW5
namespace Go.Proofs.YtoihknngllmogaaDoor
open Go.RowKit
set_option linter.unusedVariables false
set_option linter.unusedSimpArgs false

def mv (a b : Int) : Int := if 9223372036854775807 < a * b / 256 then 9223372036854775807 else if a * b / 256 < -9223372036854775808 then -9223372036854775808 else a * b / 256
def me (a b : Int) : Int := if 9223372036854775807 < a * b / 256 then 3 else if a * b / 256 < -9223372036854775808 then 3 else 0

theorem or_hl (hi lo : Nat) (h1 : hi < 256) (h2 : lo < 18446744073709551616) : bits BinOp.or IntKind.u64 ((lo : Int) / 256) ((hi : Int) * 72057594037927936) = (lo : Int) / 256 + (hi : Int) * 72057594037927936 := by
  have := bits_or_u64_nat (lo / 256) (hi * 72057594037927936) (by omega) (by omega)
  rw [show ((lo / 256 : Nat) : Int) = (lo : Int) / 256 by omega, show ((hi * 72057594037927936 : Nat) : Int) = (hi : Int) * 72057594037927936 by omega] at this
  rw [this]
  have h3 := Nat.two_pow_add_eq_or_of_lt (i := 56) (b := lo / 256) (show lo / 256 < 2 ^ 56 by omega) hi
  rw [Nat.or_comm, show hi * 72057594037927936 = 2 ^ 56 * hi by omega, ← h3]
  omega
theorem and_255 (lo : Nat) (h2 : lo < 18446744073709551616) : bits BinOp.and IntKind.u64 (lo : Int) 255 = ((lo % 256 : Nat) : Int) := by
  have := bits_and_u64_nat lo 255 h2 (by omega)
  rw [show ((255 : Nat) : Int) = 255 from rfl] at this
  rw [this, show lo &&& 255 = lo &&& (2 ^ 8 - 1) from rfl, Nat.and_two_pow_sub_one_eq_mod]

theorem mulC (a b : Int) (a0 : -9223372036854775808 ≤ a) (a1 : a ≤ 9223372036854775807) (b0 : -9223372036854775808 ≤ b) (b1 : b ≤ 9223372036854775807) :
    MulC a b ((a.natAbs * b.natAbs / 18446744073709551616 : Nat) : Int) ((a.natAbs * b.natAbs % 18446744073709551616 : Nat) : Int) :=
  ⟨a.natAbs, b.natAbs, fun W => (Tryd.bits_Mul64 a.natAbs b.natAbs (by omega) (by omega) W).mono fun _ _ h => ⟨h.1, h.2.symm⟩, fun W => abs_any a a0 a1 W, fun W => abs_any b b0 b1 W⟩

theorem mul_sign (a b : Int) : (decide (a < 0) = decide (b < 0) → a * b = ((a.natAbs * b.natAbs : Nat) : Int)) ∧ (decide (a < 0) ≠ decide (b < 0) → a * b = -((a.natAbs * b.natAbs : Nat) : Int)) := by
  rw [Int.natCast_mul]
  have e1 := Int.neg_mul a b
  have e2 := Int.mul_neg a b
  have e3 := Int.neg_mul_neg a b
  rcases Int.lt_or_le a 0 with ha | ha <;> rcases Int.lt_or_le b 0 with hb | hb
  · rw [show (a.natAbs : Int) = -a by omega, show (b.natAbs : Int) = -b by omega, e3]
    exact ⟨fun _ => rfl, fun h => absurd (by simp [ha, hb]) h⟩
  · have h2 : ¬ b < 0 := by omega
    rw [show (a.natAbs : Int) = -a by omega, show (b.natAbs : Int) = b by omega, e1]
    exact ⟨fun h => by simp [ha, h2] at h, fun _ => by omega⟩
  · have h1 : ¬ a < 0 := by omega
    rw [show (a.natAbs : Int) = a by omega, show (b.natAbs : Int) = -b by omega, e2]
    exact ⟨fun h => by simp [h1, hb] at h, fun _ => by omega⟩
  · have h1 : ¬ a < 0 := by omega
    have h2 : ¬ b < 0 := by omega
    rw [show (a.natAbs : Int) = a by omega, show (b.natAbs : Int) = b by omega]
    exact ⟨fun _ => rfl, fun h => absurd (by simp [h1, h2]) h⟩

set_option maxHeartbeats 1000000 in
theorem mul_any (a b : Int) (a0 : -9223372036854775808 ≤ a) (a1 : a ≤ 9223372036854775807) (b0 : -9223372036854775808 ≤ b) (b1 : b ≤ 9223372036854775807) (w : World) :
    Calls Tryd.prog 13 #[.int .i64 a, .int .i64 b] w fun e w' => e = .returned (.tuple #[.int .i64 (mv a b), .int .i64 (me a b)]) ∧ w = w' := by
  have M := mulC a b a0 a1 b0 b1
  have hP : a.natAbs * b.natAbs ≤ 9223372036854775808 * 9223372036854775808 := Nat.mul_le_mul (by omega) (by omega)
  obtain ⟨hS, hD⟩ := mul_sign a b
  generalize a.natAbs * b.natAbs = P at *
  obtain ⟨hi, hhi⟩ : ∃ hi : Nat, hi = P / 18446744073709551616 := ⟨_, rfl⟩
  obtain ⟨lo, hlo⟩ : ∃ lo : Nat, lo = P % 18446744073709551616 := ⟨_, rfl⟩
  rw [← hhi, ← hlo] at M
  have hand := and_255 lo (by omega)
  have hor := or_hl hi lo
  unfold mv me
  generalize a * b = q at *
  cases hA : decide (a < 0) <;> cases hB : decide (b < 0)
  · have hq := hS (by rw [hA, hB])
    by_cases h256 : 256 ≤ hi
    · rw [if_pos (by omega), if_pos (by omega)]
      exact mulS_Af a b hi lo M (by omega) (by omega) (by omega) hA hB w
    · have ho := hor (by omega) (by omega)
      by_cases h0 : hi = 0
      · subst h0
        rw [if_neg (by omega), if_neg (by omega), if_neg (by omega), if_neg (by omega), show q / 256 = (lo : Int) / 256 + ((0 : Nat) : Int) * 72057594037927936 by omega]
        exact mulS_0f a b lo _ M (by omega) (by simpa using ho) (by omega) (by omega) hA hB w
      · by_cases hg : 9223372036854775807 < (lo : Int) / 256 + (hi : Int) * 72057594037927936
        · rw [if_pos (by omega), if_pos (by omega)]
          exact mulS_Bgf a b hi lo _ M (by omega) (by omega) (by omega) ho hg hA hB w
        · rw [if_neg (by omega), if_neg (by omega), if_neg (by omega), if_neg (by omega), show q / 256 = (lo : Int) / 256 + (hi : Int) * 72057594037927936 by omega]
          exact mulS_Blf a b hi lo _ M (by omega) (by omega) (by omega) ho (by omega) (by omega) hA hB w
  · have hq := hD (by rw [hA, hB]; decide)
    by_cases hr : lo % 256 = 0
    · rw [hr] at hand
      by_cases h256 : 256 ≤ hi
      · rw [if_neg (by omega), if_pos (by omega), if_neg (by omega), if_pos (by omega)]
        exact mulD_Azf a b hi lo 0 M (by omega) (by omega) (by omega) hand hA hB w
      · have ho := hor (by omega) (by omega)
        by_cases h0 : hi = 0
        · subst h0
          by_cases hl0 : lo = 0
          · subst hl0
            rw [if_neg (by omega), if_neg (by omega), if_neg (by omega), if_neg (by omega), show q / 256 = 0 by omega]
            exact mulD_00f a b M hA hB w
          · rw [if_neg (by omega), if_neg (by omega), if_neg (by omega), if_neg (by omega), show q / 256 = -((lo : Int) / 256 + ((0 : Nat) : Int) * 72057594037927936) by omega]
            exact mulD_0zf a b lo _ 0 M (by omega) (by rw [bne_iff_ne]; omega) (by rw [beq_eq_false_iff_ne]; omega) (by simpa using ho) hand hA hB (by omega) (by omega) w
        · by_cases hg : 9223372036854775808 < (lo : Int) / 256 + (hi : Int) * 72057594037927936
          · rw [if_neg (by omega), if_pos (by omega), if_neg (by omega), if_pos (by omega)]
            exact mulD_Bzgf a b hi lo _ 0 M (by omega) (by omega) (by omega) ho hand hA hB hg w
          · rw [if_neg (by omega), if_neg (by omega), if_neg (by omega), if_neg (by omega), show q / 256 = -((lo : Int) / 256 + (hi : Int) * 72057594037927936) by omega]
            exact mulD_Bzlf a b hi lo _ 0 M (by omega) (by omega) (by omega) ho hand hA hB (by omega) (by omega) w
    · obtain ⟨r0, r1⟩ : ((((lo % 256 : Nat) : Int) != 0) = true) ∧ ((((lo % 256 : Nat) : Int) == 0) = false) := ⟨by rw [bne_iff_ne]; omega, by rw [beq_eq_false_iff_ne]; omega⟩
      by_cases h256 : 256 ≤ hi
      · rw [if_neg (by omega), if_pos (by omega), if_neg (by omega), if_pos (by omega)]
        exact mulD_Anf a b hi lo _ M (by omega) (by omega) (by omega) hand r0 r1 hA hB w
      · have ho := hor (by omega) (by omega)
        by_cases h0 : hi = 0
        · subst h0
          rw [if_neg (by omega), if_neg (by omega), if_neg (by omega), if_neg (by omega), show q / 256 = -((lo : Int) / 256 + ((0 : Nat) : Int) * 72057594037927936 + 1) by omega]
          exact mulD_0nf a b lo _ _ M (by omega) (by rw [bne_iff_ne]; omega) (by rw [beq_eq_false_iff_ne]; omega) (by simpa using ho) hand r0 r1 hA hB (by omega) (by omega) w
        · by_cases hg : 9223372036854775807 < (lo : Int) / 256 + (hi : Int) * 72057594037927936
          · rw [if_neg (by omega), if_pos (by omega), if_neg (by omega), if_pos (by omega)]
            by_cases ht : (lo : Int) / 256 + (hi : Int) * 72057594037927936 = 18446744073709551615
            · exact mulD_Bntf a b hi lo 0 _ M (by omega) (by omega) (by omega) (ho.trans ht) hand r0 r1 hA hB w
            · exact mulD_Bngf a b hi lo _ _ M (by omega) (by omega) (by omega) ho hand r0 r1 hA hB hg (by omega) w
          · rw [if_neg (by omega), if_neg (by omega), if_neg (by omega), if_neg (by omega), show q / 256 = -((lo : Int) / 256 + (hi : Int) * 72057594037927936 + 1) by omega]
            exact mulD_Bnlf a b hi lo _ _ M (by omega) (by omega) (by omega) ho hand r0 r1 hA hB (by omega) (by omega) w
  · have hq := hD (by rw [hA, hB]; decide)
    by_cases hr : lo % 256 = 0
    · rw [hr] at hand
      by_cases h256 : 256 ≤ hi
      · rw [if_neg (by omega), if_pos (by omega), if_neg (by omega), if_pos (by omega)]
        exact mulD_Azt a b hi lo 0 M (by omega) (by omega) (by omega) hand hA hB w
      · have ho := hor (by omega) (by omega)
        by_cases h0 : hi = 0
        · subst h0
          by_cases hl0 : lo = 0
          · subst hl0
            rw [if_neg (by omega), if_neg (by omega), if_neg (by omega), if_neg (by omega), show q / 256 = 0 by omega]
            exact mulD_00t a b M hA hB w
          · rw [if_neg (by omega), if_neg (by omega), if_neg (by omega), if_neg (by omega), show q / 256 = -((lo : Int) / 256 + ((0 : Nat) : Int) * 72057594037927936) by omega]
            exact mulD_0zt a b lo _ 0 M (by omega) (by rw [bne_iff_ne]; omega) (by rw [beq_eq_false_iff_ne]; omega) (by simpa using ho) hand hA hB (by omega) (by omega) w
        · by_cases hg : 9223372036854775808 < (lo : Int) / 256 + (hi : Int) * 72057594037927936
          · rw [if_neg (by omega), if_pos (by omega), if_neg (by omega), if_pos (by omega)]
            exact mulD_Bzgt a b hi lo _ 0 M (by omega) (by omega) (by omega) ho hand hA hB hg w
          · rw [if_neg (by omega), if_neg (by omega), if_neg (by omega), if_neg (by omega), show q / 256 = -((lo : Int) / 256 + (hi : Int) * 72057594037927936) by omega]
            exact mulD_Bzlt a b hi lo _ 0 M (by omega) (by omega) (by omega) ho hand hA hB (by omega) (by omega) w
    · obtain ⟨r0, r1⟩ : ((((lo % 256 : Nat) : Int) != 0) = true) ∧ ((((lo % 256 : Nat) : Int) == 0) = false) := ⟨by rw [bne_iff_ne]; omega, by rw [beq_eq_false_iff_ne]; omega⟩
      by_cases h256 : 256 ≤ hi
      · rw [if_neg (by omega), if_pos (by omega), if_neg (by omega), if_pos (by omega)]
        exact mulD_Ant a b hi lo _ M (by omega) (by omega) (by omega) hand r0 r1 hA hB w
      · have ho := hor (by omega) (by omega)
        by_cases h0 : hi = 0
        · subst h0
          rw [if_neg (by omega), if_neg (by omega), if_neg (by omega), if_neg (by omega), show q / 256 = -((lo : Int) / 256 + ((0 : Nat) : Int) * 72057594037927936 + 1) by omega]
          exact mulD_0nt a b lo _ _ M (by omega) (by rw [bne_iff_ne]; omega) (by rw [beq_eq_false_iff_ne]; omega) (by simpa using ho) hand r0 r1 hA hB (by omega) (by omega) w
        · by_cases hg : 9223372036854775807 < (lo : Int) / 256 + (hi : Int) * 72057594037927936
          · rw [if_neg (by omega), if_pos (by omega), if_neg (by omega), if_pos (by omega)]
            by_cases ht : (lo : Int) / 256 + (hi : Int) * 72057594037927936 = 18446744073709551615
            · exact mulD_Bntt a b hi lo 0 _ M (by omega) (by omega) (by omega) (ho.trans ht) hand r0 r1 hA hB w
            · exact mulD_Bngt a b hi lo _ _ M (by omega) (by omega) (by omega) ho hand r0 r1 hA hB hg (by omega) w
          · rw [if_neg (by omega), if_neg (by omega), if_neg (by omega), if_neg (by omega), show q / 256 = -((lo : Int) / 256 + (hi : Int) * 72057594037927936 + 1) by omega]
            exact mulD_Bnlt a b hi lo _ _ M (by omega) (by omega) (by omega) ho hand r0 r1 hA hB (by omega) (by omega) w
  · have hq := hS (by rw [hA, hB])
    by_cases h256 : 256 ≤ hi
    · rw [if_pos (by omega), if_pos (by omega)]
      exact mulS_At a b hi lo M (by omega) (by omega) (by omega) hA hB w
    · have ho := hor (by omega) (by omega)
      by_cases h0 : hi = 0
      · subst h0
        rw [if_neg (by omega), if_neg (by omega), if_neg (by omega), if_neg (by omega), show q / 256 = (lo : Int) / 256 + ((0 : Nat) : Int) * 72057594037927936 by omega]
        exact mulS_0t a b lo _ M (by omega) (by simpa using ho) (by omega) (by omega) hA hB w
      · by_cases hg : 9223372036854775807 < (lo : Int) / 256 + (hi : Int) * 72057594037927936
        · rw [if_pos (by omega), if_pos (by omega)]
          exact mulS_Bgt a b hi lo _ M (by omega) (by omega) (by omega) ho hg hA hB w
        · rw [if_neg (by omega), if_neg (by omega), if_neg (by omega), if_neg (by omega), show q / 256 = (lo : Int) / 256 + (hi : Int) * 72057594037927936 by omega]
          exact mulS_Blt a b hi lo _ M (by omega) (by omega) (by omega) ho (by omega) (by omega) hA hB w
end Go.Proofs.YtoihknngllmogaaDoor
