/- Walks: Mul of the reference of the num package, for all factors. -/
import Derived.Test.YtoihknngllmogaaDoorW8
namespace Go.Proofs.YtoihknngllmogaaDoor
open Go.RowKit
set_option linter.unusedVariables false
set_option linter.unusedSimpArgs false

theorem or_lh (hi lo : Nat) (h1 : hi < 256) (h2 : lo < 18446744073709551616) : bits BinOp.or IntKind.u64 ((hi : Int) * 72057594037927936) ((lo : Int) / 256) = (hi : Int) * 72057594037927936 + (lo : Int) / 256 := by
  have := bits_or_u64_nat (hi * 72057594037927936) (lo / 256) (by omega) (by omega)
  rw [show ((lo / 256 : Nat) : Int) = (lo : Int) / 256 by omega, show ((hi * 72057594037927936 : Nat) : Int) = (hi : Int) * 72057594037927936 by omega] at this
  rw [this]
  have h3 := Nat.two_pow_add_eq_or_of_lt (i := 56) (b := lo / 256) (show lo / 256 < 2 ^ 56 by omega) hi
  rw [show hi * 72057594037927936 = 2 ^ 56 * hi by omega, ← h3]
  omega

theorem rmulC (a b : Int) (a0 : -9223372036854775808 ≤ a) (a1 : a ≤ 9223372036854775807) (b0 : -9223372036854775808 ≤ b) (b1 : b ≤ 9223372036854775807) :
    RMulC a b ((a.natAbs * b.natAbs / 18446744073709551616 : Nat) : Int) ((a.natAbs * b.natAbs % 18446744073709551616 : Nat) : Int) :=
  ⟨a.natAbs, b.natAbs, fun W => prod_any a.natAbs b.natAbs (show a.natAbs < 18446744073709551616 by omega) (show b.natAbs < 18446744073709551616 by omega) W, fun W => size_any a a0 a1 W, fun W => size_any b b0 b1 W⟩

set_option maxHeartbeats 1000000 in
theorem rmul_any (a b : Int) (a0 : -9223372036854775808 ≤ a) (a1 : a ≤ 9223372036854775807) (b0 : -9223372036854775808 ≤ b) (b1 : b ≤ 9223372036854775807) (w : World) :
    Calls Tryd.prog 14 #[.int .i64 a, .int .i64 b] w fun e w' => e = .returned (.tuple #[.int .i64 (mv a b), .int .i64 (me a b)]) ∧ w = w' := by
  have M := rmulC a b a0 a1 b0 b1
  have hP : a.natAbs * b.natAbs ≤ 9223372036854775808 * 9223372036854775808 := Nat.mul_le_mul (by omega) (by omega)
  obtain ⟨hS, hD⟩ := mul_sign a b
  generalize a.natAbs * b.natAbs = P at *
  obtain ⟨hi, hhi⟩ : ∃ hi : Nat, hi = P / 18446744073709551616 := ⟨_, rfl⟩
  obtain ⟨lo, hlo⟩ : ∃ lo : Nat, lo = P % 18446744073709551616 := ⟨_, rfl⟩
  rw [← hhi, ← hlo] at M
  unfold mv me
  generalize a * b = q at *
  cases hA : decide (a < 0) <;> cases hB : decide (b < 0)
  · have hq := hS (by rw [hA, hB])
    by_cases h256 : 256 ≤ hi
    · rw [if_pos (by omega), if_pos (by omega)]
      exact rmulS_Af a b hi lo M (by omega) (by omega) (by omega) hA hB w
    · have ho := or_lh hi lo (by omega) (by omega)
      by_cases h0 : hi = 0
      · subst h0
        rw [if_neg (by omega), if_neg (by omega), if_neg (by omega), if_neg (by omega), show q / 256 = ((0 : Nat) : Int) * 72057594037927936 + (lo : Int) / 256 by omega]
        exact rmulS_0f a b lo _ M (by omega) (by simpa using ho) (by omega) (by omega) hA hB w
      · by_cases hg : 9223372036854775807 < (hi : Int) * 72057594037927936 + (lo : Int) / 256
        · rw [if_pos (by omega), if_pos (by omega)]
          exact rmulS_Bgf a b hi lo _ M (by omega) (by omega) (by omega) ho hA hB hg w
        · rw [if_neg (by omega), if_neg (by omega), if_neg (by omega), if_neg (by omega), show q / 256 = (hi : Int) * 72057594037927936 + (lo : Int) / 256 by omega]
          exact rmulS_Blf a b hi lo _ M (by omega) (by omega) (by omega) ho hA hB (by omega) (by omega) w
  · have hq := hD (by rw [hA, hB]; decide)
    by_cases h00 : hi = 0 ∧ lo = 0
    · obtain ⟨h1, h2⟩ := h00
      subst h1; subst h2
      rw [if_neg (by omega), if_neg (by omega), if_neg (by omega), if_neg (by omega), show q / 256 = 0 by omega]
      exact rmulD_00f a b M hA hB w
    · obtain ⟨up, hup⟩ : ∃ up : Nat, up = (lo + 255) % 18446744073709551616 := ⟨_, rfl⟩
      have hu : IntKind.u64.wrap ((lo : Int) + 255) = (up : Int) := by rw [IntKind.wrap_u64]; omega
      by_cases hz : lo + 255 < 18446744073709551616
      · have cz : (lo : Int) ≤ up := by omega
        by_cases h0 : hi = 0
        · subst h0
          have ho := or_lh 0 up (by omega) (by omega)
          rw [show ((0 : Nat) : Int) * 72057594037927936 = 0 by omega] at ho
          rw [if_neg (by omega), if_neg (by omega), if_neg (by omega), if_neg (by omega), show q / 256 = -(0 + (up : Int) / 256) by omega]
          exact rmulD_0zf a b lo up _ M (by omega) (by rw [beq_eq_false_iff_ne]; omega) hu cz (by omega) ho hA hB (by omega) (by omega) w
        · have hb0 : ((hi : Int) == 0) = false := by rw [beq_eq_false_iff_ne]; omega
          by_cases h256 : 256 ≤ hi
          · rw [if_neg (by omega), if_pos (by omega), if_neg (by omega), if_pos (by omega)]
            exact rmulD_Azf a b hi lo up M hb0 (by omega) (by omega) (by omega) (by omega) hu cz (by omega) hA hB w
          · have ho := or_lh hi up (by omega) (by omega)
            skip
            by_cases hg : 9223372036854775808 < (hi : Int) * 72057594037927936 + (up : Int) / 256
            · rw [if_neg (by omega), if_pos (by omega), if_neg (by omega), if_pos (by omega)]
              exact rmulD_Bzgf a b hi lo up _ M hb0 (by omega) (by omega) (by omega) hu cz (by omega) ho hA hB hg w
            · rw [if_neg (by omega), if_neg (by omega), if_neg (by omega), if_neg (by omega), show q / 256 = -((hi : Int) * 72057594037927936 + (up : Int) / 256) by omega]
              exact rmulD_Bzlf a b hi lo up _ M hb0 (by omega) (by omega) (by omega) hu cz (by omega) ho hA hB (by omega) (by omega) w
      · have cz : (up : Int) < lo := by omega
        by_cases h0 : hi = 0
        · subst h0
          have ho := or_lh 1 up (by omega) (by omega)
          rw [show ((1 : Nat) : Int) * 72057594037927936 = 72057594037927936 by omega] at ho
          rw [if_neg (by omega), if_neg (by omega), if_neg (by omega), if_neg (by omega), show q / 256 = -(72057594037927936 + (up : Int) / 256) by omega]
          exact rmulD_0cf a b lo up _ M (by omega) (by rw [beq_eq_false_iff_ne]; omega) hu cz (by omega) ho hA hB (by omega) (by omega) w
        · have hb0 : ((hi : Int) == 0) = false := by rw [beq_eq_false_iff_ne]; omega
          by_cases h256 : 256 ≤ hi + 1
          · rw [if_neg (by omega), if_pos (by omega), if_neg (by omega), if_pos (by omega)]
            exact rmulD_Acf a b hi lo up M hb0 (by omega) (by omega) (by omega) (by omega) hu cz (by omega) hA hB w
          · have ho := or_lh (hi + 1) up (by omega) (by omega)
            rw [Int.natCast_add] at ho
            rw [show ((1 : Nat) : Int) = 1 from rfl] at ho
            by_cases hg : 9223372036854775808 < ((hi : Int) + 1) * 72057594037927936 + (up : Int) / 256
            · rw [if_neg (by omega), if_pos (by omega), if_neg (by omega), if_pos (by omega)]
              exact rmulD_Bcgf a b hi lo up _ M hb0 (by omega) (by omega) (by omega) hu cz (by omega) ho hA hB hg w
            · rw [if_neg (by omega), if_neg (by omega), if_neg (by omega), if_neg (by omega), show q / 256 = -(((hi : Int) + 1) * 72057594037927936 + (up : Int) / 256) by omega]
              exact rmulD_Bclf a b hi lo up _ M hb0 (by omega) (by omega) (by omega) hu cz (by omega) ho hA hB (by omega) (by omega) w
  · have hq := hD (by rw [hA, hB]; decide)
    by_cases h00 : hi = 0 ∧ lo = 0
    · obtain ⟨h1, h2⟩ := h00
      subst h1; subst h2
      rw [if_neg (by omega), if_neg (by omega), if_neg (by omega), if_neg (by omega), show q / 256 = 0 by omega]
      exact rmulD_00t a b M hA hB w
    · obtain ⟨up, hup⟩ : ∃ up : Nat, up = (lo + 255) % 18446744073709551616 := ⟨_, rfl⟩
      have hu : IntKind.u64.wrap ((lo : Int) + 255) = (up : Int) := by rw [IntKind.wrap_u64]; omega
      by_cases hz : lo + 255 < 18446744073709551616
      · have cz : (lo : Int) ≤ up := by omega
        by_cases h0 : hi = 0
        · subst h0
          have ho := or_lh 0 up (by omega) (by omega)
          rw [show ((0 : Nat) : Int) * 72057594037927936 = 0 by omega] at ho
          rw [if_neg (by omega), if_neg (by omega), if_neg (by omega), if_neg (by omega), show q / 256 = -(0 + (up : Int) / 256) by omega]
          exact rmulD_0zt a b lo up _ M (by omega) (by rw [beq_eq_false_iff_ne]; omega) hu cz (by omega) ho hA hB (by omega) (by omega) w
        · have hb0 : ((hi : Int) == 0) = false := by rw [beq_eq_false_iff_ne]; omega
          by_cases h256 : 256 ≤ hi
          · rw [if_neg (by omega), if_pos (by omega), if_neg (by omega), if_pos (by omega)]
            exact rmulD_Azt a b hi lo up M hb0 (by omega) (by omega) (by omega) (by omega) hu cz (by omega) hA hB w
          · have ho := or_lh hi up (by omega) (by omega)
            skip
            by_cases hg : 9223372036854775808 < (hi : Int) * 72057594037927936 + (up : Int) / 256
            · rw [if_neg (by omega), if_pos (by omega), if_neg (by omega), if_pos (by omega)]
              exact rmulD_Bzgt a b hi lo up _ M hb0 (by omega) (by omega) (by omega) hu cz (by omega) ho hA hB hg w
            · rw [if_neg (by omega), if_neg (by omega), if_neg (by omega), if_neg (by omega), show q / 256 = -((hi : Int) * 72057594037927936 + (up : Int) / 256) by omega]
              exact rmulD_Bzlt a b hi lo up _ M hb0 (by omega) (by omega) (by omega) hu cz (by omega) ho hA hB (by omega) (by omega) w
      · have cz : (up : Int) < lo := by omega
        by_cases h0 : hi = 0
        · subst h0
          have ho := or_lh 1 up (by omega) (by omega)
          rw [show ((1 : Nat) : Int) * 72057594037927936 = 72057594037927936 by omega] at ho
          rw [if_neg (by omega), if_neg (by omega), if_neg (by omega), if_neg (by omega), show q / 256 = -(72057594037927936 + (up : Int) / 256) by omega]
          exact rmulD_0ct a b lo up _ M (by omega) (by rw [beq_eq_false_iff_ne]; omega) hu cz (by omega) ho hA hB (by omega) (by omega) w
        · have hb0 : ((hi : Int) == 0) = false := by rw [beq_eq_false_iff_ne]; omega
          by_cases h256 : 256 ≤ hi + 1
          · rw [if_neg (by omega), if_pos (by omega), if_neg (by omega), if_pos (by omega)]
            exact rmulD_Act a b hi lo up M hb0 (by omega) (by omega) (by omega) (by omega) hu cz (by omega) hA hB w
          · have ho := or_lh (hi + 1) up (by omega) (by omega)
            rw [Int.natCast_add] at ho
            rw [show ((1 : Nat) : Int) = 1 from rfl] at ho
            by_cases hg : 9223372036854775808 < ((hi : Int) + 1) * 72057594037927936 + (up : Int) / 256
            · rw [if_neg (by omega), if_pos (by omega), if_neg (by omega), if_pos (by omega)]
              exact rmulD_Bcgt a b hi lo up _ M hb0 (by omega) (by omega) (by omega) hu cz (by omega) ho hA hB hg w
            · rw [if_neg (by omega), if_neg (by omega), if_neg (by omega), if_neg (by omega), show q / 256 = -(((hi : Int) + 1) * 72057594037927936 + (up : Int) / 256) by omega]
              exact rmulD_Bclt a b hi lo up _ M hb0 (by omega) (by omega) (by omega) hu cz (by omega) ho hA hB (by omega) (by omega) w
  · have hq := hS (by rw [hA, hB])
    by_cases h256 : 256 ≤ hi
    · rw [if_pos (by omega), if_pos (by omega)]
      exact rmulS_At a b hi lo M (by omega) (by omega) (by omega) hA hB w
    · have ho := or_lh hi lo (by omega) (by omega)
      by_cases h0 : hi = 0
      · subst h0
        rw [if_neg (by omega), if_neg (by omega), if_neg (by omega), if_neg (by omega), show q / 256 = ((0 : Nat) : Int) * 72057594037927936 + (lo : Int) / 256 by omega]
        exact rmulS_0t a b lo _ M (by omega) (by simpa using ho) (by omega) (by omega) hA hB w
      · by_cases hg : 9223372036854775807 < (hi : Int) * 72057594037927936 + (lo : Int) / 256
        · rw [if_pos (by omega), if_pos (by omega)]
          exact rmulS_Bgt a b hi lo _ M (by omega) (by omega) (by omega) ho hA hB hg w
        · rw [if_neg (by omega), if_neg (by omega), if_neg (by omega), if_neg (by omega), show q / 256 = (hi : Int) * 72057594037927936 + (lo : Int) / 256 by omega]
          exact rmulS_Blt a b hi lo _ M (by omega) (by omega) (by omega) ho hA hB (by omega) (by omega) w
end Go.Proofs.YtoihknngllmogaaDoor
