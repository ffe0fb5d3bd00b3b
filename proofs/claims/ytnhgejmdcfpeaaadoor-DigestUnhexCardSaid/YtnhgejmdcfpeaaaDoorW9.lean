/- Walks: the reference's Hex and Unhex, and the laws DigestHex, DigestUnhex. -/
import Derived.Test.YtnhgejmdcfpeaaaDoorPlainRound
import Derived.Test.YtnhgejmdcfpeaaaDoorW6
namespace Go.Proofs.YtnhgejmdcfpeaaaDoor
open Go.RowKit
set_option linter.unusedVariables false
set_option linter.unusedSimpArgs false

abbrev D16 : ByteArray := ⟨#[48, 49, 50, 51, 52, 53, 54, 55, 56, 57, 97, 98, 99, 100, 101, 102]⟩
theorem d16_at (q : Nat) (hq : q < 16) (h : q < D16.size) : ((D16[q]'h).toNat : Int) = hexd q := by
  have : ∀ q : Fin 16, ((D16.get! q.val).toNat : Int) = hexd q.val := by decide +kernel
  have h1 := this ⟨q, hq⟩
  have g := get_at _ q h
  rw [Nat.add_zero] at g
  rw [← g]
  exact h1
theorem d16_cut (q : Nat) (hq : q < 16) : D16.extract q (q + 1) = strOfNums [hexd q] := by
  have : ∀ q : Fin 16, D16.extract q.val (q.val + 1) = strOfNums [hexd q.val] := by decide +kernel
  exact this ⟨q, hq⟩

theorem rs_cat (n k : Nat) : strOfNums [hexd (n / 16 ^ k % 16)] ++ strOfNums (rs n k) = strOfNums (rs n (k + 1)) := by
  rw [strOfNums_append]; rfl

set_option maxHeartbeats 1000000 in
theorem rhex_any (n : Nat) (w : World) (hn : Hid (n < 18446744073709551616)) :
    Calls Tryd.prog 18 #[.int .u64 n] w fun e w' => e = .returned (.string (hex16 n)) ∧ w = w' := by
  go_enter Tryd.func18, Tryd.ntmps18
  go_wp2
  go_loop [0, 3, 4] (fun u t i => ∃ (k m : Nat) (b : ByteArray), k ≤ 16 ∧ u = .int .u64 m ∧ i = .int .i64 k ∧ t = .string b ∧ Hid (m = n / 16 ^ k ∧ b = strOfNums (rs n k)) ∧ b.size ≤ k) (fun _ _ i => 16 - (intOf i).toNat)
  case atStart => exact ⟨0, n, _, by omega, rfl, rfl, rfl, ⟨by simp, rfl⟩, Nat.le_refl _⟩
  case round =>
    obtain ⟨k, m, b, hk, rfl, rfl, rfl, hm, hbz⟩ := hrel
    have hq : IntKind.u64.wrap ((m : Int) / 16) = ((m / 16 : Nat) : Int) := by
      have h1 := hm.1
      have h2 : n / 16 ^ k ≤ n := Nat.div_le_self _ _
      have h3 : n < 18446744073709551616 := hn
      rw [IntKind.wrap_u64]
      omega
    by_cases hlt : k < 16
    · obtain ⟨q, hqm⟩ : ∃ q : Nat, (m : Int) % 16 = q := ⟨m % 16, by omega⟩
      have hq16 : q < 16 := by omega
      have HQ := Lib.hid hqm
      have hsz : (D16.extract q (q + 1)).size ≤ 1 := by rw [d16_cut q hq16, strOfNums_size]; simp
      go_wp2
      go_round
      case rel =>
        refine ⟨k + 1, m / 16, D16.extract q (q + 1) ++ b, by omega, by simp, by go_num, rfl, ⟨?_, ?_⟩, ?_⟩
        · rw [hm.1, Nat.pow_succ, Nat.div_div_eq_div_mul]
        · have e : q = n / 16 ^ k % 16 := by
            have h1 := HQ.out
            have h2 := hm.1
            omega
          rw [d16_cut q hq16, hm.2, e, rs_cat]
        · rw [ByteArray.size_append]; omega
      case measure => simp [intOf]; omega
    · go_wp2
      go_ret
      refine ⟨?_, rfl⟩
      have hk8 : k = 16 := by omega
      rw [hm.2, hk8, ← hex16_rs n hn]
      rfl

theorem lv_none (c : UInt8) (h : ∀ j, j < 16 → hexd j ≠ (c.toNat : Int)) : lv c = 16 := by
  have h1 := lv_le c
  by_cases h2 : lv c ≤ 15
  · exact absurd (lv_hexd c h2) (h _ (by omega))
  · omega

set_option maxHeartbeats 1000000 in
theorem value_any (c : UInt8) (w : World) :
    Calls Tryd.prog 25 #[.int .u8 (c.toNat : Int)] w fun e w' => e = .returned (.int .u64 (lv c)) ∧ w = w' := by
  go_enter Tryd.func25, Tryd.ntmps25
  go_wp2
  go_loop [3] (fun i => ∃ (k : Nat), k ≤ 16 ∧ i = .int .i64 k ∧ Hid (∀ j, j < k → hexd j ≠ (c.toNat : Int))) (fun i => 16 - (intOf i).toNat)
  case atStart => exact ⟨0, by omega, rfl, fun j hj => by omega⟩
  case round =>
    obtain ⟨k, hk, rfl, hm⟩ := hrel
    by_cases hlt : k < 16
    · by_cases he : hexd k = (c.toNat : Int)
      · have hd : ((D16[k]'(show k < 16 from hlt)).toNat : Int) = (c.toNat : Int) := (d16_at k hlt _).trans he
        have hb : (((D16[k]'(show k < 16 from hlt)).toNat : Int) == (c.toNat : Int)) = true := by rw [hd]; simp
        have HE := Lib.hid he
        clear he hd
        go_wp2
        go_ret
        refine ⟨?_, rfl⟩
        rw [hexd_lv k hlt c HE.out]
        rfl
      · have hd : ((D16[k]'(show k < 16 from hlt)).toNat : Int) ≠ (c.toNat : Int) := fun h => he ((d16_at k hlt _).symm.trans h)
        have hb : (((D16[k]'(show k < 16 from hlt)).toNat : Int) == (c.toNat : Int)) = false := by rw [beq_eq_false_iff_ne]; exact hd
        have HE := Lib.hid he
        clear he hd
        go_wp2
        go_round
        case rel =>
          refine ⟨k + 1, by omega, by go_num, fun j hj => ?_⟩
          by_cases e : j = k
          · subst e; exact HE.out
          · exact hm j (by omega)
        case measure => simp [intOf]; omega
    · go_wp2
      go_ret
      refine ⟨?_, rfl⟩
      have hk : k = 16 := by omega
      subst hk
      rw [lv_none c hm]
      rfl
end Go.Proofs.YtnhgejmdcfpeaaaDoor
