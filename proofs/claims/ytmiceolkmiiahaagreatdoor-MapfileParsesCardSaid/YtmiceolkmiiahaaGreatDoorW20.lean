/- Walks: the reference's Text and rows. -/
import Derived.Test.YtmiceolkmiiahaaGreatDoorW19
namespace Go.Proofs.YtmiceolkmiiahaaGreatDoor
open Go.RowKit
set_option linter.unusedVariables false
set_option linter.unusedSimpArgs false
set_option maxRecDepth 100000
set_option maxHeartbeats 16000000

theorem dec_small (n : Nat) (h : n < 10) : Lib.decDigits n = [UInt8.ofNat (48 + n)] := by rw [Lib.decDigits, dif_pos h]
theorem dec_big (n : Nat) (h : ¬ n < 10) : Lib.decDigits n = Lib.decDigits (n / 10) ++ Lib.decDigits (n % 10) := by
  rw [Lib.decDigits, dif_neg h, dec_small (n % 10) (by omega)]
theorem dec_itoa (n : Nat) : Lib.itoa (n : Int) = Lib.decDigits n := by
  unfold Lib.itoa
  rw [if_neg (by omega)]
  rfl
theorem dec_len (n : Nat) (h : n ≤ 9223372036854775807) : (Lib.decDigits n).length ≤ 21 := by
  rw [← dec_itoa]
  exact Lib.itoa_length_le (n : Int) (by omega) (by omega)
theorem rText_small (n : Nat) (h : n < 10) : KC 27 #[.int .i64 (n : Int)] (.string (str (Lib.decDigits n))) := by
  intro w
  rw [dec_small n h]
  match n, h with
  | 0, _ | 1, _ | 2, _ | 3, _ | 4, _ | 5, _ | 6, _ | 7, _ | 8, _ | 9, _ =>
    go_enter Tryz.func27, Tryz.ntmps27
    go_wp2
    go_ret
    exact ⟨rfl, rfl⟩
theorem rText_any : ∀ (n : Nat), n ≤ 9223372036854775807 → KC 27 #[.int .i64 (n : Int)] (.string (str (Lib.decDigits n))) := by
  intro n
  induction n using Nat.strongRecOn with
  | ind n ih =>
    intro hn
    by_cases h : n < 10
    · exact rText_small n h
    · intro w
      have h1 := ih (n / 10) (by omega) (by omega)
      have h2 := rText_small (n % 10) (by omega)
      have hst : str (Lib.decDigits (n / 10)) ++ str (Lib.decDigits (n % 10)) = str (Lib.decDigits n) := by rw [str_append, ← dec_big n h]
      have z1 : (str (Lib.decDigits (n / 10))).size ≤ 21 := dec_len _ (by omega)
      have z2 : (str (Lib.decDigits (n % 10))).size ≤ 21 := dec_len _ (by omega)
      have q1 : ((n / 10 : Nat) : Int) = (n : Int) / 10 := by omega
      have q2 : ((n % 10 : Nat) : Int) = (n : Int) % 10 := by omega
      rw [q1] at h1
      rw [q2] at h2
      obtain ⟨s1, hs1⟩ : ∃ s, str (Lib.decDigits (n / 10)) = s := ⟨_, rfl⟩
      obtain ⟨s2, hs2⟩ : ∃ s, str (Lib.decDigits (n % 10)) = s := ⟨_, rfl⟩
      obtain ⟨s3, hs3⟩ : ∃ s, str (Lib.decDigits n) = s := ⟨_, rfl⟩
      rw [hs1] at h1 hst z1
      rw [hs2] at h2 hst z2
      rw [hs3] at hst ⊢
      have e1 : ¬ (n : Int) < 10 := by omega
      have H1 := Lib.hid h1; have H2 := Lib.hid h2; have HST := Lib.hid hst
      clear h1 h2 hst hs1 hs2 hs3 ih q1 q2
      go_enter Tryz.func27, Tryz.ntmps27
      go_wp2_with fail
      refine (H1.out _).mono ?_
      rintro e w1 ⟨rfl, rfl⟩
      go_wp2_with fail
      refine (H2.out _).mono ?_
      rintro e w1 ⟨rfl, rfl⟩
      go_wp2_with fail
      go_ret
      exact ⟨by rw [← HST.out]; rfl, rfl⟩
end Go.Proofs.YtmiceolkmiiahaaGreatDoor
