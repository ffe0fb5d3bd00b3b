/- Walks: integer of the reference of the lexer, a way each (printed by genrint.py). -/
import Derived.Test.YtpddneplkbdedaaDoorW12
namespace Go.Proofs.YtpddneplkbdedaaDoor
open Go.RowKit
set_option linter.unusedVariables false
set_option linter.unusedSimpArgs false

theorem rint_char (s : ByteArray) (e : Nat) (hs : s.size ≤ 1000000) (he : e ≤ s.size) (hp : ∀ k (h : k < s.size), k < e → digI (s[k].toNat : Int) = true) (x : e < s.size) (x1 : digI (s[e].toNat : Int) = false) (w : World) :
    Calls Tryd.prog 35 #[.string s] w fun e' w' => e' = .returned (.int .i64 5) ∧ w = w' := by
  have HP := Lib.hid hp
  clear hp
  go_enter Tryd.func35, Tryd.ntmps35
  go_wp2_with fail
  go_loop [3] (fun v => ∃ k : Nat, k ≤ e ∧ v = .int .i64 (k : Int)) (fun v => s.size - (intOf v).toNat)
  case atStart => exact ⟨0, by omega, rfl⟩
  case round =>
    obtain ⟨k, hk, rfl⟩ := hrel
    by_cases hke : k < e
    · have hks : k < s.size := by omega
      have HD := Lib.hid (fun W => rdigit_any (s[k].toNat : Int) W)
      rw [HP.out k hks hke] at HD
      go_wp2_with fail
      refine (HD.out _).mono ?_
      rintro e1 w1 ⟨rfl, rfl⟩
      go_wp2_with fail
      go_round
      case rel => exact ⟨k + 1, by omega, by go_num⟩
      case measure => simp [intOf]; omega
    · obtain rfl : k = e := by omega
      have HD := Lib.hid (fun W => rdigit_any (s[k].toNat : Int) W)
      rw [x1] at HD
      clear x1
      go_wp2_with fail
      refine (HD.out _).mono ?_
      rintro e1 w1 ⟨rfl, rfl⟩
      go_wp2_with fail
      go_ret
      exact ⟨rfl, rfl⟩

theorem rint_none (s : ByteArray) (e : Nat) (hs : s.size ≤ 1000000) (he : e ≤ s.size) (hp : ∀ k (h : k < s.size), k < e → digI (s[k].toNat : Int) = true) (x : s.size ≤ e) (z : s.size < 1) (w : World) :
    Calls Tryd.prog 35 #[.string s] w fun e' w' => e' = .returned (.int .i64 5) ∧ w = w' := by
  have HP := Lib.hid hp
  clear hp
  go_enter Tryd.func35, Tryd.ntmps35
  go_wp2_with fail
  go_loop [3] (fun v => ∃ k : Nat, k ≤ e ∧ v = .int .i64 (k : Int)) (fun v => s.size - (intOf v).toNat)
  case atStart => exact ⟨0, by omega, rfl⟩
  case round =>
    obtain ⟨k, hk, rfl⟩ := hrel
    by_cases hke : k < e
    · have hks : k < s.size := by omega
      have HD := Lib.hid (fun W => rdigit_any (s[k].toNat : Int) W)
      rw [HP.out k hks hke] at HD
      go_wp2_with fail
      refine (HD.out _).mono ?_
      rintro e1 w1 ⟨rfl, rfl⟩
      go_wp2_with fail
      go_round
      case rel => exact ⟨k + 1, by omega, by go_num⟩
      case measure => simp [intOf]; omega
    · obtain rfl : k = e := by omega
      have hz0 : ((s.size : Int) == 0) = true := by rw [beq_iff_eq]; omega
      go_wp2_with fail
      go_ret
      exact ⟨rfl, rfl⟩

theorem rint_zero (s : ByteArray) (e : Nat) (hs : s.size ≤ 1000000) (he : e ≤ s.size) (hp : ∀ k (h : k < s.size), k < e → digI (s[k].toNat : Int) = true) (x : s.size ≤ e) (z : 1 < s.size) (hz : ((s[0].toNat : Int) == 48) = true) (w : World) :
    Calls Tryd.prog 35 #[.string s] w fun e' w' => e' = .returned (.int .i64 5) ∧ w = w' := by
  have HP := Lib.hid hp
  clear hp
  go_enter Tryd.func35, Tryd.ntmps35
  go_wp2_with fail
  go_loop [3] (fun v => ∃ k : Nat, k ≤ e ∧ v = .int .i64 (k : Int)) (fun v => s.size - (intOf v).toNat)
  case atStart => exact ⟨0, by omega, rfl⟩
  case round =>
    obtain ⟨k, hk, rfl⟩ := hrel
    by_cases hke : k < e
    · have hks : k < s.size := by omega
      have HD := Lib.hid (fun W => rdigit_any (s[k].toNat : Int) W)
      rw [HP.out k hks hke] at HD
      go_wp2_with fail
      refine (HD.out _).mono ?_
      rintro e1 w1 ⟨rfl, rfl⟩
      go_wp2_with fail
      go_round
      case rel => exact ⟨k + 1, by omega, by go_num⟩
      case measure => simp [intOf]; omega
    · obtain rfl : k = e := by omega
      have hz0 : ((s.size : Int) == 0) = false := by rw [beq_eq_false_iff_ne]; omega
      go_wp2_with fail
      go_ret
      exact ⟨rfl, rfl⟩

theorem rint_short (s : ByteArray) (e : Nat) (hs : s.size ≤ 1000000) (he : e ≤ s.size) (hp : ∀ k (h : k < s.size), k < e → digI (s[k].toNat : Int) = true) (x : s.size ≤ e) (z : 1 ≤ s.size) (z1 : s.size < 19) (hz : ¬ 1 < s.size ∨ ∃ h : 1 < s.size, ((s[0].toNat : Int) == 48) = false) (w : World) :
    Calls Tryd.prog 35 #[.string s] w fun e' w' => e' = .returned (.int .i64 0) ∧ w = w' := by
  have HP := Lib.hid hp
  clear hp
  rcases hz with hz | ⟨hz1, hz⟩
  all_goals
    go_enter Tryd.func35, Tryd.ntmps35
    go_wp2_with fail
    go_loop [3] (fun v => ∃ k : Nat, k ≤ e ∧ v = .int .i64 (k : Int)) (fun v => s.size - (intOf v).toNat)
    case atStart => exact ⟨0, by omega, rfl⟩
    case round =>
      obtain ⟨k, hk, rfl⟩ := hrel
      by_cases hke : k < e
      · have hks : k < s.size := by omega
        have HD := Lib.hid (fun W => rdigit_any (s[k].toNat : Int) W)
        rw [HP.out k hks hke] at HD
        go_wp2_with fail
        refine (HD.out _).mono ?_
        rintro e1 w1 ⟨rfl, rfl⟩
        go_wp2_with fail
        go_round
        case rel => exact ⟨k + 1, by omega, by go_num⟩
        case measure => simp [intOf]; omega
      · obtain rfl : k = e := by omega
        have hz0 : ((s.size : Int) == 0) = false := by rw [beq_eq_false_iff_ne]; omega
        have hz19 : ((s.size : Int) == 19) = false := by rw [beq_eq_false_iff_ne]; omega
        go_wp2_with fail
        go_ret
        exact ⟨rfl, rfl⟩

theorem rint_long (s : ByteArray) (e : Nat) (hs : s.size ≤ 1000000) (he : e ≤ s.size) (hp : ∀ k (h : k < s.size), k < e → digI (s[k].toNat : Int) = true) (x : s.size ≤ e) (z : 19 < s.size) (hz : ((s[0].toNat : Int) == 48) = false) (w : World) :
    Calls Tryd.prog 35 #[.string s] w fun e' w' => e' = .returned (.int .i64 3) ∧ w = w' := by
  have HP := Lib.hid hp
  clear hp
  go_enter Tryd.func35, Tryd.ntmps35
  go_wp2_with fail
  go_loop [3] (fun v => ∃ k : Nat, k ≤ e ∧ v = .int .i64 (k : Int)) (fun v => s.size - (intOf v).toNat)
  case atStart => exact ⟨0, by omega, rfl⟩
  case round =>
    obtain ⟨k, hk, rfl⟩ := hrel
    by_cases hke : k < e
    · have hks : k < s.size := by omega
      have HD := Lib.hid (fun W => rdigit_any (s[k].toNat : Int) W)
      rw [HP.out k hks hke] at HD
      go_wp2_with fail
      refine (HD.out _).mono ?_
      rintro e1 w1 ⟨rfl, rfl⟩
      go_wp2_with fail
      go_round
      case rel => exact ⟨k + 1, by omega, by go_num⟩
      case measure => simp [intOf]; omega
    · obtain rfl : k = e := by omega
      have hz0 : ((s.size : Int) == 0) = false := by rw [beq_eq_false_iff_ne]; omega
      go_wp2_with fail
      go_ret
      exact ⟨rfl, rfl⟩

theorem rint_edgebig (s : ByteArray) (e : Nat) (hs : s.size ≤ 1000000) (he : e ≤ s.size) (hp : ∀ k (h : k < s.size), k < e → digI (s[k].toNat : Int) = true) (x : s.size ≤ e) (z : 19 ≤ s.size) (z1 : s.size ≤ 19) (hz : ((s[0].toNat : Int) == 48) = false) (m1 : Op.bytesLess s.toList [57, 50, 50, 51, 51, 55, 50, 48, 51, 54, 56, 53, 52, 55, 55, 53, 56, 48, 55] = false) (m2 : (s.toList == [57, 50, 50, 51, 51, 55, 50, 48, 51, 54, 56, 53, 52, 55, 55, 53, 56, 48, 55]) = false) (w : World) :
    Calls Tryd.prog 35 #[.string s] w fun e' w' => e' = .returned (.int .i64 3) ∧ w = w' := by
  have HP := Lib.hid hp
  clear hp
  go_enter Tryd.func35, Tryd.ntmps35
  go_wp2_with fail
  go_loop [3] (fun v => ∃ k : Nat, k ≤ e ∧ v = .int .i64 (k : Int)) (fun v => s.size - (intOf v).toNat)
  case atStart => exact ⟨0, by omega, rfl⟩
  case round =>
    obtain ⟨k, hk, rfl⟩ := hrel
    by_cases hke : k < e
    · have hks : k < s.size := by omega
      have HD := Lib.hid (fun W => rdigit_any (s[k].toNat : Int) W)
      rw [HP.out k hks hke] at HD
      go_wp2_with fail
      refine (HD.out _).mono ?_
      rintro e1 w1 ⟨rfl, rfl⟩
      go_wp2_with fail
      go_round
      case rel => exact ⟨k + 1, by omega, by go_num⟩
      case measure => simp [intOf]; omega
    · obtain rfl : k = e := by omega
      have hz0 : ((s.size : Int) == 0) = false := by rw [beq_eq_false_iff_ne]; omega
      have hz19 : ((s.size : Int) == 19) = true := by rw [beq_iff_eq]; omega
      go_wp2_with fail
      go_ret
      exact ⟨rfl, rfl⟩

theorem rint_edgeless (s : ByteArray) (e : Nat) (hs : s.size ≤ 1000000) (he : e ≤ s.size) (hp : ∀ k (h : k < s.size), k < e → digI (s[k].toNat : Int) = true) (x : s.size ≤ e) (z : 19 ≤ s.size) (z1 : s.size ≤ 19) (hz : ((s[0].toNat : Int) == 48) = false) (m1 : Op.bytesLess s.toList [57, 50, 50, 51, 51, 55, 50, 48, 51, 54, 56, 53, 52, 55, 55, 53, 56, 48, 55] = true) (m2 : (s.toList == [57, 50, 50, 51, 51, 55, 50, 48, 51, 54, 56, 53, 52, 55, 55, 53, 56, 48, 55]) = false) (w : World) :
    Calls Tryd.prog 35 #[.string s] w fun e' w' => e' = .returned (.int .i64 0) ∧ w = w' := by
  have HP := Lib.hid hp
  clear hp
  go_enter Tryd.func35, Tryd.ntmps35
  go_wp2_with fail
  go_loop [3] (fun v => ∃ k : Nat, k ≤ e ∧ v = .int .i64 (k : Int)) (fun v => s.size - (intOf v).toNat)
  case atStart => exact ⟨0, by omega, rfl⟩
  case round =>
    obtain ⟨k, hk, rfl⟩ := hrel
    by_cases hke : k < e
    · have hks : k < s.size := by omega
      have HD := Lib.hid (fun W => rdigit_any (s[k].toNat : Int) W)
      rw [HP.out k hks hke] at HD
      go_wp2_with fail
      refine (HD.out _).mono ?_
      rintro e1 w1 ⟨rfl, rfl⟩
      go_wp2_with fail
      go_round
      case rel => exact ⟨k + 1, by omega, by go_num⟩
      case measure => simp [intOf]; omega
    · obtain rfl : k = e := by omega
      have hz0 : ((s.size : Int) == 0) = false := by rw [beq_eq_false_iff_ne]; omega
      have hz19 : ((s.size : Int) == 19) = true := by rw [beq_iff_eq]; omega
      go_wp2_with fail
      go_ret
      exact ⟨rfl, rfl⟩

theorem rint_edgeeq (s : ByteArray) (e : Nat) (hs : s.size ≤ 1000000) (he : e ≤ s.size) (hp : ∀ k (h : k < s.size), k < e → digI (s[k].toNat : Int) = true) (x : s.size ≤ e) (z : 19 ≤ s.size) (z1 : s.size ≤ 19) (hz : ((s[0].toNat : Int) == 48) = false) (m1 : Op.bytesLess s.toList [57, 50, 50, 51, 51, 55, 50, 48, 51, 54, 56, 53, 52, 55, 55, 53, 56, 48, 55] = false) (m2 : (s.toList == [57, 50, 50, 51, 51, 55, 50, 48, 51, 54, 56, 53, 52, 55, 55, 53, 56, 48, 55]) = true) (w : World) :
    Calls Tryd.prog 35 #[.string s] w fun e' w' => e' = .returned (.int .i64 0) ∧ w = w' := by
  have HP := Lib.hid hp
  clear hp
  go_enter Tryd.func35, Tryd.ntmps35
  go_wp2_with fail
  go_loop [3] (fun v => ∃ k : Nat, k ≤ e ∧ v = .int .i64 (k : Int)) (fun v => s.size - (intOf v).toNat)
  case atStart => exact ⟨0, by omega, rfl⟩
  case round =>
    obtain ⟨k, hk, rfl⟩ := hrel
    by_cases hke : k < e
    · have hks : k < s.size := by omega
      have HD := Lib.hid (fun W => rdigit_any (s[k].toNat : Int) W)
      rw [HP.out k hks hke] at HD
      go_wp2_with fail
      refine (HD.out _).mono ?_
      rintro e1 w1 ⟨rfl, rfl⟩
      go_wp2_with fail
      go_round
      case rel => exact ⟨k + 1, by omega, by go_num⟩
      case measure => simp [intOf]; omega
    · obtain rfl : k = e := by omega
      have hz0 : ((s.size : Int) == 0) = false := by rw [beq_eq_false_iff_ne]; omega
      have hz19 : ((s.size : Int) == 19) = true := by rw [beq_iff_eq]; omega
      go_wp2_with fail
      go_ret
      exact ⟨rfl, rfl⟩
end Go.Proofs.YtpddneplkbdedaaDoor

