/- Walks: prefix of the lexer (printed by genprefix.py). -/
import Derived.Test.YtpddneplkbdedaaDoorW1
namespace Go.Proofs.YtpddneplkbdedaaDoor
open Go.RowKit
set_option linter.unusedVariables false
set_option linter.unusedSimpArgs false

def KC (f : Nat) (xs : Array Value) (v : Value) : Prop := ∀ w, Calls Tryd.prog f xs w fun e w' => e = .returned v ∧ w = w'

theorem prefix_part (s : ByteArray) (e : Nat) (hs : s.size ≤ 1000000) (he : e ≤ s.size) (hp : ∀ k (h : k < s.size), k < e → partI (s[k].toNat : Int) = true) (hx : s.size ≤ e ∨ ∃ h : e < s.size, partI (s[e].toNat : Int) = false) (w : World) :
    Calls Tryd.prog 39 #[.string s, .func (.func 45) #[] #[]] w fun e' w' => e' = .returned (.string (s.extract 0 e)) ∧ w = w' := by
  have HP := Lib.hid hp
  have HX := Lib.hid hx
  clear hp hx
  go_enter Tryd.func39, Tryd.ntmps39
  go_wp2_with fail
  go_loop [5] (fun v => ∃ k : Nat, k ≤ e ∧ v = .int .i64 (k : Int)) (fun v => s.size - (intOf v).toNat)
  case atStart => exact ⟨0, by omega, rfl⟩
  case round =>
    obtain ⟨k, hk, rfl⟩ := hrel
    by_cases hks : k < s.size
    · have HA := Lib.hid (at_in s k hks hs)
      by_cases hke : k < e
      · have HF := Lib.hid (fun W => part_any (s[k].toNat : Int) W)
        rw [HP.out k hks hke] at HF
        go_wp2_with fail
        refine (HA.out _).mono ?_
        rintro e1 w1 ⟨rfl, rfl⟩
        go_wp2_with fail
        refine (HF.out _).mono ?_
        rintro e1 w1 ⟨rfl, rfl⟩
        go_wp2_with fail
        go_round
        case rel => exact ⟨k + 1, by omega, by go_num⟩
        case measure => simp [intOf]; omega
      · obtain rfl : k = e := by omega
        have HF := Lib.hid (fun W => part_any (s[k].toNat : Int) W)
        have hpf : partI (s[k].toNat : Int) = false := by
          rcases HX.out with h | ⟨_, h⟩
          · omega
          · exact h
        rw [hpf] at HF
        clear hpf
        go_wp2_with fail
        refine (HA.out _).mono ?_
        rintro e1 w1 ⟨rfl, rfl⟩
        go_wp2_with fail
        refine (HF.out _).mono ?_
        rintro e1 w1 ⟨rfl, rfl⟩
        go_wp2_with fail
        go_ret
        exact ⟨rfl, rfl⟩
    · obtain rfl : k = e := by omega
      go_wp2_with fail
      go_ret
      exact ⟨rfl, rfl⟩

theorem prefix_digit (s : ByteArray) (e : Nat) (hs : s.size ≤ 1000000) (he : e ≤ s.size) (hp : ∀ k (h : k < s.size), k < e → digI (s[k].toNat : Int) = true) (hx : s.size ≤ e ∨ ∃ h : e < s.size, digI (s[e].toNat : Int) = false) (w : World) :
    Calls Tryd.prog 39 #[.string s, .func (.func 46) #[] #[]] w fun e' w' => e' = .returned (.string (s.extract 0 e)) ∧ w = w' := by
  have HP := Lib.hid hp
  have HX := Lib.hid hx
  clear hp hx
  go_enter Tryd.func39, Tryd.ntmps39
  go_wp2_with fail
  go_loop [5] (fun v => ∃ k : Nat, k ≤ e ∧ v = .int .i64 (k : Int)) (fun v => s.size - (intOf v).toNat)
  case atStart => exact ⟨0, by omega, rfl⟩
  case round =>
    obtain ⟨k, hk, rfl⟩ := hrel
    by_cases hks : k < s.size
    · have HA := Lib.hid (at_in s k hks hs)
      by_cases hke : k < e
      · have HF := Lib.hid (fun W => digit_any (s[k].toNat : Int) W)
        rw [HP.out k hks hke] at HF
        go_wp2_with fail
        refine (HA.out _).mono ?_
        rintro e1 w1 ⟨rfl, rfl⟩
        go_wp2_with fail
        refine (HF.out _).mono ?_
        rintro e1 w1 ⟨rfl, rfl⟩
        go_wp2_with fail
        go_round
        case rel => exact ⟨k + 1, by omega, by go_num⟩
        case measure => simp [intOf]; omega
      · obtain rfl : k = e := by omega
        have HF := Lib.hid (fun W => digit_any (s[k].toNat : Int) W)
        have hpf : digI (s[k].toNat : Int) = false := by
          rcases HX.out with h | ⟨_, h⟩
          · omega
          · exact h
        rw [hpf] at HF
        clear hpf
        go_wp2_with fail
        refine (HA.out _).mono ?_
        rintro e1 w1 ⟨rfl, rfl⟩
        go_wp2_with fail
        refine (HF.out _).mono ?_
        rintro e1 w1 ⟨rfl, rfl⟩
        go_wp2_with fail
        go_ret
        exact ⟨rfl, rfl⟩
    · obtain rfl : k = e := by omega
      go_wp2_with fail
      go_ret
      exact ⟨rfl, rfl⟩

theorem prefix_print (s : ByteArray) (e : Nat) (hs : s.size ≤ 1000000) (he : e ≤ s.size) (hp : ∀ k (h : k < s.size), k < e → prnI (s[k].toNat : Int) = true) (hx : s.size ≤ e ∨ ∃ h : e < s.size, prnI (s[e].toNat : Int) = false) (w : World) :
    Calls Tryd.prog 39 #[.string s, .func (.func 48) #[] #[]] w fun e' w' => e' = .returned (.string (s.extract 0 e)) ∧ w = w' := by
  have HP := Lib.hid hp
  have HX := Lib.hid hx
  clear hp hx
  go_enter Tryd.func39, Tryd.ntmps39
  go_wp2_with fail
  go_loop [5] (fun v => ∃ k : Nat, k ≤ e ∧ v = .int .i64 (k : Int)) (fun v => s.size - (intOf v).toNat)
  case atStart => exact ⟨0, by omega, rfl⟩
  case round =>
    obtain ⟨k, hk, rfl⟩ := hrel
    by_cases hks : k < s.size
    · have HA := Lib.hid (at_in s k hks hs)
      by_cases hke : k < e
      · have HF := Lib.hid (fun W => print_any (s[k].toNat : Int) W)
        rw [HP.out k hks hke] at HF
        go_wp2_with fail
        refine (HA.out _).mono ?_
        rintro e1 w1 ⟨rfl, rfl⟩
        go_wp2_with fail
        refine (HF.out _).mono ?_
        rintro e1 w1 ⟨rfl, rfl⟩
        go_wp2_with fail
        go_round
        case rel => exact ⟨k + 1, by omega, by go_num⟩
        case measure => simp [intOf]; omega
      · obtain rfl : k = e := by omega
        have HF := Lib.hid (fun W => print_any (s[k].toNat : Int) W)
        have hpf : prnI (s[k].toNat : Int) = false := by
          rcases HX.out with h | ⟨_, h⟩
          · omega
          · exact h
        rw [hpf] at HF
        clear hpf
        go_wp2_with fail
        refine (HA.out _).mono ?_
        rintro e1 w1 ⟨rfl, rfl⟩
        go_wp2_with fail
        refine (HF.out _).mono ?_
        rintro e1 w1 ⟨rfl, rfl⟩
        go_wp2_with fail
        go_ret
        exact ⟨rfl, rfl⟩
    · obtain rfl : k = e := by omega
      go_wp2_with fail
      go_ret
      exact ⟨rfl, rfl⟩

theorem prefix_noline (s : ByteArray) (e : Nat) (hs : s.size ≤ 1000000) (he : e ≤ s.size) (hp : ∀ k (h : k < s.size), k < e → ((s[k].toNat : Int) != 10) = true) (hx : s.size ≤ e ∨ ∃ h : e < s.size, ((s[e].toNat : Int) != 10) = false) (w : World) :
    Calls Tryd.prog 39 #[.string s, .func (.func 40) #[] #[]] w fun e' w' => e' = .returned (.string (s.extract 0 e)) ∧ w = w' := by
  have HP := Lib.hid hp
  have HX := Lib.hid hx
  clear hp hx
  go_enter Tryd.func39, Tryd.ntmps39
  go_wp2_with fail
  go_loop [5] (fun v => ∃ k : Nat, k ≤ e ∧ v = .int .i64 (k : Int)) (fun v => s.size - (intOf v).toNat)
  case atStart => exact ⟨0, by omega, rfl⟩
  case round =>
    obtain ⟨k, hk, rfl⟩ := hrel
    by_cases hks : k < s.size
    · have HA := Lib.hid (at_in s k hks hs)
      by_cases hke : k < e
      · have HF := Lib.hid (fun W => noline_any (s[k].toNat : Int) W)
        rw [HP.out k hks hke] at HF
        go_wp2_with fail
        refine (HA.out _).mono ?_
        rintro e1 w1 ⟨rfl, rfl⟩
        go_wp2_with fail
        refine (HF.out _).mono ?_
        rintro e1 w1 ⟨rfl, rfl⟩
        go_wp2_with fail
        go_round
        case rel => exact ⟨k + 1, by omega, by go_num⟩
        case measure => simp [intOf]; omega
      · obtain rfl : k = e := by omega
        have HF := Lib.hid (fun W => noline_any (s[k].toNat : Int) W)
        have hpf : ((s[k].toNat : Int) != 10) = false := by
          rcases HX.out with h | ⟨_, h⟩
          · omega
          · exact h
        rw [hpf] at HF
        clear hpf
        go_wp2_with fail
        refine (HA.out _).mono ?_
        rintro e1 w1 ⟨rfl, rfl⟩
        go_wp2_with fail
        refine (HF.out _).mono ?_
        rintro e1 w1 ⟨rfl, rfl⟩
        go_wp2_with fail
        go_ret
        exact ⟨rfl, rfl⟩
    · obtain rfl : k = e := by omega
      go_wp2_with fail
      go_ret
      exact ⟨rfl, rfl⟩
end Go.Proofs.YtpddneplkbdedaaDoor

