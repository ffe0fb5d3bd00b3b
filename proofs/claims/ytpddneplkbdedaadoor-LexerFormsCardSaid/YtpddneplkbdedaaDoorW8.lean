/- Walks: the scans of the reference of the lexer. -/
import Derived.Test.YtpddneplkbdedaaDoorW7
namespace Go.Proofs.YtpddneplkbdedaaDoor
open Go.RowKit
set_option linter.unusedVariables false
set_option linter.unusedSimpArgs false

theorem rletter_any (c : Int) (w : World) : Calls Tryd.prog 33 #[.int .u8 c] w fun e w' => e = .returned (.bool (lcI c)) ∧ w = w' := by
  by_cases h1 : 97 ≤ c
  · by_cases h2 : c ≤ 122
    · have e : lcI c = true := by unfold lcI; rw [decide_eq_true h1, decide_eq_true h2]; rfl
      rw [e]
      go_enter Tryd.func33, Tryd.ntmps33
      go_wp2
      go_ret
      exact ⟨rfl, rfl⟩
    · have e : lcI c = false := by unfold lcI; rw [decide_eq_false h2]; simp
      rw [e]
      go_enter Tryd.func33, Tryd.ntmps33
      go_wp2
      go_ret
      exact ⟨rfl, rfl⟩
  · have e : lcI c = false := by unfold lcI; rw [decide_eq_false h1]; simp
    rw [e]
    go_enter Tryd.func33, Tryd.ntmps33
    go_wp2
    go_ret
    exact ⟨rfl, rfl⟩

theorem rdigit_any (c : Int) (w : World) : Calls Tryd.prog 50 #[.int .u8 c] w fun e w' => e = .returned (.bool (digI c)) ∧ w = w' := by
  by_cases h1 : 48 ≤ c
  · by_cases h2 : c ≤ 57
    · have e : digI c = true := by unfold digI; rw [decide_eq_true h1, decide_eq_true h2]; rfl
      rw [e]
      go_enter Tryd.func50, Tryd.ntmps50
      go_wp2
      go_ret
      exact ⟨rfl, rfl⟩
    · have e : digI c = false := by unfold digI; rw [decide_eq_false h2]; simp
      rw [e]
      go_enter Tryd.func50, Tryd.ntmps50
      go_wp2
      go_ret
      exact ⟨rfl, rfl⟩
  · have e : digI c = false := by unfold digI; rw [decide_eq_false h1]; simp
    rw [e]
    go_enter Tryd.func50, Tryd.ntmps50
    go_wp2
    go_ret
    exact ⟨rfl, rfl⟩

/-- The length of the sequence of letters, digits and _ at the beginning. -/
theorem run_at (s : ByteArray) (e : Nat) (hs : s.size ≤ 1000000) (he : e ≤ s.size) (hp : ∀ k (h : k < s.size), k < e → partI (s[k].toNat : Int) = true) (hx : s.size ≤ e ∨ ∃ h : e < s.size, partI (s[e].toNat : Int) = false) (w : World) :
    Calls Tryd.prog 34 #[.string s] w fun e' w' => e' = .returned (.int .i64 e) ∧ w = w' := by
  have HP := Lib.hid hp
  have HX := Lib.hid hx
  clear hp hx
  go_enter Tryd.func34, Tryd.ntmps34
  go_wp2_with fail
  go_loop [3] (fun v => ∃ k : Nat, k ≤ e ∧ v = .int .i64 (k : Int)) (fun v => s.size - (intOf v).toNat)
  case atStart => exact ⟨0, by omega, rfl⟩
  case round =>
    obtain ⟨k, hk, rfl⟩ := hrel
    by_cases hks : k < s.size
    · have HL := Lib.hid (fun W => rletter_any (s[k].toNat : Int) W)
      have HD := Lib.hid (fun W => rdigit_any (s[k].toNat : Int) W)
      have hpk : Hid (partI (s[k].toNat : Int) = decide (k < e)) := by
        by_cases hke : k < e
        · rw [decide_eq_true hke]; exact HP.out k hks hke
        · obtain rfl : k = e := by omega
          rw [decide_eq_false hke]
          rcases HX.out with h | ⟨_, h⟩
          · omega
          · exact h
      obtain ⟨A, hA⟩ : ∃ A, Hid (lcI (s[k].toNat : Int) = A) := ⟨lcI (s[k].toNat : Int), Lib.hid rfl⟩
      obtain ⟨B, hB⟩ : ∃ B, Hid (digI (s[k].toNat : Int) = B) := ⟨digI (s[k].toNat : Int), Lib.hid rfl⟩
      obtain ⟨C, hC⟩ : ∃ C, ((s[k].toNat : Int) == 95) = C := ⟨_, rfl⟩
      have hABC : Hid ((A || B || C) = decide (k < e)) := by
        have h := hpk.out
        unfold partI at h
        rw [hA.out, hB.out, hC] at h
        exact h
      rw [hA.out] at HL
      rw [hB.out] at HD
      clear hpk
      cases A
      · cases B
        · cases C
          · have hke : ¬ k < e := by have := hABC.out; simpa using this
            obtain rfl : k = e := by omega
            go_wp2_with fail
            refine (HL.out _).mono ?_
            rintro e1 w1 ⟨rfl, rfl⟩
            go_wp2_with fail
            refine (HD.out _).mono ?_
            rintro e1 w1 ⟨rfl, rfl⟩
            go_wp2_with fail
            go_ret
            exact ⟨rfl, rfl⟩
          · have hke : k < e := by have := hABC.out; simpa using this
            go_wp2_with fail
            refine (HL.out _).mono ?_
            rintro e1 w1 ⟨rfl, rfl⟩
            go_wp2_with fail
            refine (HD.out _).mono ?_
            rintro e1 w1 ⟨rfl, rfl⟩
            go_wp2_with fail
            go_round
            case rel => exact ⟨k + 1, by omega, by go_num⟩
            case measure => simp [intOf]; omega
        · have hke : k < e := by have := hABC.out; simpa using this
          go_wp2_with fail
          refine (HL.out _).mono ?_
          rintro e1 w1 ⟨rfl, rfl⟩
          go_wp2_with fail
          refine (HD.out _).mono ?_
          rintro e1 w1 ⟨rfl, rfl⟩
          go_wp2_with fail
          go_round
          case rel => exact ⟨k + 1, by omega, by go_num⟩
          case measure => simp [intOf]; omega
      · have hke : k < e := by have := hABC.out; simpa using this
        go_wp2_with fail
        refine (HL.out _).mono ?_
        rintro e1 w1 ⟨rfl, rfl⟩
        go_wp2_with fail
        go_round
        case rel => exact ⟨k + 1, by omega, by go_num⟩
        case measure => simp [intOf]; omega
    · obtain rfl : k = e := by omega
      go_wp2_with fail
      go_ret
      exact ⟨rfl, rfl⟩
end Go.Proofs.YtpddneplkbdedaaDoor
