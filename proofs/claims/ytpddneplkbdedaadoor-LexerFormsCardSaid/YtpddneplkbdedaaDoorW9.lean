/- Walks: plain and quote of the reference of the lexer. -/
import Derived.Test.YtpddneplkbdedaaDoorW8
namespace Go.Proofs.YtpddneplkbdedaaDoor
open Go.RowKit
set_option linter.unusedVariables false
set_option linter.unusedSimpArgs false

/-- Where the first byte stands that a class does not take: e; R: none does. -/
theorem plain_at (s : ByteArray) (e : Nat) (R : Bool) (hs : s.size ≤ 1000000) (he : e ≤ s.size) (hp : ∀ k (h : k < s.size), k < e → prnI (s[k].toNat : Int) = true) (hx : (s.size ≤ e ∧ R = true) ∨ ∃ h : e < s.size, prnI (s[e].toNat : Int) = false ∧ R = false) (w : World) :
    Calls Tryd.prog 36 #[.string s] w fun e' w' => e' = .returned (.bool R) ∧ w = w' := by
  have HP := Lib.hid hp
  have HX := Lib.hid hx
  clear hp hx
  go_enter Tryd.func36, Tryd.ntmps36
  go_wp2_with fail
  go_loop [3] (fun v => ∃ k : Nat, k ≤ e ∧ v = .int .i64 (k : Int)) (fun v => s.size - (intOf v).toNat)
  case atStart => exact ⟨0, by omega, rfl⟩
  case round =>
    obtain ⟨k, hk, rfl⟩ := hrel
    by_cases hks : k < s.size
    · by_cases hke : k < e
      · have h := HP.out k hks hke
        simp only [prnI, Bool.and_eq_true, decide_eq_true_eq, bne_iff_ne, ne_eq] at h
        obtain ⟨⟨h1, h2⟩, h3⟩ := h
        have h4 : ((s[k].toNat : Int) == 34) = false := by rw [beq_eq_false_iff_ne]; exact h3
        clear h3
        go_wp2_with fail
        go_round
        case rel => exact ⟨k + 1, by omega, by go_num⟩
        case measure => simp [intOf]; omega
      · obtain rfl : k = e := by omega
        have h : prnI (s[k].toNat : Int) = false ∧ R = false := by
          rcases HX.out with ⟨h, _⟩ | ⟨_, h⟩
          · omega
          · exact h
        obtain ⟨h, rfl⟩ := h
        have hc : (s[k].toNat : Int) < 32 ∨ (¬ (s[k].toNat : Int) < 32 ∧ 126 < (s[k].toNat : Int)) ∨ (¬ (s[k].toNat : Int) < 32 ∧ ¬ 126 < (s[k].toNat : Int) ∧ (s[k].toNat : Int) = 34) := by
          by_cases h1 : (s[k].toNat : Int) < 32
          · exact Or.inl h1
          · by_cases h2 : 126 < (s[k].toNat : Int)
            · exact Or.inr (Or.inl ⟨h1, h2⟩)
            · refine Or.inr (Or.inr ⟨h1, h2, ?_⟩)
              unfold prnI at h
              rw [decide_eq_true (by omega), decide_eq_true (by omega)] at h
              simpa using h
        clear h
        rcases hc with h | ⟨h, h2⟩ | ⟨h, h2, h3⟩
        all_goals
          go_wp2_with fail
          go_ret
          exact ⟨rfl, rfl⟩
    · obtain rfl : k = e := by omega
      have hR : R = true := by
        rcases HX.out with ⟨_, h⟩ | ⟨h, _⟩
        · exact h
        · omega
      subst hR
      go_wp2_with fail
      go_ret
      exact ⟨rfl, rfl⟩

theorem quote_at (s : ByteArray) (e : Nat) (r : Int) (hs : s.size ≤ 1000000) (he : e ≤ s.size) (hp : ∀ k (h : k < s.size), k < e → ((s[k].toNat : Int) == 34) = false) (hx : (s.size ≤ e ∧ r = -1) ∨ ∃ h : e < s.size, (s[e].toNat : Int) = 34 ∧ r = e) (w : World) :
    Calls Tryd.prog 51 #[.string s] w fun e' w' => e' = .returned (.int .i64 r) ∧ w = w' := by
  have HP := Lib.hid hp
  have HX := Lib.hid hx
  clear hp hx
  go_enter Tryd.func51, Tryd.ntmps51
  go_wp2_with fail
  go_loop [3] (fun v => ∃ k : Nat, k ≤ e ∧ v = .int .i64 (k : Int)) (fun v => s.size - (intOf v).toNat)
  case atStart => exact ⟨0, by omega, rfl⟩
  case round =>
    obtain ⟨k, hk, rfl⟩ := hrel
    by_cases hks : k < s.size
    · by_cases hke : k < e
      · have h := HP.out k hks hke
        go_wp2_with fail
        go_round
        case rel => exact ⟨k + 1, by omega, by go_num⟩
        case measure => simp [intOf]; omega
      · obtain rfl : k = e := by omega
        have h : (s[k].toNat : Int) = 34 ∧ r = k := by
          rcases HX.out with ⟨h, _⟩ | ⟨_, h⟩
          · omega
          · exact h
        obtain ⟨h, rfl⟩ := h
        go_wp2_with fail
        go_ret
        exact ⟨rfl, rfl⟩
    · obtain rfl : k = e := by omega
      have hR : r = -1 := by
        rcases HX.out with ⟨_, h⟩ | ⟨h, _⟩
        · exact h
        · omega
      subst hR
      go_wp2_with fail
      go_ret
      exact ⟨rfl, rfl⟩
end Go.Proofs.YtpddneplkbdedaaDoor
