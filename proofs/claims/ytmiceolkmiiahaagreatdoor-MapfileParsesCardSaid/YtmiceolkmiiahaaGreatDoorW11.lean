/- Walks: names. -/
import Derived.Test.YtmiceolkmiiahaaGreatDoorW10
namespace Go.Proofs.YtmiceolkmiiahaaGreatDoor
open Go.RowKit
set_option linter.unusedVariables false
set_option linter.unusedSimpArgs false
set_option maxRecDepth 100000

def nmI (f : Bool) (c : Int) : Bool := (decide (97 ≤ c) && decide (c ≤ 122)) || (!f && ((decide (48 ≤ c) && decide (c ≤ 57)) || c == 95))
def nameB (s : ByteArray) : Bool := decide (∀ k (h : k < s.size), nmI (k == 0) (s[k].toNat : Int) = true) && (decide (1 ≤ s.size) && decide (s.size ≤ 12))
set_option maxHeartbeats 4000000
theorem name_any (s : ByteArray) (hz : s.size ≤ 1000000) : KC 30 #[.string s] (.bool (nameB s)) := by
  intro w
  obtain ⟨r, hr⟩ : ∃ r, nameB s = r := ⟨_, rfl⟩
  rw [hr]
  go_enter Tryz.func30, Tryz.ntmps30
  go_wp2_with fail
  go_loop [8] (fun v => ∃ k : Nat, k ≤ s.size ∧ v = .int .i64 (k : Int) ∧ Hid (∀ j (hj : j < s.size), j < k → nmI (j == 0) (s[j].toNat : Int) = true)) (fun v => s.size - (intOf v).toNat)
  case atStart => exact ⟨0, by omega, rfl, Lib.hid (fun _ _ h => absurd h (by omega))⟩
  case round =>
    obtain ⟨k, hk, rfl, hall⟩ := hrel
    by_cases hkn : k < s.size
    · have nx : nmI (k == 0) (s[k].toNat : Int) = true → Hid (∀ j (hj : j < s.size), j < k + 1 → nmI (j == 0) (s[j].toNat : Int) = true) := fun h => Lib.hid fun j hj hjk => by
        by_cases hjk' : j < k
        · exact hall.out j hj hjk'
        · obtain rfl : j = k := by omega
          exact h
      have no : nmI (k == 0) (s[k].toNat : Int) = false → r = false := fun h => by
        rw [← hr]
        unfold nameB
        rw [decide_eq_false (fun hh => by rw [hh k hkn] at h; cases h)]; rfl
      have e1 : (0 : Int) ≤ ((k : Int)) := by omega
      have e2 : (k : Int) < (s.size : Int) := by omega
      by_cases a1 : (97 : Int) ≤ (s[k].toNat : Int)
      · by_cases a2 : (s[k].toNat : Int) ≤ 122
        · go_wp2_with fail
          go_round
          case rel => exact ⟨k + 1, by omega, by go_num, nx (by unfold nmI; simp [*] <;> omega)⟩
          case measure => simp [intOf]; omega
        · have a3 : ¬ (s[k].toNat : Int) < 48 := by omega
          have a4 : (57 : Int) < (s[k].toNat : Int) := by omega
          have a5 : ((s[k].toNat : Int) == 95) = false := by rw [beq_eq_false_iff_ne]; omega
          by_cases e0 : k = 0
          · have e3 : ((k : Int) == 0) = true := by rw [beq_iff_eq]; omega
            have h0 : 0 < s.size := by omega
            have c1 : (97 : Int) ≤ (s[0].toNat : Int) := by subst e0; exact a1
            have c2 : ¬ (s[0].toNat : Int) ≤ 122 := by subst e0; exact a2
            go_wp2_with fail
            go_ret
            exact ⟨by rw [no (by unfold nmI; simp [*] <;> omega)]; rfl, rfl⟩
          · have e3 : ((k : Int) == 0) = false := by rw [beq_eq_false_iff_ne]; omega
            go_wp2_with fail
            go_ret
            exact ⟨by rw [no (by unfold nmI; simp [*] <;> omega)]; rfl, rfl⟩
      · by_cases e0 : k = 0
        · have e3 : ((k : Int) == 0) = true := by rw [beq_iff_eq]; omega
          have h0 : 0 < s.size := by omega
          have c1 : ¬ (97 : Int) ≤ (s[0].toNat : Int) := by subst e0; exact a1
          go_wp2_with fail
          go_ret
          exact ⟨by rw [no (by unfold nmI; simp [*] <;> omega)]; rfl, rfl⟩
        · have e3 : ((k : Int) == 0) = false := by rw [beq_eq_false_iff_ne]; omega
          by_cases a3 : (s[k].toNat : Int) < 48
          · have a5 : ((s[k].toNat : Int) == 95) = false := by rw [beq_eq_false_iff_ne]; omega
            go_wp2_with fail
            go_ret
            exact ⟨by rw [no (by unfold nmI; simp [*] <;> omega)]; rfl, rfl⟩
          · by_cases a4 : (57 : Int) < (s[k].toNat : Int)
            · cases a5 : ((s[k].toNat : Int) == 95)
              · have a6 : ¬ (s[k].toNat : Int) = 95 := by rw [beq_eq_false_iff_ne] at a5; exact a5
                have a7 : ((s[k].toNat : Int) != 95) = true := by rw [bne_iff_ne]; exact a6
                go_wp2_with fail
                go_ret
                exact ⟨by rw [no (by unfold nmI; simp [*] <;> omega)]; rfl, rfl⟩
              · go_wp2_with fail
                go_round
                case rel => exact ⟨k + 1, by omega, by go_num, nx (by unfold nmI; simp [*] <;> omega)⟩
                case measure => simp [intOf]; omega
            · have a5 : ((s[k].toNat : Int) == 95) = false := by rw [beq_eq_false_iff_ne]; omega
              go_wp2_with fail
              go_round
              case rel => exact ⟨k + 1, by omega, by go_num, nx (by unfold nmI; simp [*] <;> omega)⟩
              case measure => simp [intOf]; omega
    · have hr : r = (decide (1 ≤ s.size) && decide (s.size ≤ 12)) := by
        rw [← hr]
        unfold nameB
        rw [decide_eq_true (fun j hj => hall.out j hj (by omega))]; rfl
      by_cases b1 : 1 ≤ s.size
      · have b2 : (1 : Int) ≤ (s.size : Int) := by omega
        by_cases b3 : s.size ≤ 12
        · have b4 : (s.size : Int) ≤ 12 := by omega
          have hr : r = true := by rw [hr, decide_eq_true b1, decide_eq_true b3]; rfl
          go_wp2_with fail
          go_ret
          exact ⟨by first | rfl | (rw [hr]; rfl), rfl⟩
        · have b4 : ¬ (s.size : Int) ≤ 12 := by omega
          have hr : r = false := by rw [hr, decide_eq_true b1, decide_eq_false b3]; rfl
          go_wp2_with fail
          go_ret
          exact ⟨by first | rfl | (rw [hr]; rfl), rfl⟩
      · have b2 : ¬ (1 : Int) ≤ (s.size : Int) := by omega
        have hr : r = false := by rw [hr, decide_eq_false b1]; rfl
        go_wp2_with fail
        go_ret
        exact ⟨by first | rfl | (rw [hr]; rfl), rfl⟩
theorem rName_any (s : ByteArray) (hz : s.size ≤ 1000000) : KC 34 #[.string s] (.bool (nameB s)) := by
  intro w
  obtain ⟨r, hr⟩ : ∃ r, nameB s = r := ⟨_, rfl⟩
  rw [hr]
  go_enter Tryz.func34, Tryz.ntmps34
  go_wp2_with fail
  go_loop [3] (fun v => ∃ k : Nat, k ≤ s.size ∧ v = .int .i64 (k : Int) ∧ Hid (∀ j (hj : j < s.size), j < k → nmI (j == 0) (s[j].toNat : Int) = true)) (fun v => s.size - (intOf v).toNat)
  case atStart => exact ⟨0, by omega, rfl, Lib.hid (fun _ _ h => absurd h (by omega))⟩
  case round =>
    obtain ⟨k, hk, rfl, hall⟩ := hrel
    by_cases hkn : k < s.size
    · have nx : nmI (k == 0) (s[k].toNat : Int) = true → Hid (∀ j (hj : j < s.size), j < k + 1 → nmI (j == 0) (s[j].toNat : Int) = true) := fun h => Lib.hid fun j hj hjk => by
        by_cases hjk' : j < k
        · exact hall.out j hj hjk'
        · obtain rfl : j = k := by omega
          exact h
      have no : nmI (k == 0) (s[k].toNat : Int) = false → r = false := fun h => by
        rw [← hr]
        unfold nameB
        rw [decide_eq_false (fun hh => by rw [hh k hkn] at h; cases h)]; rfl
      have e1 : (0 : Int) ≤ ((k : Int)) := by omega
      have e2 : (k : Int) < (s.size : Int) := by omega
      by_cases a1 : (97 : Int) ≤ (s[k].toNat : Int)
      · by_cases a2 : (s[k].toNat : Int) ≤ 122
        · go_wp2_with fail
          go_round
          case rel => exact ⟨k + 1, by omega, by go_num, nx (by unfold nmI; simp [*] <;> omega)⟩
          case measure => simp [intOf]; omega
        · have a3 : ¬ (s[k].toNat : Int) < 48 := by omega
          have a4 : (57 : Int) < (s[k].toNat : Int) := by omega
          have a5 : ((s[k].toNat : Int) == 95) = false := by rw [beq_eq_false_iff_ne]; omega
          by_cases e0 : k = 0
          · have e3 : ((k : Int) == 0) = true := by rw [beq_iff_eq]; omega
            have h0 : 0 < s.size := by omega
            have c1 : (97 : Int) ≤ (s[0].toNat : Int) := by subst e0; exact a1
            have c2 : ¬ (s[0].toNat : Int) ≤ 122 := by subst e0; exact a2
            go_wp2_with fail
            go_ret
            exact ⟨by rw [no (by unfold nmI; simp [*] <;> omega)]; rfl, rfl⟩
          · have e3 : ((k : Int) == 0) = false := by rw [beq_eq_false_iff_ne]; omega
            go_wp2_with fail
            go_ret
            exact ⟨by rw [no (by unfold nmI; simp [*] <;> omega)]; rfl, rfl⟩
      · by_cases e0 : k = 0
        · have e3 : ((k : Int) == 0) = true := by rw [beq_iff_eq]; omega
          have h0 : 0 < s.size := by omega
          have c1 : ¬ (97 : Int) ≤ (s[0].toNat : Int) := by subst e0; exact a1
          go_wp2_with fail
          go_ret
          exact ⟨by rw [no (by unfold nmI; simp [*] <;> omega)]; rfl, rfl⟩
        · have e3 : ((k : Int) == 0) = false := by rw [beq_eq_false_iff_ne]; omega
          by_cases a3 : (s[k].toNat : Int) < 48
          · have a5 : ((s[k].toNat : Int) == 95) = false := by rw [beq_eq_false_iff_ne]; omega
            go_wp2_with fail
            go_ret
            exact ⟨by rw [no (by unfold nmI; simp [*] <;> omega)]; rfl, rfl⟩
          · by_cases a4 : (57 : Int) < (s[k].toNat : Int)
            · cases a5 : ((s[k].toNat : Int) == 95)
              · have a6 : ¬ (s[k].toNat : Int) = 95 := by rw [beq_eq_false_iff_ne] at a5; exact a5
                have a7 : ((s[k].toNat : Int) != 95) = true := by rw [bne_iff_ne]; exact a6
                go_wp2_with fail
                go_ret
                exact ⟨by rw [no (by unfold nmI; simp [*] <;> omega)]; rfl, rfl⟩
              · go_wp2_with fail
                go_round
                case rel => exact ⟨k + 1, by omega, by go_num, nx (by unfold nmI; simp [*] <;> omega)⟩
                case measure => simp [intOf]; omega
            · have a5 : ((s[k].toNat : Int) == 95) = false := by rw [beq_eq_false_iff_ne]; omega
              go_wp2_with fail
              go_round
              case rel => exact ⟨k + 1, by omega, by go_num, nx (by unfold nmI; simp [*] <;> omega)⟩
              case measure => simp [intOf]; omega
    · have hr : r = (decide (1 ≤ s.size) && decide (s.size ≤ 12)) := by
        rw [← hr]
        unfold nameB
        rw [decide_eq_true (fun j hj => hall.out j hj (by omega))]; rfl
      by_cases b1 : 1 ≤ s.size
      · have b2 : (1 : Int) ≤ (s.size : Int) := by omega
        by_cases b3 : s.size ≤ 12
        · have b4 : (s.size : Int) ≤ 12 := by omega
          have hr : r = true := by rw [hr, decide_eq_true b1, decide_eq_true b3]; rfl
          go_wp2_with fail
          go_ret
          exact ⟨by first | rfl | (rw [hr]; rfl), rfl⟩
        · have b4 : ¬ (s.size : Int) ≤ 12 := by omega
          have hr : r = false := by rw [hr, decide_eq_true b1, decide_eq_false b3]; rfl
          go_wp2_with fail
          go_ret
          exact ⟨by first | rfl | (rw [hr]; rfl), rfl⟩
      · have b2 : ¬ (1 : Int) ≤ (s.size : Int) := by omega
        have hr : r = false := by rw [hr, decide_eq_false b1]; rfl
        go_wp2_with fail
        go_ret
        exact ⟨by first | rfl | (rw [hr]; rfl), rfl⟩
end Go.Proofs.YtmiceolkmiiahaaGreatDoor
