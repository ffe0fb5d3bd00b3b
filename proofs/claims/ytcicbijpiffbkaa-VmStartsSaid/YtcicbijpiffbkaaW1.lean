/- Walks: names. -/
import Derived.Test.YtcicbijpiffbkaaP1
namespace Go.Proofs.Ytcicbijpiffbkaa
open Go.RowKit
set_option linter.unusedVariables false
set_option linter.unusedSimpArgs false
set_option maxRecDepth 100000
set_option maxHeartbeats 8000000

theorem nmI_first (c : Int) : nmI true c = (decide (97 ≤ c) && decide (c ≤ 122)) := by unfold nmI; simp
theorem nameB_bad {s : ByteArray} {k : Nat} (h : k < s.size) (hn : nmI (k == 0) (s[k].toNat : Int) = false) : nameB s = false := by
  unfold nameB
  rw [decide_eq_false (fun hh => by rw [hh k h] at hn; cases hn)]
  rfl
theorem nameB_len {s : ByteArray} (h : s.size < 1 ∨ 12 < s.size) : nameB s = false := by
  unfold nameB
  have : (decide (1 ≤ s.size) && decide (s.size ≤ 12)) = false := by
    rcases h with h | h
    · rw [decide_eq_false (by omega)]; rfl
    · rw [decide_eq_false (show ¬ s.size ≤ 12 by omega)]; simp
  rw [this, Bool.and_false]
theorem nameB_good {s : ByteArray} (h1 : 1 ≤ s.size) (h2 : s.size ≤ 12) (h : ∀ k (h : k < s.size), nmI (k == 0) (s[k].toNat : Int) = true) : nameB s = true := by
  unfold nameB
  rw [decide_eq_true h, decide_eq_true h1, decide_eq_true h2]
  rfl
theorem empty_of (s : ByteArray) : (s.toList == []) = decide (s.size < 1) := by
  rw [ByteArray.toList_eq]
  by_cases h : s.size < 1
  · have : s.data.toList = [] := List.length_eq_zero_iff.1 (by rw [Array.length_toList]; show s.size = 0; omega)
    rw [this, decide_eq_true h]
    rfl
  · rw [decide_eq_false h, beq_eq_false_iff_ne]
    intro e
    have h2 := congrArg List.length e
    rw [Array.length_toList] at h2
    have h3 : s.size = 0 := h2
    omega
theorem name_any (s : ByteArray) (hz : s.size ≤ 140737488355328) : KC 43 #[.string s] (.bool (nameB s)) := by
  intro w
  obtain ⟨r, hr⟩ : ∃ r, nameB s = r := ⟨_, rfl⟩
  rw [hr]
  have HR := Lib.hid hr
  clear hr
  have hem := empty_of s
  by_cases h0 : s.size < 1
  · have HF := Lib.hid (show r = false by rw [← HR.out]; exact nameB_len (Or.inl h0))
    rw [decide_eq_true h0] at hem
    have e1 : (s.size : Int) < 1 := by omega
    go_enter Try.func43, Try.ntmps43
    go_wp2_with fail
    go_ret
    exact ⟨by rw [HF.out]; rfl, rfl⟩
  rw [decide_eq_false h0] at hem
  have e1 : ¬ (s.size : Int) < 1 := by omega
  by_cases h12 : 12 < s.size
  · have HF := Lib.hid (show r = false by rw [← HR.out]; exact nameB_len (Or.inr h12))
    have e2 : (12 : Int) < (s.size : Int) := by omega
    go_enter Try.func43, Try.ntmps43
    go_wp2_with fail
    go_ret
    exact ⟨by rw [HF.out]; rfl, rfl⟩
  have e2 : ¬ (12 : Int) < (s.size : Int) := by omega
  have h0s : 0 < s.size := by omega
  by_cases a1 : (s[0].toNat : Int) < 97
  · have HF := Lib.hid (show r = false by rw [← HR.out]; exact nameB_bad h0s (by rw [show ((0 : Nat) == 0) = true from rfl, nmI_first, decide_eq_false (by omega)]; rfl))
    go_enter Try.func43, Try.ntmps43
    go_wp2_with fail
    go_ret
    exact ⟨by rw [HF.out]; rfl, rfl⟩
  by_cases a2 : (122 : Int) < (s[0].toNat : Int)
  · have HF := Lib.hid (show r = false by rw [← HR.out]; exact nameB_bad h0s (by rw [show ((0 : Nat) == 0) = true from rfl, nmI_first, decide_eq_false (show ¬ (s[0].toNat : Int) ≤ 122 by omega)]; simp))
    go_enter Try.func43, Try.ntmps43
    go_wp2_with fail
    go_ret
    exact ⟨by rw [HF.out]; rfl, rfl⟩
  have H0 := Lib.hid (show nmI true (s[0].toNat : Int) = true by rw [nmI_first, decide_eq_true (by omega), decide_eq_true (by omega)]; rfl)
  have H12 := Lib.hid h12; have H0S := Lib.hid h0s
  go_enter Try.func43, Try.ntmps43
  go_wp2_with fail
  clear a1 a2
  go_loop [24] (fun v => ∃ k : Nat, k ≤ s.size ∧ v = .int .i64 (k : Int) ∧ Hid (∀ j (hj : j < s.size), j < k → nmI (j == 0) (s[j].toNat : Int) = true)) (fun v => s.size - (intOf v).toNat)
  case atStart => exact ⟨0, by omega, rfl, Lib.hid (fun _ _ h => absurd h (by omega))⟩
  case round =>
    obtain ⟨k, hk, rfl, hall⟩ := hrel
    by_cases hkn : k < s.size
    · have nx : nmI false (s[k].toNat : Int) = true → Hid (∀ j (hj : j < s.size), j < k + 1 → nmI (j == 0) (s[j].toNat : Int) = true) := fun h => Lib.hid fun j hj hjk => by
        by_cases hjk' : j < k
        · exact hall.out j hj hjk'
        · obtain rfl : j = k := by omega
          by_cases hj0 : j = 0
          · subst hj0; exact H0.out
          · rw [show (j == 0) = false by simpa using hj0]; exact h
      have no : nmI false (s[k].toNat : Int) = false → Hid (r = false) := fun h => Lib.hid (by
        rw [← HR.out]
        refine nameB_bad hkn ?_
        by_cases hj0 : k = 0
        · subst hj0
          have h1 := H0.out
          unfold nmI at h h1
          simp at h h1
          omega
        · rw [show (k == 0) = false by simpa using hj0]; exact h)
      have i1 : (0 : Int) ≤ ((k : Int)) := by omega
      have i2 : (k : Int) < (s.size : Int) := by omega
      have i3 : (k : Int) ≤ 1000 := by have := H12.out; omega
      obtain ⟨c, hc⟩ : ∃ c : Int, (s[k].toNat : Int) = c := ⟨_, rfl⟩
      rw [hc] at nx no
      have hcs : (97 ≤ c ∧ c ≤ 122) ∨ (122 < c ∧ (c == 95) = false) ∨ (c < 97 ∧ (c == 95) = true) ∨ (c < 97 ∧ (c == 95) = false ∧ 48 ≤ c ∧ c ≤ 57) ∨ (c < 97 ∧ (c == 95) = false ∧ c < 48) ∨ (c < 97 ∧ (c == 95) = false ∧ 57 < c) := by
        simp only [beq_iff_eq, beq_eq_false_iff_ne]
        omega
      rcases hcs with ⟨g1, g2⟩ | ⟨g1, g2⟩ | ⟨g1, g2⟩ | ⟨g1, g2, g3, g4⟩ | ⟨g1, g2, g3⟩ | ⟨g1, g2, g3⟩
      · have HX := nx (by unfold nmI; simp [g1, g2])
        clear nx no
        go_wp2_with fail
        go_round
        case rel => exact ⟨k + 1, by omega, by go_num, HX⟩
        case measure => simp [intOf]; omega
      · have HF := no (by unfold nmI; simp [g1, g2]; omega)
        have g3 : (c != 95) = true := by rw [bne_iff_ne]; simpa using g2
        have g4 : ¬ c ≤ 122 := by omega
        have g5 : (57 : Int) < c := by omega
        have g6 : ¬ c ≤ 57 := by omega
        clear nx no
        go_wp2_with fail
        go_ret
        exact ⟨by rw [HF.out]; rfl, rfl⟩
      · have HX := nx (by unfold nmI; simp [g1, g2])
        have g3 : (c != 95) = false := by rw [bne_eq_false_iff_eq]; simpa using g2
        have g4 : (57 : Int) < c := by have : c = 95 := by simpa using g2
                                       omega
        clear nx no
        go_wp2_with fail
        go_round
        case rel => exact ⟨k + 1, by omega, by go_num, HX⟩
        case measure => simp [intOf]; omega
      · have HX := nx (by unfold nmI; simp [g3, g4])
        have g5 : (c != 95) = true := by rw [bne_iff_ne]; simpa using g2
        clear nx no
        go_wp2_with fail
        go_round
        case rel => exact ⟨k + 1, by omega, by go_num, HX⟩
        case measure => simp [intOf]; omega
      · have HF := no (by unfold nmI; simp at g2; simp [g2]; omega)
        have g5 : (c != 95) = true := by rw [bne_iff_ne]; simpa using g2
        clear nx no
        go_wp2_with fail
        go_ret
        exact ⟨by rw [HF.out]; rfl, rfl⟩
      · have HF := no (by unfold nmI; simp at g2; simp [g2]; omega)
        have g6 : ¬ c ≤ 57 := by omega
        have g5 : (c != 95) = true := by rw [bne_iff_ne]; simpa using g2
        clear nx no
        go_wp2_with fail
        go_ret
        exact ⟨by rw [HF.out]; rfl, rfl⟩
    · have HT := Lib.hid (show r = true by rw [← HR.out]; exact nameB_good (by have := H0S.out; omega) (by have := H12.out; omega) (fun j hj => hall.out j hj (by omega)))
      have i2 : ¬ (k : Int) < (s.size : Int) := by omega
      go_wp2_with fail
      go_ret
      exact ⟨by rw [HT.out]; rfl, rfl⟩
theorem rName_any (s : ByteArray) (hz : s.size ≤ 140737488355328) : KC 32 #[.string s] (.bool (nameB s)) := by
  intro w
  obtain ⟨r, hr⟩ : ∃ r, nameB s = r := ⟨_, rfl⟩
  rw [hr]
  have HR := Lib.hid hr
  clear hr
  have hem := empty_of s
  by_cases h0 : s.size < 1
  · have HF := Lib.hid (show r = false by rw [← HR.out]; exact nameB_len (Or.inl h0))
    rw [decide_eq_true h0] at hem
    have e1 : (s.size : Int) < 1 := by omega
    go_enter Try.func32, Try.ntmps32
    go_wp2_with fail
    go_ret
    exact ⟨by rw [HF.out]; rfl, rfl⟩
  rw [decide_eq_false h0] at hem
  have e1 : ¬ (s.size : Int) < 1 := by omega
  by_cases h12 : 12 < s.size
  · have HF := Lib.hid (show r = false by rw [← HR.out]; exact nameB_len (Or.inr h12))
    have e2 : (12 : Int) < (s.size : Int) := by omega
    go_enter Try.func32, Try.ntmps32
    go_wp2_with fail
    go_ret
    exact ⟨by rw [HF.out]; rfl, rfl⟩
  have e2 : ¬ (12 : Int) < (s.size : Int) := by omega
  have h0s : 0 < s.size := by omega
  by_cases a1 : (s[0].toNat : Int) < 97
  · have HF := Lib.hid (show r = false by rw [← HR.out]; exact nameB_bad h0s (by rw [show ((0 : Nat) == 0) = true from rfl, nmI_first, decide_eq_false (by omega)]; rfl))
    go_enter Try.func32, Try.ntmps32
    go_wp2_with fail
    go_ret
    exact ⟨by rw [HF.out]; rfl, rfl⟩
  by_cases a2 : (122 : Int) < (s[0].toNat : Int)
  · have HF := Lib.hid (show r = false by rw [← HR.out]; exact nameB_bad h0s (by rw [show ((0 : Nat) == 0) = true from rfl, nmI_first, decide_eq_false (show ¬ (s[0].toNat : Int) ≤ 122 by omega)]; simp))
    go_enter Try.func32, Try.ntmps32
    go_wp2_with fail
    go_ret
    exact ⟨by rw [HF.out]; rfl, rfl⟩
  have H0 := Lib.hid (show nmI true (s[0].toNat : Int) = true by rw [nmI_first, decide_eq_true (by omega), decide_eq_true (by omega)]; rfl)
  have H12 := Lib.hid h12; have H0S := Lib.hid h0s
  go_enter Try.func32, Try.ntmps32
  go_wp2_with fail
  clear a1 a2
  go_loop [3] (fun v => ∃ k : Nat, k ≤ s.size ∧ v = .int .i64 (k : Int) ∧ Hid (∀ j (hj : j < s.size), j < k → nmI (j == 0) (s[j].toNat : Int) = true)) (fun v => s.size - (intOf v).toNat)
  case atStart => exact ⟨0, by omega, rfl, Lib.hid (fun _ _ h => absurd h (by omega))⟩
  case round =>
    obtain ⟨k, hk, rfl, hall⟩ := hrel
    by_cases hkn : k < s.size
    · have nx : nmI false (s[k].toNat : Int) = true → Hid (∀ j (hj : j < s.size), j < k + 1 → nmI (j == 0) (s[j].toNat : Int) = true) := fun h => Lib.hid fun j hj hjk => by
        by_cases hjk' : j < k
        · exact hall.out j hj hjk'
        · obtain rfl : j = k := by omega
          by_cases hj0 : j = 0
          · subst hj0; exact H0.out
          · rw [show (j == 0) = false by simpa using hj0]; exact h
      have no : nmI false (s[k].toNat : Int) = false → Hid (r = false) := fun h => Lib.hid (by
        rw [← HR.out]
        refine nameB_bad hkn ?_
        by_cases hj0 : k = 0
        · subst hj0
          have h1 := H0.out
          unfold nmI at h h1
          simp at h h1
          omega
        · rw [show (k == 0) = false by simpa using hj0]; exact h)
      have i1 : (0 : Int) ≤ ((k : Int)) := by omega
      have i2 : (k : Int) < (s.size : Int) := by omega
      have i3 : (k : Int) ≤ 1000 := by have := H12.out; omega
      obtain ⟨c, hc⟩ : ∃ c : Int, (s[k].toNat : Int) = c := ⟨_, rfl⟩
      rw [hc] at nx no
      have hcs : (97 ≤ c ∧ c ≤ 122) ∨ (122 < c ∧ (c == 95) = false) ∨ (c < 97 ∧ (c == 95) = true) ∨ (c < 97 ∧ (c == 95) = false ∧ 48 ≤ c ∧ c ≤ 57) ∨ (c < 97 ∧ (c == 95) = false ∧ c < 48) ∨ (c < 97 ∧ (c == 95) = false ∧ 57 < c) := by
        simp only [beq_iff_eq, beq_eq_false_iff_ne]
        omega
      rcases hcs with ⟨g1, g2⟩ | ⟨g1, g2⟩ | ⟨g1, g2⟩ | ⟨g1, g2, g3, g4⟩ | ⟨g1, g2, g3⟩ | ⟨g1, g2, g3⟩
      · have HX := nx (by unfold nmI; simp [g1, g2])
        clear nx no
        go_wp2_with fail
        go_round
        case rel => exact ⟨k + 1, by omega, by go_num, HX⟩
        case measure => simp [intOf]; omega
      · have HF := no (by unfold nmI; simp [g1, g2]; omega)
        have g3 : (c != 95) = true := by rw [bne_iff_ne]; simpa using g2
        have g4 : ¬ c ≤ 122 := by omega
        have g5 : (57 : Int) < c := by omega
        have g6 : ¬ c ≤ 57 := by omega
        clear nx no
        go_wp2_with fail
        go_ret
        exact ⟨by rw [HF.out]; rfl, rfl⟩
      · have HX := nx (by unfold nmI; simp [g1, g2])
        have g3 : (c != 95) = false := by rw [bne_eq_false_iff_eq]; simpa using g2
        have g4 : (57 : Int) < c := by have : c = 95 := by simpa using g2
                                       omega
        clear nx no
        go_wp2_with fail
        go_round
        case rel => exact ⟨k + 1, by omega, by go_num, HX⟩
        case measure => simp [intOf]; omega
      · have HX := nx (by unfold nmI; simp [g3, g4])
        have g5 : (c != 95) = true := by rw [bne_iff_ne]; simpa using g2
        clear nx no
        go_wp2_with fail
        go_round
        case rel => exact ⟨k + 1, by omega, by go_num, HX⟩
        case measure => simp [intOf]; omega
      · have HF := no (by unfold nmI; simp at g2; simp [g2]; omega)
        have g5 : (c != 95) = true := by rw [bne_iff_ne]; simpa using g2
        clear nx no
        go_wp2_with fail
        go_ret
        exact ⟨by rw [HF.out]; rfl, rfl⟩
      · have HF := no (by unfold nmI; simp at g2; simp [g2]; omega)
        have g6 : ¬ c ≤ 57 := by omega
        have g5 : (c != 95) = true := by rw [bne_iff_ne]; simpa using g2
        clear nx no
        go_wp2_with fail
        go_ret
        exact ⟨by rw [HF.out]; rfl, rfl⟩
    · have HT := Lib.hid (show r = true by rw [← HR.out]; exact nameB_good (by have := H0S.out; omega) (by have := H12.out; omega) (fun j hj => hall.out j hj (by omega)))
      have i2 : ¬ (k : Int) < (s.size : Int) := by omega
      go_wp2_with fail
      go_ret
      exact ⟨by rw [HT.out]; rfl, rfl⟩
end Go.Proofs.Ytcicbijpiffbkaa
