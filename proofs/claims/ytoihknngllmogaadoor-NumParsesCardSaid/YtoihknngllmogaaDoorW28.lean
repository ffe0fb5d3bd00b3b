/- The reference's places of the num package. -/
import Derived.Test.YtoihknngllmogaaDoorW27
namespace Go.Proofs.YtoihknngllmogaaDoor
open Go.RowKit
set_option linter.unusedVariables false
set_option linter.unusedSimpArgs false

theorem pow_le8 (i : Nat) (h : i < 8) : 10 ^ i ≤ 10000000 := Nat.le_trans (Nat.pow_le_pow_right (by omega) (show i ≤ 7 by omega)) (by decide)

theorem places_short (s : ByteArray) (w : World) (h : s.size < 1) :
    Calls Tryd.prog 39 #[.string s] w fun e w' => e = .returned (.tuple #[.int .u64 0, .bool false]) ∧ w = w' := by
  go_enter Tryd.func39, Tryd.ntmps39
  go_wp2
  go_ret2
  exact ⟨rfl, rfl⟩
theorem places_long (s : ByteArray) (w : World) (h : 8 < s.size) (hs : s.size ≤ 1000000) :
    Calls Tryd.prog 39 #[.string s] w fun e w' => e = .returned (.tuple #[.int .u64 0, .bool false]) ∧ w = w' := by
  go_enter Tryd.func39, Tryd.ntmps39
  go_wp2
  go_ret2
  exact ⟨rfl, rfl⟩
theorem places_zero (s : ByteArray) (w : World) (h : 1 ≤ s.size) (h8 : s.size ≤ 8) (hl : ((s[s.size - 1].toNat : Int) == 48) = true) :
    Calls Tryd.prog 39 #[.string s] w fun e w' => e = .returned (.tuple #[.int .u64 0, .bool false]) ∧ w = w' := by
  go_enter Tryd.func39, Tryd.ntmps39
  go_wp2
  go_ret2
  exact ⟨rfl, rfl⟩

set_option maxHeartbeats 2000000 in
theorem places_loop (s : ByteArray) (w : World) (h : 1 ≤ s.size) (h8 : s.size ≤ 8) (hl : ((s[s.size - 1].toNat : Int) == 48) = false) (R : Value) (hR : Hid (R = if allD s.data.toList then (.tuple #[.int .u64 ((pv s.data.toList 8 / 390625 : Nat) : Int), .bool (decide (pv s.data.toList 8 % 390625 = 0))]) else (.tuple #[.int .u64 0, .bool false]))) :
    Calls Tryd.prog 39 #[.string s] w fun e w' => e = .returned R ∧ w = w' := by
  go_enter Tryd.func39, Tryd.ntmps39
  go_wp2
  go_loop [4, 5] (fun fv iv => ∃ i v : Nat, i ≤ 8 ∧ fv = .int .u64 (v : Int) ∧ iv = .int .i64 (i : Int) ∧ v < 100000000 ∧ Hid (v = pv s.data.toList i ∧ v < 10 ^ i ∧ ∀ j (h : j < s.size), j < i → isD s[j] = true)) (fun _ iv => 8 - (intOf iv).toNat)
  case atStart => exact ⟨0, 0, by omega, rfl, rfl, by omega, rfl, by decide, fun j h hj => by omega⟩
  case round =>
    obtain ⟨i, v, hi, rfl, rfl, hv, hh⟩ := hrel
    by_cases hlt : i < 8
    · have hv7 : v < 10000000 := Nat.lt_of_lt_of_le hh.out.2.1 (pow_le8 i hlt)
      by_cases his : i < s.size
      · by_cases hd : isD s[i] = true
        · have hd' := hd
          simp only [isD, Bool.and_eq_true, decide_eq_true_eq] at hd'
          obtain ⟨d0, d1⟩ := hd'
          have HD := Lib.hid hd
          clear hd
          go_wp2
          go_round
          case rel =>
            obtain ⟨k1, k2, k3⟩ := hh.out
            refine ⟨i + 1, v * 10 + (s[i].toNat - 48), by omega, by go_num, by go_num, by omega, ?_, ?_, ?_⟩
            · rw [pv_hit s i his, ← k1]
            · rw [Nat.pow_succ]; omega
            · intro j hj hji
              by_cases e : j = i
              · subst e; exact HD.out
              · exact k3 j hj (by omega)
          case measure => simp [intOf]; omega
        · have hf : allD s.data.toList = false := allD_false _ i (by rw [lenB]; exact his) (by rw [atB s i his]; simpa using hd)
          have hd' : s[i].toNat < 48 ∨ 57 < s[i].toNat := by
            simp only [isD, Bool.and_eq_true, decide_eq_true_eq] at hd; omega
          have HF := Lib.hid hf
          clear hf hd
          rcases hd' with hd' | hd'
          all_goals
            go_wp2
            go_ret2
            exact ⟨by rw [hR.out, HF.out]; rfl, rfl⟩
      · go_wp2
        go_round
        case rel =>
          obtain ⟨k1, k2, k3⟩ := hh.out
          refine ⟨i + 1, v * 10, by omega, by go_num, by go_num, by omega, ?_, ?_, ?_⟩
          · rw [pv_miss s i (by omega), ← k1]
          · rw [Nat.pow_succ]; omega
          · intro j hj hji
            exact k3 j hj (by omega)
        case measure => simp [intOf]; omega
    · obtain rfl : i = 8 := by omega
      have hall : allD s.data.toList = true := allD_true _ fun k hk => by
        rw [lenB] at hk
        rw [atB s k hk]
        exact hh.out.2.2 k hk (by omega)
      have HF := Lib.hid hall
      clear hall
      go_wp2
      go_ret2
      refine ⟨?_, rfl⟩
      rw [hR.out, HF.out, if_pos rfl, frac_end, ← hh.out.1]
      rfl

theorem places_any (s : ByteArray) (w : World) (hs : s.size ≤ 1000000) :
    Calls Tryd.prog 39 #[.string s] w fun e w' => e = .returned (.tuple #[.int .u64 (fracV s.data.toList : Int), .bool (fracOk s.data.toList)]) ∧ w = w' := by
  by_cases h1 : s.size < 1
  · have e : s.data.toList = [] := List.eq_nil_of_length_eq_zero (by rw [lenB]; omega)
    rw [e]
    exact places_short s w h1
  by_cases h8 : 8 < s.size
  · have e1 : fracV s.data.toList = 0 := by unfold fracV; rw [decide_eq_false (by rw [lenB]; omega)]; simp
    have e2 : fracOk s.data.toList = false := by unfold fracOk; rw [decide_eq_false (by rw [lenB]; omega)]; simp
    rw [e1, e2]
    exact places_long s w h8 hs
  have hne : 1 ≤ s.size := by omega
  by_cases hz : s[s.size - 1] = 48
  · have e1 : fracV s.data.toList = 0 := by unfold fracV; rw [last_at s hne, hz]; simp
    have e2 : fracOk s.data.toList = false := by unfold fracOk; rw [last_at s hne, hz]; simp
    rw [e1, e2]
    exact places_zero s w hne (by omega) (by rw [u8_48, hz]; rfl)
  · have hz' : (s[s.size - 1] == 48) = false := by simpa using hz
    have hw := places_loop s w hne (by omega) (by rw [u8_48]; exact hz') _ rfl
    have hnil : s.data.toList.isEmpty = false := by
      cases he : s.data.toList with
      | nil => have := lenB s; rw [he] at this; simp at this; omega
      | cons x l => rfl
    cases ha : allD s.data.toList with
    | true =>
      have hd : digs s.data.toList = true := by unfold digs; rw [ha, hnil]; rfl
      have e1 : fracV s.data.toList = pv s.data.toList 8 / 390625 := by unfold fracV; rw [last_at s hne, hd, hz', decide_eq_true (by rw [lenB]; omega)]; simp
      have e2 : fracOk s.data.toList = decide (pv s.data.toList 8 % 390625 = 0) := by unfold fracOk; rw [last_at s hne, hd, hz', decide_eq_true (by rw [lenB]; omega)]; simp
      rw [ha, if_pos rfl] at hw
      rw [e1, e2]
      exact hw
    | false =>
      have hd : digs s.data.toList = false := by unfold digs; rw [ha]; rfl
      have e1 : fracV s.data.toList = 0 := by unfold fracV; rw [hd]; simp
      have e2 : fracOk s.data.toList = false := by unfold fracOk; rw [hd]; simp
      rw [ha, if_neg (by decide)] at hw
      rw [e1, e2]
      exact hw
end Go.Proofs.YtoihknngllmogaaDoor
