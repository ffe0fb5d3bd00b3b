/- Walks: fraction of the num package. -/
import Derived.Test.YtoihknngllmogaaDoorW13
import Derived.Deep.LoopGhost
import Derived.WalkMore
namespace Go.Proofs.YtoihknngllmogaaDoor
open Go.RowKit
set_option linter.unusedVariables false
set_option linter.unusedSimpArgs false

theorem fraction_bad (s : ByteArray) (w : World) (hs : s.size ≤ 1000000) (hd : digs s.data.toList = false) :
    Calls Tryd.prog 36 #[.string s] w fun e w' => e = .returned (.tuple #[.int .u64 0, .bool false]) ∧ w = w' := by
  have HD := Lib.hid (fun W => digits_any s W (by omega))
  rw [hd] at HD
  clear hd
  go_enter Tryd.func36, Tryd.ntmps36
  go_wp2_with fail
  go_step3
  go_wp2_with fail
  refine (HD.out _).mono ?_
  rintro e w1 ⟨rfl, rfl⟩
  go_wp2_with fail
  try rw [Exit.noGoto_ret]
  go_ret2
  exact ⟨rfl, rfl⟩

theorem fraction_long (s : ByteArray) (w : World) (hs : s.size ≤ 1000000) (hlt : 8 < s.size) :
    Calls Tryd.prog 36 #[.string s] w fun e w' => e = .returned (.tuple #[.int .u64 0, .bool false]) ∧ w = w' := by
  by_cases hd : digs s.data.toList = true
  · have HD := Lib.hid (fun W => digits_any s W (by omega))
    rw [hd] at HD
    clear hd
    go_enter Tryd.func36, Tryd.ntmps36
    go_wp2_with fail
    go_step3
    go_wp2_with fail
    refine (HD.out _).mono ?_
    rintro e w1 ⟨rfl, rfl⟩
    go_wp2_with fail
    try rw [Exit.noGoto_ret]
    go_ret2
    exact ⟨rfl, rfl⟩
  · exact fraction_bad s w hs (by simpa using hd)

theorem fraction_zero (s : ByteArray) (w : World) (h0 : 1 ≤ s.size) (h8 : s.size ≤ 8) (hl : ((s[s.size - 1].toNat : Int) == 48) = true) :
    Calls Tryd.prog 36 #[.string s] w fun e w' => e = .returned (.tuple #[.int .u64 0, .bool false]) ∧ w = w' := by
  by_cases hd : digs s.data.toList = true
  · have HD := Lib.hid (fun W => digits_any s W (by omega))
    rw [hd] at HD
    clear hd
    go_enter Tryd.func36, Tryd.ntmps36
    go_wp2_with fail
    go_step3
    go_wp2_with fail
    refine (HD.out _).mono ?_
    rintro e w1 ⟨rfl, rfl⟩
    go_wp2_with fail
    try rw [Exit.noGoto_ret]
    go_ret2
    exact ⟨rfl, rfl⟩
  · exact fraction_bad s w (by omega) (by simpa using hd)

theorem pv_hit (s : ByteArray) (i : Nat) (h : i < s.size) : pv s.data.toList (i + 1) = pv s.data.toList i * 10 + (s[i].toNat - 48) := by
  have h' : i < s.data.toList.length := by rw [lenB]; exact h
  rw [pv, if_pos h', List.getD_eq_getElem?_getD, List.getElem?_eq_getElem h', Option.getD_some, atB s i h]
theorem pv_miss (s : ByteArray) (i : Nat) (h : s.size ≤ i) : pv s.data.toList (i + 1) = pv s.data.toList i * 10 := by
  rw [pv, if_neg (by rw [lenB]; omega), Nat.add_zero]
theorem allD_at (s : ByteArray) (h : allD s.data.toList = true) (i : Nat) (hi : i < s.size) : 48 ≤ s[i].toNat ∧ s[i].toNat ≤ 57 := by
  unfold allD at h
  rw [List.all_eq_true] at h
  have := h _ (List.getElem_mem (show i < s.data.toList.length by rw [lenB]; exact hi))
  rw [atB s i hi] at this
  simpa [isD] using this
theorem pv_lt8 (l : List UInt8) (h : allD l = true) (i : Nat) (hi : i ≤ 8) : pv l i < 100000000 :=
  Nat.lt_of_lt_of_le (pv_lt l h i) (Nat.le_trans (Nat.pow_le_pow_right (by omega) hi) (by decide))

theorem frac_end (a : Nat) : (Ending.returned (.tuple #[.int .u64 ((a / 390625 : Nat) : Int), .bool (decide (a % 390625 = 0))])) = .returned (.tuple #[.int .u64 ((a : Int) / 390625), .bool (((a : Int) % 390625) == 0)]) := by
  have e1 : ((a / 390625 : Nat) : Int) = (a : Int) / 390625 := by omega
  have e2 : (((a : Int) % 390625) == 0) = decide (a % 390625 = 0) := by
    by_cases h : a % 390625 = 0
    · rw [decide_eq_true h, beq_iff_eq]; omega
    · rw [decide_eq_false h, beq_eq_false_iff_ne]; omega
  rw [e1, e2]

set_option maxHeartbeats 4000000 in
theorem fraction_ok (s : ByteArray) (w : World) (h1 : 1 ≤ s.size) (h8 : s.size ≤ 8) (hd : digs s.data.toList = true) (hl : Hid (allD s.data.toList = true)) (hlast : ((s[s.size - 1].toNat : Int) == 48) = false) :
    Calls Tryd.prog 36 #[.string s] w fun e w' => e = .returned (.tuple #[.int .u64 ((pv s.data.toList 8 / 390625 : Nat) : Int), .bool (decide (pv s.data.toList 8 % 390625 = 0))]) ∧ w = w' := by
  have HD := Lib.hid (fun W => digits_any s W (by omega))
  rw [hd] at HD
  clear hd
  go_enter Tryd.func36, Tryd.ntmps36
  go_wp2_with fail
  go_step3
  go_wp2_with fail
  refine (HD.out _).mono ?_
  rintro e w1 ⟨rfl, rfl⟩
  go_wp2_with fail
  go_step3
  go_wp2_with fail
  go_loopg [4, 24] 8 (fun g n iv wr => ∃ i : Nat, i ≤ 8 ∧ iv = .int .i64 (i : Int) ∧ n = .int .u64 ((pv s.data.toList i : Nat) : Int) ∧ g = 8 - i ∧ wr = w)
  case atStart => exact ⟨0, by omega, rfl, rfl, rfl, rfl⟩
  case round =>
    obtain ⟨i, hi, rfl, rfl, hg, rfl⟩ := hrel
    have hb := pv_lt8 s.data.toList hl.out i hi
    generalize hv : pv s.data.toList i = v at *
    by_cases hlt : i < 8
    · go_wp2_with fail
      go_loopg [4, 29] s.size (fun g' nv kv wr' => ∃ k : Nat, k ≤ s.size ∧ k ≤ i ∧ kv = .int .i64 (k : Int) ∧ nv = .int .u64 (v : Int) ∧ g' = s.size - k ∧ wr' = wr)
      case atStart => exact ⟨0, by omega, by omega, rfl, rfl, rfl, rfl⟩
      case round => 
        obtain ⟨k, hk, hki, rfl, rfl, hg', rfl⟩ := hrel
        by_cases hks : k < s.size
        · by_cases hkk : k = i
          · subst hkk
            obtain ⟨d0, d1⟩ := allD_at s hl.out k hks
            have hp := Lib.hid (pv_hit s k hks)
            go_wp2_with fail
            go_roundg (8 - (k + 1))
            case measure => omega
            case rel => exact ⟨k + 1, by omega, by go_num, by rw [hp.out, hv]; go_num, rfl, rfl⟩
          · go_wp2_with fail
            go_roundg (s.size - (k + 1))
            case measure => omega
            case rel => exact ⟨k + 1, by omega, by omega, by go_num, rfl, rfl, rfl⟩
        · have hp := Lib.hid (pv_miss s i (by omega))
          go_wp2_with fail
          go_roundg (8 - (i + 1))
          case measure => omega
          case rel => exact ⟨i + 1, by omega, by go_num, by rw [hp.out, hv]; go_num, rfl, rfl⟩
    · obtain rfl : i = 8 := by omega
      subst hv
      go_wp2_with fail
      try rw [Exit.noGoto_ret]
      go_ret2
      exact ⟨by rw [frac_end]; rfl, rfl⟩

/-- The places' value, and whether they are well formed. -/
def fracV (l : List UInt8) : Nat := if digs l && decide (l.length ≤ 8) && !((l.getLast?.getD 0) == 48) then pv l 8 / 390625 else 0
def fracOk (l : List UInt8) : Bool := digs l && decide (l.length ≤ 8) && !((l.getLast?.getD 0) == 48) && decide (pv l 8 % 390625 = 0)

theorem last_at (s : ByteArray) (h : 1 ≤ s.size) : s.data.toList.getLast?.getD 0 = s[s.size - 1] := by
  rw [List.getLast?_eq_getElem?, lenB, List.getElem?_eq_getElem (by rw [lenB]; omega), Option.getD_some, atB s _ (by omega)]

theorem u8_48 (c : UInt8) : ((c.toNat : Int) == 48) = (c == 48) := by
  by_cases h : c = 48
  · subst h; rfl
  · have : c.toNat ≠ 48 := fun e => h (UInt8.toNat_inj.mp (by simpa using e))
    rw [show (c == 48) = false from by simpa using h, beq_eq_false_iff_ne]; omega

theorem fraction_any (s : ByteArray) (w : World) (hs : s.size ≤ 1000000) :
    Calls Tryd.prog 36 #[.string s] w fun e w' => e = .returned (.tuple #[.int .u64 (fracV s.data.toList : Int), .bool (fracOk s.data.toList)]) ∧ w = w' := by
  by_cases hd : digs s.data.toList = true
  · have hne : 1 ≤ s.size := by
      unfold digs at hd
      rw [Bool.and_eq_true] at hd
      have := hd.2
      rw [← lenB]
      cases he : s.data.toList with
      | nil => rw [he] at this; simp at this
      | cons => simp
    have hall : allD s.data.toList = true := by unfold digs at hd; rw [Bool.and_eq_true] at hd; exact hd.1
    by_cases h8 : s.size ≤ 8
    · by_cases hz : s[s.size - 1] = 48
      · have e1 : fracV s.data.toList = 0 := by unfold fracV; rw [last_at s hne, hz]; simp
        have e2 : fracOk s.data.toList = false := by unfold fracOk; rw [last_at s hne, hz]; simp
        rw [e1, e2]
        exact fraction_zero s w hne h8 (by rw [u8_48, hz]; rfl)
      · have hz' : (s[s.size - 1] == 48) = false := by simpa using hz
        have e1 : fracV s.data.toList = pv s.data.toList 8 / 390625 := by unfold fracV; rw [last_at s hne, hd, hz', decide_eq_true (by rw [lenB]; exact h8)]; simp
        have e2 : fracOk s.data.toList = decide (pv s.data.toList 8 % 390625 = 0) := by unfold fracOk; rw [last_at s hne, hd, hz', decide_eq_true (by rw [lenB]; exact h8)]; simp
        rw [e1, e2]
        exact fraction_ok s w hne h8 hd (Lib.hid hall) (by rw [u8_48]; exact hz')
    · have e1 : fracV s.data.toList = 0 := by unfold fracV; rw [decide_eq_false (by rw [lenB]; exact h8)]; simp
      have e2 : fracOk s.data.toList = false := by unfold fracOk; rw [decide_eq_false (by rw [lenB]; exact h8)]; simp
      rw [e1, e2]
      exact fraction_long s w hs (by omega)
  · have hd' : digs s.data.toList = false := by simpa using hd
    have e1 : fracV s.data.toList = 0 := by unfold fracV; rw [hd']; simp
    have e2 : fracOk s.data.toList = false := by unfold fracOk; rw [hd']; simp
    rw [e1, e2]
    exact fraction_bad s w hs hd'
end Go.Proofs.YtoihknngllmogaaDoor
