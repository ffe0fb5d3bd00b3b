/- Walks: digits and fraction of the num package. -/
import Derived.Test.YtoihknngllmogaaDoorW12
import Derived.Deep.QuietTactic
import Derived.BigQuiet
import Derived.IntWalk
namespace Go.Proofs.YtoihknngllmogaaDoor
open Go.RowKit
set_option linter.unusedVariables false
set_option linter.unusedSimpArgs false

def isD (c : UInt8) : Bool := decide (48 ≤ c.toNat) && decide (c.toNat ≤ 57)
def allD (l : List UInt8) : Bool := l.all isD
def digs (l : List UInt8) : Bool := allD l && !l.isEmpty

theorem lenB (s : ByteArray) : s.data.toList.length = s.size := by rw [Array.length_toList]; rfl
theorem atB (s : ByteArray) (k : Nat) (h : k < s.size) : s.data.toList[k]'(by rw [lenB]; exact h) = s[k] := rfl

theorem allD_false (l : List UInt8) (k : Nat) (h : k < l.length) (hd : isD l[k] = false) : allD l = false := by
  unfold allD
  rw [List.all_eq_false]
  exact ⟨l[k], List.getElem_mem h, by rw [hd]; decide⟩
theorem allD_true (l : List UInt8) (h : ∀ k (hk : k < l.length), isD l[k] = true) : allD l = true := by
  unfold allD
  rw [List.all_eq_true]
  intro x hx
  obtain ⟨k, hk, rfl⟩ := List.getElem_of_mem hx
  exact h k hk

theorem digits_any (s : ByteArray) (w : World) (hs : s.size ≤ 1000000) :
    Calls Tryd.prog 35 #[.string s] w fun e w' => e = .returned (.bool (digs s.data.toList)) ∧ w = w' := by
  go_enter Tryd.func35, Tryd.ntmps35
  go_wp2
  go_loop [6] (fun i => ∃ k : Nat, k ≤ s.size ∧ i = .int .i64 k ∧ Hid (∀ j (h : j < s.size), j < k → isD s[j] = true)) (fun i => s.size - (intOf i).toNat)
  case atStart => exact ⟨0, Nat.zero_le _, rfl, fun j h hj => by omega⟩
  case round =>
    obtain ⟨k, hk, rfl, hh⟩ := hrel
    by_cases hlt : k < s.size
    · by_cases hd : isD s[k] = true
      · have hd' := hd
        simp only [isD, Bool.and_eq_true, decide_eq_true_eq] at hd'
        obtain ⟨d0, d1⟩ := hd'
        have HD := Lib.hid hd
        clear hd
        go_wp2
        go_round
        case rel =>
          refine ⟨k + 1, by omega, by go_num, fun j h hj => ?_⟩
          by_cases e : j = k
          · subst e; exact HD.out
          · exact hh j h (by omega)
        case measure => simp [intOf]; omega
      · have hf : digs s.data.toList = false := by
          rw [digs, allD_false _ k (by rw [lenB]; exact hlt) (by rw [atB s k hlt]; simpa using hd)]
          rfl
        have hd' : s[k].toNat < 48 ∨ 57 < s[k].toNat := by
          simp only [isD, Bool.and_eq_true, decide_eq_true_eq] at hd; omega
        have HF := Lib.hid hf
        clear hf hd
        rcases hd' with hd' | hd'
        all_goals
          go_wp2
          go_ret
          exact ⟨by rw [HF.out]; rfl, rfl⟩
    · have hf : digs s.data.toList = !s.toList.isEmpty := by
        rw [digs, allD_true, ByteArray.toList_eq]
        · simp
        · intro j hj
          rw [lenB] at hj
          rw [atB s j hj]
          exact hh j hj (by omega)
      have HF := Lib.hid hf
      clear hf
      go_wp2
      go_ret
      exact ⟨by rw [HF.out]; rfl, rfl⟩

/-- The value of places, filled up to eight. -/
def pv (l : List UInt8) : Nat → Nat
  | 0 => 0
  | i + 1 => pv l i * 10 + (if i < l.length then (l.getD i 0).toNat - 48 else 0)

theorem pv_lt (l : List UInt8) (h : allD l = true) (i : Nat) : pv l i < 10 ^ i := by
  induction i with
  | zero => simp [pv]
  | succ i ih =>
    rw [pv, Nat.pow_succ]
    split
    · rename_i hi
      have : isD (l.getD i 0) = true := by
        unfold allD at h
        rw [List.all_eq_true] at h
        rw [List.getD_eq_getElem?_getD, List.getElem?_eq_getElem hi]
        exact h _ (List.getElem_mem hi)
      simp only [isD, Bool.and_eq_true, decide_eq_true_eq] at this
      omega
    · omega

/-- What the places of a length stand for: eight places, and whether they are well formed. -/
def fracOK (l : List UInt8) : Bool := digs l && decide (l.length ≤ 8) && !((l.getLast?.getD 0) == 48)


end Go.Proofs.YtoihknngllmogaaDoor
