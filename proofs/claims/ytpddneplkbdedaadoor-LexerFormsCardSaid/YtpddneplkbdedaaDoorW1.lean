/- Walks: the classes of bytes of the lexer. -/
import Derived.Test.YtpddneplkbdedaaDoorProg
import Derived.RowKit
import Derived.WalkKit
import Derived.WalkSpells
import Derived.WalkLawsBesides
import Derived.Lib.Hide
import Derived.BigGuard
import Derived.BigCall
import Derived.Deep.QuietTactic
import Derived.BigQuiet
import Derived.Deep.LoopGhost
import Derived.WalkMore
import Derived.Below
import Derived.Lib.LaidTab
namespace Go.Proofs.YtpddneplkbdedaaDoor
open Go.RowKit
set_option linter.unusedVariables false
set_option linter.unusedSimpArgs false

def lcI (c : Int) : Bool := decide (97 ≤ c) && decide (c ≤ 122)
def digI (c : Int) : Bool := decide (48 ≤ c) && decide (c ≤ 57)
def partI (c : Int) : Bool := lcI c || digI c || (c == 95)
def prnI (c : Int) : Bool := decide (32 ≤ c) && decide (c ≤ 126) && (c != 34)

theorem letter_any (c : Int) (w : World) : Calls Tryd.prog 44 #[.int .i32 c] w fun e w' => e = .returned (.bool (lcI c)) ∧ w = w' := by
  by_cases h1 : 97 ≤ c
  · by_cases h2 : c ≤ 122
    · have e : lcI c = true := by unfold lcI; rw [decide_eq_true h1, decide_eq_true h2]; rfl
      rw [e]
      go_enter Tryd.func44, Tryd.ntmps44
      go_wp2
      go_ret
      exact ⟨rfl, rfl⟩
    · have e : lcI c = false := by unfold lcI; rw [decide_eq_false h2]; simp
      rw [e]
      go_enter Tryd.func44, Tryd.ntmps44
      go_wp2
      go_ret
      exact ⟨rfl, rfl⟩
  · have e : lcI c = false := by unfold lcI; rw [decide_eq_false h1]; simp
    rw [e]
    go_enter Tryd.func44, Tryd.ntmps44
    go_wp2
    go_ret
    exact ⟨rfl, rfl⟩

theorem digit_any (c : Int) (w : World) : Calls Tryd.prog 46 #[.int .i32 c] w fun e w' => e = .returned (.bool (digI c)) ∧ w = w' := by
  by_cases h1 : 48 ≤ c
  · by_cases h2 : c ≤ 57
    · have e : digI c = true := by unfold digI; rw [decide_eq_true h1, decide_eq_true h2]; rfl
      rw [e]
      go_enter Tryd.func46, Tryd.ntmps46
      go_wp2
      go_ret
      exact ⟨rfl, rfl⟩
    · have e : digI c = false := by unfold digI; rw [decide_eq_false h2]; simp
      rw [e]
      go_enter Tryd.func46, Tryd.ntmps46
      go_wp2
      go_ret
      exact ⟨rfl, rfl⟩
  · have e : digI c = false := by unfold digI; rw [decide_eq_false h1]; simp
    rw [e]
    go_enter Tryd.func46, Tryd.ntmps46
    go_wp2
    go_ret
    exact ⟨rfl, rfl⟩

theorem part_walk (c : Int) (L D U : Bool) (h1 : ∀ w, Calls Tryd.prog 44 #[.int .i32 c] w fun e w' => e = .returned (.bool L) ∧ w = w') (h2 : ∀ w, Calls Tryd.prog 46 #[.int .i32 c] w fun e w' => e = .returned (.bool D) ∧ w = w') (hU : (c == 95) = U) (w : World) :
    Calls Tryd.prog 45 #[.int .i32 c] w fun e w' => e = .returned (.bool (L || D || U)) ∧ w = w' := by
  have H1 := Lib.hid h1; have H2 := Lib.hid h2
  clear h1 h2
  cases L
  · cases D <;> cases U
    all_goals
      go_enter Tryd.func45, Tryd.ntmps45
      go_wp2_with fail
      refine (H1.out _).mono ?_
      rintro e w1 ⟨rfl, rfl⟩
      go_wp2_with fail
      refine (H2.out _).mono ?_
      rintro e w1 ⟨rfl, rfl⟩
      go_wp2_with fail
      go_ret
      exact ⟨rfl, rfl⟩
  · go_enter Tryd.func45, Tryd.ntmps45
    go_wp2_with fail
    refine (H1.out _).mono ?_
    rintro e w1 ⟨rfl, rfl⟩
    go_wp2_with fail
    go_ret
    exact ⟨by simp, rfl⟩
theorem part_any (c : Int) (w : World) : Calls Tryd.prog 45 #[.int .i32 c] w fun e w' => e = .returned (.bool (partI c)) ∧ w = w' :=
  part_walk c _ _ _ (letter_any c) (digit_any c) rfl w

theorem print_any (c : Int) (w : World) : Calls Tryd.prog 48 #[.int .i32 c] w fun e w' => e = .returned (.bool (prnI c)) ∧ w = w' := by
  by_cases h1 : 32 ≤ c
  · by_cases h2 : c ≤ 126
    · by_cases h3 : c = 34
      · subst h3
        go_enter Tryd.func48, Tryd.ntmps48
        go_wp2
        go_ret
        exact ⟨rfl, rfl⟩
      · have e : prnI c = (c != 34) := by unfold prnI; rw [decide_eq_true h1, decide_eq_true h2]; rfl
        rw [e]
        go_enter Tryd.func48, Tryd.ntmps48
        go_wp2
        go_ret
        exact ⟨rfl, rfl⟩
    · have e : prnI c = false := by unfold prnI; rw [decide_eq_false h2]; simp
      rw [e]
      go_enter Tryd.func48, Tryd.ntmps48
      go_wp2
      go_ret
      exact ⟨rfl, rfl⟩
  · have e : prnI c = false := by unfold prnI; rw [decide_eq_false h1]; simp
    rw [e]
    go_enter Tryd.func48, Tryd.ntmps48
    go_wp2
    go_ret
    exact ⟨rfl, rfl⟩

theorem noline_any (c : Int) (w : World) : Calls Tryd.prog 40 #[.int .i32 c] w fun e w' => e = .returned (.bool (c != 10)) ∧ w = w' := by
  go_enter Tryd.func40, Tryd.ntmps40
  go_wp2
  go_ret
  exact ⟨rfl, rfl⟩

theorem at_in (s : ByteArray) (i : Nat) (h : i < s.size) (hs : s.size ≤ 1000000) (w : World) : Calls Tryd.prog 38 #[.string s, .int .i64 i] w fun e w' => e = .returned (.int .i32 (s[i].toNat : Int)) ∧ w = w' := by
  have hw : wrap32 (s[i].toNat : Int) = s[i].toNat := by have := UInt8.toNat_lt s[i]; unfold wrap32; omega
  go_enter Tryd.func38, Tryd.ntmps38
  go_wp2
  go_ret
  exact ⟨congrArg (fun z => Ending.returned (Value.int .i32 z)) hw, rfl⟩
theorem at_out (s : ByteArray) (i : Nat) (h : ¬ i < s.size) (hs : s.size ≤ 1000000) (w : World) : Calls Tryd.prog 38 #[.string s, .int .i64 i] w fun e w' => e = .returned (.int .i32 (-1)) ∧ w = w' := by
  go_enter Tryd.func38, Tryd.ntmps38
  go_wp2
  go_ret
  exact ⟨rfl, rfl⟩
end Go.Proofs.YtpddneplkbdedaaDoor
