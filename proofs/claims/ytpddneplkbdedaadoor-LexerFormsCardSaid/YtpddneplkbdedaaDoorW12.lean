/- Walks: integer of the lexer. -/
import Derived.Test.YtpddneplkbdedaaDoorW11
namespace Go.Proofs.YtpddneplkbdedaaDoor
open Go.RowKit
set_option linter.unusedVariables false
set_option linter.unusedSimpArgs false

/-- What ParseInt hands back: no error, or one. -/
def PI (s : ByteArray) (w : World) (ok : Bool) : Prop := Calls Tryd.prog 59 #[.string s, .int .i64 10, .int .i64 64] w fun e w' =>
  ∃ (v : Int) (N : Nat), e = .returned (.tuple #[.int .i64 v, if ok then .nilIface else .iface 93 (.pointer (some ⟨N, 0, none⟩))]) ∧ Below w.heap.size w w'

theorem int_bad1 (s P : ByteArray) (h1 : KC 39 #[.string s, .func (.func 46) #[] #[]] (.string P)) (hne : (P.toList == s.toList) = false) (w : World) : Calls Tryd.prog 47 #[.string s] w fun e w' => e = .returned (.int .i64 5) ∧ w = w' := by
  have H1 := Lib.hid h1
  clear h1
  go_enter Tryd.func47, Tryd.ntmps47
  go_wp2_with fail
  refine (H1.out _).mono ?_
  rintro e w1 ⟨rfl, rfl⟩
  go_wp2_with fail
  go_ret
  exact ⟨rfl, rfl⟩

theorem int_bad2 (s : ByteArray) (h1 : KC 39 #[.string s, .func (.func 46) #[] #[]] (.string s)) (hs : 1 < s.size) (hz : ((s[0].toNat : Int) == 48) = true) (w : World) : Calls Tryd.prog 47 #[.string s] w fun e w' => e = .returned (.int .i64 5) ∧ w = w' := by
  have H1 := Lib.hid h1
  clear h1
  go_enter Tryd.func47, Tryd.ntmps47
  go_wp2_with fail
  refine (H1.out _).mono ?_
  rintro e w1 ⟨rfl, rfl⟩
  go_wp2_with fail
  go_ret
  exact ⟨rfl, rfl⟩

theorem int_good (s : ByteArray) (ok : Bool) (h1 : KC 39 #[.string s, .func (.func 46) #[] #[]] (.string s)) (hs : ¬ 1 < s.size ∨ ∃ h : 1 < s.size, ((s[0].toNat : Int) == 48) = false) (w : World) (h2 : PI s w ok) : Calls Tryd.prog 47 #[.string s] w fun e w' => e = .returned (.int .i64 (if ok then 0 else 3)) ∧ Below w.heap.size w w' := by
  have H1 := Lib.hid h1
  have H2 := Lib.hid h2
  clear h1 h2
  cases ok
  all_goals rcases hs with hs | ⟨hs, hz⟩
  all_goals
    go_enter Tryd.func47, Tryd.ntmps47
    go_wp2_with fail
    refine (H1.out _).mono ?_
    rintro e w1 ⟨rfl, rfl⟩
    go_wp2_with fail
    refine (H2.out).mono ?_
    rintro e w2 ⟨v, N, rfl, hb⟩
    go_wp2_with fail
    go_ret
    exact ⟨rfl, hb⟩
end Go.Proofs.YtpddneplkbdedaaDoor
