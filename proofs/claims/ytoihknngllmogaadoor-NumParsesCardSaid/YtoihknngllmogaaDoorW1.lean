/- Walks: Div, abs, Clamp, Cell, Center of the num package and of its reference. -/
import Derived.Test.YtoihknngllmogaaDoorProg
import Derived.Test.YtoihknngllmogaaDoorPlain
import Derived.WalkKit
import Derived.WalkSpells
import Derived.WalkLawsBesides
import Derived.Lib.Hide
import Derived.BigGuard
import Derived.BigCall
import Derived.Deep.QuietTactic
import Derived.BigQuiet
namespace Go.Proofs.YtoihknngllmogaaDoor
open Go.RowKit
set_option linter.unusedVariables false
set_option linter.unusedSimpArgs false

theorem wr64 {x : Int} (h0 : -9223372036854775808 ≤ x) (h1 : x ≤ 9223372036854775807) : wrap64 x = x := by unfold wrap64; omega
theorem ret2i {k k' : IntKind} {a b c : Int} (h : a = b) : Ending.returned (.tuple #[.int k a, .int k' c]) = .returned (.tuple #[.int k b, .int k' c]) := by rw [h]
theorem ret1i {k : IntKind} {a b : Int} (h : a = b) : Ending.returned (.int k a) = .returned (.int k b) := by rw [h]

theorem div_zero (a : Int) (w : World) : Calls Tryd.prog 10 #[.int .i64 a, .int .i64 0] w fun e w' => e = .returned (.tuple #[.int .i64 0, .int .i64 1]) ∧ w = w' := by
  go_enter Tryd.func10, Tryd.ntmps10
  go_wp2
  go_ret2
  exact ⟨rfl, rfl⟩
theorem div_over (w : World) : Calls Tryd.prog 10 #[.int .i64 (-9223372036854775808), .int .i64 (-1)] w fun e w' => e = .returned (.tuple #[.int .i64 0, .int .i64 3]) ∧ w = w' := by
  go_enter Tryd.func10, Tryd.ntmps10
  go_wp2
  go_ret2
  exact ⟨rfl, rfl⟩

theorem div_pp (a b q : Int) (ha : 0 ≤ a) (ha1 : a ≤ 9223372036854775807) (hb : 0 < b) (hq : a / b = q) (q0 : 0 ≤ q) (q1 : q ≤ a) (w : World) : Calls Tryd.prog 10 #[.int .i64 a, .int .i64 b] w fun e w' => e = .returned (.tuple #[.int .i64 q, .int .i64 0]) ∧ w = w' := by
  have b0 : decide (b < 0) = false := by simp; omega
  have a0 : decide (a < 0) = false := by simp; omega
  go_enter Tryd.func10, Tryd.ntmps10
  all_goals go_wp2
  all_goals go_ret2
  all_goals exact ⟨rfl, rfl⟩

set_option maxHeartbeats 1000000 in
theorem div_core (a b m q : Int) (h0 : -9223372036854775808 < a) (hw : wrap64 (a.tdiv b) = q) (hm : a.tmod b = m) (hb : (b == 0) = false) (hb' : ¬ b = 0) (A B M : Bool) (hA : decide (a < 0) = A) (hB : decide (b < 0) = B) (hM : (m != 0) = M)
   (w : World) : Calls Tryd.prog 10 #[.int .i64 a, .int .i64 b] w fun e w' => e = .returned (.tuple #[.int .i64 (if M && (A != B) then wrap64 (q - 1) else q), .int .i64 0]) ∧ w = w' := by
  have a1 : (a == -9223372036854775808) = false := by rw [beq_eq_false_iff_ne]; omega
  clear h0
  cases A <;> cases B <;> cases M
  all_goals go_enter Tryd.func10, Tryd.ntmps10
  all_goals go_wp2
  all_goals go_ret2
  all_goals exact ⟨rfl, rfl⟩

set_option maxHeartbeats 1000000 in
theorem div_min (b m q : Int) (hw : wrap64 (-Int.tdiv 9223372036854775808 b) = q) (hm : -Int.tmod 9223372036854775808 b = m) (hb : (b == 0) = false) (hb' : ¬ b = 0) (hb1 : (b == -1) = false) (B M : Bool) (hB : decide (b < 0) = B) (hM : (m != 0) = M)
   (w : World) : Calls Tryd.prog 10 #[.int .i64 (-9223372036854775808), .int .i64 b] w fun e w' => e = .returned (.tuple #[.int .i64 (if M && (true != B) then wrap64 (q - 1) else q), .int .i64 0]) ∧ w = w' := by
  cases B <;> cases M
  all_goals go_enter Tryd.func10, Tryd.ntmps10
  all_goals go_wp2
  all_goals go_ret2
  all_goals exact ⟨rfl, rfl⟩

theorem div_any (a b : Int) (h0 : -9223372036854775808 ≤ a) (h1 : a ≤ 9223372036854775807) (w : World) : Calls Tryd.prog 10 #[.int .i64 a, .int .i64 b] w fun e w' => e = .returned (.tuple #[.int .i64 (dv a b), .int .i64 (de a b)]) ∧ w = w' := by
  unfold dv de
  by_cases hb : b = 0
  · subst hb
    rw [if_pos rfl, if_pos rfl]
    exact (div_zero a w).mono fun e w' h => ⟨h.1, h.2⟩
  · rw [if_neg hb, if_neg hb]
    by_cases ho : a = -9223372036854775808 ∧ b = -1
    · rw [if_pos ho, if_pos ho, ho.1, ho.2]
      exact (div_over w).mono fun e w' h => ⟨h.1, h.2⟩
    · rw [if_neg ho, if_neg ho]
      have hbb : (b == 0) = false := by rw [beq_eq_false_iff_ne]; exact hb
      have hbd := td_bd a b h0 h1 hb ho
      have hge := fl_ge a b h0 h1 hb
      have hft := fl_text a b hb
      have hres : ∀ q, wrap64 (a.tdiv b) = q → (if (a.tmod b != 0) && (decide (a < 0) != decide (b < 0)) then wrap64 (q - 1) else q) = fl a b := by
        intro q hq
        rw [wr64 hbd.1 hbd.2] at hq
        subst hq
        by_cases hc : a.tmod b ≠ 0 ∧ decide (a < 0) ≠ decide (b < 0)
        · rw [if_pos hc] at hft
          rw [if_pos (by simpa using hc), hft, wr64 (by omega) (by omega)]
        · rw [if_neg hc] at hft
          rw [if_neg (by simpa using hc), hft]
      by_cases hp : 0 ≤ a ∧ 0 < b
      · obtain ⟨q0, q1⟩ := ediv_bd a b hp.1 hp.2
        have hf : fl a b = a / b := by rw [fl, if_pos hp.2]
        rw [hf]
        exact div_pp a b _ hp.1 h1 hp.2 rfl q0 q1 w
      · rw [← hres _ rfl]
        by_cases hmin : a = -9223372036854775808
        · subst hmin
          exact div_min b _ _ (by rw [show (-9223372036854775808 : Int) = -9223372036854775808 from rfl, ← Int.neg_tdiv]) (by rw [← Int.neg_tmod]) hbb hb (by rw [beq_eq_false_iff_ne]; omega) _ _ rfl rfl w
        · exact div_core a b _ _ (by omega) rfl rfl hbb hb _ _ _ rfl rfl rfl w

end Go.Proofs.YtoihknngllmogaaDoor
