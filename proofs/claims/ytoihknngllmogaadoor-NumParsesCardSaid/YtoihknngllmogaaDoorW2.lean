/- Walks: Div of the reference of the num package. -/
import Derived.Test.YtoihknngllmogaaDoorW1
namespace Go.Proofs.YtoihknngllmogaaDoor
open Go.RowKit
set_option linter.unusedVariables false
set_option linter.unusedSimpArgs false
theorem below_drewN' {B : Nat} {a w : World} (h : Below B a w) (n : Nat) : Below B a (w.drewN n) := ⟨h.os, h.tape, h.output, h.size, h.block⟩
theorem tm_sign (a b : Int) (hb : b ≠ 0) (h : a.tmod b ≠ 0) : a.tmod b < 0 ↔ a < 0 := by
  by_cases ha : a < 0
  · rw [tm_n a b ha] at h ⊢
    split at h
    · rename_i hp; have := Int.emod_nonneg (-a) hb; rw [if_pos hp]; omega
    · rename_i hp; have := Int.emod_nonneg (-a) (b := -b) (by omega); rw [if_neg hp]; omega
  · rw [tm_nn a b (by omega)] at h ⊢
    split at h
    · rename_i hp; have := Int.emod_nonneg a hb; rw [if_pos hp]; omega
    · rename_i hp; have := Int.emod_nonneg a (b := -b) (by omega); rw [if_neg hp]; omega

theorem rdiv_zero (a : Int) (w : World) : Calls Tryd.prog 11 #[.int .i64 a, .int .i64 0] w fun e w' => e = .returned (.tuple #[.int .i64 0, .int .i64 1]) ∧ w = w' := by
  go_enter Tryd.func11, Tryd.ntmps11
  go_wp2
  go_ret2
  exact ⟨rfl, rfl⟩
theorem rdiv_over (w : World) : Calls Tryd.prog 11 #[.int .i64 (-9223372036854775808), .int .i64 (-1)] w fun e w' => e = .returned (.tuple #[.int .i64 0, .int .i64 3]) ∧ w = w' := by
  go_enter Tryd.func11, Tryd.ntmps11
  go_wp2
  go_ret2
  exact ⟨rfl, rfl⟩

theorem rdiv_pp (a b q : Int) (ha : 0 ≤ a) (ha1 : a ≤ 9223372036854775807) (hb : 0 < b) (hq : a / b = q) (q0 : 0 ≤ q) (q1 : q ≤ a) (w : World) : Calls Tryd.prog 11 #[.int .i64 a, .int .i64 b] w fun e w' => e = .returned (.tuple #[.int .i64 q, .int .i64 0]) ∧ Below w.heap.size w w' := by
  have b0 : decide (b < 0) = false := by simp; omega
  have a0 : decide (a % b < 0) = false := by have := Int.emod_nonneg a (Int.ne_of_gt hb); simp; omega
  go_enter Tryd.func11, Tryd.ntmps11
  all_goals go_wp2
  all_goals go_quiet (fail)
  all_goals go_wp2
  all_goals go_ret2
  all_goals exact ⟨rfl, below_drewN' (Below.refl _ _) _⟩

set_option maxHeartbeats 1000000 in
theorem rdiv_core (a b m q : Int) (h0 : -9223372036854775808 < a) (hw : wrap64 (a.tdiv b) = q) (hm : a.tmod b = m) (hb : (b == 0) = false) (hb' : ¬ b = 0) (A B M : Bool) (hA : decide (m < 0) = A) (hB : decide (b < 0) = B) (hM : (m != 0) = M)
   (w : World) : Calls Tryd.prog 11 #[.int .i64 a, .int .i64 b] w fun e w' => e = .returned (.tuple #[.int .i64 (if M && (A != B) then wrap64 (q - 1) else q), .int .i64 0]) ∧ Below w.heap.size w w' := by
  have a1 : (a == -9223372036854775808) = false := by rw [beq_eq_false_iff_ne]; omega
  clear h0
  cases A <;> cases B <;> cases M
  all_goals go_enter Tryd.func11, Tryd.ntmps11
  all_goals go_wp2
  all_goals go_quiet (fail)
  all_goals go_wp2
  all_goals go_ret2
  all_goals exact ⟨rfl, below_drewN' (Below.refl _ _) _⟩

set_option maxHeartbeats 1000000 in
theorem rdiv_min (b m q : Int) (hw : wrap64 (-Int.tdiv 9223372036854775808 b) = q) (hm : -Int.tmod 9223372036854775808 b = m) (hb : (b == 0) = false) (hb' : ¬ b = 0) (hb1 : (b == -1) = false) (A B M : Bool) (hA : decide (m < 0) = A) (hB : decide (b < 0) = B) (hM : (m != 0) = M)
   (w : World) : Calls Tryd.prog 11 #[.int .i64 (-9223372036854775808), .int .i64 b] w fun e w' => e = .returned (.tuple #[.int .i64 (if M && (A != B) then wrap64 (q - 1) else q), .int .i64 0]) ∧ Below w.heap.size w w' := by
  cases A <;> cases B <;> cases M
  all_goals go_enter Tryd.func11, Tryd.ntmps11
  all_goals go_wp2
  all_goals go_quiet (fail)
  all_goals go_wp2
  all_goals go_ret2
  all_goals exact ⟨rfl, below_drewN' (Below.refl _ _) _⟩

theorem rdiv_any (a b : Int) (h0 : -9223372036854775808 ≤ a) (h1 : a ≤ 9223372036854775807) (w : World) : Calls Tryd.prog 11 #[.int .i64 a, .int .i64 b] w fun e w' => e = .returned (.tuple #[.int .i64 (dv a b), .int .i64 (de a b)]) ∧ Below w.heap.size w w' := by
  unfold dv de
  by_cases hb : b = 0
  · subst hb
    rw [if_pos rfl, if_pos rfl]
    exact (rdiv_zero a w).mono fun e w' h => ⟨h.1, h.2 ▸ Below.refl _ _⟩
  · rw [if_neg hb, if_neg hb]
    by_cases ho : a = -9223372036854775808 ∧ b = -1
    · rw [if_pos ho, if_pos ho, ho.1, ho.2]
      exact (rdiv_over w).mono fun e w' h => ⟨h.1, h.2 ▸ Below.refl _ _⟩
    · rw [if_neg ho, if_neg ho]
      have hbb : (b == 0) = false := by rw [beq_eq_false_iff_ne]; exact hb
      have hbd := td_bd a b h0 h1 hb ho
      have hge := fl_ge a b h0 h1 hb
      have hft := fl_text a b hb
      have hres : ∀ q, wrap64 (a.tdiv b) = q → (if (a.tmod b != 0) && (decide (a.tmod b < 0) != decide (b < 0)) then wrap64 (q - 1) else q) = fl a b := by
        intro q hq
        have hsg := tm_sign a b hb
        rw [show ((a.tmod b != 0) && (decide (a.tmod b < 0) != decide (b < 0))) = ((a.tmod b != 0) && (decide (a < 0) != decide (b < 0))) by
          by_cases hm : a.tmod b = 0
          · simp [hm]
          · rw [show decide (a.tmod b < 0) = decide (a < 0) by rw [decide_eq_decide]; exact hsg hm]]
        rw [wr64 hbd.1 hbd.2] at hq
        subst hq
        by_cases hc : a.tmod b ≠ 0 ∧ decide (a < 0) ≠ decide (b < 0)
        · rw [if_pos hc] at hft
          rw [if_pos (by simpa using hc), hft, wr64 (by omega) (by omega)]
        · rw [if_neg hc] at hft
          rw [if_neg (by simpa using hc), hft]
      by_cases hp : 0 ≤ a ∧ 0 < b
      · obtain ⟨q0, q1⟩ := ediv_bd a b hp.1 hp.2
        have hf : fl a b = a / b := by rw [fl, if_pos hp.2]
        rw [hf]
        exact rdiv_pp a b _ hp.1 h1 hp.2 rfl q0 q1 w
      · rw [← hres _ rfl]
        by_cases hmin : a = -9223372036854775808
        · subst hmin
          exact rdiv_min b _ _ (by rw [show (-9223372036854775808 : Int) = -9223372036854775808 from rfl, ← Int.neg_tdiv]) (by rw [← Int.neg_tmod]) hbb hb (by rw [beq_eq_false_iff_ne]; omega) _ _ _ rfl rfl rfl w
        · exact rdiv_core a b _ _ (by omega) rfl rfl hbb hb _ _ _ rfl rfl rfl w

end Go.Proofs.YtoihknngllmogaaDoor
