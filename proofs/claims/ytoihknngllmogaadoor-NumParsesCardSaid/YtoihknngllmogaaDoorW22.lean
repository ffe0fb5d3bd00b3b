/- The laws' walks of the num package: NumDivides, NumMultiplies. -/
import Derived.Test.YtoihknngllmogaaDoorW21
namespace Go.Proofs.YtoihknngllmogaaDoor
open Go.RowKit
set_option linter.unusedVariables false
set_option linter.unusedSimpArgs false

theorem wrap_rest (a p : Int) (r0 : -9223372036854775808 ≤ a - p) (r1 : a - p ≤ 9223372036854775807) : wrap64 (a - wrap64 p) = a - p := by
  unfold wrap64
  omega

theorem w_NumDivides (a : Int) (w0 : (Lit.int .i64 a).wf = true) (b : Int) (w1 : (Lit.int .i64 b).wf = true) (W : World) (hC : Ctx W) :
    Calls Tryd.prog 3 #[.int .i64 a, .int .i64 b] W fun e W' => e = .returned (.bool true) ∧ Below W.heap.size W W' := by
  obtain ⟨a0, a1⟩ := i64_in a w0
  obtain ⟨b0, b1⟩ := i64_in b w1
  have h1 : KC 10 #[.int .i64 a, .int .i64 b] (.tuple #[.int .i64 (dv a b), .int .i64 (de a b)]) := fun w => div_any a b a0 a1 w
  have h2 : KD 11 #[.int .i64 a, .int .i64 b] (.tuple #[.int .i64 (dv a b), .int .i64 (de a b)]) := fun w => rdiv_any a b a0 a1 w
  by_cases hb : b = 0
  · refine div_bad a b _ _ h1 h2 ?_ (Or.inl (by rw [hb]; rfl)) W hC
    unfold de; rw [if_pos hb]; rfl
  · by_cases hm : a = -9223372036854775808 ∧ b = -1
    · refine div_bad a b _ _ h1 h2 ?_ (Or.inr ⟨by rw [hm.2]; rfl, by rw [hm.1]; rfl, by rw [hm.2]; rfl⟩) W hC
      unfold de; rw [if_neg hb, if_pos hm]; rfl
    · have e1 : de a b = 0 := by unfold de; rw [if_neg hb, if_neg hm]
      have e2 : dv a b = fl a b := by unfold dv; rw [if_neg hb, if_neg hm]
      rw [e1, e2] at h1 h2
      have hr : 0 < b ∧ 0 ≤ a - fl a b * b ∧ a - fl a b * b < b ∨ b < 0 ∧ a - fl a b * b ≤ 0 ∧ b < a - fl a b * b := by
        unfold fl
        by_cases hp : 0 < b
        · rw [if_pos hp]
          have h := Int.mul_ediv_add_emod a b
          have g0 := Int.emod_nonneg a (Int.ne_of_gt hp)
          have g1 := Int.emod_lt_of_pos a hp
          rw [Int.mul_comm] at h
          omega
        · rw [if_neg hp]
          have hp' : 0 < -b := by omega
          have h := Int.mul_ediv_add_emod (-a) (-b)
          have g0 := Int.emod_nonneg (-a) (Int.ne_of_gt hp')
          have g1 := Int.emod_lt_of_pos (-a) hp'
          rw [Int.neg_mul, Int.mul_comm] at h
          omega
      exact div_ok a b (fl a b) (fl a b * b) (a - fl a b * b) h1 h2 (wrap_rest a _ (by omega) (by omega)) hr W hC

theorem mult_walk (a b p e x y s t m : Int) (h1 : KC 13 #[.int .i64 a, .int .i64 b] (.tuple #[.int .i64 p, .int .i64 e])) (h2 : KC 14 #[.int .i64 a, .int .i64 b] (.tuple #[.int .i64 p, .int .i64 e]))
    (h3 : KC 13 #[.int .i64 b, .int .i64 a] (.tuple #[.int .i64 p, .int .i64 e])) (h4 : KC 13 #[.int .i64 a, .int .i64 256] (.tuple #[.int .i64 a, .int .i64 0])) 
    (hx : a / 8589934592 = x) (hy : b / 8589934592 = y) (h5 : KC 13 #[.int .i64 x, .int .i64 y] (.tuple #[.int .i64 s, .int .i64 0]))
    (hm : x * y = m) (m0 : -4611686018427387904 ≤ m) (m1 : m ≤ 4611686018427387904) (hs : s * 256 ≤ m) (hs1 : m < s * 256 + 256) (W : World) (hC : Ctx W) :
    Calls Tryd.prog 4 #[.int .i64 a, .int .i64 b] W fun e W' => e = .returned (.bool true) ∧ Below W.heap.size W W' := by
  have H1 := Lib.hid h1; have H2 := Lib.hid h2; have H3 := Lib.hid h3; have H4 := Lib.hid h4; have H5 := Lib.hid h5; have HA : Hid AwakeK := Lib.hid awake_any; have HC := Lib.hid hC
  clear h1 h2 h3 h4 h5 hC
  go_enter Tryd.func4, Tryd.ntmps4
  go_wp2_with fail
  refine (H1.out _).mono ?_
  rintro e w1 ⟨rfl, rfl⟩
  go_wp2_with fail
  refine (H2.out _).mono ?_
  rintro e w1 ⟨rfl, rfl⟩
  go_wp2_with fail
  refine (H3.out _).mono ?_
  rintro e w1 ⟨rfl, rfl⟩
  go_wp2_with fail
  refine (H4.out _).mono ?_
  rintro e w1 ⟨rfl, rfl⟩
  go_wp2_with fail
  refine (H5.out _).mono ?_
  rintro e w1 ⟨rfl, rfl⟩
  go_wp2_with fail
  trace_state
  refine (HA.out _ HC.out).mono ?_
  rintro e w1 ⟨rfl, hb⟩
  go_wp2_with fail
  go_ret
  exact ⟨rfl, hb⟩

theorem mv_256 (a : Int) (a0 : -9223372036854775808 ≤ a) (a1 : a ≤ 9223372036854775807) : mv a 256 = a ∧ me a 256 = 0 := by
  unfold mv me
  rw [Int.mul_ediv_cancel a (by decide), if_neg (by omega), if_neg (by omega), if_neg (by omega), if_neg (by omega)]
  exact ⟨rfl, rfl⟩

theorem mul_bound (x y : Int) (x0 : -1073741824 ≤ x) (x1 : x ≤ 1073741824) (y0 : -1073741824 ≤ y) (y1 : y ≤ 1073741824) : -1152921504606846976 ≤ x * y ∧ x * y ≤ 1152921504606846976 := by
  have h : (x * y).natAbs ≤ 1152921504606846976 := by
    rw [Int.natAbs_mul]
    exact Nat.mul_le_mul (show x.natAbs ≤ 1073741824 by omega) (show y.natAbs ≤ 1073741824 by omega)
  omega

theorem w_NumMultiplies (a : Int) (w0 : (Lit.int .i64 a).wf = true) (b : Int) (w1 : (Lit.int .i64 b).wf = true) (W : World) (hC : Ctx W) :
    Calls Tryd.prog 4 #[.int .i64 a, .int .i64 b] W fun e W' => e = .returned (.bool true) ∧ Below W.heap.size W W' := by
  obtain ⟨a0, a1⟩ := i64_in a w0
  obtain ⟨b0, b1⟩ := i64_in b w1
  obtain ⟨m0, m1⟩ := mul_bound (a / 8589934592) (b / 8589934592) (by omega) (by omega) (by omega) (by omega)
  have hv : mv (a / 8589934592) (b / 8589934592) = a / 8589934592 * (b / 8589934592) / 256 ∧ me (a / 8589934592) (b / 8589934592) = 0 := by
    unfold mv me
    rw [if_neg (by omega), if_neg (by omega), if_neg (by omega), if_neg (by omega)]
    exact ⟨rfl, rfl⟩
  refine mult_walk a b (mv a b) (me a b) _ _ (a / 8589934592 * (b / 8589934592) / 256) 0 _ (fun w => mul_any a b a0 a1 b0 b1 w) (fun w => rmul_any a b a0 a1 b0 b1 w) (fun w => ?_) (fun w => ?_) rfl rfl (fun w => ?_) rfl (by omega) (by omega) (by omega) (by omega) W hC
  · have := mul_any b a b0 b1 a0 a1 w
    rw [show mv b a = mv a b by unfold mv; rw [Int.mul_comm], show me b a = me a b by unfold me; rw [Int.mul_comm]] at this
    exact this
  · have := mul_any a 256 a0 a1 (by decide) (by decide) w
    rw [(mv_256 a a0 a1).1, (mv_256 a a0 a1).2] at this
    exact this
  · have := mul_any (a / 8589934592) (b / 8589934592) (by omega) (by omega) (by omega) (by omega) w
    rw [hv.1, hv.2] at this
    exact this
end Go.Proofs.YtoihknngllmogaaDoor
