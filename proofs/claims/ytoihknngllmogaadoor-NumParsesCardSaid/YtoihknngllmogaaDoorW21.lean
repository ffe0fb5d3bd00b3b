/- The laws' walks of the num package: NumSquares, NumDivides. -/
import Derived.Test.YtoihknngllmogaaDoorW20
namespace Go.Proofs.YtoihknngllmogaaDoor
open Go.RowKit
set_option linter.unusedVariables false
set_option linter.unusedSimpArgs false

theorem sq_ex (n : Nat) : ∃ r : Nat, r * r ≤ n ∧ n < (r + 1) * (r + 1) := by
  induction n with
  | zero => exact ⟨0, by omega, by omega⟩
  | succ n ih =>
    obtain ⟨r, h1, h2⟩ := ih
    by_cases h : n + 1 < (r + 1) * (r + 1)
    · exact ⟨r, by omega, h⟩
    · refine ⟨r + 1, by omega, ?_⟩
      have e : (r + 1 + 1) * (r + 1 + 1) = (r + 1) * (r + 1) + 2 * (r + 1) + 1 := by
        rw [Nat.add_mul (r + 1) 1, Nat.mul_add (r + 1) (r + 1) 1]; omega
      omega
theorem sq_lt {r s : Nat} {n : Nat} (h1 : r * r ≤ n) (h2 : n < (s + 1) * (s + 1)) : r ≤ s := by
  rcases Nat.lt_or_ge s r with h | h
  · have := Nat.mul_le_mul (show s + 1 ≤ r from h) (show s + 1 ≤ r from h); omega
  · exact h
theorem isqrt_at (n : Int) (hn : 0 < n) (hn1 : n ≤ 9223372036854775807) (r : Nat) (h1 : r * r ≤ n.toNat) (h2 : n.toNat < (r + 1) * (r + 1)) : KC 15 #[.int .i64 n] (.int .i64 r) := fun w => by
  refine (isqrt_pos n hn hn1 w).mono ?_
  rintro e w' ⟨r', he, g1, g2, h3⟩
  have : r' = r := Nat.le_antisymm (sq_lt g1 h2) (sq_lt h1 g2)
  subst this
  exact ⟨he, h3⟩

theorem w_NumSquares (n : Int) (w0 : (Lit.int .i64 n).wf = true) (W : World) (hC : Ctx W) :
    Calls Tryd.prog 5 #[.int .i64 n] W fun e W' => e = .returned (.bool true) ∧ Below W.heap.size W W' := by
  obtain ⟨n0, n1⟩ := i64_in n w0
  by_cases hn : n < 0
  · exact squares_neg n (fun w => isqrt_neg n (by omega) w) hn W hC
  · obtain ⟨r, h1, h2⟩ := sq_ex n.toNat
    have hr : r ≤ 3037000499 := sq_lt h1 (Nat.lt_of_le_of_lt (show n.toNat ≤ 9223372036854775807 by omega) (by decide))
    have hk : KC 15 #[.int .i64 n] (.int .i64 r) := by
      by_cases hz : n = 0
      · subst hz
        have : r = 0 := by
          rcases r with _ | r
          · rfl
          · have h1 : (r + 1) * (r + 1) ≤ 0 := h1
            simp at h1
        subst this
        exact fun w => isqrt_neg 0 (by omega) w
      · exact isqrt_at n (by omega) n1 r h1 h2
    by_cases he : r = 3037000499
    · subst he
      exact squares_most n hk (by omega) W hC
    · have h3 : (r + 1) * (r + 1) ≤ 9223372030926249001 := Nat.mul_le_mul (show r + 1 ≤ 3037000499 by omega) (show r + 1 ≤ 3037000499 by omega)
      exact squares_mid n r ((r * r : Nat) : Int) (((r + 1) * (r + 1) : Nat) : Int) hk (by omega) (by omega) (by omega) (by omega) (by rw [Int.natCast_mul]; rfl) (by omega) (by omega) n1 (by omega) (by omega) W hC

theorem div_bad (a b q e : Int) (h1 : KC 10 #[.int .i64 a, .int .i64 b] (.tuple #[.int .i64 q, .int .i64 e])) (h2 : KD 11 #[.int .i64 a, .int .i64 b] (.tuple #[.int .i64 q, .int .i64 e]))
    (he : (e == 0) = false) (h : (b == 0) = true ∨ ((b == 0) = false ∧ (a == -9223372036854775808) = true ∧ (b == -1) = true)) (W : World) (hC : Ctx W) :
    Calls Tryd.prog 3 #[.int .i64 a, .int .i64 b] W fun e W' => e = .returned (.bool true) ∧ Below W.heap.size W W' := by
  have H1 := Lib.hid h1; have H2 := Lib.hid h2; have HA : Hid AwakeK := Lib.hid awake_any; have HC := Lib.hid hC
  clear h1 h2 hC
  rcases h with h | ⟨h, h', h''⟩
  all_goals
    go_enter Tryd.func3, Tryd.ntmps3
    go_wp2_with fail
    refine (H1.out _).mono ?_
    rintro e w1 ⟨rfl, rfl⟩
    go_wp2_with fail
    refine (H2.out _).mono ?_
    rintro e w1 ⟨rfl, hb⟩
    go_wp2_with fail
    refine (HA.out _ (HC.out.below hb)).mono ?_
    rintro e w1 ⟨rfl, hb2⟩
    go_wp2_with fail
    go_ret
    exact ⟨rfl, hb.trans (hb2.mono hb.size)⟩

theorem div_ok (a b q p r : Int) (h1 : KC 10 #[.int .i64 a, .int .i64 b] (.tuple #[.int .i64 q, .int .i64 0])) (h2 : KD 11 #[.int .i64 a, .int .i64 b] (.tuple #[.int .i64 q, .int .i64 0]))
    (hw : wrap64 (a - wrap64 (q * b)) = r) (h : 0 < b ∧ 0 ≤ r ∧ r < b ∨ b < 0 ∧ r ≤ 0 ∧ b < r) (W : World) (hC : Ctx W) :
    Calls Tryd.prog 3 #[.int .i64 a, .int .i64 b] W fun e W' => e = .returned (.bool true) ∧ Below W.heap.size W W' := by
  have H1 := Lib.hid h1; have H2 := Lib.hid h2; have HA : Hid AwakeK := Lib.hid awake_any; have HC := Lib.hid hC
  clear h1 h2 hC
  rcases h with ⟨h, h', h''⟩ | ⟨h, h', h''⟩
  all_goals
    go_enter Tryd.func3, Tryd.ntmps3
    go_wp2_with fail
    refine (H1.out _).mono ?_
    rintro e w1 ⟨rfl, rfl⟩
    go_wp2_with fail
    refine (H2.out _).mono ?_
    rintro e w1 ⟨rfl, hb⟩
    go_wp2_with fail
    refine (HA.out _ (HC.out.below hb)).mono ?_
    rintro e w1 ⟨rfl, hb2⟩
    go_wp2_with fail
    go_ret
    exact ⟨rfl, hb.trans (hb2.mono hb.size)⟩
end Go.Proofs.YtoihknngllmogaaDoor
