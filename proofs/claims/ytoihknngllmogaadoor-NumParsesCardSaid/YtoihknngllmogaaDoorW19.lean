/- The laws' walks of the num package: NumClamps, NumCells. -/
import Derived.Test.YtoihknngllmogaaDoorW18
namespace Go.Proofs.YtoihknngllmogaaDoor
open Go.RowKit
set_option linter.unusedVariables false
set_option linter.unusedSimpArgs false

theorem i64_in (a : Int) (wa : (Lit.int .i64 a).wf = true) : -9223372036854775808 ≤ a ∧ a ≤ 9223372036854775807 := by
  simp [Lit.wf, IntKind.min, IntKind.max, IntKind.signed, IntKind.bits] at wa
  omega
abbrev AwakeK : Prop := ∀ w, Ctx w → Calls Tryd.prog 12 #[] w fun e w' => e = .returned (.bool true) ∧ Below w.heap.size w w'

theorem clamps_gt (n lo hi c : Int) (h1 : KC 16 #[.int .i64 n, .int .i64 lo, .int .i64 hi] (.int .i64 c)) (h2 : KC 17 #[.int .i64 n, .int .i64 lo, .int .i64 hi] (.int .i64 c))
    (hlt : hi < lo) (hc : (c == lo) = true) (W : World) (hC : Ctx W) :
    Calls Tryd.prog 6 #[.int .i64 n, .int .i64 lo, .int .i64 hi] W fun e W' => e = .returned (.bool true) ∧ Below W.heap.size W W' := by
  have H1 := Lib.hid h1; have H2 := Lib.hid h2; have HA : Hid AwakeK := Lib.hid awake_any; have HC := Lib.hid hC
  clear h1 h2 hC
  go_enter Tryd.func6, Tryd.ntmps6
  go_wp2_with fail
  refine (H1.out _).mono ?_
  rintro e w1 ⟨rfl, rfl⟩
  go_wp2_with fail
  refine (H2.out _).mono ?_
  rintro e w1 ⟨rfl, rfl⟩
  go_wp2_with fail
  refine (HA.out _ HC.out).mono ?_
  rintro e w1 ⟨rfl, hb⟩
  go_wp2_with fail
  go_ret
  exact ⟨rfl, hb⟩

theorem clamps_le (n lo hi c : Int) (h1 : KC 16 #[.int .i64 n, .int .i64 lo, .int .i64 hi] (.int .i64 c)) (h2 : KC 17 #[.int .i64 n, .int .i64 lo, .int .i64 hi] (.int .i64 c))
    (hlt : lo ≤ hi) (hc0 : lo ≤ c) (hc1 : c ≤ hi) (hc : (c == n) = true ∨ ((c == n) = false ∧ n < lo) ∨ ((c == n) = false ∧ lo ≤ n ∧ hi < n)) (W : World) (hC : Ctx W) :
    Calls Tryd.prog 6 #[.int .i64 n, .int .i64 lo, .int .i64 hi] W fun e W' => e = .returned (.bool true) ∧ Below W.heap.size W W' := by
  have H1 := Lib.hid h1; have H2 := Lib.hid h2; have HA : Hid AwakeK := Lib.hid awake_any; have HC := Lib.hid hC
  clear h1 h2 hC
  rcases hc with hc | ⟨hc, hc2⟩ | ⟨hc, hc2, hc3⟩
  all_goals
    go_enter Tryd.func6, Tryd.ntmps6
    go_wp2_with fail
    refine (H1.out _).mono ?_
    rintro e w1 ⟨rfl, rfl⟩
    go_wp2_with fail
    refine (H2.out _).mono ?_
    rintro e w1 ⟨rfl, rfl⟩
    go_wp2_with fail
    refine (HA.out _ HC.out).mono ?_
    rintro e w1 ⟨rfl, hb⟩
    go_wp2_with fail
    go_ret
    exact ⟨rfl, hb⟩

theorem w_NumClamps (n : Int) (w0 : (Lit.int .i64 n).wf = true) (lo : Int) (w1 : (Lit.int .i64 lo).wf = true) (hi : Int) (w2 : (Lit.int .i64 hi).wf = true) (W : World) (hC : Ctx W) :
    Calls Tryd.prog 6 #[.int .i64 n, .int .i64 lo, .int .i64 hi] W fun e W' => e = .returned (.bool true) ∧ Below W.heap.size W W' := by
  by_cases h : hi < lo
  · exact clamps_gt n lo hi (max lo (min n hi)) (fun w => clamp_any n lo hi w) (fun w => rclamp_any n lo hi w) h (by rw [beq_iff_eq]; omega) W hC
  · refine clamps_le n lo hi (max lo (min n hi)) (fun w => clamp_any n lo hi w) (fun w => rclamp_any n lo hi w) (by omega) (by omega) (by omega) ?_ W hC
    rw [beq_iff_eq, beq_eq_false_iff_ne]
    omega

def KD (f : Nat) (xs : Array Value) (v : Value) : Prop := ∀ w, Calls Tryd.prog f xs w fun e w' => e = .returned v ∧ Below w.heap.size w w'

theorem cells_walk (x y q qy k k2 k3 : Int) (h1 : KC 18 #[.int .i64 x] (.int .i64 q)) (h2 : KD 19 #[.int .i64 x] (.int .i64 q)) (h3 : KC 20 #[.int .i64 x] (.int .i64 k)) (h4 : KC 21 #[.int .i64 x] (.int .i64 k))
    (h5 : KC 20 #[.int .i64 (x / 256)] (.int .i64 k2)) (h6 : KC 21 #[.int .i64 (x / 256)] (.int .i64 k2)) (h7 : KC 18 #[.int .i64 y] (.int .i64 qy)) (h8 : KC 20 #[.int .i64 (x / 512)] (.int .i64 k3)) (h9 : KC 18 #[.int .i64 k3] (.int .i64 (x / 512)))
    (h : y < x ∨ (x ≤ y ∧ q ≤ qy)) (W : World) (hC : Ctx W) :
    Calls Tryd.prog 7 #[.int .i64 x, .int .i64 y] W fun e W' => e = .returned (.bool true) ∧ Below W.heap.size W W' := by
  have H1 := Lib.hid h1; have H2 := Lib.hid h2; have H3 := Lib.hid h3; have H4 := Lib.hid h4; have H5 := Lib.hid h5; have H6 := Lib.hid h6; have H7 := Lib.hid h7; have H8 := Lib.hid h8; have H9 := Lib.hid h9
  have HA : Hid AwakeK := Lib.hid awake_any; have HC := Lib.hid hC
  clear h1 h2 h3 h4 h5 h6 h7 h8 h9 hC
  rcases h with h | ⟨h, h'⟩
  · go_enter Tryd.func7, Tryd.ntmps7
    go_wp2_with fail
    refine (H1.out _).mono ?_
    rintro e w1 ⟨rfl, rfl⟩
    go_wp2_with fail
    refine (H2.out _).mono ?_
    rintro e w1 ⟨rfl, hb⟩
    go_wp2_with fail
    refine (H3.out _).mono ?_
    rintro e w1 ⟨rfl, rfl⟩
    go_wp2_with fail
    refine (H4.out _).mono ?_
    rintro e w1 ⟨rfl, rfl⟩
    go_wp2_with fail
    refine (H5.out _).mono ?_
    rintro e w1 ⟨rfl, rfl⟩
    go_wp2_with fail
    refine (H6.out _).mono ?_
    rintro e w1 ⟨rfl, rfl⟩
    go_wp2_with fail
    refine (H8.out _).mono ?_
    rintro e w1 ⟨rfl, rfl⟩
    go_wp2_with fail
    refine (H9.out _).mono ?_
    rintro e w1 ⟨rfl, rfl⟩
    go_wp2_with fail
    refine (HA.out _ (HC.out.below hb)).mono ?_
    rintro e w1 ⟨rfl, hb2⟩
    go_wp2_with fail
    go_ret
    exact ⟨rfl, hb.trans (hb2.mono hb.size)⟩
  · go_enter Tryd.func7, Tryd.ntmps7
    go_wp2_with fail
    refine (H1.out _).mono ?_
    rintro e w1 ⟨rfl, rfl⟩
    go_wp2_with fail
    refine (H2.out _).mono ?_
    rintro e w1 ⟨rfl, hb⟩
    go_wp2_with fail
    refine (H3.out _).mono ?_
    rintro e w1 ⟨rfl, rfl⟩
    go_wp2_with fail
    refine (H4.out _).mono ?_
    rintro e w1 ⟨rfl, rfl⟩
    go_wp2_with fail
    refine (H5.out _).mono ?_
    rintro e w1 ⟨rfl, rfl⟩
    go_wp2_with fail
    refine (H6.out _).mono ?_
    rintro e w1 ⟨rfl, rfl⟩
    go_wp2_with fail
    refine (H1.out _).mono ?_
    rintro e w1 ⟨rfl, rfl⟩
    go_wp2_with fail
    refine (H7.out _).mono ?_
    rintro e w1 ⟨rfl, rfl⟩
    go_wp2_with fail
    refine (H8.out _).mono ?_
    rintro e w1 ⟨rfl, rfl⟩
    go_wp2_with fail
    refine (H9.out _).mono ?_
    rintro e w1 ⟨rfl, rfl⟩
    go_wp2_with fail
    refine (HA.out _ (HC.out.below hb)).mono ?_
    rintro e w1 ⟨rfl, hb2⟩
    go_wp2_with fail
    go_ret
    exact ⟨rfl, hb.trans (hb2.mono hb.size)⟩

theorem w_NumCells (x : Int) (w0 : (Lit.int .i64 x).wf = true) (y : Int) (w1 : (Lit.int .i64 y).wf = true) (W : World) (hC : Ctx W) :
    Calls Tryd.prog 7 #[.int .i64 x, .int .i64 y] W fun e W' => e = .returned (.bool true) ∧ Below W.heap.size W W' := by
  obtain ⟨x0, x1⟩ := i64_in x w0
  have hk3 : cen (x / 512) / 256 = x / 512 := by
    unfold cen
    split
    · omega
    · split
      · omega
      · omega
  exact cells_walk x y (x / 256) (y / 256) (cen x) (cen (x / 256)) (cen (x / 512)) (fun w => cell_any x w) (fun w => rcell_any x x0 x1 w) (fun w => center_any x w) (fun w => rcenter_any x w)
    (fun w => center_any _ w) (fun w => rcenter_any _ w) (fun w => cell_any y w) (fun w => center_any _ w) (fun w => by have := cell_any (cen (x / 512)) w; rw [hk3] at this; exact this) (by omega) W hC
end Go.Proofs.YtoihknngllmogaaDoor
