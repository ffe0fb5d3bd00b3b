/- The awake examples of the num package. -/
import Derived.Test.YtoihknngllmogaaDoorW17
namespace Go.Proofs.YtoihknngllmogaaDoor
open Go.RowKit
set_option linter.unusedVariables false
set_option linter.unusedSimpArgs false

theorem pval1 : pVal [45, 48, 46, 53] = (-128, 0) := by decide
theorem pval2 : (pVal [49, 46, 53, 48]).2 = 5 := by decide
theorem fmt1 : fmtL 1 = [48, 46, 48, 48, 51, 57, 48, 54, 50, 53] := by
  simp [fmtL, fracL, pad8, Lib.decDigits]
  decide

theorem isqrt10 (w : World) : Calls Tryd.prog 15 #[.int .i64 10] w fun e w' => e = .returned (.int .i64 3) ∧ w = w' := by
  refine (isqrt_pos 10 (by decide) (by decide) w).mono ?_
  rintro e w' ⟨r, he, h1, h2, h3⟩
  have : r = 3 := by
    have h1 : r * r ≤ 10 := h1
    have h2 : 10 < (r + 1) * (r + 1) := h2
    have : r ≤ 3 := by
      rcases Nat.lt_or_ge 3 r with h | h
      · have := Nat.mul_le_mul h h; omega
      · exact h
    have : 3 ≤ r := by
      rcases Nat.lt_or_ge r 3 with h | h
      · have := Nat.mul_le_mul (show r + 1 ≤ 3 by omega) (show r + 1 ≤ 3 by omega); omega
      · exact h
    omega
  subst this
  exact ⟨he, h3⟩

def KC (f : Nat) (xs : Array Value) (v : Value) : Prop := ∀ w, Calls Tryd.prog f xs w fun e w' => e = .returned v ∧ w = w'
def KB (f : Nat) (xs : Array Value) (v : Value) : Prop := ∀ w, Ctx w → Calls Tryd.prog f xs w fun e w' => e = .returned v ∧ Below w.heap.size w w'

theorem awake_any (w : World) (hc : Ctx w) : Calls Tryd.prog 12 #[] w fun e w' => e = .returned (.bool true) ∧ Below w.heap.size w w' := by
  have hC := Lib.hid hc
  have H1 : Hid (KC 10 #[.int .i64 (-7), .int .i64 2] (.tuple #[.int .i64 (-4), .int .i64 0])) := Lib.hid (fun w => div_any (-7) 2 (by decide) (by decide) w)
  have H2 : Hid (KC 10 #[.int .i64 5, .int .i64 0] (.tuple #[.int .i64 0, .int .i64 1])) := Lib.hid (fun w => div_any 5 0 (by decide) (by decide) w)
  have H3 : Hid (KC 13 #[.int .i64 384, .int .i64 384] (.tuple #[.int .i64 576, .int .i64 0])) := Lib.hid (fun w => mul_any 384 384 (by decide) (by decide) (by decide) (by decide) w)
  have H4 : Hid (KC 13 #[.int .i64 9223372036854775807, .int .i64 512] (.tuple #[.int .i64 9223372036854775807, .int .i64 3])) := Lib.hid (fun w => mul_any 9223372036854775807 512 (by decide) (by decide) (by decide) (by decide) w)
  have H5 : Hid (KB 23 #[.string ⟨#[45, 48, 46, 53]⟩] (.tuple #[.int .i64 (-128), .int .i64 0])) := Lib.hid (fun w hw => by
    have := parse_any [45, 48, 46, 53] (by decide) w hw
    rw [pval1] at this
    exact this)
  have H6 : Hid (∃ v, KB 23 #[.string ⟨#[49, 46, 53, 48]⟩] (.tuple #[.int .i64 v, .int .i64 5])) := Lib.hid ⟨(pVal [49, 46, 53, 48]).1, (fun w hw => by
    have := parse_any [49, 46, 53, 48] (by decide) w hw
    rw [pval2] at this
    exact this)⟩
  have H7 : Hid (KC 15 #[.int .i64 10] (.int .i64 3)) := Lib.hid isqrt10
  have H8 : Hid (KC 16 #[.int .i64 5, .int .i64 1, .int .i64 3] (.int .i64 3)) := Lib.hid (fun w => clamp_any 5 1 3 w)
  have H9 : Hid (KC 18 #[.int .i64 (-1)] (.int .i64 (-1))) := Lib.hid (fun w => cell_any (-1) w)
  have H10 : Hid (KC 20 #[.int .i64 0] (.int .i64 128)) := Lib.hid (fun w => center_any 0 w)
  have H11 : Hid (KB 22 #[.int .i64 1] (.string ⟨#[48, 46, 48, 48, 51, 57, 48, 54, 50, 53]⟩)) := Lib.hid (fun w hw => by
    have := format_any 1 (by decide) (by decide) w hw.1
    rw [fmt1] at this
    exact this)
  obtain ⟨v, H6⟩ := H6.out
  replace H6 := Lib.hid H6
  clear hc
  go_enter Tryd.func12, Tryd.ntmps12
  go_wp2_with fail
  refine (H1.out _).mono ?_
  rintro e w1 ⟨rfl, rfl⟩
  go_wp2_with fail
  refine (H2.out _).mono ?_
  rintro e w1 ⟨rfl, rfl⟩
  go_wp2_with fail
  refine (H3.out _).mono ?_
  rintro e w1 ⟨rfl, rfl⟩
  go_wp2_with fail
  refine (H4.out _).mono ?_
  rintro e w1 ⟨rfl, rfl⟩
  go_wp2_with fail
  refine (H5.out _ hC.out).mono ?_
  rintro e w2 ⟨rfl, hb⟩
  go_wp2_with fail
  refine (H6.out _ (hC.out.below hb)).mono ?_
  rintro e w3 ⟨rfl, hb2⟩
  go_wp2_with fail
  trace_state
  refine (H7.out _).mono ?_
  rintro e w1 ⟨rfl, rfl⟩
  go_wp2_with fail
  refine (H8.out _).mono ?_
  rintro e w1 ⟨rfl, rfl⟩
  go_wp2_with fail
  refine (H9.out _).mono ?_
  rintro e w1 ⟨rfl, rfl⟩
  go_wp2_with fail
  refine (H10.out _).mono ?_
  rintro e w1 ⟨rfl, rfl⟩
  go_wp2_with fail
  refine (H11.out _ ((hC.out.below hb).below hb2)).mono ?_
  rintro e w4 ⟨rfl, hb3⟩
  go_wp2_with fail
  go_ret
  exact ⟨rfl, (hb.trans (hb2.mono hb.size)).trans (hb3.mono (Nat.le_trans hb.size hb2.size))⟩
end Go.Proofs.YtoihknngllmogaaDoor
