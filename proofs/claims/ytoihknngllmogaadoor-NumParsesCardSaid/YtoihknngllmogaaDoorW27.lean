/- The laws' walks of the num package: NumFormats. -/
import Derived.Test.YtoihknngllmogaaDoorW26
namespace Go.Proofs.YtoihknngllmogaaDoor
open Go.RowKit
set_option linter.unusedVariables false
set_option linter.unusedSimpArgs false

theorem formats_walk (n : Int) (S : ByteArray) (h1 : KB 22 #[.int .i64 n] (.string S)) (h2 : KB 23 #[.string S] (.tuple #[.int .i64 n, .int .i64 0])) (h3 : KD 24 #[.int .i64 n] (.string S)) (W : World) (hC : Ctx W) :
    Calls Tryd.prog 8 #[.int .i64 n] W fun e W' => e = .returned (.bool true) ∧ Below W.heap.size W W' := by
  have H1 := Lib.hid h1; have H2 := Lib.hid h2; have H3 := Lib.hid h3; have HA : Hid AwakeK := Lib.hid awake_any; have HC := Lib.hid hC
  clear h1 h2 h3 hC
  go_enter Tryd.func8, Tryd.ntmps8
  go_wp2_with fail
  refine (H1.out _ HC.out).mono ?_
  rintro e w1 ⟨rfl, hb1⟩
  have C1 := Lib.hid (HC.out.below hb1)
  go_wp2_with fail
  refine (H2.out _ C1.out).mono ?_
  rintro e w2 ⟨rfl, hb2⟩
  have C2 := Lib.hid (C1.out.below hb2)
  go_wp2_with fail
  refine (H3.out _).mono ?_
  rintro e w3 ⟨rfl, hb3⟩
  have C3 := Lib.hid (C2.out.below hb3)
  go_wp2_with fail
  refine (HA.out _ C3.out).mono ?_
  rintro e w4 ⟨rfl, hb4⟩
  go_wp2_with fail
  go_ret
  have k1 := hb1.size
  have k2 := hb2.size
  have k3 := hb3.size
  exact ⟨rfl, ((hb1.trans (hb2.mono k1)).trans (hb3.mono (Nat.le_trans k1 k2))).trans (hb4.mono (Nat.le_trans k1 (Nat.le_trans k2 k3)))⟩

theorem fmtL_len (n : Int) (h0 : -9223372036854775808 ≤ n) (h1 : n ≤ 9223372036854775807) : (fmtL n).length ≤ 40 := by
  have hl1 := dec_len (n.natAbs / 256) (by omega)
  have hl2 := dec_len8 (n.natAbs % 256 * 390625) (by omega)
  have hp := pad8_len _ hl2
  have ht := trim_len (pad8 (Lib.decDigits (n.natAbs % 256 * 390625))) 48
  have hf : (fracL (n.natAbs % 256)).length ≤ 8 := by unfold fracL; omega
  unfold fmtL
  rw [List.length_append, List.length_append]
  split <;> split <;> simp <;> omega

theorem w_NumFormats (n : Int) (w0 : (Lit.int .i64 n).wf = true) (W : World) (hC : Ctx W) :
    Calls Tryd.prog 8 #[.int .i64 n] W fun e W' => e = .returned (.bool true) ∧ Below W.heap.size W W' := by
  obtain ⟨n0, n1⟩ := i64_in n w0
  refine formats_walk n (str (fmtL n)) (fun w hw => format_any n n0 n1 w hw.1) (fun w hw => ?_) (fun w => rformat_any n n0 n1 w) W hC
  have := parse_any (fmtL n) (by have := fmtL_len n n0 n1; omega) w hw
  rw [pval_fmt n n0 n1] at this
  exact this
end Go.Proofs.YtoihknngllmogaaDoor
