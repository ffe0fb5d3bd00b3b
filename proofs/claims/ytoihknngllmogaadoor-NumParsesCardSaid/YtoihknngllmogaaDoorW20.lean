/- The laws' walks of the num package: NumSquares. -/
import Derived.Test.YtoihknngllmogaaDoorW19
namespace Go.Proofs.YtoihknngllmogaaDoor
open Go.RowKit
set_option linter.unusedVariables false
set_option linter.unusedSimpArgs false

theorem squares_neg (n : Int) (h1 : KC 15 #[.int .i64 n] (.int .i64 0)) (h : n < 0) (W : World) (hC : Ctx W) :
    Calls Tryd.prog 5 #[.int .i64 n] W fun e W' => e = .returned (.bool true) ∧ Below W.heap.size W W' := by
  have H1 := Lib.hid h1; have HA : Hid AwakeK := Lib.hid awake_any; have HC := Lib.hid hC
  clear h1 hC
  go_enter Tryd.func5, Tryd.ntmps5
  go_wp2_with fail
  refine (H1.out _).mono ?_
  rintro e w1 ⟨rfl, rfl⟩
  go_wp2_with fail
  refine (HA.out _ HC.out).mono ?_
  rintro e w1 ⟨rfl, hb⟩
  go_wp2_with fail
  go_ret
  exact ⟨rfl, hb⟩

theorem squares_most (n : Int) (h1 : KC 15 #[.int .i64 n] (.int .i64 3037000499)) (h : 9223372030926249001 ≤ n) (W : World) (hC : Ctx W) :
    Calls Tryd.prog 5 #[.int .i64 n] W fun e W' => e = .returned (.bool true) ∧ Below W.heap.size W W' := by
  have H1 := Lib.hid h1; have HA : Hid AwakeK := Lib.hid awake_any; have HC := Lib.hid hC
  clear h1 hC
  go_enter Tryd.func5, Tryd.ntmps5
  go_wp2_with fail
  refine (H1.out _).mono ?_
  rintro e w1 ⟨rfl, rfl⟩
  go_wp2_with fail
  refine (HA.out _ HC.out).mono ?_
  rintro e w1 ⟨rfl, hb⟩
  go_wp2_with fail
  go_ret
  exact ⟨rfl, hb⟩

theorem squares_mid (n r s t : Int) (h1 : KC 15 #[.int .i64 n] (.int .i64 r)) (h0 : 0 ≤ n) (hr0 : 0 ≤ r) (hr1 : r < 3037000499) (hs : r * r = s) (ht : (r + 1) * (r + 1) = t) 
   (s0 : 0 ≤ s) (sn : s ≤ n) (n1 : n ≤ 9223372036854775807) (t0 : n < t) (t1 : t ≤ 9223372036854775807) (W : World) (hC : Ctx W) :
    Calls Tryd.prog 5 #[.int .i64 n] W fun e W' => e = .returned (.bool true) ∧ Below W.heap.size W W' := by
  have H1 := Lib.hid h1; have HA : Hid AwakeK := Lib.hid awake_any; have HC := Lib.hid hC
  clear h1 hC
  go_enter Tryd.func5, Tryd.ntmps5
  go_wp2_with fail
  refine (H1.out _).mono ?_
  rintro e w1 ⟨rfl, rfl⟩
  go_wp2_with fail
  trace_state
  refine (HA.out _ HC.out).mono ?_
  rintro e w1 ⟨rfl, hb⟩
  go_wp2_with fail
  go_ret
  exact ⟨rfl, hb⟩
end Go.Proofs.YtoihknngllmogaaDoor
