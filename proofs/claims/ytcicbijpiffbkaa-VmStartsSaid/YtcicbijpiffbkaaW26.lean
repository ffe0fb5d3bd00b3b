/- Walks: what an instruction does. -/
import Derived.Test.YtcicbijpiffbkaaW6
namespace Go.Proofs.Ytcicbijpiffbkaa
open Go.RowKit
set_option linter.unusedVariables false
set_option linter.unusedSimpArgs false
set_option maxRecDepth 100000
set_option maxHeartbeats 2000000

/-- What an instruction does, as a value. -/
def ofV (x : Ins) : Value :=
  if x.op = 1 then .iface 113 (.agg #[.int .i64 x.n])
  else if x.op = 2 then .iface 115 (.agg #[.int .i64 x.a])
  else if x.op = 3 then .iface 116 (.agg #[.int .i64 x.a])
  else if x.op = 4 then .iface 118 (.agg #[.int .i64 x.a])
  else if x.op = 5 then .iface 120 (.agg #[.int .i64 x.a])
  else if x.op = 6 then .iface 121 (.agg #[.int .i64 x.a])
  else if x.op = 7 then .iface 123 x.v
  else if x.op = 8 then .iface 124 x.v
  else if x.op = 9 then .iface 126 (.agg #[])
  else if x.op = 10 then .iface 128 (.agg #[.string (str x.s)])
  else .iface 129 (.agg #[])
theorem of_any (x : Ins) (w : World) : KB 29 #[x.v] (ofV x) w := by
  obtain ⟨op, a, n, s⟩ := x
  unfold KB
  have hc : op = 1 ∨ op = 2 ∨ op = 3 ∨ op = 4 ∨ op = 5 ∨ op = 6 ∨ op = 7 ∨ op = 8 ∨ op = 9 ∨ op = 10 ∨ ((op == 1) = false ∧ (op == 2) = false ∧ (op == 3) = false ∧ (op == 4) = false ∧ (op == 5) = false ∧ (op == 6) = false ∧ (op == 7) = false ∧ (op == 8) = false ∧ (op == 9) = false ∧ (op == 10) = false) := by
    simp only [beq_eq_false_iff_ne]; omega
  rcases hc with rfl | rfl | rfl | rfl | rfl | rfl | rfl | rfl | rfl | rfl | ⟨n1, n2, n3, n4, n5, n6, n7, n8, n9, n10⟩
  rotate_right
  · have hv : ofV ⟨op, a, n, s⟩ = .iface 129 (.agg #[]) := by
      simp only [beq_eq_false_iff_ne] at n1 n2 n3 n4 n5 n6 n7 n8 n9 n10
      simp [ofV, n1, n2, n3, n4, n5, n6, n7, n8, n9, n10]
    rw [hv]
    clear hv
    unfold Ins.v
    dsimp only
    generalize str s = S
    go_enter Try.func29, Try.ntmps29
    go_wp2_with fail
    go_ret
    exact ⟨rfl, below_new _ _⟩
  all_goals
    simp only [ofV, Ins.v, if_true, if_false, reduceIte, show ¬ (2 : Int) = 1 by decide, show ¬ (3 : Int) = 1 by decide, show ¬ (3 : Int) = 2 by decide, show ¬ (4 : Int) = 1 by decide, show ¬ (4 : Int) = 2 by decide, show ¬ (4 : Int) = 3 by decide]
    generalize str s = S
    go_enter Try.func29, Try.ntmps29
    go_wp2_with fail
    go_ret
    exact ⟨rfl, below_new _ _⟩
end Go.Proofs.Ytcicbijpiffbkaa
