/- Walks: the reference's Args; what an instruction takes and gives, on both sides. -/
import Derived.Test.YtcicbijpiffbkaaW3
namespace Go.Proofs.Ytcicbijpiffbkaa
open Go.RowKit
set_option linter.unusedVariables false
set_option linter.unusedSimpArgs false
set_option maxRecDepth 100000
set_option maxHeartbeats 16000000

def I64 (n : Int) : Prop := -9223372036854775808 ≤ n ∧ n ≤ 9223372036854775807
def okA (d : Bool) (f : Int) : Bool := if d = true then arD f else arQ f
theorem Args_any (d : Bool) (f : Int) (hf : I64 f) (w : World) : KB 71 #[.bool d, .int .i64 f] (.tuple #[.int .i64 (if okA d f = true then arN f else 0), .bool (okA d f && arT f), .bool (okA d f)]) w := by
  unfold KB
  cases d with
  | false =>
    by_cases hq : 1 ≤ f ∧ f ≤ 11
    · have hc : f = 1 ∨ f = 2 ∨ f = 3 ∨ f = 4 ∨ f = 5 ∨ f = 6 ∨ f = 7 ∨ f = 8 ∨ f = 9 ∨ f = 10 ∨ f = 11 := by omega
      clear hq hf
      rcases hc with rfl | rfl | rfl | rfl | rfl | rfl | rfl | rfl | rfl | rfl | rfl
      all_goals
        go_enter Try.func71, Try.ntmps71
        go_wp2_with fail
        go_ret3
        exact ⟨rfl, below_new _ _⟩
    · have hk : okA false f = false := by
        unfold okA arQ
        rw [if_neg (by simp), Bool.and_eq_false_iff]
        simp only [decide_eq_false_iff_not]
        omega
      rw [hk, if_neg (by simp)]
      have h1 : (f == 4) = false ∧ (f == 5) = false ∧ (f == 11) = false := by simp only [beq_eq_false_iff_ne]; omega
      obtain ⟨n1, n2, n3⟩ := h1
      have hc : f < 1 ∨ (¬ f < 1 ∧ 12 ≤ f) := by omega
      clear hq hf hk
      rcases hc with g1 | ⟨g1, g2⟩
      all_goals
        go_enter Try.func71, Try.ntmps71
        go_wp2_with fail
        go_ret3
        exact ⟨rfl, below_new _ _⟩
  | true =>
    by_cases hq : 21 ≤ f ∧ f ≤ 27
    · have hc : f = 21 ∨ f = 22 ∨ f = 23 ∨ f = 24 ∨ f = 25 ∨ f = 26 ∨ f = 27 := by omega
      clear hq hf
      rcases hc with rfl | rfl | rfl | rfl | rfl | rfl | rfl
      all_goals
        go_enter Try.func71, Try.ntmps71
        go_wp2_with fail
        go_ret3
        exact ⟨rfl, by first | exact below_new _ _ | exact (below_new _ _).alloc (by simp) _⟩
    · have hk : okA true f = false := by
        unfold okA arD
        rw [if_pos rfl, Bool.and_eq_false_iff]
        simp only [decide_eq_false_iff_not]
        omega
      rw [hk, if_neg (by simp)]
      have h1 : (f == 24) = false ∧ (f == 25) = false ∧ (f == 26) = false := by simp only [beq_eq_false_iff_ne]; omega
      obtain ⟨n1, n2, n3⟩ := h1
      obtain ⟨k0, hk0⟩ : ∃ k, IntKind.i64.wrap (f - 21) = k := ⟨_, rfl⟩
      obtain ⟨k, hk1⟩ : ∃ k, IntKind.i64.wrap (k0 + 1) = k := ⟨_, rfl⟩
      have hc : k < 1 ∨ (¬ k < 1 ∧ 8 ≤ k) := by
        have a := hk0; have b := hk1
        rw [IntKind.wrap_i64] at a b
        obtain ⟨z1, z2⟩ := hf
        omega
      have hk0' : wrap64 (f - 21) = k0 := by have a := hk0; rw [IntKind.wrap_i64] at a; unfold wrap64; omega
      have hk1' : wrap64 (k0 + 1) = k := by have a := hk1; rw [IntKind.wrap_i64] at a; unfold wrap64; omega
      clear hq hf hk
      rcases hc with g1 | ⟨g1, g2⟩
      all_goals
        go_enter Try.func71, Try.ntmps71
        go_wp2_with fail
        all_goals
          go_ret3
          exact ⟨rfl, (below_new _ _).alloc (by simp) _⟩
theorem rstatement_any (op : Int) : KC 54 #[.int .i64 op] (.bool (stmB op)) := by
  intro w
  have hc : op = 1 ∨ op = 2 ∨ op = 4 ∨ op = 7 ∨ ((op == 1) = false ∧ (op == 2) = false ∧ (op == 4) = false ∧ (op == 7) = false) := by
    simp only [beq_eq_false_iff_ne]
    omega
  rcases hc with rfl | rfl | rfl | rfl | ⟨n1, n2, n3, n4⟩
  rotate_right
  · have h : stmB op = true := by unfold stmB; rw [n1, n2, n3, n4]; rfl
    rw [h]
    have m1 : (op != 1) = true := by rw [bne, n1]; rfl
    have m2 : (op != 2) = true := by rw [bne, n2]; rfl
    have m3 : (op != 4) = true := by rw [bne, n3]; rfl
    have m4 : (op != 7) = true := by rw [bne, n4]; rfl
    clear h
    go_enter Try.func54, Try.ntmps54
    go_wp2_with fail
    go_ret
    exact ⟨rfl, rfl⟩
  all_goals
    go_enter Try.func54, Try.ntmps54
    go_wp2_with fail
    go_ret
    exact ⟨rfl, rfl⟩
end Go.Proofs.Ytcicbijpiffbkaa
