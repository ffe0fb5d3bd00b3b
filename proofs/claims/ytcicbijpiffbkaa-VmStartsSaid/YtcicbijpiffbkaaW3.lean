/- Walks: the numbers of the functions of scripts, on both sides. -/
import Derived.Test.YtcicbijpiffbkaaW2
namespace Go.Proofs.Ytcicbijpiffbkaa
open Go.RowKit
set_option linter.unusedVariables false
set_option linter.unusedSimpArgs false
set_option maxRecDepth 100000
set_option maxHeartbeats 16000000

def knB (f : Int) : Bool := arQ f || arD f
def funV (f : Int) (s : ByteArray) : Value := .agg #[.string s, .int .i64 (if knB f = true then arN f else 0), .bool (arT f)]
theorem zero_fun (w : World) : (zeroValue 135).run Try.prog w = .ok (.agg #[.string ⟨#[]⟩, .int .i64 0, .bool false]) w := by
  have hi : (Try.prog.info? 135).bind (·.zero) = some (.agg #[.string ⟨#[]⟩, .int .i64 0, .bool false]) := by kernel_rfl
  obtain ⟨i, h1, h2⟩ := Option.bind_eq_some_iff.1 hi
  simp [zeroValue, typeInfo, h1, h2]
theorem fun_hit (f : Int) (w : World) (r j : Nat) (v : Value) (hb : w.heap[r]? = some (.map funEs 18)) (hf : Instr.findNow (.int .i64) (.int .i64 f) funEs.toList 0 = some (some (j, v))) :
    (Instr.lookup 137 (.map (some r)) (.int .i64 f) true).run Try.prog w = .ok (.tuple #[v, .bool true]) w := by
  have hk : MapKept.IsKey (.int .i64) (.int .i64 f) := by constructor
  simp only [Instr.lookup, Sem.run_bind, run_underlying fmap_u, MapKept.run_getObj_map hb, Result.andThen, Sem.run_pure, MapKept.run_checkKey int_u hk, MapKept.run_findKey int_u hf]
  rfl
theorem fun_miss (f : Int) (w : World) (r : Nat) (hb : w.heap[r]? = some (.map funEs 18)) (hf : Instr.findNow (.int .i64) (.int .i64 f) funEs.toList 0 = some none) :
    (Instr.lookup 137 (.map (some r)) (.int .i64 f) true).run Try.prog w = .ok (.tuple #[.agg #[.string ⟨#[]⟩, .int .i64 0, .bool false], .bool false]) w := by
  have hk : MapKept.IsKey (.int .i64) (.int .i64 f) := by constructor
  simp only [Instr.lookup, Sem.run_bind, run_underlying fmap_u, MapKept.run_getObj_map hb, Result.andThen, Sem.run_pure, MapKept.run_checkKey int_u hk, MapKept.run_findKey int_u hf, zero_fun]
  rfl
theorem fn_cases (f : Int) : (f = 1 ∨ f = 2 ∨ f = 3 ∨ f = 4 ∨ f = 11 ∨ f = 5 ∨ f = 6 ∨ f = 7 ∨ f = 8 ∨ f = 9 ∨ f = 10 ∨ f = 21 ∨ f = 23 ∨ f = 22 ∨ f = 24 ∨ f = 25 ∨ f = 26 ∨ f = 27) ∨ ((f == 1) = false ∧ (f == 2) = false ∧ (f == 3) = false ∧ (f == 4) = false ∧ (f == 11) = false ∧ (f == 5) = false ∧ (f == 6) = false ∧ (f == 7) = false ∧ (f == 8) = false ∧ (f == 9) = false ∧ (f == 10) = false ∧ (f == 21) = false ∧ (f == 23) = false ∧ (f == 22) = false ∧ (f == 24) = false ∧ (f == 25) = false ∧ (f == 26) = false ∧ (f == 27) = false) := by
  simp only [beq_eq_false_iff_ne]
  omega
theorem look_fun (f : Int) (w : World) (r : Nat) (hb : w.heap[r]? = some (.map funEs 18)) : ∃ s, (Instr.lookup 137 (.map (some r)) (.int .i64 f) true).run Try.prog w = .ok (.tuple #[funV f s, .bool (knB f)]) w := by
  rcases fn_cases f with (rfl | rfl | rfl | rfl | rfl | rfl | rfl | rfl | rfl | rfl | rfl | rfl | rfl | rfl | rfl | rfl | rfl | rfl) | ⟨n0, n1, n2, n3, n4, n5, n6, n7, n8, n9, n10, n11, n12, n13, n14, n15, n16, n17⟩
  · exact ⟨_, fun_hit _ w r 0 _ hb rfl⟩
  · exact ⟨_, fun_hit _ w r 1 _ hb rfl⟩
  · exact ⟨_, fun_hit _ w r 2 _ hb rfl⟩
  · exact ⟨_, fun_hit _ w r 3 _ hb rfl⟩
  · exact ⟨_, fun_hit _ w r 4 _ hb rfl⟩
  · exact ⟨_, fun_hit _ w r 5 _ hb rfl⟩
  · exact ⟨_, fun_hit _ w r 6 _ hb rfl⟩
  · exact ⟨_, fun_hit _ w r 7 _ hb rfl⟩
  · exact ⟨_, fun_hit _ w r 8 _ hb rfl⟩
  · exact ⟨_, fun_hit _ w r 9 _ hb rfl⟩
  · exact ⟨_, fun_hit _ w r 10 _ hb rfl⟩
  · exact ⟨_, fun_hit _ w r 11 _ hb rfl⟩
  · exact ⟨_, fun_hit _ w r 12 _ hb rfl⟩
  · exact ⟨_, fun_hit _ w r 13 _ hb rfl⟩
  · exact ⟨_, fun_hit _ w r 14 _ hb rfl⟩
  · exact ⟨_, fun_hit _ w r 15 _ hb rfl⟩
  · exact ⟨_, fun_hit _ w r 16 _ hb rfl⟩
  · exact ⟨_, fun_hit _ w r 17 _ hb rfl⟩
  · refine ⟨⟨#[]⟩, ?_⟩
    have h1 : knB f = false ∧ arT f = false := by
      simp only [beq_eq_false_iff_ne] at n0 n1 n2 n3 n4 n5 n6 n7 n8 n9 n10 n11 n12 n13 n14 n15 n16 n17
      unfold knB arQ arD arT
      constructor
      · rw [Bool.or_eq_false_iff, Bool.and_eq_false_iff, Bool.and_eq_false_iff]
        simp only [decide_eq_false_iff_not]
        omega
      · rw [decide_eq_false_iff_not]
        omega
    unfold funV
    rw [h1.1, h1.2, if_neg (by simp)]
    refine fun_miss f w r hb ?_
    simp [funEs, Instr.findNow, Instr.sameNow, n0, n1, n2, n3, n4, n5, n6, n7, n8, n9, n10, n11, n12, n13, n14, n15, n16, n17]
theorem squery_any (f : Int) : KC 56 #[.int .i64 f] (.bool (arQ f)) := by
  intro w
  unfold arQ
  by_cases h1 : 1 ≤ f
  · by_cases h2 : f ≤ 11
    · rw [decide_eq_true h1, decide_eq_true h2]
      go_enter Try.func56, Try.ntmps56
      go_wp2_with fail
      go_ret
      exact ⟨rfl, rfl⟩
    · rw [decide_eq_true h1, decide_eq_false h2]
      go_enter Try.func56, Try.ntmps56
      go_wp2_with fail
      go_ret
      exact ⟨rfl, rfl⟩
  · rw [decide_eq_false h1]
    go_enter Try.func56, Try.ntmps56
    go_wp2_with fail
    go_ret
    exact ⟨rfl, rfl⟩
theorem Arity_any (f : Int) (w : World) : KB 35 #[.int .i64 f] (.tuple #[.int .i64 (arN f), .bool (arT f), .bool (arQ f)]) w := by
  have HQ := Lib.hid (squery_any f)
  have HF := Lib.hid (functions_any w)
  obtain ⟨s, hl⟩ := look_fun f (w.alloc (.map funEs 18)) w.heap.size (heap_alloc_new w _)
  unfold funV at hl
  have hb : Below w.heap.size w (w.alloc (.map funEs 18)) := below_new _ _
  obtain ⟨w1, hw1⟩ : ∃ w1, w.alloc (.map funEs 18) = w1 := ⟨_, rfl⟩
  rw [hw1] at hl hb HF
  have HB := Lib.hid hb
  clear hb hw1
  unfold KB
  cases hk : knB f with
  | true =>
    rw [hk, if_pos rfl] at hl
    generalize arN f = n at *
    generalize arT f = t at *
    generalize arQ f = q at *
    have n0 : (w1.alloc (.cells #[.string s, .int .i64 n, .bool t] 135)).cell? ⟨w1.heap.size, 1, none⟩ = some (.int .i64 n) := by rw [Lib.cell_of_heap (tok_new w1 _)]; rfl
    have n1 : (w1.alloc (.cells #[.string s, .int .i64 n, .bool t] 135)).cell? ⟨w1.heap.size, 2, none⟩ = some (.bool t) := by rw [Lib.cell_of_heap (tok_new w1 _)]; rfl
    have HBA := Lib.hid (HB.out.alloc HB.out.size (.cells #[.string s, .int .i64 n, .bool t] 135))
    clear hk
    go_enter Try.func35, Try.ntmps35
    go_wp2_with fail
    refine HF.out.mono ?_
    rintro e w2 ⟨rfl, rfl⟩
    go_wp2_with fail
    go_quiet ((go_at_call 56; exact (HQ.out.quiet _ _)))
    go_wp2_with fail
    go_ret3
    exact ⟨rfl, by first | exact HBA.out | exact HBA.out.drew | exact below_dN HBA.out _⟩
  | false =>
    have h1 : arN f = -1 ∧ arT f = false ∧ arQ f = false := by
      unfold knB arQ arD at hk
      rw [Bool.or_eq_false_iff, Bool.and_eq_false_iff, Bool.and_eq_false_iff] at hk
      simp only [decide_eq_false_iff_not] at hk
      unfold arN arT arQ
      refine ⟨by rw [if_neg (by omega), if_neg (by omega), if_neg (by omega), if_neg (by omega)], by rw [decide_eq_false_iff_not]; omega, ?_⟩
      rw [Bool.and_eq_false_iff]
      simp only [decide_eq_false_iff_not]
      omega
    rw [hk, if_neg (by simp)] at hl
    rw [h1.1, h1.2.1, h1.2.2]
    generalize arT f = t at *
    have HBA := Lib.hid (HB.out.alloc HB.out.size (.cells #[.string s, .int .i64 0, .bool t] 135))
    clear hk h1
    go_enter Try.func35, Try.ntmps35
    go_wp2_with fail
    refine HF.out.mono ?_
    rintro e w2 ⟨rfl, rfl⟩
    go_wp2_with fail
    go_ret3
    exact ⟨rfl, HBA.out⟩
theorem rArity_any (f : Int) : KC 70 #[.int .i64 f] (.tuple #[.int .i64 (arN f), .bool (arT f), .bool (arQ f)]) := by
  intro w
  rcases fn_cases f with (rfl | rfl | rfl | rfl | rfl | rfl | rfl | rfl | rfl | rfl | rfl | rfl | rfl | rfl | rfl | rfl | rfl | rfl) | ⟨n0, n1, n2, n3, n4, n5, n6, n7, n8, n9, n10, n11, n12, n13, n14, n15, n16, n17⟩
  rotate_right
  · have h1 : arN f = -1 ∧ arT f = false ∧ arQ f = false := by
      have m := And.intro n0 (And.intro n1 (And.intro n2 (And.intro n3 (And.intro n4 (And.intro n5 (And.intro n6 (And.intro n7 (And.intro n8 (And.intro n9 (And.intro n10 (And.intro n11 (And.intro n12 (And.intro n13 (And.intro n14 (And.intro n15 (And.intro n16 n17))))))))))))))))
      simp only [beq_eq_false_iff_ne] at m
      unfold arN arT arQ
      refine ⟨by rw [if_neg (by omega), if_neg (by omega), if_neg (by omega), if_neg (by omega)], by rw [decide_eq_false_iff_not]; omega, ?_⟩
      rw [Bool.and_eq_false_iff]
      simp only [decide_eq_false_iff_not]
      omega
    rw [h1.1, h1.2.1, h1.2.2]
    clear h1
    go_enter Try.func70, Try.ntmps70
    go_wp2_with fail
    go_ret3
    exact ⟨rfl, rfl⟩
  all_goals
    go_enter Try.func70, Try.ntmps70
    go_wp2_with fail
    go_ret3
    exact ⟨rfl, rfl⟩
end Go.Proofs.Ytcicbijpiffbkaa
