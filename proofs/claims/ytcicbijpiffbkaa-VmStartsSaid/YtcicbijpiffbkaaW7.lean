/- Walks: the forms of an instruction. -/
import Derived.Test.YtcicbijpiffbkaaW6
import Derived.BigQuiet
namespace Go.Proofs.Ytcicbijpiffbkaa
open Go.RowKit
set_option linter.unusedVariables false
set_option linter.unusedSimpArgs false
set_option maxRecDepth 100000
set_option maxHeartbeats 8000000

theorem cells4 {w : World} {g t : Nat} {a b c d : Value} (h : w.heap[g]? = some (.cells #[a, b, c, d] t)) : w.cell? ⟨g, 0, none⟩ = some a ∧ w.cell? ⟨g, 1, none⟩ = some b ∧ w.cell? ⟨g, 2, none⟩ = some c ∧ w.cell? ⟨g, 3, none⟩ = some d := by
  refine ⟨?_, ?_, ?_, ?_⟩ <;> (rw [Lib.cell_of_heap h]; rfl)
theorem cells5 {w : World} {g t : Nat} {a b c d e : Value} (h : w.heap[g]? = some (.cells #[a, b, c, d, e] t)) : w.cell? ⟨g, 0, none⟩ = some a ∧ w.cell? ⟨g, 1, none⟩ = some b ∧ w.cell? ⟨g, 2, none⟩ = some c ∧ w.cell? ⟨g, 3, none⟩ = some d ∧ w.cell? ⟨g, 4, none⟩ = some e := by
  refine ⟨?_, ?_, ?_, ?_, ?_⟩ <;> (rw [Lib.cell_of_heap h]; rfl)
theorem op_cases2 (op : Int) : op = 1 ∨ (op = 2 ∨ op = 3) ∨ op = 4 ∨ (op = 5 ∨ op = 6) ∨ op = 7 ∨ op = 8 ∨ (op = 9 ∨ op = 11) ∨ op = 10 ∨ ((op == 1) = false ∧ (op == 2) = false ∧ (op == 3) = false ∧ (op == 4) = false ∧ (op == 5) = false ∧ (op == 6) = false ∧ (op == 7) = false ∧ (op == 8) = false ∧ (op == 9) = false ∧ (op == 10) = false ∧ (op == 11) = false) := by
  simp only [beq_eq_false_iff_ne]
  omega
theorem form_any (ao bo : Option Addr) (c m d : Nat) (es : List Ent) (f t sl : Int) (x : Ins) (hs : x.s.length ≤ 140737488355328) (hz : es.length ≤ 1000000) (w : World) (h : EntSl w (.slice ao es.length c) es) :
    KB 49 #[.agg #[.slice ao es.length c, .slice bo m d, .int .i64 f, .int .i64 t, .int .i64 sl], x.v] (.bool (formB es sl f t x)) w := by
  obtain ⟨op, a, n, s⟩ := x
  dsimp only at hs
  have HEN := Lib.hid (fun w' (hb : Below w.heap.size w w') => centry_any (.slice ao es.length c) bo m d es s w' (h.below hb) hz)
  obtain ⟨NB, hNB⟩ : ∃ b, nameB (str s) = b := ⟨_, rfl⟩
  have HNM := Lib.hid (name_any (str s) (by rw [str_size]; omega))
  rw [hNB] at HNM
  have HNB := Lib.hid (show ∀ s2, s2 = s → nameB (str s2) = NB from fun s2 e => by rw [e]; exact hNB)
  have HAR := Lib.hid (Arity_any a)
  have hT : ((str s).toList == []) = (s == []) := by rw [str_list]
  unfold KB Ins.v codeV at *
  dsimp only
  obtain ⟨w2, hw2⟩ : ∃ w2, (w.alloc (.cells #[.slice ao es.length c, .slice bo m d, .int .i64 f, .int .i64 t, .int .i64 sl] 109)).alloc (.cells #[.int .i64 op, .int .i64 a, .int .i64 n, .string (str s)] 71) = w2 := ⟨_, rfl⟩
  have hb2 : Below w.heap.size w w2 := by rw [← hw2]; exact (below_new _ _).alloc (by simp) _
  have hg2 : w2.heap[w.heap.size]? = some (.cells #[.slice ao es.length c, .slice bo m d, .int .i64 f, .int .i64 t, .int .i64 sl] 109) := by rw [← hw2, Below.heap_alloc _ _ _ (by simp)]; exact tok_new _ _
  have hi2 : w2.heap[w.heap.size + 1]? = some (.cells #[.int .i64 op, .int .i64 a, .int .i64 n, .string (str s)] 71) := by
    have h := tok_new (w.alloc (.cells #[.slice ao es.length c, .slice bo m d, .int .i64 f, .int .i64 t, .int .i64 sl] 109)) (.cells #[.int .i64 op, .int .i64 a, .int .i64 n, .string (str s)] 71)
    rw [tok_size, hw2] at h
    exact h
  have HB2 := Lib.hid hb2; have HG2 := Lib.hid hg2; have HI2 := Lib.hid hi2; have HW2 := Lib.hid hw2
  obtain ⟨R, hR⟩ : ∃ R, formB es sl f t ⟨op, a, n, s⟩ = R := ⟨_, rfl⟩
  have HR := Lib.hid hR
  rw [hR]
  obtain ⟨T, hTT⟩ : ∃ T, (s == []) = T := ⟨_, rfl⟩
  rw [hTT] at hT
  have HT := Lib.hid hTT
  unfold KC at HNM
  clear h hb2 hg2 hi2 hw2 hR hTT hs hNB
  generalize str s = S at *
  generalize es.length = k at *
  rcases op_cases2 op with rfl | (rfl | rfl) | rfl | (rfl | rfl) | rfl | rfl | (rfl | rfl) | rfl | ⟨n1, n2, n3, n4, n5, n6, n7, n8, n9, n10, n11⟩
  · cases hA : (a == 0)
    · have HRr := Lib.hid (show R = false by rw [← HR.out]; unfold formB; simp [hA, HT.out])
      clear HEN HNM HAR
      go_enter Try.func49, Try.ntmps49
      go_upto_region 1 with fail
      rw [HW2.out]
      clear HW2
      obtain ⟨g0, g1, g2, g3, g4⟩ := cells5 HG2.out
      obtain ⟨i0, i1, i2, i3⟩ := cells4 HI2.out
      go_quiet (fail)
      go_wp2_with fail
      go_ret
      exact ⟨by rw [HRr.out]; rfl, by first | exact HB2.out | exact HB2.out.drew | exact below_dN HB2.out _⟩
    · skip
      cases hTc : T
      · have HRr := Lib.hid (show R = false by rw [← HR.out]; unfold formB; simp [hA, hTc, HT.out])
        clear HEN HNM HAR
        go_enter Try.func49, Try.ntmps49
        go_upto_region 1 with fail
        rw [HW2.out]
        clear HW2
        obtain ⟨g0, g1, g2, g3, g4⟩ := cells5 HG2.out
        obtain ⟨i0, i1, i2, i3⟩ := cells4 HI2.out
        go_quiet (fail)
        go_wp2_with fail
        go_ret
        exact ⟨by rw [HRr.out]; rfl, by first | exact HB2.out | exact HB2.out.drew | exact below_dN HB2.out _⟩
      · skip
        have HRr := Lib.hid (show R = true by rw [← HR.out]; unfold formB; simp [hA, hTc, HT.out])
        clear HEN HNM HAR
        go_enter Try.func49, Try.ntmps49
        go_upto_region 1 with fail
        rw [HW2.out]
        clear HW2
        obtain ⟨g0, g1, g2, g3, g4⟩ := cells5 HG2.out
        obtain ⟨i0, i1, i2, i3⟩ := cells4 HI2.out
        go_quiet (fail)
        go_wp2_with fail
        go_ret
        exact ⟨by rw [HRr.out]; rfl, by first | exact HB2.out | exact HB2.out.drew | exact below_dN HB2.out _⟩
  · by_cases h1 : 0 ≤ a
    rotate_left
    · have HRr := Lib.hid (show R = false by rw [← HR.out]; unfold formB; simp [h1, HT.out])
      clear HEN HNM HAR
      go_enter Try.func49, Try.ntmps49
      go_upto_region 1 with fail
      rw [HW2.out]
      clear HW2
      obtain ⟨g0, g1, g2, g3, g4⟩ := cells5 HG2.out
      obtain ⟨i0, i1, i2, i3⟩ := cells4 HI2.out
      go_quiet (fail)
      go_wp2_with fail
      go_ret
      exact ⟨by rw [HRr.out]; rfl, by first | exact HB2.out | exact HB2.out.drew | exact below_dN HB2.out _⟩
    by_cases h2 : a < sl
    rotate_left
    · have HRr := Lib.hid (show R = false by rw [← HR.out]; unfold formB; simp [h1, h2, HT.out])
      clear HEN HNM HAR
      go_enter Try.func49, Try.ntmps49
      go_upto_region 1 with fail
      rw [HW2.out]
      clear HW2
      obtain ⟨g0, g1, g2, g3, g4⟩ := cells5 HG2.out
      obtain ⟨i0, i1, i2, i3⟩ := cells4 HI2.out
      go_quiet (fail)
      go_wp2_with fail
      go_ret
      exact ⟨by rw [HRr.out]; rfl, by first | exact HB2.out | exact HB2.out.drew | exact below_dN HB2.out _⟩
    cases hN : (n == 0)
    · have HRr := Lib.hid (show R = false by rw [← HR.out]; unfold formB; simp [h1, h2, hN, HT.out])
      clear HEN HNM HAR
      go_enter Try.func49, Try.ntmps49
      go_upto_region 1 with fail
      rw [HW2.out]
      clear HW2
      obtain ⟨g0, g1, g2, g3, g4⟩ := cells5 HG2.out
      obtain ⟨i0, i1, i2, i3⟩ := cells4 HI2.out
      go_quiet (fail)
      go_wp2_with fail
      go_ret
      exact ⟨by rw [HRr.out]; rfl, by first | exact HB2.out | exact HB2.out.drew | exact below_dN HB2.out _⟩
    · skip
      cases hTc : T
      · have HRr := Lib.hid (show R = false by rw [← HR.out]; unfold formB; simp [h1, h2, hN, hTc, HT.out])
        clear HEN HNM HAR
        go_enter Try.func49, Try.ntmps49
        go_upto_region 1 with fail
        rw [HW2.out]
        clear HW2
        obtain ⟨g0, g1, g2, g3, g4⟩ := cells5 HG2.out
        obtain ⟨i0, i1, i2, i3⟩ := cells4 HI2.out
        go_quiet (fail)
        go_wp2_with fail
        go_ret
        exact ⟨by rw [HRr.out]; rfl, by first | exact HB2.out | exact HB2.out.drew | exact below_dN HB2.out _⟩
      · skip
        have HRr := Lib.hid (show R = true by rw [← HR.out]; unfold formB; simp [h1, h2, hN, hTc, HT.out])
        clear HEN HNM HAR
        go_enter Try.func49, Try.ntmps49
        go_upto_region 1 with fail
        rw [HW2.out]
        clear HW2
        obtain ⟨g0, g1, g2, g3, g4⟩ := cells5 HG2.out
        obtain ⟨i0, i1, i2, i3⟩ := cells4 HI2.out
        go_quiet (fail)
        go_wp2_with fail
        go_ret
        exact ⟨by rw [HRr.out]; rfl, by first | exact HB2.out | exact HB2.out.drew | exact below_dN HB2.out _⟩
  · by_cases h1 : 0 ≤ a
    rotate_left
    · have HRr := Lib.hid (show R = false by rw [← HR.out]; unfold formB; simp [h1, HT.out])
      clear HEN HNM HAR
      go_enter Try.func49, Try.ntmps49
      go_upto_region 1 with fail
      rw [HW2.out]
      clear HW2
      obtain ⟨g0, g1, g2, g3, g4⟩ := cells5 HG2.out
      obtain ⟨i0, i1, i2, i3⟩ := cells4 HI2.out
      go_quiet (fail)
      go_wp2_with fail
      go_ret
      exact ⟨by rw [HRr.out]; rfl, by first | exact HB2.out | exact HB2.out.drew | exact below_dN HB2.out _⟩
    by_cases h2 : a < sl
    rotate_left
    · have HRr := Lib.hid (show R = false by rw [← HR.out]; unfold formB; simp [h1, h2, HT.out])
      clear HEN HNM HAR
      go_enter Try.func49, Try.ntmps49
      go_upto_region 1 with fail
      rw [HW2.out]
      clear HW2
      obtain ⟨g0, g1, g2, g3, g4⟩ := cells5 HG2.out
      obtain ⟨i0, i1, i2, i3⟩ := cells4 HI2.out
      go_quiet (fail)
      go_wp2_with fail
      go_ret
      exact ⟨by rw [HRr.out]; rfl, by first | exact HB2.out | exact HB2.out.drew | exact below_dN HB2.out _⟩
    cases hN : (n == 0)
    · have HRr := Lib.hid (show R = false by rw [← HR.out]; unfold formB; simp [h1, h2, hN, HT.out])
      clear HEN HNM HAR
      go_enter Try.func49, Try.ntmps49
      go_upto_region 1 with fail
      rw [HW2.out]
      clear HW2
      obtain ⟨g0, g1, g2, g3, g4⟩ := cells5 HG2.out
      obtain ⟨i0, i1, i2, i3⟩ := cells4 HI2.out
      go_quiet (fail)
      go_wp2_with fail
      go_ret
      exact ⟨by rw [HRr.out]; rfl, by first | exact HB2.out | exact HB2.out.drew | exact below_dN HB2.out _⟩
    · skip
      cases hTc : T
      · have HRr := Lib.hid (show R = false by rw [← HR.out]; unfold formB; simp [h1, h2, hN, hTc, HT.out])
        clear HEN HNM HAR
        go_enter Try.func49, Try.ntmps49
        go_upto_region 1 with fail
        rw [HW2.out]
        clear HW2
        obtain ⟨g0, g1, g2, g3, g4⟩ := cells5 HG2.out
        obtain ⟨i0, i1, i2, i3⟩ := cells4 HI2.out
        go_quiet (fail)
        go_wp2_with fail
        go_ret
        exact ⟨by rw [HRr.out]; rfl, by first | exact HB2.out | exact HB2.out.drew | exact below_dN HB2.out _⟩
      · skip
        have HRr := Lib.hid (show R = true by rw [← HR.out]; unfold formB; simp [h1, h2, hN, hTc, HT.out])
        clear HEN HNM HAR
        go_enter Try.func49, Try.ntmps49
        go_upto_region 1 with fail
        rw [HW2.out]
        clear HW2
        obtain ⟨g0, g1, g2, g3, g4⟩ := cells5 HG2.out
        obtain ⟨i0, i1, i2, i3⟩ := cells4 HI2.out
        go_quiet (fail)
        go_wp2_with fail
        go_ret
        exact ⟨by rw [HRr.out]; rfl, by first | exact HB2.out | exact HB2.out.drew | exact below_dN HB2.out _⟩
  · by_cases h1 : 3 ≤ a
    rotate_left
    · have HRr := Lib.hid (show R = false by rw [← HR.out]; unfold formB; simp [h1, HT.out])
      clear HEN HNM HAR
      go_enter Try.func49, Try.ntmps49
      go_upto_region 1 with fail
      rw [HW2.out]
      clear HW2
      obtain ⟨g0, g1, g2, g3, g4⟩ := cells5 HG2.out
      obtain ⟨i0, i1, i2, i3⟩ := cells4 HI2.out
      go_quiet (fail)
      go_wp2_with fail
      go_ret
      exact ⟨by rw [HRr.out]; rfl, by first | exact HB2.out | exact HB2.out.drew | exact below_dN HB2.out _⟩
    by_cases h2 : a ≤ 17
    rotate_left
    · have HRr := Lib.hid (show R = false by rw [← HR.out]; unfold formB; simp [h1, h2, HT.out])
      clear HEN HNM HAR
      go_enter Try.func49, Try.ntmps49
      go_upto_region 1 with fail
      rw [HW2.out]
      clear HW2
      obtain ⟨g0, g1, g2, g3, g4⟩ := cells5 HG2.out
      obtain ⟨i0, i1, i2, i3⟩ := cells4 HI2.out
      go_quiet (fail)
      go_wp2_with fail
      go_ret
      exact ⟨by rw [HRr.out]; rfl, by first | exact HB2.out | exact HB2.out.drew | exact below_dN HB2.out _⟩
    cases hN : (n == 0)
    · have HRr := Lib.hid (show R = false by rw [← HR.out]; unfold formB; simp [h1, h2, hN, HT.out])
      clear HEN HNM HAR
      go_enter Try.func49, Try.ntmps49
      go_upto_region 1 with fail
      rw [HW2.out]
      clear HW2
      obtain ⟨g0, g1, g2, g3, g4⟩ := cells5 HG2.out
      obtain ⟨i0, i1, i2, i3⟩ := cells4 HI2.out
      go_quiet (fail)
      go_wp2_with fail
      go_ret
      exact ⟨by rw [HRr.out]; rfl, by first | exact HB2.out | exact HB2.out.drew | exact below_dN HB2.out _⟩
    · skip
      cases hTc : T
      · have HRr := Lib.hid (show R = false by rw [← HR.out]; unfold formB; simp [h1, h2, hN, hTc, HT.out])
        clear HEN HNM HAR
        go_enter Try.func49, Try.ntmps49
        go_upto_region 1 with fail
        rw [HW2.out]
        clear HW2
        obtain ⟨g0, g1, g2, g3, g4⟩ := cells5 HG2.out
        obtain ⟨i0, i1, i2, i3⟩ := cells4 HI2.out
        go_quiet (fail)
        go_wp2_with fail
        go_ret
        exact ⟨by rw [HRr.out]; rfl, by first | exact HB2.out | exact HB2.out.drew | exact below_dN HB2.out _⟩
      · skip
        have HRr := Lib.hid (show R = true by rw [← HR.out]; unfold formB; simp [h1, h2, hN, hTc, HT.out])
        clear HEN HNM HAR
        go_enter Try.func49, Try.ntmps49
        go_upto_region 1 with fail
        rw [HW2.out]
        clear HW2
        obtain ⟨g0, g1, g2, g3, g4⟩ := cells5 HG2.out
        obtain ⟨i0, i1, i2, i3⟩ := cells4 HI2.out
        go_quiet (fail)
        go_wp2_with fail
        go_ret
        exact ⟨by rw [HRr.out]; rfl, by first | exact HB2.out | exact HB2.out.drew | exact below_dN HB2.out _⟩
  · by_cases h1 : f ≤ a
    rotate_left
    · have HRr := Lib.hid (show R = false by rw [← HR.out]; unfold formB; simp [h1, HT.out])
      clear HEN HNM HAR
      go_enter Try.func49, Try.ntmps49
      go_upto_region 1 with fail
      rw [HW2.out]
      clear HW2
      obtain ⟨g0, g1, g2, g3, g4⟩ := cells5 HG2.out
      obtain ⟨i0, i1, i2, i3⟩ := cells4 HI2.out
      go_quiet (fail)
      go_wp2_with fail
      go_ret
      exact ⟨by rw [HRr.out]; rfl, by first | exact HB2.out | exact HB2.out.drew | exact below_dN HB2.out _⟩
    by_cases h2 : a < t
    rotate_left
    · have HRr := Lib.hid (show R = false by rw [← HR.out]; unfold formB; simp [h1, h2, HT.out])
      clear HEN HNM HAR
      go_enter Try.func49, Try.ntmps49
      go_upto_region 1 with fail
      rw [HW2.out]
      clear HW2
      obtain ⟨g0, g1, g2, g3, g4⟩ := cells5 HG2.out
      obtain ⟨i0, i1, i2, i3⟩ := cells4 HI2.out
      go_quiet (fail)
      go_wp2_with fail
      go_ret
      exact ⟨by rw [HRr.out]; rfl, by first | exact HB2.out | exact HB2.out.drew | exact below_dN HB2.out _⟩
    cases hN : (n == 0)
    · have HRr := Lib.hid (show R = false by rw [← HR.out]; unfold formB; simp [h1, h2, hN, HT.out])
      clear HEN HNM HAR
      go_enter Try.func49, Try.ntmps49
      go_upto_region 1 with fail
      rw [HW2.out]
      clear HW2
      obtain ⟨g0, g1, g2, g3, g4⟩ := cells5 HG2.out
      obtain ⟨i0, i1, i2, i3⟩ := cells4 HI2.out
      go_quiet (fail)
      go_wp2_with fail
      go_ret
      exact ⟨by rw [HRr.out]; rfl, by first | exact HB2.out | exact HB2.out.drew | exact below_dN HB2.out _⟩
    · skip
      cases hTc : T
      · have HRr := Lib.hid (show R = false by rw [← HR.out]; unfold formB; simp [h1, h2, hN, hTc, HT.out])
        clear HEN HNM HAR
        go_enter Try.func49, Try.ntmps49
        go_upto_region 1 with fail
        rw [HW2.out]
        clear HW2
        obtain ⟨g0, g1, g2, g3, g4⟩ := cells5 HG2.out
        obtain ⟨i0, i1, i2, i3⟩ := cells4 HI2.out
        go_quiet (fail)
        go_wp2_with fail
        go_ret
        exact ⟨by rw [HRr.out]; rfl, by first | exact HB2.out | exact HB2.out.drew | exact below_dN HB2.out _⟩
      · skip
        have HRr := Lib.hid (show R = true by rw [← HR.out]; unfold formB; simp [h1, h2, hN, hTc, HT.out])
        clear HEN HNM HAR
        go_enter Try.func49, Try.ntmps49
        go_upto_region 1 with fail
        rw [HW2.out]
        clear HW2
        obtain ⟨g0, g1, g2, g3, g4⟩ := cells5 HG2.out
        obtain ⟨i0, i1, i2, i3⟩ := cells4 HI2.out
        go_quiet (fail)
        go_wp2_with fail
        go_ret
        exact ⟨by rw [HRr.out]; rfl, by first | exact HB2.out | exact HB2.out.drew | exact below_dN HB2.out _⟩
  · by_cases h1 : f ≤ a
    rotate_left
    · have HRr := Lib.hid (show R = false by rw [← HR.out]; unfold formB; simp [h1, HT.out])
      clear HEN HNM HAR
      go_enter Try.func49, Try.ntmps49
      go_upto_region 1 with fail
      rw [HW2.out]
      clear HW2
      obtain ⟨g0, g1, g2, g3, g4⟩ := cells5 HG2.out
      obtain ⟨i0, i1, i2, i3⟩ := cells4 HI2.out
      go_quiet (fail)
      go_wp2_with fail
      go_ret
      exact ⟨by rw [HRr.out]; rfl, by first | exact HB2.out | exact HB2.out.drew | exact below_dN HB2.out _⟩
    by_cases h2 : a < t
    rotate_left
    · have HRr := Lib.hid (show R = false by rw [← HR.out]; unfold formB; simp [h1, h2, HT.out])
      clear HEN HNM HAR
      go_enter Try.func49, Try.ntmps49
      go_upto_region 1 with fail
      rw [HW2.out]
      clear HW2
      obtain ⟨g0, g1, g2, g3, g4⟩ := cells5 HG2.out
      obtain ⟨i0, i1, i2, i3⟩ := cells4 HI2.out
      go_quiet (fail)
      go_wp2_with fail
      go_ret
      exact ⟨by rw [HRr.out]; rfl, by first | exact HB2.out | exact HB2.out.drew | exact below_dN HB2.out _⟩
    cases hN : (n == 0)
    · have HRr := Lib.hid (show R = false by rw [← HR.out]; unfold formB; simp [h1, h2, hN, HT.out])
      clear HEN HNM HAR
      go_enter Try.func49, Try.ntmps49
      go_upto_region 1 with fail
      rw [HW2.out]
      clear HW2
      obtain ⟨g0, g1, g2, g3, g4⟩ := cells5 HG2.out
      obtain ⟨i0, i1, i2, i3⟩ := cells4 HI2.out
      go_quiet (fail)
      go_wp2_with fail
      go_ret
      exact ⟨by rw [HRr.out]; rfl, by first | exact HB2.out | exact HB2.out.drew | exact below_dN HB2.out _⟩
    · skip
      cases hTc : T
      · have HRr := Lib.hid (show R = false by rw [← HR.out]; unfold formB; simp [h1, h2, hN, hTc, HT.out])
        clear HEN HNM HAR
        go_enter Try.func49, Try.ntmps49
        go_upto_region 1 with fail
        rw [HW2.out]
        clear HW2
        obtain ⟨g0, g1, g2, g3, g4⟩ := cells5 HG2.out
        obtain ⟨i0, i1, i2, i3⟩ := cells4 HI2.out
        go_quiet (fail)
        go_wp2_with fail
        go_ret
        exact ⟨by rw [HRr.out]; rfl, by first | exact HB2.out | exact HB2.out.drew | exact below_dN HB2.out _⟩
      · skip
        have HRr := Lib.hid (show R = true by rw [← HR.out]; unfold formB; simp [h1, h2, hN, hTc, HT.out])
        clear HEN HNM HAR
        go_enter Try.func49, Try.ntmps49
        go_upto_region 1 with fail
        rw [HW2.out]
        clear HW2
        obtain ⟨g0, g1, g2, g3, g4⟩ := cells5 HG2.out
        obtain ⟨i0, i1, i2, i3⟩ := cells4 HI2.out
        go_quiet (fail)
        go_wp2_with fail
        go_ret
        exact ⟨by rw [HRr.out]; rfl, by first | exact HB2.out | exact HB2.out.drew | exact below_dN HB2.out _⟩
  · cases hQ : arQ a
    · rw [hQ] at HAR
      generalize arT a = TX at HAR
      generalize arN a = AN at HAR
      have HRr := Lib.hid (show R = false by rw [← HR.out]; unfold formB; simp [hQ])
      clear HEN
      go_enter Try.func49, Try.ntmps49
      go_upto_region 1 with fail
      rw [HW2.out]
      clear HW2
      obtain ⟨g0, g1, g2, g3, g4⟩ := cells5 HG2.out
      obtain ⟨i0, i1, i2, i3⟩ := cells4 HI2.out
      go_quiet (fail)
      go_wp2_with fail
      refine (HAR.out _).mono ?_
      rintro e w3 ⟨rfl, hb3⟩
      have HB3 := Lib.hid (Below.trans (by first | exact HB2.out | exact HB2.out.drew | exact below_dN HB2.out _) (hb3.mono (by have := HB2.out.size; first | omega | (simp; omega))))
      obtain ⟨i0, i1, i2, i3⟩ := cells4 (block_below hb3 (show _ from HI2.out))
      clear hb3
      go_wp2_with fail
      go_ret
      exact ⟨by rw [HRr.out]; rfl, HB3.out⟩
    · rw [hQ] at HAR
      generalize arN a = AN at HAR
      cases hN : (n == 0)
      · have HRr := Lib.hid (show R = false by rw [← HR.out]; unfold formB; simp [hQ, hN])
        clear HEN
        go_enter Try.func49, Try.ntmps49
        go_upto_region 1 with fail
        rw [HW2.out]
        clear HW2
        obtain ⟨g0, g1, g2, g3, g4⟩ := cells5 HG2.out
        obtain ⟨i0, i1, i2, i3⟩ := cells4 HI2.out
        go_quiet (fail)
        go_wp2_with fail
        refine (HAR.out _).mono ?_
        rintro e w3 ⟨rfl, hb3⟩
        have HB3 := Lib.hid (Below.trans (by first | exact HB2.out | exact HB2.out.drew | exact below_dN HB2.out _) (hb3.mono (by have := HB2.out.size; first | omega | (simp; omega))))
        obtain ⟨i0, i1, i2, i3⟩ := cells4 (block_below hb3 (show _ from HI2.out))
        clear hb3
        go_wp2_with fail
        go_ret
        exact ⟨by rw [HRr.out]; rfl, HB3.out⟩
      · cases hTX : arT a
        · rw [hTX] at HAR
          cases hTc : T
          · have HRr := Lib.hid (show R = false by rw [← HR.out]; unfold formB; simp [hQ, hN, hTX, hTc, HT.out])
            clear HEN
            go_enter Try.func49, Try.ntmps49
            go_upto_region 1 with fail
            rw [HW2.out]
            clear HW2
            obtain ⟨g0, g1, g2, g3, g4⟩ := cells5 HG2.out
            obtain ⟨i0, i1, i2, i3⟩ := cells4 HI2.out
            go_quiet (fail)
            go_wp2_with fail
            refine (HAR.out _).mono ?_
            rintro e w3 ⟨rfl, hb3⟩
            have HB3 := Lib.hid (Below.trans (by first | exact HB2.out | exact HB2.out.drew | exact below_dN HB2.out _) (hb3.mono (by have := HB2.out.size; first | omega | (simp; omega))))
            obtain ⟨i0, i1, i2, i3⟩ := cells4 (block_below hb3 (show _ from HI2.out))
            clear hb3
            go_wp2_with fail
            go_ret
            exact ⟨by rw [HRr.out]; rfl, HB3.out⟩
          · have HRr := Lib.hid (show R = true by rw [← HR.out]; unfold formB; simp [hQ, hN, hTX, hTc, HT.out])
            clear HEN
            go_enter Try.func49, Try.ntmps49
            go_upto_region 1 with fail
            rw [HW2.out]
            clear HW2
            obtain ⟨g0, g1, g2, g3, g4⟩ := cells5 HG2.out
            obtain ⟨i0, i1, i2, i3⟩ := cells4 HI2.out
            go_quiet (fail)
            go_wp2_with fail
            refine (HAR.out _).mono ?_
            rintro e w3 ⟨rfl, hb3⟩
            have HB3 := Lib.hid (Below.trans (by first | exact HB2.out | exact HB2.out.drew | exact below_dN HB2.out _) (hb3.mono (by have := HB2.out.size; first | omega | (simp; omega))))
            obtain ⟨i0, i1, i2, i3⟩ := cells4 (block_below hb3 (show _ from HI2.out))
            clear hb3
            go_wp2_with fail
            go_ret
            exact ⟨by rw [HRr.out]; rfl, HB3.out⟩
        · rw [hTX] at HAR
          have HRr := Lib.hid (show R = NB by rw [← HR.out]; unfold formB; simp [hQ, hN, hTX, HNB.out s rfl])
          clear HEN
          clear HNB HR
          cases NB
          all_goals
            go_enter Try.func49, Try.ntmps49
            go_upto_region 1 with fail
            rw [HW2.out]
            clear HW2
            obtain ⟨g0, g1, g2, g3, g4⟩ := cells5 HG2.out
            obtain ⟨i0, i1, i2, i3⟩ := cells4 HI2.out
            go_quiet (fail)
            go_wp2_with fail
            refine (HAR.out _).mono ?_
            rintro e w3 ⟨rfl, hb3⟩
            have HB3 := Lib.hid (Below.trans (by first | exact HB2.out | exact HB2.out.drew | exact below_dN HB2.out _) (hb3.mono (by have := HB2.out.size; first | omega | (simp; omega))))
            obtain ⟨i0, i1, i2, i3⟩ := cells4 (block_below hb3 (show _ from HI2.out))
            clear hb3
            go_wp2_with fail
            refine (HNM.out _).mono ?_
            rintro e w4 ⟨rfl, rfl⟩
            go_wp2_with fail
            go_ret
            exact ⟨by rw [HRr.out]; rfl, HB3.out⟩
  · generalize arQ a = Q8 at HAR
    generalize arN a = AN at HAR
    by_cases h1 : 21 ≤ a
    rotate_left
    · generalize arT a = TX at HAR
      have HRr := Lib.hid (show R = false by rw [← HR.out]; unfold formB; simp [arD, h1])
      clear HEN
      go_enter Try.func49, Try.ntmps49
      go_upto_region 1 with fail
      rw [HW2.out]
      clear HW2
      obtain ⟨g0, g1, g2, g3, g4⟩ := cells5 HG2.out
      obtain ⟨i0, i1, i2, i3⟩ := cells4 HI2.out
      go_quiet (fail)
      go_wp2_with fail
      refine (HAR.out _).mono ?_
      rintro e w3 ⟨rfl, hb3⟩
      have HB3 := Lib.hid (Below.trans (by first | exact HB2.out | exact HB2.out.drew | exact below_dN HB2.out _) (hb3.mono (by have := HB2.out.size; first | omega | (simp; omega))))
      obtain ⟨i0, i1, i2, i3⟩ := cells4 (block_below hb3 (show _ from HI2.out))
      clear hb3
      go_wp2_with fail
      go_ret
      exact ⟨by rw [HRr.out]; rfl, HB3.out⟩
    by_cases h2 : a ≤ 27
    rotate_left
    · generalize arT a = TX at HAR
      have HRr := Lib.hid (show R = false by rw [← HR.out]; unfold formB; simp [arD, h1, h2])
      clear HEN
      go_enter Try.func49, Try.ntmps49
      go_upto_region 1 with fail
      rw [HW2.out]
      clear HW2
      obtain ⟨g0, g1, g2, g3, g4⟩ := cells5 HG2.out
      obtain ⟨i0, i1, i2, i3⟩ := cells4 HI2.out
      go_quiet (fail)
      go_wp2_with fail
      refine (HAR.out _).mono ?_
      rintro e w3 ⟨rfl, hb3⟩
      have HB3 := Lib.hid (Below.trans (by first | exact HB2.out | exact HB2.out.drew | exact below_dN HB2.out _) (hb3.mono (by have := HB2.out.size; first | omega | (simp; omega))))
      obtain ⟨i0, i1, i2, i3⟩ := cells4 (block_below hb3 (show _ from HI2.out))
      clear hb3
      go_wp2_with fail
      go_ret
      exact ⟨by rw [HRr.out]; rfl, HB3.out⟩
    cases hN : (n == 0)
    · have HRr := Lib.hid (show R = false by rw [← HR.out]; unfold formB; simp [arD, h1, h2, hN])
      clear HEN
      go_enter Try.func49, Try.ntmps49
      go_upto_region 1 with fail
      rw [HW2.out]
      clear HW2
      obtain ⟨g0, g1, g2, g3, g4⟩ := cells5 HG2.out
      obtain ⟨i0, i1, i2, i3⟩ := cells4 HI2.out
      go_quiet (fail)
      go_wp2_with fail
      refine (HAR.out _).mono ?_
      rintro e w3 ⟨rfl, hb3⟩
      have HB3 := Lib.hid (Below.trans (by first | exact HB2.out | exact HB2.out.drew | exact below_dN HB2.out _) (hb3.mono (by have := HB2.out.size; first | omega | (simp; omega))))
      obtain ⟨i0, i1, i2, i3⟩ := cells4 (block_below hb3 (show _ from HI2.out))
      clear hb3
      go_wp2_with fail
      go_ret
      exact ⟨by rw [HRr.out]; rfl, HB3.out⟩
    · cases hTX : arT a
      · rw [hTX] at HAR
        cases hTc : T
        · have HRr := Lib.hid (show R = false by rw [← HR.out]; unfold formB; simp [arD, h1, h2, hN, hTX, hTc, HT.out])
          clear HEN
          go_enter Try.func49, Try.ntmps49
          go_upto_region 1 with fail
          rw [HW2.out]
          clear HW2
          obtain ⟨g0, g1, g2, g3, g4⟩ := cells5 HG2.out
          obtain ⟨i0, i1, i2, i3⟩ := cells4 HI2.out
          go_quiet (fail)
          go_wp2_with fail
          refine (HAR.out _).mono ?_
          rintro e w3 ⟨rfl, hb3⟩
          have HB3 := Lib.hid (Below.trans (by first | exact HB2.out | exact HB2.out.drew | exact below_dN HB2.out _) (hb3.mono (by have := HB2.out.size; first | omega | (simp; omega))))
          obtain ⟨i0, i1, i2, i3⟩ := cells4 (block_below hb3 (show _ from HI2.out))
          clear hb3
          go_wp2_with fail
          go_ret
          exact ⟨by rw [HRr.out]; rfl, HB3.out⟩
        · have HRr := Lib.hid (show R = true by rw [← HR.out]; unfold formB; simp [arD, h1, h2, hN, hTX, hTc, HT.out])
          clear HEN
          go_enter Try.func49, Try.ntmps49
          go_upto_region 1 with fail
          rw [HW2.out]
          clear HW2
          obtain ⟨g0, g1, g2, g3, g4⟩ := cells5 HG2.out
          obtain ⟨i0, i1, i2, i3⟩ := cells4 HI2.out
          go_quiet (fail)
          go_wp2_with fail
          refine (HAR.out _).mono ?_
          rintro e w3 ⟨rfl, hb3⟩
          have HB3 := Lib.hid (Below.trans (by first | exact HB2.out | exact HB2.out.drew | exact below_dN HB2.out _) (hb3.mono (by have := HB2.out.size; first | omega | (simp; omega))))
          obtain ⟨i0, i1, i2, i3⟩ := cells4 (block_below hb3 (show _ from HI2.out))
          clear hb3
          go_wp2_with fail
          go_ret
          exact ⟨by rw [HRr.out]; rfl, HB3.out⟩
      · rw [hTX] at HAR
        have HRr := Lib.hid (show R = NB by rw [← HR.out]; unfold formB; simp [arD, h1, h2, hN, hTX, HNB.out s rfl])
        clear HEN
        clear HNB HR
        cases NB
        all_goals
          go_enter Try.func49, Try.ntmps49
          go_upto_region 1 with fail
          rw [HW2.out]
          clear HW2
          obtain ⟨g0, g1, g2, g3, g4⟩ := cells5 HG2.out
          obtain ⟨i0, i1, i2, i3⟩ := cells4 HI2.out
          go_quiet (fail)
          go_wp2_with fail
          refine (HAR.out _).mono ?_
          rintro e w3 ⟨rfl, hb3⟩
          have HB3 := Lib.hid (Below.trans (by first | exact HB2.out | exact HB2.out.drew | exact below_dN HB2.out _) (hb3.mono (by have := HB2.out.size; first | omega | (simp; omega))))
          obtain ⟨i0, i1, i2, i3⟩ := cells4 (block_below hb3 (show _ from HI2.out))
          clear hb3
          go_wp2_with fail
          refine (HNM.out _).mono ?_
          rintro e w4 ⟨rfl, rfl⟩
          go_wp2_with fail
          go_ret
          exact ⟨by rw [HRr.out]; rfl, HB3.out⟩
  · cases hA : (a == 0)
    · have HRr := Lib.hid (show R = false by rw [← HR.out]; unfold formB; simp [hA, HT.out])
      clear HEN HNM HAR
      go_enter Try.func49, Try.ntmps49
      go_upto_region 1 with fail
      rw [HW2.out]
      clear HW2
      obtain ⟨g0, g1, g2, g3, g4⟩ := cells5 HG2.out
      obtain ⟨i0, i1, i2, i3⟩ := cells4 HI2.out
      go_quiet (fail)
      go_wp2_with fail
      go_ret
      exact ⟨by rw [HRr.out]; rfl, by first | exact HB2.out | exact HB2.out.drew | exact below_dN HB2.out _⟩
    · skip
      cases hN : (n == 0)
      · have HRr := Lib.hid (show R = false by rw [← HR.out]; unfold formB; simp [hA, hN, HT.out])
        clear HEN HNM HAR
        go_enter Try.func49, Try.ntmps49
        go_upto_region 1 with fail
        rw [HW2.out]
        clear HW2
        obtain ⟨g0, g1, g2, g3, g4⟩ := cells5 HG2.out
        obtain ⟨i0, i1, i2, i3⟩ := cells4 HI2.out
        go_quiet (fail)
        go_wp2_with fail
        go_ret
        exact ⟨by rw [HRr.out]; rfl, by first | exact HB2.out | exact HB2.out.drew | exact below_dN HB2.out _⟩
      · skip
        cases hTc : T
        · have HRr := Lib.hid (show R = false by rw [← HR.out]; unfold formB; simp [hA, hN, hTc, HT.out])
          clear HEN HNM HAR
          go_enter Try.func49, Try.ntmps49
          go_upto_region 1 with fail
          rw [HW2.out]
          clear HW2
          obtain ⟨g0, g1, g2, g3, g4⟩ := cells5 HG2.out
          obtain ⟨i0, i1, i2, i3⟩ := cells4 HI2.out
          go_quiet (fail)
          go_wp2_with fail
          go_ret
          exact ⟨by rw [HRr.out]; rfl, by first | exact HB2.out | exact HB2.out.drew | exact below_dN HB2.out _⟩
        · skip
          have HRr := Lib.hid (show R = true by rw [← HR.out]; unfold formB; simp [hA, hN, hTc, HT.out])
          clear HEN HNM HAR
          go_enter Try.func49, Try.ntmps49
          go_upto_region 1 with fail
          rw [HW2.out]
          clear HW2
          obtain ⟨g0, g1, g2, g3, g4⟩ := cells5 HG2.out
          obtain ⟨i0, i1, i2, i3⟩ := cells4 HI2.out
          go_quiet (fail)
          go_wp2_with fail
          go_ret
          exact ⟨by rw [HRr.out]; rfl, by first | exact HB2.out | exact HB2.out.drew | exact below_dN HB2.out _⟩
  · cases hA : (a == 0)
    · have HRr := Lib.hid (show R = false by rw [← HR.out]; unfold formB; simp [hA, HT.out])
      clear HEN HNM HAR
      go_enter Try.func49, Try.ntmps49
      go_upto_region 1 with fail
      rw [HW2.out]
      clear HW2
      obtain ⟨g0, g1, g2, g3, g4⟩ := cells5 HG2.out
      obtain ⟨i0, i1, i2, i3⟩ := cells4 HI2.out
      go_quiet (fail)
      go_wp2_with fail
      go_ret
      exact ⟨by rw [HRr.out]; rfl, by first | exact HB2.out | exact HB2.out.drew | exact below_dN HB2.out _⟩
    · skip
      cases hN : (n == 0)
      · have HRr := Lib.hid (show R = false by rw [← HR.out]; unfold formB; simp [hA, hN, HT.out])
        clear HEN HNM HAR
        go_enter Try.func49, Try.ntmps49
        go_upto_region 1 with fail
        rw [HW2.out]
        clear HW2
        obtain ⟨g0, g1, g2, g3, g4⟩ := cells5 HG2.out
        obtain ⟨i0, i1, i2, i3⟩ := cells4 HI2.out
        go_quiet (fail)
        go_wp2_with fail
        go_ret
        exact ⟨by rw [HRr.out]; rfl, by first | exact HB2.out | exact HB2.out.drew | exact below_dN HB2.out _⟩
      · skip
        cases hTc : T
        · have HRr := Lib.hid (show R = false by rw [← HR.out]; unfold formB; simp [hA, hN, hTc, HT.out])
          clear HEN HNM HAR
          go_enter Try.func49, Try.ntmps49
          go_upto_region 1 with fail
          rw [HW2.out]
          clear HW2
          obtain ⟨g0, g1, g2, g3, g4⟩ := cells5 HG2.out
          obtain ⟨i0, i1, i2, i3⟩ := cells4 HI2.out
          go_quiet (fail)
          go_wp2_with fail
          go_ret
          exact ⟨by rw [HRr.out]; rfl, by first | exact HB2.out | exact HB2.out.drew | exact below_dN HB2.out _⟩
        · skip
          have HRr := Lib.hid (show R = true by rw [← HR.out]; unfold formB; simp [hA, hN, hTc, HT.out])
          clear HEN HNM HAR
          go_enter Try.func49, Try.ntmps49
          go_upto_region 1 with fail
          rw [HW2.out]
          clear HW2
          obtain ⟨g0, g1, g2, g3, g4⟩ := cells5 HG2.out
          obtain ⟨i0, i1, i2, i3⟩ := cells4 HI2.out
          go_quiet (fail)
          go_wp2_with fail
          go_ret
          exact ⟨by rw [HRr.out]; rfl, by first | exact HB2.out | exact HB2.out.drew | exact below_dN HB2.out _⟩
  · cases hA : (a == 0)
    · have HRr := Lib.hid (show R = false by rw [← HR.out]; unfold formB; simp [hA, HT.out])
      clear HEN HNM HAR
      go_enter Try.func49, Try.ntmps49
      go_upto_region 1 with fail
      rw [HW2.out]
      clear HW2
      obtain ⟨g0, g1, g2, g3, g4⟩ := cells5 HG2.out
      obtain ⟨i0, i1, i2, i3⟩ := cells4 HI2.out
      go_quiet (fail)
      go_wp2_with fail
      go_ret
      exact ⟨by rw [HRr.out]; rfl, by first | exact HB2.out | exact HB2.out.drew | exact below_dN HB2.out _⟩
    · skip
      cases hN : (n == 0)
      · have HRr := Lib.hid (show R = false by rw [← HR.out]; unfold formB; simp [hA, hN, HT.out])
        clear HEN HNM HAR
        go_enter Try.func49, Try.ntmps49
        go_upto_region 1 with fail
        rw [HW2.out]
        clear HW2
        obtain ⟨g0, g1, g2, g3, g4⟩ := cells5 HG2.out
        obtain ⟨i0, i1, i2, i3⟩ := cells4 HI2.out
        go_quiet (fail)
        go_wp2_with fail
        go_ret
        exact ⟨by rw [HRr.out]; rfl, by first | exact HB2.out | exact HB2.out.drew | exact below_dN HB2.out _⟩
      · skip
        have HRr := Lib.hid (show R = entB es s by rw [← HR.out]; unfold formB; simp [hA, hN])
        generalize entB es s = RE at *
        clear HNM HAR
        go_enter Try.func49, Try.ntmps49
        go_upto_region 1 with fail
        rw [HW2.out]
        clear HW2
        obtain ⟨g0, g1, g2, g3, g4⟩ := cells5 HG2.out
        obtain ⟨i0, i1, i2, i3⟩ := cells4 HI2.out
        go_quiet (fail)
        go_wp2_with fail
        refine (HEN.out _ (by first | exact HB2.out | exact HB2.out.drew | exact below_dN HB2.out _)).mono ?_
        rintro e w3 ⟨rfl, hb3⟩
        have HB3 := Lib.hid (Below.trans (by first | exact HB2.out | exact HB2.out.drew | exact below_dN HB2.out _) (hb3.mono (by have := HB2.out.size; first | omega | (simp; omega))))
        clear hb3
        go_wp2_with fail
        go_ret
        exact ⟨by rw [HRr.out]; rfl, HB3.out⟩
  · have HRr := Lib.hid (show R = false by
      rw [← HR.out]
      have m := And.intro n1 (And.intro n2 (And.intro n3 (And.intro n4 (And.intro n5 (And.intro n6 (And.intro n7 (And.intro n8 (And.intro n9 (And.intro n10 n11)))))))))
      simp only [beq_eq_false_iff_ne] at m
      obtain ⟨m1, m2, m3, m4, m5, m6, m7, m8, m9, m10, m11⟩ := m
      unfold formB
      simp [m1, m2, m3, m4, m5, m6, m7, m8, m9, m10, m11])
    clear HEN HNM HAR
    go_enter Try.func49, Try.ntmps49
    go_upto_region 1 with fail
    rw [HW2.out]
    clear HW2
    obtain ⟨g0, g1, g2, g3, g4⟩ := cells5 HG2.out
    obtain ⟨i0, i1, i2, i3⟩ := cells4 HI2.out
    go_quiet (fail)
    go_wp2_with fail
    go_ret
    exact ⟨by rw [HRr.out]; rfl, by first | exact HB2.out | exact HB2.out.drew | exact below_dN HB2.out _⟩
end Go.Proofs.Ytcicbijpiffbkaa
