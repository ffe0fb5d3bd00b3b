/- Walks: the forms of an instruction, the reference's side. -/
import Derived.Test.YtcicbijpiffbkaaW7
namespace Go.Proofs.Ytcicbijpiffbkaa
open Go.RowKit
set_option linter.unusedVariables false
set_option linter.unusedSimpArgs false
set_option maxRecDepth 100000
set_option maxHeartbeats 8000000

theorem rform_any (ao bo : Option Addr) (k c m d : Nat) (es : List Ent) (f t sl : Int) (x : Ins) (ha : I64 x.a) (hs : x.s.length ≤ 140737488355328) (hk : es.length = k) (hz : k ≤ 1000000) (w : World) (h : es = [] ∨ ∃ a, ao = some a ∧ EntAt w a es) :
    KB 52 #[codeV (.slice ao k c) (.slice bo m d), x.v, .int .i64 sl, .int .i64 f, .int .i64 t] (.bool (formB es sl f t x)) w := by
  obtain ⟨op, a, n, s⟩ := x
  dsimp only at hs ha
  have HEN := Lib.hid (fun w' (hb : Below w.heap.size w w') => rentry_any ao bo k c m d es s hk hz w' (h.imp id fun ⟨a, e, y⟩ => ⟨a, e, y.below Ent.l_len hb⟩))
  obtain ⟨NB, hNB⟩ : ∃ b, nameB (str s) = b := ⟨_, rfl⟩
  have HNM := Lib.hid (rName_any (str s) (by rw [str_size]; omega))
  rw [hNB] at HNM
  have HNB := Lib.hid (show ∀ s2, s2 = s → nameB (str s2) = NB from fun s2 e => by rw [e]; exact hNB)
  have HAR := Lib.hid (fun d w' => Args_any d a ha w')
  have hT : ((str s).toList == []) = (s == []) := by rw [str_list]
  unfold KB Ins.v codeV at *
  dsimp only
  obtain ⟨w2, hw2⟩ : ∃ w2, (w.alloc (.cells #[.slice ao k c, .slice bo m d] 25)).alloc (.cells #[.int .i64 op, .int .i64 a, .int .i64 n, .string (str s)] 71) = w2 := ⟨_, rfl⟩
  have hb2 : Below w.heap.size w w2 := by rw [← hw2]; exact (below_new _ _).alloc (by simp) _
  have hg2 : w2.heap[w.heap.size]? = some (.cells #[.slice ao k c, .slice bo m d] 25) := by rw [← hw2, Below.heap_alloc _ _ _ (by simp)]; exact tok_new _ _
  have hi2 : w2.heap[w.heap.size + 1]? = some (.cells #[.int .i64 op, .int .i64 a, .int .i64 n, .string (str s)] 71) := by
    have h := tok_new (w.alloc (.cells #[.slice ao k c, .slice bo m d] 25)) (.cells #[.int .i64 op, .int .i64 a, .int .i64 n, .string (str s)] 71)
    rw [tok_size, hw2] at h
    exact h
  have HB2 := Lib.hid hb2; have HG2 := Lib.hid hg2; have HI2 := Lib.hid hi2; have HW2 := Lib.hid hw2
  obtain ⟨R, hR⟩ : ∃ R, formB es sl f t ⟨op, a, n, s⟩ = R := ⟨_, rfl⟩
  have HR := Lib.hid hR
  rw [hR]
  obtain ⟨T, hTT⟩ : ∃ T, (s == []) = T := ⟨_, rfl⟩
  rw [hTT] at hT
  have HT := Lib.hid hTT
  obtain ⟨N, hN⟩ : ∃ N, (n == 0) = N := ⟨_, rfl⟩
  have hN2 : (n != 0) = !N := by rw [bne, hN]
  have hT2 : ((str s).toList != []) = !T := by rw [bne, hT]
  have hT3 : (str s).toList.isEmpty = T := by rw [← hT]; cases (str s).toList <;> rfl
  have HN := Lib.hid hN
  unfold KC at HNM
  clear h hb2 hg2 hi2 hw2 hR hTT hs hNB ha hk hN hT
  generalize str s = S at *
  rcases op_cases2 op with rfl | (rfl | rfl) | rfl | (rfl | rfl) | rfl | rfl | (rfl | rfl) | rfl | ⟨n1, n2, n3, n4, n5, n6, n7, n8, n9, n10, n11⟩
  · cases T
    · have HRr := Lib.hid (show R = false by rw [← HR.out]; unfold formB; simp [HT.out, HN.out])
      clear HEN HNM HAR
      go_enter Try.func52, Try.ntmps52
      go_upto_region 1 with fail
      rw [HW2.out]
      clear HW2
      have g0 : w2.cell? ⟨w.heap.size, 0, none⟩ = some (.slice ao k c) := by rw [Lib.cell_of_heap HG2.out]; rfl
      have g1 : w2.cell? ⟨w.heap.size, 1, none⟩ = some (.slice bo m d) := by rw [Lib.cell_of_heap HG2.out]; rfl
      obtain ⟨i0, i1, i2, i3⟩ := cells4 HI2.out
      go_wp2_with fail
      go_ret
      exact ⟨by rw [HRr.out]; rfl, HB2.out⟩
    · skip
      cases hA : (a == 0)
      · have HRr := Lib.hid (show R = false by rw [← HR.out]; unfold formB; simp [HT.out, HN.out, hA])
        clear HEN HNM HAR
        go_enter Try.func52, Try.ntmps52
        go_upto_region 1 with fail
        rw [HW2.out]
        clear HW2
        have g0 : w2.cell? ⟨w.heap.size, 0, none⟩ = some (.slice ao k c) := by rw [Lib.cell_of_heap HG2.out]; rfl
        have g1 : w2.cell? ⟨w.heap.size, 1, none⟩ = some (.slice bo m d) := by rw [Lib.cell_of_heap HG2.out]; rfl
        obtain ⟨i0, i1, i2, i3⟩ := cells4 HI2.out
        go_wp2_with fail
        go_ret
        exact ⟨by rw [HRr.out]; rfl, HB2.out⟩
      · skip
        have HRr := Lib.hid (show R = true by rw [← HR.out]; unfold formB; simp [HT.out, HN.out, hA])
        clear HEN HNM HAR
        go_enter Try.func52, Try.ntmps52
        go_upto_region 1 with fail
        rw [HW2.out]
        clear HW2
        have g0 : w2.cell? ⟨w.heap.size, 0, none⟩ = some (.slice ao k c) := by rw [Lib.cell_of_heap HG2.out]; rfl
        have g1 : w2.cell? ⟨w.heap.size, 1, none⟩ = some (.slice bo m d) := by rw [Lib.cell_of_heap HG2.out]; rfl
        obtain ⟨i0, i1, i2, i3⟩ := cells4 HI2.out
        go_wp2_with fail
        go_ret
        exact ⟨by rw [HRr.out]; rfl, HB2.out⟩
  · cases N
    · have HRr := Lib.hid (show R = false by rw [← HR.out]; unfold formB; simp [HT.out, HN.out])
      clear HEN HNM HAR
      go_enter Try.func52, Try.ntmps52
      go_upto_region 1 with fail
      rw [HW2.out]
      clear HW2
      have g0 : w2.cell? ⟨w.heap.size, 0, none⟩ = some (.slice ao k c) := by rw [Lib.cell_of_heap HG2.out]; rfl
      have g1 : w2.cell? ⟨w.heap.size, 1, none⟩ = some (.slice bo m d) := by rw [Lib.cell_of_heap HG2.out]; rfl
      obtain ⟨i0, i1, i2, i3⟩ := cells4 HI2.out
      go_wp2_with fail
      go_ret
      exact ⟨by rw [HRr.out]; rfl, HB2.out⟩
    · skip
      cases T
      · have HRr := Lib.hid (show R = false by rw [← HR.out]; unfold formB; simp [HT.out, HN.out])
        clear HEN HNM HAR
        go_enter Try.func52, Try.ntmps52
        go_upto_region 1 with fail
        rw [HW2.out]
        clear HW2
        have g0 : w2.cell? ⟨w.heap.size, 0, none⟩ = some (.slice ao k c) := by rw [Lib.cell_of_heap HG2.out]; rfl
        have g1 : w2.cell? ⟨w.heap.size, 1, none⟩ = some (.slice bo m d) := by rw [Lib.cell_of_heap HG2.out]; rfl
        obtain ⟨i0, i1, i2, i3⟩ := cells4 HI2.out
        go_wp2_with fail
        go_ret
        exact ⟨by rw [HRr.out]; rfl, HB2.out⟩
      · skip
        by_cases h1 : 0 ≤ a
        rotate_left
        · have HRr := Lib.hid (show R = false by rw [← HR.out]; unfold formB; simp [HT.out, HN.out, h1])
          clear HEN HNM HAR
          go_enter Try.func52, Try.ntmps52
          go_upto_region 1 with fail
          rw [HW2.out]
          clear HW2
          have g0 : w2.cell? ⟨w.heap.size, 0, none⟩ = some (.slice ao k c) := by rw [Lib.cell_of_heap HG2.out]; rfl
          have g1 : w2.cell? ⟨w.heap.size, 1, none⟩ = some (.slice bo m d) := by rw [Lib.cell_of_heap HG2.out]; rfl
          obtain ⟨i0, i1, i2, i3⟩ := cells4 HI2.out
          go_wp2_with fail
          go_ret
          exact ⟨by rw [HRr.out]; rfl, HB2.out⟩
        by_cases h2 : a < sl
        rotate_left
        · have HRr := Lib.hid (show R = false by rw [← HR.out]; unfold formB; simp [HT.out, HN.out, h1, h2])
          clear HEN HNM HAR
          go_enter Try.func52, Try.ntmps52
          go_upto_region 1 with fail
          rw [HW2.out]
          clear HW2
          have g0 : w2.cell? ⟨w.heap.size, 0, none⟩ = some (.slice ao k c) := by rw [Lib.cell_of_heap HG2.out]; rfl
          have g1 : w2.cell? ⟨w.heap.size, 1, none⟩ = some (.slice bo m d) := by rw [Lib.cell_of_heap HG2.out]; rfl
          obtain ⟨i0, i1, i2, i3⟩ := cells4 HI2.out
          go_wp2_with fail
          go_ret
          exact ⟨by rw [HRr.out]; rfl, HB2.out⟩
        have HRr := Lib.hid (show R = true by rw [← HR.out]; unfold formB; simp [HT.out, HN.out, h1, h2])
        clear HEN HNM HAR
        go_enter Try.func52, Try.ntmps52
        go_upto_region 1 with fail
        rw [HW2.out]
        clear HW2
        have g0 : w2.cell? ⟨w.heap.size, 0, none⟩ = some (.slice ao k c) := by rw [Lib.cell_of_heap HG2.out]; rfl
        have g1 : w2.cell? ⟨w.heap.size, 1, none⟩ = some (.slice bo m d) := by rw [Lib.cell_of_heap HG2.out]; rfl
        obtain ⟨i0, i1, i2, i3⟩ := cells4 HI2.out
        go_wp2_with fail
        go_ret
        exact ⟨by rw [HRr.out]; rfl, HB2.out⟩
  · cases N
    · have HRr := Lib.hid (show R = false by rw [← HR.out]; unfold formB; simp [HT.out, HN.out])
      clear HEN HNM HAR
      go_enter Try.func52, Try.ntmps52
      go_upto_region 1 with fail
      rw [HW2.out]
      clear HW2
      have g0 : w2.cell? ⟨w.heap.size, 0, none⟩ = some (.slice ao k c) := by rw [Lib.cell_of_heap HG2.out]; rfl
      have g1 : w2.cell? ⟨w.heap.size, 1, none⟩ = some (.slice bo m d) := by rw [Lib.cell_of_heap HG2.out]; rfl
      obtain ⟨i0, i1, i2, i3⟩ := cells4 HI2.out
      go_wp2_with fail
      go_ret
      exact ⟨by rw [HRr.out]; rfl, HB2.out⟩
    · skip
      cases T
      · have HRr := Lib.hid (show R = false by rw [← HR.out]; unfold formB; simp [HT.out, HN.out])
        clear HEN HNM HAR
        go_enter Try.func52, Try.ntmps52
        go_upto_region 1 with fail
        rw [HW2.out]
        clear HW2
        have g0 : w2.cell? ⟨w.heap.size, 0, none⟩ = some (.slice ao k c) := by rw [Lib.cell_of_heap HG2.out]; rfl
        have g1 : w2.cell? ⟨w.heap.size, 1, none⟩ = some (.slice bo m d) := by rw [Lib.cell_of_heap HG2.out]; rfl
        obtain ⟨i0, i1, i2, i3⟩ := cells4 HI2.out
        go_wp2_with fail
        go_ret
        exact ⟨by rw [HRr.out]; rfl, HB2.out⟩
      · skip
        by_cases h1 : 0 ≤ a
        rotate_left
        · have HRr := Lib.hid (show R = false by rw [← HR.out]; unfold formB; simp [HT.out, HN.out, h1])
          clear HEN HNM HAR
          go_enter Try.func52, Try.ntmps52
          go_upto_region 1 with fail
          rw [HW2.out]
          clear HW2
          have g0 : w2.cell? ⟨w.heap.size, 0, none⟩ = some (.slice ao k c) := by rw [Lib.cell_of_heap HG2.out]; rfl
          have g1 : w2.cell? ⟨w.heap.size, 1, none⟩ = some (.slice bo m d) := by rw [Lib.cell_of_heap HG2.out]; rfl
          obtain ⟨i0, i1, i2, i3⟩ := cells4 HI2.out
          go_wp2_with fail
          go_ret
          exact ⟨by rw [HRr.out]; rfl, HB2.out⟩
        by_cases h2 : a < sl
        rotate_left
        · have HRr := Lib.hid (show R = false by rw [← HR.out]; unfold formB; simp [HT.out, HN.out, h1, h2])
          clear HEN HNM HAR
          go_enter Try.func52, Try.ntmps52
          go_upto_region 1 with fail
          rw [HW2.out]
          clear HW2
          have g0 : w2.cell? ⟨w.heap.size, 0, none⟩ = some (.slice ao k c) := by rw [Lib.cell_of_heap HG2.out]; rfl
          have g1 : w2.cell? ⟨w.heap.size, 1, none⟩ = some (.slice bo m d) := by rw [Lib.cell_of_heap HG2.out]; rfl
          obtain ⟨i0, i1, i2, i3⟩ := cells4 HI2.out
          go_wp2_with fail
          go_ret
          exact ⟨by rw [HRr.out]; rfl, HB2.out⟩
        have HRr := Lib.hid (show R = true by rw [← HR.out]; unfold formB; simp [HT.out, HN.out, h1, h2])
        clear HEN HNM HAR
        go_enter Try.func52, Try.ntmps52
        go_upto_region 1 with fail
        rw [HW2.out]
        clear HW2
        have g0 : w2.cell? ⟨w.heap.size, 0, none⟩ = some (.slice ao k c) := by rw [Lib.cell_of_heap HG2.out]; rfl
        have g1 : w2.cell? ⟨w.heap.size, 1, none⟩ = some (.slice bo m d) := by rw [Lib.cell_of_heap HG2.out]; rfl
        obtain ⟨i0, i1, i2, i3⟩ := cells4 HI2.out
        go_wp2_with fail
        go_ret
        exact ⟨by rw [HRr.out]; rfl, HB2.out⟩
  · cases N
    · have HRr := Lib.hid (show R = false by rw [← HR.out]; unfold formB; simp [HT.out, HN.out])
      clear HEN HNM HAR
      go_enter Try.func52, Try.ntmps52
      go_upto_region 1 with fail
      rw [HW2.out]
      clear HW2
      have g0 : w2.cell? ⟨w.heap.size, 0, none⟩ = some (.slice ao k c) := by rw [Lib.cell_of_heap HG2.out]; rfl
      have g1 : w2.cell? ⟨w.heap.size, 1, none⟩ = some (.slice bo m d) := by rw [Lib.cell_of_heap HG2.out]; rfl
      obtain ⟨i0, i1, i2, i3⟩ := cells4 HI2.out
      go_wp2_with fail
      go_ret
      exact ⟨by rw [HRr.out]; rfl, HB2.out⟩
    · skip
      cases T
      · have HRr := Lib.hid (show R = false by rw [← HR.out]; unfold formB; simp [HT.out, HN.out])
        clear HEN HNM HAR
        go_enter Try.func52, Try.ntmps52
        go_upto_region 1 with fail
        rw [HW2.out]
        clear HW2
        have g0 : w2.cell? ⟨w.heap.size, 0, none⟩ = some (.slice ao k c) := by rw [Lib.cell_of_heap HG2.out]; rfl
        have g1 : w2.cell? ⟨w.heap.size, 1, none⟩ = some (.slice bo m d) := by rw [Lib.cell_of_heap HG2.out]; rfl
        obtain ⟨i0, i1, i2, i3⟩ := cells4 HI2.out
        go_wp2_with fail
        go_ret
        exact ⟨by rw [HRr.out]; rfl, HB2.out⟩
      · skip
        by_cases h1 : 3 ≤ a
        rotate_left
        · have HRr := Lib.hid (show R = false by rw [← HR.out]; unfold formB; simp [HT.out, HN.out, h1])
          clear HEN HNM HAR
          go_enter Try.func52, Try.ntmps52
          go_upto_region 1 with fail
          rw [HW2.out]
          clear HW2
          have g0 : w2.cell? ⟨w.heap.size, 0, none⟩ = some (.slice ao k c) := by rw [Lib.cell_of_heap HG2.out]; rfl
          have g1 : w2.cell? ⟨w.heap.size, 1, none⟩ = some (.slice bo m d) := by rw [Lib.cell_of_heap HG2.out]; rfl
          obtain ⟨i0, i1, i2, i3⟩ := cells4 HI2.out
          go_wp2_with fail
          go_ret
          exact ⟨by rw [HRr.out]; rfl, HB2.out⟩
        by_cases h2 : a ≤ 17
        rotate_left
        · have HRr := Lib.hid (show R = false by rw [← HR.out]; unfold formB; simp [HT.out, HN.out, h1, h2])
          clear HEN HNM HAR
          go_enter Try.func52, Try.ntmps52
          go_upto_region 1 with fail
          rw [HW2.out]
          clear HW2
          have g0 : w2.cell? ⟨w.heap.size, 0, none⟩ = some (.slice ao k c) := by rw [Lib.cell_of_heap HG2.out]; rfl
          have g1 : w2.cell? ⟨w.heap.size, 1, none⟩ = some (.slice bo m d) := by rw [Lib.cell_of_heap HG2.out]; rfl
          obtain ⟨i0, i1, i2, i3⟩ := cells4 HI2.out
          go_wp2_with fail
          go_ret
          exact ⟨by rw [HRr.out]; rfl, HB2.out⟩
        have HRr := Lib.hid (show R = true by rw [← HR.out]; unfold formB; simp [HT.out, HN.out, h1, h2])
        clear HEN HNM HAR
        go_enter Try.func52, Try.ntmps52
        go_upto_region 1 with fail
        rw [HW2.out]
        clear HW2
        have g0 : w2.cell? ⟨w.heap.size, 0, none⟩ = some (.slice ao k c) := by rw [Lib.cell_of_heap HG2.out]; rfl
        have g1 : w2.cell? ⟨w.heap.size, 1, none⟩ = some (.slice bo m d) := by rw [Lib.cell_of_heap HG2.out]; rfl
        obtain ⟨i0, i1, i2, i3⟩ := cells4 HI2.out
        go_wp2_with fail
        go_ret
        exact ⟨by rw [HRr.out]; rfl, HB2.out⟩
  · cases N
    · have HRr := Lib.hid (show R = false by rw [← HR.out]; unfold formB; simp [HT.out, HN.out])
      clear HEN HNM HAR
      go_enter Try.func52, Try.ntmps52
      go_upto_region 1 with fail
      rw [HW2.out]
      clear HW2
      have g0 : w2.cell? ⟨w.heap.size, 0, none⟩ = some (.slice ao k c) := by rw [Lib.cell_of_heap HG2.out]; rfl
      have g1 : w2.cell? ⟨w.heap.size, 1, none⟩ = some (.slice bo m d) := by rw [Lib.cell_of_heap HG2.out]; rfl
      obtain ⟨i0, i1, i2, i3⟩ := cells4 HI2.out
      go_wp2_with fail
      go_ret
      exact ⟨by rw [HRr.out]; rfl, HB2.out⟩
    · skip
      cases T
      · have HRr := Lib.hid (show R = false by rw [← HR.out]; unfold formB; simp [HT.out, HN.out])
        clear HEN HNM HAR
        go_enter Try.func52, Try.ntmps52
        go_upto_region 1 with fail
        rw [HW2.out]
        clear HW2
        have g0 : w2.cell? ⟨w.heap.size, 0, none⟩ = some (.slice ao k c) := by rw [Lib.cell_of_heap HG2.out]; rfl
        have g1 : w2.cell? ⟨w.heap.size, 1, none⟩ = some (.slice bo m d) := by rw [Lib.cell_of_heap HG2.out]; rfl
        obtain ⟨i0, i1, i2, i3⟩ := cells4 HI2.out
        go_wp2_with fail
        go_ret
        exact ⟨by rw [HRr.out]; rfl, HB2.out⟩
      · skip
        by_cases h1 : f ≤ a
        rotate_left
        · have HRr := Lib.hid (show R = false by rw [← HR.out]; unfold formB; simp [HT.out, HN.out, h1])
          clear HEN HNM HAR
          go_enter Try.func52, Try.ntmps52
          go_upto_region 1 with fail
          rw [HW2.out]
          clear HW2
          have g0 : w2.cell? ⟨w.heap.size, 0, none⟩ = some (.slice ao k c) := by rw [Lib.cell_of_heap HG2.out]; rfl
          have g1 : w2.cell? ⟨w.heap.size, 1, none⟩ = some (.slice bo m d) := by rw [Lib.cell_of_heap HG2.out]; rfl
          obtain ⟨i0, i1, i2, i3⟩ := cells4 HI2.out
          go_wp2_with fail
          go_ret
          exact ⟨by rw [HRr.out]; rfl, HB2.out⟩
        by_cases h2 : a < t
        rotate_left
        · have HRr := Lib.hid (show R = false by rw [← HR.out]; unfold formB; simp [HT.out, HN.out, h1, h2])
          clear HEN HNM HAR
          go_enter Try.func52, Try.ntmps52
          go_upto_region 1 with fail
          rw [HW2.out]
          clear HW2
          have g0 : w2.cell? ⟨w.heap.size, 0, none⟩ = some (.slice ao k c) := by rw [Lib.cell_of_heap HG2.out]; rfl
          have g1 : w2.cell? ⟨w.heap.size, 1, none⟩ = some (.slice bo m d) := by rw [Lib.cell_of_heap HG2.out]; rfl
          obtain ⟨i0, i1, i2, i3⟩ := cells4 HI2.out
          go_wp2_with fail
          go_ret
          exact ⟨by rw [HRr.out]; rfl, HB2.out⟩
        have HRr := Lib.hid (show R = true by rw [← HR.out]; unfold formB; simp [HT.out, HN.out, h1, h2])
        clear HEN HNM HAR
        go_enter Try.func52, Try.ntmps52
        go_upto_region 1 with fail
        rw [HW2.out]
        clear HW2
        have g0 : w2.cell? ⟨w.heap.size, 0, none⟩ = some (.slice ao k c) := by rw [Lib.cell_of_heap HG2.out]; rfl
        have g1 : w2.cell? ⟨w.heap.size, 1, none⟩ = some (.slice bo m d) := by rw [Lib.cell_of_heap HG2.out]; rfl
        obtain ⟨i0, i1, i2, i3⟩ := cells4 HI2.out
        go_wp2_with fail
        go_ret
        exact ⟨by rw [HRr.out]; rfl, HB2.out⟩
  · cases N
    · have HRr := Lib.hid (show R = false by rw [← HR.out]; unfold formB; simp [HT.out, HN.out])
      clear HEN HNM HAR
      go_enter Try.func52, Try.ntmps52
      go_upto_region 1 with fail
      rw [HW2.out]
      clear HW2
      have g0 : w2.cell? ⟨w.heap.size, 0, none⟩ = some (.slice ao k c) := by rw [Lib.cell_of_heap HG2.out]; rfl
      have g1 : w2.cell? ⟨w.heap.size, 1, none⟩ = some (.slice bo m d) := by rw [Lib.cell_of_heap HG2.out]; rfl
      obtain ⟨i0, i1, i2, i3⟩ := cells4 HI2.out
      go_wp2_with fail
      go_ret
      exact ⟨by rw [HRr.out]; rfl, HB2.out⟩
    · skip
      cases T
      · have HRr := Lib.hid (show R = false by rw [← HR.out]; unfold formB; simp [HT.out, HN.out])
        clear HEN HNM HAR
        go_enter Try.func52, Try.ntmps52
        go_upto_region 1 with fail
        rw [HW2.out]
        clear HW2
        have g0 : w2.cell? ⟨w.heap.size, 0, none⟩ = some (.slice ao k c) := by rw [Lib.cell_of_heap HG2.out]; rfl
        have g1 : w2.cell? ⟨w.heap.size, 1, none⟩ = some (.slice bo m d) := by rw [Lib.cell_of_heap HG2.out]; rfl
        obtain ⟨i0, i1, i2, i3⟩ := cells4 HI2.out
        go_wp2_with fail
        go_ret
        exact ⟨by rw [HRr.out]; rfl, HB2.out⟩
      · skip
        by_cases h1 : f ≤ a
        rotate_left
        · have HRr := Lib.hid (show R = false by rw [← HR.out]; unfold formB; simp [HT.out, HN.out, h1])
          clear HEN HNM HAR
          go_enter Try.func52, Try.ntmps52
          go_upto_region 1 with fail
          rw [HW2.out]
          clear HW2
          have g0 : w2.cell? ⟨w.heap.size, 0, none⟩ = some (.slice ao k c) := by rw [Lib.cell_of_heap HG2.out]; rfl
          have g1 : w2.cell? ⟨w.heap.size, 1, none⟩ = some (.slice bo m d) := by rw [Lib.cell_of_heap HG2.out]; rfl
          obtain ⟨i0, i1, i2, i3⟩ := cells4 HI2.out
          go_wp2_with fail
          go_ret
          exact ⟨by rw [HRr.out]; rfl, HB2.out⟩
        by_cases h2 : a < t
        rotate_left
        · have HRr := Lib.hid (show R = false by rw [← HR.out]; unfold formB; simp [HT.out, HN.out, h1, h2])
          clear HEN HNM HAR
          go_enter Try.func52, Try.ntmps52
          go_upto_region 1 with fail
          rw [HW2.out]
          clear HW2
          have g0 : w2.cell? ⟨w.heap.size, 0, none⟩ = some (.slice ao k c) := by rw [Lib.cell_of_heap HG2.out]; rfl
          have g1 : w2.cell? ⟨w.heap.size, 1, none⟩ = some (.slice bo m d) := by rw [Lib.cell_of_heap HG2.out]; rfl
          obtain ⟨i0, i1, i2, i3⟩ := cells4 HI2.out
          go_wp2_with fail
          go_ret
          exact ⟨by rw [HRr.out]; rfl, HB2.out⟩
        have HRr := Lib.hid (show R = true by rw [← HR.out]; unfold formB; simp [HT.out, HN.out, h1, h2])
        clear HEN HNM HAR
        go_enter Try.func52, Try.ntmps52
        go_upto_region 1 with fail
        rw [HW2.out]
        clear HW2
        have g0 : w2.cell? ⟨w.heap.size, 0, none⟩ = some (.slice ao k c) := by rw [Lib.cell_of_heap HG2.out]; rfl
        have g1 : w2.cell? ⟨w.heap.size, 1, none⟩ = some (.slice bo m d) := by rw [Lib.cell_of_heap HG2.out]; rfl
        obtain ⟨i0, i1, i2, i3⟩ := cells4 HI2.out
        go_wp2_with fail
        go_ret
        exact ⟨by rw [HRr.out]; rfl, HB2.out⟩
  · cases N
    · have HRr := Lib.hid (show R = false by rw [← HR.out]; unfold formB; simp [HT.out, HN.out])
      clear HEN HNM HAR
      go_enter Try.func52, Try.ntmps52
      go_upto_region 1 with fail
      rw [HW2.out]
      clear HW2
      have g0 : w2.cell? ⟨w.heap.size, 0, none⟩ = some (.slice ao k c) := by rw [Lib.cell_of_heap HG2.out]; rfl
      have g1 : w2.cell? ⟨w.heap.size, 1, none⟩ = some (.slice bo m d) := by rw [Lib.cell_of_heap HG2.out]; rfl
      obtain ⟨i0, i1, i2, i3⟩ := cells4 HI2.out
      go_wp2_with fail
      go_ret
      exact ⟨by rw [HRr.out]; rfl, HB2.out⟩
    · have HAQ := Lib.hid (HAR.out false)
      clear HAR HEN
      cases T
      all_goals
        cases hQ : arQ a
        · rw [show okA false a = false from hQ, if_neg (by simp), Bool.false_and] at HAQ
          have HRr := Lib.hid (show R = false by rw [← HR.out]; unfold formB; simp [HT.out, HN.out, hQ])
          clear HNM
          go_enter Try.func52, Try.ntmps52
          go_upto_region 1 with fail
          rw [HW2.out]
          clear HW2
          have g0 : w2.cell? ⟨w.heap.size, 0, none⟩ = some (.slice ao k c) := by rw [Lib.cell_of_heap HG2.out]; rfl
          have g1 : w2.cell? ⟨w.heap.size, 1, none⟩ = some (.slice bo m d) := by rw [Lib.cell_of_heap HG2.out]; rfl
          obtain ⟨i0, i1, i2, i3⟩ := cells4 HI2.out
          go_wp2_with fail
          refine (HAQ.out _).mono ?_
          rintro e w3 ⟨rfl, hb3⟩
          have HB3 := Lib.hid (HB2.out.trans (hb3.mono HB2.out.size))
          obtain ⟨i0, i1, i2, i3⟩ := cells4 (block_below hb3 HI2.out)
          clear hb3
          go_wp2_with fail
          go_ret
          exact ⟨by rw [HRr.out]; rfl, HB3.out⟩
        · rw [show okA false a = true from hQ, if_pos rfl, Bool.true_and] at HAQ
          generalize arN a = AN at HAQ
          cases hTX : arT a
          · rw [hTX] at HAQ
            first
              | have HRr := Lib.hid (show R = false by rw [← HR.out]; unfold formB; simp [HT.out, HN.out, hQ, hTX]; done)
                clear HNM
                go_enter Try.func52, Try.ntmps52
                go_upto_region 1 with fail
                rw [HW2.out]
                clear HW2
                have g0 : w2.cell? ⟨w.heap.size, 0, none⟩ = some (.slice ao k c) := by rw [Lib.cell_of_heap HG2.out]; rfl
                have g1 : w2.cell? ⟨w.heap.size, 1, none⟩ = some (.slice bo m d) := by rw [Lib.cell_of_heap HG2.out]; rfl
                obtain ⟨i0, i1, i2, i3⟩ := cells4 HI2.out
                go_wp2_with fail
                refine (HAQ.out _).mono ?_
                rintro e w3 ⟨rfl, hb3⟩
                have HB3 := Lib.hid (HB2.out.trans (hb3.mono HB2.out.size))
                obtain ⟨i0, i1, i2, i3⟩ := cells4 (block_below hb3 HI2.out)
                clear hb3
                go_wp2_with fail
                go_ret
                exact ⟨by rw [HRr.out]; rfl, HB3.out⟩
              | have HRr := Lib.hid (show R = true by rw [← HR.out]; unfold formB; simp [HT.out, HN.out, hQ, hTX]; done)
                clear HNM
                go_enter Try.func52, Try.ntmps52
                go_upto_region 1 with fail
                rw [HW2.out]
                clear HW2
                have g0 : w2.cell? ⟨w.heap.size, 0, none⟩ = some (.slice ao k c) := by rw [Lib.cell_of_heap HG2.out]; rfl
                have g1 : w2.cell? ⟨w.heap.size, 1, none⟩ = some (.slice bo m d) := by rw [Lib.cell_of_heap HG2.out]; rfl
                obtain ⟨i0, i1, i2, i3⟩ := cells4 HI2.out
                go_wp2_with fail
                refine (HAQ.out _).mono ?_
                rintro e w3 ⟨rfl, hb3⟩
                have HB3 := Lib.hid (HB2.out.trans (hb3.mono HB2.out.size))
                obtain ⟨i0, i1, i2, i3⟩ := cells4 (block_below hb3 HI2.out)
                clear hb3
                go_wp2_with fail
                go_ret
                exact ⟨by rw [HRr.out]; rfl, HB3.out⟩
          · rw [hTX] at HAQ
            have HRr := Lib.hid (show R = NB by rw [← HR.out]; unfold formB; simp [HT.out, HN.out, hQ, hTX, HNB.out s rfl])
            clear HNB HR
            cases NB
            all_goals
              go_enter Try.func52, Try.ntmps52
              go_upto_region 1 with fail
              rw [HW2.out]
              clear HW2
              have g0 : w2.cell? ⟨w.heap.size, 0, none⟩ = some (.slice ao k c) := by rw [Lib.cell_of_heap HG2.out]; rfl
              have g1 : w2.cell? ⟨w.heap.size, 1, none⟩ = some (.slice bo m d) := by rw [Lib.cell_of_heap HG2.out]; rfl
              obtain ⟨i0, i1, i2, i3⟩ := cells4 HI2.out
              go_wp2_with fail
              refine (HAQ.out _).mono ?_
              rintro e w3 ⟨rfl, hb3⟩
              have HB3 := Lib.hid (HB2.out.trans (hb3.mono HB2.out.size))
              obtain ⟨i0, i1, i2, i3⟩ := cells4 (block_below hb3 HI2.out)
              clear hb3
              go_wp2_with fail
              refine (HNM.out _).mono ?_
              rintro e w4 ⟨rfl, rfl⟩
              go_wp2_with fail
              go_ret
              exact ⟨by rw [HRr.out]; rfl, HB3.out⟩
  · cases N
    · have HRr := Lib.hid (show R = false by rw [← HR.out]; unfold formB; simp [HT.out, HN.out])
      clear HEN HNM HAR
      go_enter Try.func52, Try.ntmps52
      go_upto_region 1 with fail
      rw [HW2.out]
      clear HW2
      have g0 : w2.cell? ⟨w.heap.size, 0, none⟩ = some (.slice ao k c) := by rw [Lib.cell_of_heap HG2.out]; rfl
      have g1 : w2.cell? ⟨w.heap.size, 1, none⟩ = some (.slice bo m d) := by rw [Lib.cell_of_heap HG2.out]; rfl
      obtain ⟨i0, i1, i2, i3⟩ := cells4 HI2.out
      go_wp2_with fail
      go_ret
      exact ⟨by rw [HRr.out]; rfl, HB2.out⟩
    · have HAQ := Lib.hid (HAR.out true)
      clear HAR HEN
      cases T
      all_goals
        cases hQ : arD a
        · rw [show okA true a = false from hQ, if_neg (by simp), Bool.false_and] at HAQ
          have HRr := Lib.hid (show R = false by rw [← HR.out]; unfold formB; simp [HT.out, HN.out, hQ])
          clear HNM
          go_enter Try.func52, Try.ntmps52
          go_upto_region 1 with fail
          rw [HW2.out]
          clear HW2
          have g0 : w2.cell? ⟨w.heap.size, 0, none⟩ = some (.slice ao k c) := by rw [Lib.cell_of_heap HG2.out]; rfl
          have g1 : w2.cell? ⟨w.heap.size, 1, none⟩ = some (.slice bo m d) := by rw [Lib.cell_of_heap HG2.out]; rfl
          obtain ⟨i0, i1, i2, i3⟩ := cells4 HI2.out
          go_wp2_with fail
          refine (HAQ.out _).mono ?_
          rintro e w3 ⟨rfl, hb3⟩
          have HB3 := Lib.hid (HB2.out.trans (hb3.mono HB2.out.size))
          obtain ⟨i0, i1, i2, i3⟩ := cells4 (block_below hb3 HI2.out)
          clear hb3
          go_wp2_with fail
          go_ret
          exact ⟨by rw [HRr.out]; rfl, HB3.out⟩
        · rw [show okA true a = true from hQ, if_pos rfl, Bool.true_and] at HAQ
          generalize arN a = AN at HAQ
          cases hTX : arT a
          · rw [hTX] at HAQ
            first
              | have HRr := Lib.hid (show R = false by rw [← HR.out]; unfold formB; simp [HT.out, HN.out, hQ, hTX]; done)
                clear HNM
                go_enter Try.func52, Try.ntmps52
                go_upto_region 1 with fail
                rw [HW2.out]
                clear HW2
                have g0 : w2.cell? ⟨w.heap.size, 0, none⟩ = some (.slice ao k c) := by rw [Lib.cell_of_heap HG2.out]; rfl
                have g1 : w2.cell? ⟨w.heap.size, 1, none⟩ = some (.slice bo m d) := by rw [Lib.cell_of_heap HG2.out]; rfl
                obtain ⟨i0, i1, i2, i3⟩ := cells4 HI2.out
                go_wp2_with fail
                refine (HAQ.out _).mono ?_
                rintro e w3 ⟨rfl, hb3⟩
                have HB3 := Lib.hid (HB2.out.trans (hb3.mono HB2.out.size))
                obtain ⟨i0, i1, i2, i3⟩ := cells4 (block_below hb3 HI2.out)
                clear hb3
                go_wp2_with fail
                go_ret
                exact ⟨by rw [HRr.out]; rfl, HB3.out⟩
              | have HRr := Lib.hid (show R = true by rw [← HR.out]; unfold formB; simp [HT.out, HN.out, hQ, hTX]; done)
                clear HNM
                go_enter Try.func52, Try.ntmps52
                go_upto_region 1 with fail
                rw [HW2.out]
                clear HW2
                have g0 : w2.cell? ⟨w.heap.size, 0, none⟩ = some (.slice ao k c) := by rw [Lib.cell_of_heap HG2.out]; rfl
                have g1 : w2.cell? ⟨w.heap.size, 1, none⟩ = some (.slice bo m d) := by rw [Lib.cell_of_heap HG2.out]; rfl
                obtain ⟨i0, i1, i2, i3⟩ := cells4 HI2.out
                go_wp2_with fail
                refine (HAQ.out _).mono ?_
                rintro e w3 ⟨rfl, hb3⟩
                have HB3 := Lib.hid (HB2.out.trans (hb3.mono HB2.out.size))
                obtain ⟨i0, i1, i2, i3⟩ := cells4 (block_below hb3 HI2.out)
                clear hb3
                go_wp2_with fail
                go_ret
                exact ⟨by rw [HRr.out]; rfl, HB3.out⟩
          · rw [hTX] at HAQ
            have HRr := Lib.hid (show R = NB by rw [← HR.out]; unfold formB; simp [HT.out, HN.out, hQ, hTX, HNB.out s rfl])
            clear HNB HR
            cases NB
            all_goals
              go_enter Try.func52, Try.ntmps52
              go_upto_region 1 with fail
              rw [HW2.out]
              clear HW2
              have g0 : w2.cell? ⟨w.heap.size, 0, none⟩ = some (.slice ao k c) := by rw [Lib.cell_of_heap HG2.out]; rfl
              have g1 : w2.cell? ⟨w.heap.size, 1, none⟩ = some (.slice bo m d) := by rw [Lib.cell_of_heap HG2.out]; rfl
              obtain ⟨i0, i1, i2, i3⟩ := cells4 HI2.out
              go_wp2_with fail
              refine (HAQ.out _).mono ?_
              rintro e w3 ⟨rfl, hb3⟩
              have HB3 := Lib.hid (HB2.out.trans (hb3.mono HB2.out.size))
              obtain ⟨i0, i1, i2, i3⟩ := cells4 (block_below hb3 HI2.out)
              clear hb3
              go_wp2_with fail
              refine (HNM.out _).mono ?_
              rintro e w4 ⟨rfl, rfl⟩
              go_wp2_with fail
              go_ret
              exact ⟨by rw [HRr.out]; rfl, HB3.out⟩
  · cases N
    · have HRr := Lib.hid (show R = false by rw [← HR.out]; unfold formB; simp [HT.out, HN.out])
      clear HEN HNM HAR
      go_enter Try.func52, Try.ntmps52
      go_upto_region 1 with fail
      rw [HW2.out]
      clear HW2
      have g0 : w2.cell? ⟨w.heap.size, 0, none⟩ = some (.slice ao k c) := by rw [Lib.cell_of_heap HG2.out]; rfl
      have g1 : w2.cell? ⟨w.heap.size, 1, none⟩ = some (.slice bo m d) := by rw [Lib.cell_of_heap HG2.out]; rfl
      obtain ⟨i0, i1, i2, i3⟩ := cells4 HI2.out
      go_wp2_with fail
      go_ret
      exact ⟨by rw [HRr.out]; rfl, HB2.out⟩
    · skip
      cases T
      · have HRr := Lib.hid (show R = false by rw [← HR.out]; unfold formB; simp [HT.out, HN.out])
        clear HEN HNM HAR
        go_enter Try.func52, Try.ntmps52
        go_upto_region 1 with fail
        rw [HW2.out]
        clear HW2
        have g0 : w2.cell? ⟨w.heap.size, 0, none⟩ = some (.slice ao k c) := by rw [Lib.cell_of_heap HG2.out]; rfl
        have g1 : w2.cell? ⟨w.heap.size, 1, none⟩ = some (.slice bo m d) := by rw [Lib.cell_of_heap HG2.out]; rfl
        obtain ⟨i0, i1, i2, i3⟩ := cells4 HI2.out
        go_wp2_with fail
        go_ret
        exact ⟨by rw [HRr.out]; rfl, HB2.out⟩
      · skip
        cases hA : (a == 0)
        · have HRr := Lib.hid (show R = false by rw [← HR.out]; unfold formB; simp [HT.out, HN.out, hA])
          clear HEN HNM HAR
          go_enter Try.func52, Try.ntmps52
          go_upto_region 1 with fail
          rw [HW2.out]
          clear HW2
          have g0 : w2.cell? ⟨w.heap.size, 0, none⟩ = some (.slice ao k c) := by rw [Lib.cell_of_heap HG2.out]; rfl
          have g1 : w2.cell? ⟨w.heap.size, 1, none⟩ = some (.slice bo m d) := by rw [Lib.cell_of_heap HG2.out]; rfl
          obtain ⟨i0, i1, i2, i3⟩ := cells4 HI2.out
          go_wp2_with fail
          go_ret
          exact ⟨by rw [HRr.out]; rfl, HB2.out⟩
        · skip
          have HRr := Lib.hid (show R = true by rw [← HR.out]; unfold formB; simp [HT.out, HN.out, hA])
          clear HEN HNM HAR
          go_enter Try.func52, Try.ntmps52
          go_upto_region 1 with fail
          rw [HW2.out]
          clear HW2
          have g0 : w2.cell? ⟨w.heap.size, 0, none⟩ = some (.slice ao k c) := by rw [Lib.cell_of_heap HG2.out]; rfl
          have g1 : w2.cell? ⟨w.heap.size, 1, none⟩ = some (.slice bo m d) := by rw [Lib.cell_of_heap HG2.out]; rfl
          obtain ⟨i0, i1, i2, i3⟩ := cells4 HI2.out
          go_wp2_with fail
          go_ret
          exact ⟨by rw [HRr.out]; rfl, HB2.out⟩
  · cases N
    · have HRr := Lib.hid (show R = false by rw [← HR.out]; unfold formB; simp [HT.out, HN.out])
      clear HEN HNM HAR
      go_enter Try.func52, Try.ntmps52
      go_upto_region 1 with fail
      rw [HW2.out]
      clear HW2
      have g0 : w2.cell? ⟨w.heap.size, 0, none⟩ = some (.slice ao k c) := by rw [Lib.cell_of_heap HG2.out]; rfl
      have g1 : w2.cell? ⟨w.heap.size, 1, none⟩ = some (.slice bo m d) := by rw [Lib.cell_of_heap HG2.out]; rfl
      obtain ⟨i0, i1, i2, i3⟩ := cells4 HI2.out
      go_wp2_with fail
      go_ret
      exact ⟨by rw [HRr.out]; rfl, HB2.out⟩
    · skip
      cases T
      · have HRr := Lib.hid (show R = false by rw [← HR.out]; unfold formB; simp [HT.out, HN.out])
        clear HEN HNM HAR
        go_enter Try.func52, Try.ntmps52
        go_upto_region 1 with fail
        rw [HW2.out]
        clear HW2
        have g0 : w2.cell? ⟨w.heap.size, 0, none⟩ = some (.slice ao k c) := by rw [Lib.cell_of_heap HG2.out]; rfl
        have g1 : w2.cell? ⟨w.heap.size, 1, none⟩ = some (.slice bo m d) := by rw [Lib.cell_of_heap HG2.out]; rfl
        obtain ⟨i0, i1, i2, i3⟩ := cells4 HI2.out
        go_wp2_with fail
        go_ret
        exact ⟨by rw [HRr.out]; rfl, HB2.out⟩
      · skip
        cases hA : (a == 0)
        · have HRr := Lib.hid (show R = false by rw [← HR.out]; unfold formB; simp [HT.out, HN.out, hA])
          clear HEN HNM HAR
          go_enter Try.func52, Try.ntmps52
          go_upto_region 1 with fail
          rw [HW2.out]
          clear HW2
          have g0 : w2.cell? ⟨w.heap.size, 0, none⟩ = some (.slice ao k c) := by rw [Lib.cell_of_heap HG2.out]; rfl
          have g1 : w2.cell? ⟨w.heap.size, 1, none⟩ = some (.slice bo m d) := by rw [Lib.cell_of_heap HG2.out]; rfl
          obtain ⟨i0, i1, i2, i3⟩ := cells4 HI2.out
          go_wp2_with fail
          go_ret
          exact ⟨by rw [HRr.out]; rfl, HB2.out⟩
        · skip
          have HRr := Lib.hid (show R = true by rw [← HR.out]; unfold formB; simp [HT.out, HN.out, hA])
          clear HEN HNM HAR
          go_enter Try.func52, Try.ntmps52
          go_upto_region 1 with fail
          rw [HW2.out]
          clear HW2
          have g0 : w2.cell? ⟨w.heap.size, 0, none⟩ = some (.slice ao k c) := by rw [Lib.cell_of_heap HG2.out]; rfl
          have g1 : w2.cell? ⟨w.heap.size, 1, none⟩ = some (.slice bo m d) := by rw [Lib.cell_of_heap HG2.out]; rfl
          obtain ⟨i0, i1, i2, i3⟩ := cells4 HI2.out
          go_wp2_with fail
          go_ret
          exact ⟨by rw [HRr.out]; rfl, HB2.out⟩
  · cases N
    · have HRr := Lib.hid (show R = false by rw [← HR.out]; unfold formB; simp [HT.out, HN.out])
      clear HEN HNM HAR
      go_enter Try.func52, Try.ntmps52
      go_upto_region 1 with fail
      rw [HW2.out]
      clear HW2
      have g0 : w2.cell? ⟨w.heap.size, 0, none⟩ = some (.slice ao k c) := by rw [Lib.cell_of_heap HG2.out]; rfl
      have g1 : w2.cell? ⟨w.heap.size, 1, none⟩ = some (.slice bo m d) := by rw [Lib.cell_of_heap HG2.out]; rfl
      obtain ⟨i0, i1, i2, i3⟩ := cells4 HI2.out
      go_wp2_with fail
      go_ret
      exact ⟨by rw [HRr.out]; rfl, HB2.out⟩
    · clear HNM HAR
      cases T
      all_goals
        cases hA : (a == 0)
        · have HRr := Lib.hid (show R = false by rw [← HR.out]; unfold formB; simp [HT.out, HN.out, hA])
          clear HEN
          go_enter Try.func52, Try.ntmps52
          go_upto_region 1 with fail
          rw [HW2.out]
          clear HW2
          have g0 : w2.cell? ⟨w.heap.size, 0, none⟩ = some (.slice ao k c) := by rw [Lib.cell_of_heap HG2.out]; rfl
          have g1 : w2.cell? ⟨w.heap.size, 1, none⟩ = some (.slice bo m d) := by rw [Lib.cell_of_heap HG2.out]; rfl
          obtain ⟨i0, i1, i2, i3⟩ := cells4 HI2.out
          go_wp2_with fail
          go_ret
          exact ⟨by rw [HRr.out]; rfl, HB2.out⟩
        · have HRr := Lib.hid (show R = entB es s by rw [← HR.out]; unfold formB; simp [HT.out, HN.out, hA])
          generalize entB es s = RE at *
          go_enter Try.func52, Try.ntmps52
          go_upto_region 1 with fail
          rw [HW2.out]
          clear HW2
          have g0 : w2.cell? ⟨w.heap.size, 0, none⟩ = some (.slice ao k c) := by rw [Lib.cell_of_heap HG2.out]; rfl
          have g1 : w2.cell? ⟨w.heap.size, 1, none⟩ = some (.slice bo m d) := by rw [Lib.cell_of_heap HG2.out]; rfl
          obtain ⟨i0, i1, i2, i3⟩ := cells4 HI2.out
          go_wp2_with fail
          refine (HEN.out _ HB2.out).mono ?_
          rintro e w3 ⟨rfl, hb3⟩
          have HB3 := Lib.hid (HB2.out.trans (hb3.mono HB2.out.size))
          clear hb3
          go_wp2_with fail
          go_ret
          exact ⟨by rw [HRr.out]; rfl, HB3.out⟩
  · have HRr := Lib.hid (show R = false by
      rw [← HR.out]
      have m := And.intro n1 (And.intro n2 (And.intro n3 (And.intro n4 (And.intro n5 (And.intro n6 (And.intro n7 (And.intro n8 (And.intro n9 (And.intro n10 n11)))))))))
      simp only [beq_eq_false_iff_ne] at m
      obtain ⟨m1, m2, m3, m4, m5, m6, m7, m8, m9, m10, m11⟩ := m
      unfold formB
      simp [m1, m2, m3, m4, m5, m6, m7, m8, m9, m10, m11])
    have q1 : (op != 1) = true := by rw [bne, n1]; rfl
    have q7 : (op != 7) = true := by rw [bne, n7]; rfl
    have q8 : (op != 8) = true := by rw [bne, n8]; rfl
    have q10 : (op != 10) = true := by rw [bne, n10]; rfl
    clear HEN HNM HAR
    cases N <;> cases T
    all_goals
      go_enter Try.func52, Try.ntmps52
      go_upto_region 1 with fail
      rw [HW2.out]
      clear HW2
      have g0 : w2.cell? ⟨w.heap.size, 0, none⟩ = some (.slice ao k c) := by rw [Lib.cell_of_heap HG2.out]; rfl
      have g1 : w2.cell? ⟨w.heap.size, 1, none⟩ = some (.slice bo m d) := by rw [Lib.cell_of_heap HG2.out]; rfl
      obtain ⟨i0, i1, i2, i3⟩ := cells4 HI2.out
      go_wp2_with fail
      go_ret
      exact ⟨by rw [HRr.out]; rfl, HB2.out⟩
end Go.Proofs.Ytcicbijpiffbkaa
