/- Walks: the law VmSame. -/
import Derived.Test.YtcicbijpiffbkaaW30
namespace Go.Proofs.Ytcicbijpiffbkaa
open Go.RowKit
set_option linter.unusedVariables false
set_option linter.unusedSimpArgs false
set_option maxRecDepth 100000
set_option maxHeartbeats 4000000

theorem sameB_refl (s a t : Int) (sl sk : List Int) : sameB s a t sl sk s a t sl sk = true := by unfold sameB; simp
theorem beq_comm' {α : Type} [BEq α] [LawfulBEq α] (x y : α) : (x == y) = (y == x) := by
  apply bool_eq
  rw [beq_iff_eq, beq_iff_eq]
  exact eq_comm
theorem sameB_comm (s1 a1 t1 : Int) (sl1 sk1 : List Int) (s2 a2 t2 : Int) (sl2 sk2 : List Int) : sameB s1 a1 t1 sl1 sk1 s2 a2 t2 sl2 sk2 = sameB s2 a2 t2 sl2 sk2 s1 a1 t1 sl1 sk1 := by
  unfold sameB
  rw [beq_comm' s1, beq_comm' a1, beq_comm' t1, beq_comm' sl1, beq_comm' sk1]
theorem w_VmSame (s1 a1 t1 s2 a2 t2 : Int) (sl1 sk1 sl2 sk2 : List Int) (o1 p1 o2 p2 : Option Addr) (n1 m1 n2 m2 c1 d1 c2 d2 : Nat) (hn1 : sl1.length = n1) (hm1 : sk1.length = m1) (hn2 : sl2.length = n2) (hm2 : sk2.length = m2)
    (b1 : n1 ≤ 140737488355328) (b2 : m1 ≤ 140737488355328) (b3 : n2 ≤ 140737488355328) (b4 : m2 ≤ 140737488355328)
    (w : World) (g1 : IntSl w (.slice o1 n1 c1) sl1) (g2 : IntSl w (.slice p1 m1 d1) sk1) (g3 : IntSl w (.slice o2 n2 c2) sl2) (g4 : IntSl w (.slice p2 m2 d2) sk2) :
    KB 6 #[taskV s1 a1 t1 (.slice o1 n1 c1) (.slice p1 m1 d1), taskV s2 a2 t2 (.slice o2 n2 c2) (.slice p2 m2 d2)] (.bool true) w := by
  obtain ⟨w2, hw2⟩ : ∃ w2, (w.alloc (taskO s1 a1 t1 (.slice o1 n1 c1) (.slice p1 m1 d1))).alloc (taskO s2 a2 t2 (.slice o2 n2 c2) (.slice p2 m2 d2)) = w2 := ⟨_, rfl⟩
  have HB2 := Lib.hid (show Below w.heap.size w w2 by rw [← hw2]; exact (below_new _ _).alloc (by simp) _)
  have HX2 := Lib.hid (show w2.heap[w.heap.size]? = some (taskO s1 a1 t1 (.slice o1 n1 c1) (.slice p1 m1 d1)) by rw [← hw2, Below.heap_alloc _ _ _ (by simp)]; exact tok_new _ _)
  have HY2 := Lib.hid (show w2.heap[w.heap.size + 1]? = some (taskO s2 a2 t2 (.slice o2 n2 c2) (.slice p2 m2 d2)) by
    have h := tok_new (w.alloc (taskO s1 a1 t1 (.slice o1 n1 c1) (.slice p1 m1 d1))) (taskO s2 a2 t2 (.slice o2 n2 c2) (.slice p2 m2 d2))
    rw [tok_size, hw2] at h
    exact h)
  have HW2 := Lib.hid hw2
  have HAW := Lib.hid awake_any
  have G1 := Lib.hid (g1.below HB2.out); have G2 := Lib.hid (g2.below HB2.out); have G3 := Lib.hid (g3.below HB2.out); have G4 := Lib.hid (g4.below HB2.out)
  have HL := Lib.hid (And.intro hn1 (And.intro hm1 (And.intro hn2 hm2)))
  clear hw2 g1 g2 g3 g4 hn1 hm1 hn2 hm2
  unfold KB at HAW ⊢
  go_enter Try.func6, Try.ntmps6
  go_upto_region 1 with fail
  rw [HW2.out]
  clear HW2
  obtain ⟨x0, x1, x2, x3, x4⟩ := blk5 HX2.out
  obtain ⟨y0, y1, y2, y3, y4⟩ := blk5 HY2.out
  by_cases hbig : 1000 < n1 + m1 + n2 + m2
  · have e1 : (1000 : Int) < (n1 : Int) + (m1 : Int) + (n2 : Int) + (m2 : Int) := by omega
    go_wp2_with fail
    refine (HAW.out _).mono ?_
    rintro e w3 ⟨rfl, hb3⟩
    have HB3 := Lib.hid (HB2.out.trans (hb3.mono HB2.out.size))
    clear hb3
    go_wp2_with fail
    go_ret
    exact ⟨rfl, HB3.out⟩
  have e1 : ¬ (1000 : Int) < (n1 : Int) + (m1 : Int) + (n2 : Int) + (m2 : Int) := by omega
  obtain ⟨h1, h2, h3, h4⟩ := HL.out
  obtain ⟨B, hB⟩ : ∃ B, sameB s1 a1 t1 sl1 sk1 s2 a2 t2 sl2 sk2 = B := ⟨_, rfl⟩
  have HSab := Lib.hid (fun (x : Kept w2) => show Calls Try.prog 18 #[taskV s1 a1 t1 (.slice o1 n1 c1) (.slice p1 m1 d1), taskV s2 a2 t2 (.slice o2 n2 c2) (.slice p2 m2 d2)] x.W (fun e w' => e = .returned (.bool B) ∧ Below x.W.heap.size x.W w') from by
    have h := Same_any s1 a1 t1 s2 a2 t2 _ _ _ _ sl1 sk1 sl2 sk2 (by omega) (by omega) (by omega) (by omega) x.W (G1.out.below x.below) (G2.out.below x.below) (G3.out.below x.below) (G4.out.below x.below)
    rw [hB] at h; exact h)
  have HRab := Lib.hid (fun (x : Kept w2) => show Calls Try.prog 11 #[taskV s1 a1 t1 (.slice o1 n1 c1) (.slice p1 m1 d1), taskV s2 a2 t2 (.slice o2 n2 c2) (.slice p2 m2 d2)] x.W (fun e w' => e = .returned (.bool B) ∧ Below x.W.heap.size x.W w') from by
    have h := rSame_any s1 a1 t1 s2 a2 t2 _ _ _ _ sl1 sk1 sl2 sk2 (by omega) (by omega) (by omega) (by omega) x.W (G1.out.below x.below) (G2.out.below x.below) (G3.out.below x.below) (G4.out.below x.below)
    rw [hB] at h; exact h)
  have HSaa := Lib.hid (fun (x : Kept w2) => show Calls Try.prog 18 #[taskV s1 a1 t1 (.slice o1 n1 c1) (.slice p1 m1 d1), taskV s1 a1 t1 (.slice o1 n1 c1) (.slice p1 m1 d1)] x.W (fun e w' => e = .returned (.bool true) ∧ Below x.W.heap.size x.W w') from by
    have h := Same_any s1 a1 t1 s1 a1 t1 _ _ _ _ sl1 sk1 sl1 sk1 (by omega) (by omega) (by omega) (by omega) x.W (G1.out.below x.below) (G2.out.below x.below) (G1.out.below x.below) (G2.out.below x.below)
    rw [sameB_refl] at h; exact h)
  have HSba := Lib.hid (fun (x : Kept w2) => show Calls Try.prog 18 #[taskV s2 a2 t2 (.slice o2 n2 c2) (.slice p2 m2 d2), taskV s1 a1 t1 (.slice o1 n1 c1) (.slice p1 m1 d1)] x.W (fun e w' => e = .returned (.bool B) ∧ Below x.W.heap.size x.W w') from by
    have h := Same_any s2 a2 t2 s1 a1 t1 _ _ _ _ sl2 sk2 sl1 sk1 (by omega) (by omega) (by omega) (by omega) x.W (G3.out.below x.below) (G4.out.below x.below) (G1.out.below x.below) (G2.out.below x.below)
    rw [← sameB_comm, hB] at h; exact h)
  have HAWx := Lib.hid (fun (x : Kept w2) => HAW.out x.W)
  clear hB h1 h2 h3 h4 hbig
  have bb : (B == B) = true := by simp
  go_upto_region 3 with fail
  have kx0 := kept_cell x0; have kx1 := kept_cell x1; have kx2 := kept_cell x2; have kx3 := kept_cell x3; have kx4 := kept_cell x4
  have ky0 := kept_cell y0; have ky1 := kept_cell y1; have ky2 := kept_cell y2; have ky3 := kept_cell y3; have ky4 := kept_cell y4
  clear x0 x1 x2 x3 x4 y0 y1 y2 y3 y4 e1
  refine wp_region_kept (by kernel_rfl) (by kernel_rfl) ?_
  repeat (go_big_quiet_step ((first | (go_at_call 11; with_reducible exact Kept.call (HRab.out _)) | (go_at_call 8; with_reducible exact Kept.call (HAWx.out _)) | (go_at_call 18; first | (with_reducible exact Kept.call (HSab.out _)) | (with_reducible exact Kept.call (HSaa.out _)) | (with_reducible exact Kept.call (HSba.out _))))))
  refine wpQuiet_nil ?_
  intro _ hw'
  obtain ⟨kx, hw''⟩ := hw'
  subst hw''
  have HKX := Lib.hid (HB2.out.trans (kx.below.mono HB2.out.size))
  go_wp2_with fail
  go_ret
  exact ⟨rfl, HKX.out⟩
end Go.Proofs.Ytcicbijpiffbkaa
