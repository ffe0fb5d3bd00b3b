/- Walks: the law VmStarts. -/
import Derived.Test.YtcicbijpiffbkaaW31
import Derived.Test.YtcicbijpiffbkaaW33
import Derived.Test.YtcicbijpiffbkaaW34
import Derived.Test.YtcicbijpiffbkaaW35
import Derived.Test.YtcicbijpiffbkaaP7
import Derived.Laws.Rows
namespace Go.Proofs.Ytcicbijpiffbkaa
open Go.RowKit
set_option linter.unusedVariables false
set_option linter.unusedSimpArgs false
set_option maxRecDepth 100000
set_option maxHeartbeats 4000000

theorem firstI_cases {M : Type} (P : M → Bool) (l : List M) : firstI P l = -1 ∨ ∃ k : Nat, firstI P l = (k : Int) := by
  unfold firstI
  split
  · exact Or.inr ⟨_, rfl⟩
  · exact Or.inl rfl
/-- What Start gives: the state, the place, how many slots, the error. -/
def StartF (es : List Ent) (is : List Ins) (s : List UInt8) (st a : Int) (N : Nat) (er : Int) : Prop :=
  (codeE es is ≠ 0 ∧ st = 0 ∧ a = 0 ∧ N = 0 ∧ er = 20) ∨ (codeE es is = 0 ∧ firstI (isN s) es = -1 ∧ st = 0 ∧ a = 0 ∧ N = 0 ∧ er = 8) ∨
    (codeE es is = 0 ∧ ∃ (k : Nat) (h : k < es.length), firstI (isN s) es = (k : Int) ∧ st = 1 ∧ a = es[k].at' ∧ N = es[k].sl.toNat ∧ er = 0)
theorem startF_eq {es : List Ent} {is : List Ins} {s : List UInt8} {st a st' a' er er' : Int} {N N' : Nat} (h : StartF es is s st a N er) (h' : StartF es is s st' a' N' er') : st' = st ∧ a' = a ∧ N' = N ∧ er' = er := by
  rcases h with ⟨h0, rfl, rfl, rfl, rfl⟩ | ⟨h0, h1, rfl, rfl, rfl, rfl⟩ | ⟨h0, k, hk, h1, rfl, rfl, rfl, rfl⟩
  · rcases h' with ⟨_, rfl, rfl, rfl, rfl⟩ | ⟨g0, _⟩ | ⟨g0, _⟩
    · exact ⟨rfl, rfl, rfl, rfl⟩
    · exact absurd g0 h0
    · exact absurd g0 h0
  · rcases h' with ⟨g0, _⟩ | ⟨_, _, rfl, rfl, rfl, rfl⟩ | ⟨_, k', hk', g1, _⟩
    · exact absurd h0 g0
    · exact ⟨rfl, rfl, rfl, rfl⟩
    · omega
  · rcases h' with ⟨g0, _⟩ | ⟨_, g1, _⟩ | ⟨_, k', hk', g1, rfl, rfl, rfl, rfl⟩
    · exact absurd h0 g0
    · omega
    · obtain rfl : k' = k := by omega
      exact ⟨rfl, rfl, rfl, rfl⟩
theorem startF_valid {es : List Ent} {is : List Ins} {s : List UInt8} {st a er : Int} {N : Nat} (h : StartF es is s st a N er) : er = 0 → validB es is st a 0 N 0 = true := by
  intro he
  rcases h with ⟨h0, rfl, rfl, rfl, rfl⟩ | ⟨h0, h1, rfl, rfl, rfl, rfl⟩ | ⟨h0, k, hk, h1, rfl, rfl, rfl, rfl⟩
  · exact absurd he (by decide)
  · exact absurd he (by decide)
  · exact start_valid h0 hk
theorem startF_small {es : List Ent} {is : List Ins} {s : List UInt8} {st a er : Int} {N : Nat} (h : StartF es is s st a N er) : N ≤ 32 := by
  rcases h with ⟨h0, rfl, rfl, rfl, rfl⟩ | ⟨h0, h1, rfl, rfl, rfl, rfl⟩ | ⟨h0, k, hk, h1, rfl, rfl, rfl, rfl⟩
  · omega
  · omega
  · obtain ⟨_, _, _, _, h5, _⟩ := code_ok h0
    have := (num_iff hk).1 (h5 k hk)
    omega
theorem start_sum {es : List Ent} {is : List Ins} {s : List UInt8} {w w' : World} {e : Ending} (h : StartRes es is s w e w') : ∃ (st a : Int) (N : Nat) (er : Int) (sv : Option Addr), StartF es is s st a N er ∧ e = .returned (.tuple #[taskV st a 0 (.slice sv N N) nilS, .int .i64 er]) ∧ IntSl w' (.slice sv N N) (List.replicate N 0) ∧ Below w.heap.size w w' := by
  obtain ⟨hb, ⟨h1, rfl⟩ | ⟨h1, h2, rfl⟩ | ⟨h1, k, hk, q, h2, rfl, h3⟩⟩ := h
  · exact ⟨0, 0, 0, 20, none, Or.inl ⟨h1, rfl, rfl, rfl, rfl⟩, rfl, ⟨none, 0, rfl, Or.inl rfl⟩, hb⟩
  · exact ⟨0, 0, 0, 8, none, Or.inr (Or.inl ⟨h1, h2, rfl, rfl, rfl, rfl⟩), rfl, ⟨none, 0, rfl, Or.inl rfl⟩, hb⟩
  · exact ⟨1, es[k].at', es[k].sl.toNat, 0, some ⟨q, 0, none⟩, Or.inr (Or.inr ⟨h1, k, hk, h2, rfl, rfl, rfl, rfl⟩), rfl, h3, hb⟩
theorem w_VmStarts (y : CS) (x : VW) (es : List Ent) (is : List Ins) (s : List UInt8) (hn : es.length = y.n) (hm : is.length = y.m) (hnc : y.n ≤ y.c) (hmd : y.m ≤ y.d) (hE : OkE es) (hI : OkI is) (b1 : y.ns ≤ 140737488355328) (b2 : y.nk ≤ 140737488355328)
    (w : World) (he : es = [] ∨ ∃ a, y.ca = some a ∧ EntAt w a es) (hi : is = [] ∨ ∃ a, y.ia = some a ∧ InsAt w a is) : KB 3 #[y.v x, .string (str s)] (.bool true) w := by
  obtain ⟨w2, hw2⟩ : ∃ w2, w.alloc (y.o x) = w2 := ⟨_, rfl⟩
  have HB2 := Lib.hid (show Below w.heap.size w w2 by rw [← hw2]; exact below_new _ _)
  have HX2 := Lib.hid (show w2.heap[w.heap.size]? = some (y.o x) by rw [← hw2]; exact tok_new _ _)
  have HW2 := Lib.hid hw2
  have HAW := Lib.hid awake_any
  obtain ⟨LB, hLB, hlight⟩ := light_any y x b1 b2 w2
  have HLW := Lib.hid hLB; have HLG := Lib.hid hlight
  have HEA := Lib.hid he; have HIA := Lib.hid hi; have HEN := Lib.hid hn; have HIN := Lib.hid hm
  clear hw2 hLB hlight he hi hn hm
  unfold KB at HAW HLW ⊢
  go_enter Try.func3, Try.ntmps3
  go_upto_region 1 with fail
  rw [HW2.out]
  clear HW2
  go_wp2_with (refine wpList_load_row rfl 42 _ rfl w.heap.size rfl 42 _ (0, 0) _ HX2.out Try.underlying42 rfl (by kernel_rfl) ?_)
  refine HLW.out.mono ?_
  rintro e w3 ⟨rfl, hb3⟩
  have HB3 := Lib.hid (HB2.out.trans (hb3.mono HB2.out.size))
  have HX3 := Lib.hid (block_below hb3 HX2.out)
  clear hb3 HX2 HB2 HLW
  cases LB
  · go_wp2_with fail
    refine (HAW.out _).mono ?_
    rintro e w4 ⟨rfl, hb4⟩
    have HB4 := Lib.hid (HB3.out.trans (hb4.mono HB3.out.size))
    clear hb4
    go_wp2_with fail
    go_ret
    exact ⟨rfl, HB4.out⟩
  obtain ⟨l1, l2, l3⟩ := HLG.out rfl
  have HL := Lib.hid (And.intro l1 (And.intro l2 l3))
  clear HLG l1 l2 l3
  have HST := Lib.hid (fun w' (hb : Below w.heap.size w w') => Start_any y.ca y.ia y.c y.d y.n y.m es is s HEN.out HIN.out (by have := HL.out; omega) (by have := HL.out; omega) hnc hmd hE hI w' (HEA.out.imp id fun ⟨a, e, z⟩ => ⟨a, e, z.below Ent.l_len hb⟩) (HIA.out.imp id fun ⟨a, e, z⟩ => ⟨a, e, z.below Ins.l_len hb⟩))
  have HRS := Lib.hid (fun w' (hb : Below w.heap.size w w') => rStart_any y.ca y.ia y.c y.d y.n y.m es is s HEN.out HIN.out (by have := HL.out; omega) (by have := HL.out; omega) hE hI w' (HEA.out.imp id fun ⟨a, e, z⟩ => ⟨a, e, z.below Ent.l_len hb⟩) (HIA.out.imp id fun ⟨a, e, z⟩ => ⟨a, e, z.below Ins.l_len hb⟩))
  have HVA := Lib.hid (fun st a wt (so ko : Option Addr) ns nk sc kc w' (hb : Below w.heap.size w w') => Valid_any y.ca y.ia so ko y.c y.d y.n y.m ns nk sc kc es is st a wt HEN.out HIN.out (by have := HL.out; omega) (by have := HL.out; omega) hnc hmd hE hI w' (HEA.out.imp id fun ⟨a, e, z⟩ => ⟨a, e, z.below Ent.l_len hb⟩) (HIA.out.imp id fun ⟨a, e, z⟩ => ⟨a, e, z.below Ins.l_len hb⟩))
  have HRV := Lib.hid (fun st a wt (so ko : Option Addr) ns nk sc kc w' (hb : Below w.heap.size w w') => rValid_any y.ca y.ia so ko y.c y.d y.n y.m ns nk sc kc es is st a wt HEN.out HIN.out (by have := HL.out; omega) (by have := HL.out; omega) hE hI w' (HEA.out.imp id fun ⟨a, e, z⟩ => ⟨a, e, z.below Ent.l_len hb⟩) (HIA.out.imp id fun ⟨a, e, z⟩ => ⟨a, e, z.below Ins.l_len hb⟩))
  unfold codeV at HST HRS
  obtain ⟨c0, c1, c2, c3, c4, c5, c6, c7, c8, c9, c10, c11, c12, c13, c14, c15, c16, c17, c18, c19, c20, c21⟩ := caseAt HX3.out
  clear c7 c8 c9 c10 c11 c12 c13 c14 c15 c16 c17 c18 c19 c20 c21
  generalize str s = SS at *
  go_wp2_with fail
  refine (HST.out w3 HB3.out).mono ?_
  intro e w4 hres
  obtain ⟨st, a, N, er, sv, hF, rfl, hsl, hb4⟩ := start_sum hres
  have HF := Lib.hid hF; have HSL := Lib.hid hsl
  have HB4 := Lib.hid (HB3.out.trans (hb4.mono HB3.out.size))
  have HX4 := Lib.hid (block_below hb4 HX3.out)
  clear hres hF hsl hb4 HB3 HX3 HST c0 c1 c2 c3 c4 c5 c6
  go_upto_region 4 with fail
  obtain ⟨w5, hw5⟩ : ∃ z, w4.alloc (.cells #[.int .i64 st, .int .i64 a, .int .i64 0, .slice sv N N, .slice none 0 0] 28) = z := ⟨_, rfl⟩
  have HN5 := Lib.hid (show w5.heap[w4.heap.size]? = some (.cells #[.int .i64 st, .int .i64 a, .int .i64 0, .slice sv N N, .slice none 0 0] 28) by rw [← hw5]; exact tok_new _ _)
  have hb5 : Below w4.heap.size w4 w5 := by rw [← hw5]; exact below_new _ _
  rw [hw5]
  clear hw5
  have HB5 := Lib.hid (HB4.out.trans (hb5.mono HB4.out.size))
  have HX5 := Lib.hid (block_below hb5 HX4.out)
  have HSL5 := Lib.hid (HSL.out.below hb5)
  obtain ⟨t5, ht5⟩ : ∃ z, w4.heap.size = z := ⟨_, rfl⟩
  rw [ht5] at HN5 ⊢
  clear hb5 ht5 HB4 HX4 HSL
  obtain ⟨c0, c1, c2, c3, c4, c5, c6, c7, c8, c9, c10, c11, c12, c13, c14, c15, c16, c17, c18, c19, c20, c21⟩ := caseAt HX5.out
  clear c2 c3 c4 c5 c6 c7 c8 c9 c10 c11 c12 c13 c14 c15 c16 c17 c18 c19 c20 c21
  go_wp2_with fail
  refine (HRS.out w5 HB5.out).mono ?_
  intro e w6 hres
  obtain ⟨st', a', N', er', sv', hF', rfl, hsl, hb6⟩ := start_sum hres
  obtain ⟨rfl, rfl, rfl, rfl⟩ := startF_eq HF.out hF'
  have HSR := Lib.hid hsl
  have HB6 := Lib.hid (HB5.out.trans (hb6.mono HB5.out.size))
  have HX6 := Lib.hid (block_below hb6 HX5.out)
  have HN6 := Lib.hid (block_below hb6 HN5.out)
  have HSL6 := Lib.hid (HSL5.out.below hb6)
  clear hres hF' hsl hb6 HB5 HX5 HN5 HSL5 HRS c0 c1
  go_upto_region 5 with fail
  obtain ⟨w7, hw7⟩ : ∃ z, w6.alloc (.cells #[.int .i64 st', .int .i64 a', .int .i64 0, .slice sv' N' N', .slice none 0 0] 28) = z := ⟨_, rfl⟩
  have HN7 := Lib.hid (show w7.heap[w6.heap.size]? = some (.cells #[.int .i64 st', .int .i64 a', .int .i64 0, .slice sv' N' N', .slice none 0 0] 28) by rw [← hw7]; exact tok_new _ _)
  have hb7 : Below w6.heap.size w6 w7 := by rw [← hw7]; exact below_new _ _
  rw [hw7]
  clear hw7
  have HB7 := Lib.hid (HB6.out.trans (hb7.mono HB6.out.size))
  have HX7 := Lib.hid (block_below hb7 HX6.out)
  have HM7 := Lib.hid (block_below hb7 HN6.out)
  have HSL7 := Lib.hid (HSL6.out.below hb7)
  have HSR7 := Lib.hid (HSR.out.below hb7)
  obtain ⟨t7, ht7⟩ : ∃ z, w6.heap.size = z := ⟨_, rfl⟩
  rw [ht7] at HN7 ⊢
  clear hb7 ht7 HB6 HX6 HN6 HSL6 HSR
  have HSM := Lib.hid (fun (z : Kept w7) => show Calls Try.prog 11 #[.agg #[.int .i64 st', .int .i64 a', .int .i64 0, .slice sv N' N', .slice none 0 0], .agg #[.int .i64 st', .int .i64 a', .int .i64 0, .slice sv' N' N', .slice none 0 0]] z.W (fun e w' => e = .returned (.bool true) ∧ Below z.W.heap.size z.W w') from by
    have hN := startF_small HF.out
    have h := rSame_any st' a' 0 st' a' 0 (.slice sv N' N') (.slice none 0 0) (.slice sv' N' N') (.slice none 0 0) (List.replicate N' 0) [] (List.replicate N' 0) [] (by rw [List.length_replicate]; omega) (by simp) (by rw [List.length_replicate]; omega) (by simp) z.W (HSL7.out.below z.below) ⟨none, 0, rfl, Or.inl rfl⟩ (HSR7.out.below z.below) ⟨none, 0, rfl, Or.inl rfl⟩
    rw [sameB_refl] at h
    exact h)
  obtain ⟨B, hB⟩ : ∃ B, validB es is y.st y.a y.wt y.ns y.nk = B := ⟨_, rfl⟩
  have HV1 := Lib.hid (fun (z : Kept w7) => show Calls Try.prog 12 #[.agg #[.slice y.ca y.n y.c, .slice y.ia y.m y.d], .agg #[.int .i64 y.st, .int .i64 y.a, .int .i64 y.wt, .slice y.so y.ns y.nc, .slice y.ko y.nk y.kc]] z.W (fun e w' => e = .returned (.bool B) ∧ Below z.W.heap.size z.W w') from by
    have h := HVA.out y.st y.a y.wt y.so y.ko y.ns y.nk y.nc y.kc z.W (HB7.out.trans (z.below.mono HB7.out.size))
    rw [hB] at h
    exact h)
  have HV2 := Lib.hid (fun (z : Kept w7) => show Calls Try.prog 13 #[.agg #[.slice y.ca y.n y.c, .slice y.ia y.m y.d], .agg #[.int .i64 y.st, .int .i64 y.a, .int .i64 y.wt, .slice y.so y.ns y.nc, .slice y.ko y.nk y.kc]] z.W (fun e w' => e = .returned (.bool B) ∧ Below z.W.heap.size z.W w') from by
    have h := HRV.out y.st y.a y.wt y.so y.ko y.ns y.nk y.nc y.kc z.W (HB7.out.trans (z.below.mono HB7.out.size))
    rw [hB] at h
    exact h)
  have HV3 := Lib.hid (fun (h0 : er' = 0) (z : Kept w7) => show Calls Try.prog 12 #[.agg #[.slice y.ca y.n y.c, .slice y.ia y.m y.d], .agg #[.int .i64 st', .int .i64 a', .int .i64 0, .slice sv N' N', .slice none 0 0]] z.W (fun e w' => e = .returned (.bool true) ∧ Below z.W.heap.size z.W w') from by
    have h := HVA.out st' a' 0 sv none N' 0 N' 0 z.W (HB7.out.trans (z.below.mono HB7.out.size))
    rw [startF_valid HF.out h0] at h
    exact h)
  have HAX := Lib.hid (fun (z : Kept w7) => HAW.out z.W)
  obtain ⟨c0, c1, c2, c3, c4, c5, c6, c7, c8, c9, c10, c11, c12, c13, c14, c15, c16, c17, c18, c19, c20, c21⟩ := caseAt HX7.out
  obtain ⟨d0, d1, d2, d3, d4⟩ := blk5 HM7.out
  obtain ⟨f0, f1, f2, f3, f4⟩ := blk5 HN7.out
  have kc0 := kept_cell c0; have kc1 := kept_cell c1; have kc2 := kept_cell c2; have kc3 := kept_cell c3; have kc4 := kept_cell c4; have kc5 := kept_cell c5; have kc6 := kept_cell c6
  have kd0 := kept_cell d0; have kd1 := kept_cell d1; have kd2 := kept_cell d2; have kd3 := kept_cell d3; have kd4 := kept_cell d4
  have kf0 := kept_cell f0; have kf1 := kept_cell f1; have kf2 := kept_cell f2; have kf3 := kept_cell f3; have kf4 := kept_cell f4
  have bb : (B == B) = true := by simp
  have ee : (er' == er') = true := by simp
  clear hB HF HSL7 HSR7 HVA HRV HAW HEA HIA c0 c1 c2 c3 c4 c5 c6 c7 c8 c9 c10 c11 c12 c13 c14 c15 c16 c17 c18 c19 c20 c21 d0 d1 d2 d3 d4 f0 f1 f2 f3 f4
  by_cases h0 : er' = 0
  · replace HV3 := Lib.hid (HV3.out h0)
    have z0 : (er' != 0) = false := by rw [bne_eq_false_iff_eq]; exact h0
    clear h0
    refine wp_region_kept (by kernel_rfl) (by kernel_rfl) ?_
    repeat (go_big_quiet_step ((first | (go_at_call 11; with_reducible exact Kept.call (HSM.out _)) | (go_at_call 8; with_reducible exact Kept.call (HAX.out _)) | (go_at_call 13; with_reducible exact Kept.call (HV2.out _)) | (go_at_call 12; first | (with_reducible exact Kept.call (HV1.out _)) | (with_reducible exact Kept.call (HV3.out _))))))
    refine wpQuiet_nil ?_
    intro _ hw'
    obtain ⟨kx, hw''⟩ := hw'
    subst hw''
    have HKX := Lib.hid (HB7.out.trans (kx.below.mono HB7.out.size))
    go_wp2_with fail
    go_ret
    exact ⟨rfl, HKX.out⟩
  · have z0 : (er' != 0) = true := by rw [bne_iff_ne]; exact h0
    clear h0 HV3
    refine wp_region_kept (by kernel_rfl) (by kernel_rfl) ?_
    repeat (go_big_quiet_step ((first | (go_at_call 11; with_reducible exact Kept.call (HSM.out _)) | (go_at_call 8; with_reducible exact Kept.call (HAX.out _)) | (go_at_call 13; with_reducible exact Kept.call (HV2.out _)) | (go_at_call 12; with_reducible exact Kept.call (HV1.out _)))))
    refine wpQuiet_nil ?_
    intro _ hw'
    obtain ⟨kx, hw''⟩ := hw'
    subst hw''
    have HKX := Lib.hid (HB7.out.trans (kx.below.mono HB7.out.size))
    go_wp2_with fail
    go_ret
    exact ⟨rfl, HKX.out⟩
end Go.Proofs.Ytcicbijpiffbkaa
