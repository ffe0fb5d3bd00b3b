/- Walks: the examples of the chapter. -/
import Derived.Test.YtcicbijpiffbkaaW28
import Derived.Test.YtcicbijpiffbkaaW29
import Derived.BigQuiet
namespace Go.Proofs.Ytcicbijpiffbkaa
open Go.RowKit
set_option linter.unusedVariables false
set_option linter.unusedSimpArgs false
set_option maxRecDepth 100000
set_option maxHeartbeats 4000000

abbrev smC (p q c d : Nat) : Value := .agg #[.slice (some ⟨p, 0, none⟩) 1 c, .slice (some ⟨q, 0, none⟩) 7 d]
theorem sm_code : codeE smE smI = 0 := by decide
theorem sm_main : firstI (isN [109, 97, 105, 110]) smE = 0 := by decide
theorem sm_raid : firstI (isN [114, 97, 105, 100]) smE = -1 := by decide
theorem sm_start (p q c d : Nat) (hc : 1 ≤ c) (hd : 7 ≤ d) (w : World) (he : EntAt w ⟨p, 0, none⟩ smE) (hi : InsAt w ⟨q, 0, none⟩ smI) :
    Calls Try.prog 9 #[smC p q c d, .string ⟨#[109, 97, 105, 110]⟩] w (fun e w' => Below w.heap.size w w' ∧ ∃ g : Nat, e = .returned (.tuple #[.agg #[.int .i64 1, .int .i64 0, .int .i64 0, .slice (some ⟨g, 0, none⟩) 1 1, .slice none 0 0], .int .i64 0]) ∧ IntSl w' (.slice (some ⟨g, 0, none⟩) 1 1) [0]) := by
  refine (Start_any (some ⟨p, 0, none⟩) (some ⟨q, 0, none⟩) c d 1 7 smE smI [109, 97, 105, 110] rfl rfl (by omega) (by omega) hc hd sm_okE sm_okI w (Or.inr ⟨_, rfl, he⟩) (Or.inr ⟨_, rfl, hi⟩)).mono ?_
  rintro e w' ⟨hb, h | h | ⟨h1, k, hk, g, h2, h3, h4⟩⟩
  · exact absurd sm_code h.1
  · have := h.2.1
    rw [sm_main] at this
    exact absurd this (by decide)
  · rw [sm_main] at h2
    obtain rfl : k = 0 := by omega
    exact ⟨hb, g, h3, h4⟩
theorem sm_start2 (p q c d : Nat) (hc : 1 ≤ c) (hd : 7 ≤ d) (w : World) (he : EntAt w ⟨p, 0, none⟩ smE) (hi : InsAt w ⟨q, 0, none⟩ smI) :
    Calls Try.prog 9 #[smC p q c d, .string ⟨#[114, 97, 105, 100]⟩] w (fun e w' => Below w.heap.size w w' ∧ e = .returned (.tuple #[.agg #[.int .i64 0, .int .i64 0, .int .i64 0, .slice none 0 0, .slice none 0 0], .int .i64 8])) := by
  refine (Start_any (some ⟨p, 0, none⟩) (some ⟨q, 0, none⟩) c d 1 7 smE smI [114, 97, 105, 100] rfl rfl (by omega) (by omega) hc hd sm_okE sm_okI w (Or.inr ⟨_, rfl, he⟩) (Or.inr ⟨_, rfl, hi⟩)).mono ?_
  rintro e w' ⟨hb, h | h | ⟨h1, k, hk, g, h2, h3, h4⟩⟩
  · exact absurd sm_code h.1
  · exact ⟨hb, h.2.2⟩
  · rw [sm_raid] at h2
    omega
theorem sm_v1 : validB smE smI 1 0 0 1 0 = true := by decide
theorem sm_v2 : validB smE smI 2 6 5 1 0 = true := by decide
theorem awake_any (w : World) : KB 8 #[] (.bool true) w := by
  have HSM := Lib.hid sample_any
  unfold codeV at HSM
  unfold KB
  go_enter Try.func8, Try.ntmps8
  go_wp2_with fail
  refine (HSM.out _).mono ?_
  rintro e w1 ⟨p, q, c, d, rfl, hc, hd, hE, hI, hb1⟩
  have HB1 := Lib.hid hb1; have HE1 := Lib.hid hE; have HI1 := Lib.hid hI
  clear hb1 hE hI HSM
  go_upto_region 2 with fail
  obtain ⟨w2, hw2⟩ : ∃ x, w1.alloc (.cells #[.slice (some ⟨p, 0, none⟩) 1 c, .slice (some ⟨q, 0, none⟩) 7 d] 25) = x := ⟨_, rfl⟩
  have HC2 := Lib.hid (show w2.heap[w1.heap.size]? = some (.cells #[.slice (some ⟨p, 0, none⟩) 1 c, .slice (some ⟨q, 0, none⟩) 7 d] 25) by rw [← hw2]; exact tok_new _ _)
  have HBB2 := Lib.hid (show Below w1.heap.size w1 w2 by rw [← hw2]; exact below_new _ _)
  rw [hw2]
  clear hw2
  have HB2 := Lib.hid (HB1.out.trans (HBB2.out.mono HB1.out.size))
  have HE2 := Lib.hid (HE1.out.below Ent.l_len HBB2.out); have HI2 := Lib.hid (HI1.out.below Ins.l_len HBB2.out)
  obtain ⟨cb, hcb⟩ : ∃ x, w1.heap.size = x := ⟨_, rfl⟩
  rw [hcb] at HC2 ⊢
  clear HB1 HE1 HI1 HBB2 hcb
  obtain ⟨a0, a1⟩ := cells2 HC2.out
  go_wp2_with fail
  refine (sm_start p q c d hc hd w2 HE2.out HI2.out).mono ?_
  rintro e w3 ⟨hb3, g, rfl, hsl⟩
  have HS3 := Lib.hid hsl
  have HC3 := Lib.hid (block_below hb3 HC2.out)
  have HE3 := Lib.hid (HE2.out.below Ent.l_len hb3)
  have HI3 := Lib.hid (HI2.out.below Ins.l_len hb3)
  have HB3 := Lib.hid (HB2.out.trans (hb3.mono HB2.out.size))
  clear HC2 HE2 HI2 HB2
  clear hb3 hsl a0 a1
  go_upto_region 3 with fail
  obtain ⟨w4, hw4⟩ : ∃ x, w3.alloc (.cells #[.int .i64 1, .int .i64 0, .int .i64 0, .slice (some ⟨g, 0, none⟩) 1 1, .slice none 0 0] 28) = x := ⟨_, rfl⟩
  have HN4 := Lib.hid (show w4.heap[w3.heap.size]? = some (.cells #[.int .i64 1, .int .i64 0, .int .i64 0, .slice (some ⟨g, 0, none⟩) 1 1, .slice none 0 0] 28) by rw [← hw4]; exact tok_new _ _)
  have hbb4 : Below w3.heap.size w3 w4 := by rw [← hw4]; exact below_new _ _
  rw [hw4]
  clear hw4
  have HC4 := Lib.hid (block_below hbb4 HC3.out)
  have HE4 := Lib.hid (HE3.out.below Ent.l_len hbb4)
  have HI4 := Lib.hid (HI3.out.below Ins.l_len hbb4)
  have HS4 := Lib.hid (HS3.out.below hbb4)
  have HB4 := Lib.hid (HB3.out.trans (hbb4.mono HB3.out.size))
  clear HC3 HE3 HI3 HS3 HB3
  obtain ⟨t2, ht2⟩ : ∃ x, w3.heap.size = x := ⟨_, rfl⟩
  rw [ht2] at HN4 ⊢
  have HT24 := HN4
  clear HN4 hbb4 ht2
  obtain ⟨a0, a1⟩ := cells2 HC4.out
  go_wp2_with fail
  refine (sm_start2 p q c d hc hd w4 HE4.out HI4.out).mono ?_
  rintro e w5 ⟨hb5, rfl⟩
  have HC5 := Lib.hid (block_below hb5 HC4.out)
  have HE5 := Lib.hid (HE4.out.below Ent.l_len hb5)
  have HI5 := Lib.hid (HI4.out.below Ins.l_len hb5)
  have HS5 := Lib.hid (HS4.out.below hb5)
  have HT25 := Lib.hid (block_below hb5 HT24.out)
  have HB5 := Lib.hid (HB4.out.trans (hb5.mono HB4.out.size))
  clear HC4 HE4 HI4 HS4 HT24 HB4
  clear hb5 a0 a1
  go_upto_region 4 with fail
  obtain ⟨w6, hw6⟩ : ∃ x, w5.alloc (.cells #[.int .i64 0, .int .i64 0, .int .i64 0, .slice none 0 0, .slice none 0 0] 28) = x := ⟨_, rfl⟩
  have HN6 := Lib.hid (show w6.heap[w5.heap.size]? = some (.cells #[.int .i64 0, .int .i64 0, .int .i64 0, .slice none 0 0, .slice none 0 0] 28) by rw [← hw6]; exact tok_new _ _)
  have hbb6 : Below w5.heap.size w5 w6 := by rw [← hw6]; exact below_new _ _
  rw [hw6]
  clear hw6
  have HC6 := Lib.hid (block_below hbb6 HC5.out)
  have HE6 := Lib.hid (HE5.out.below Ent.l_len hbb6)
  have HI6 := Lib.hid (HI5.out.below Ins.l_len hbb6)
  have HS6 := Lib.hid (HS5.out.below hbb6)
  have HT26 := Lib.hid (block_below hbb6 HT25.out)
  have HB6 := Lib.hid (HB5.out.trans (hbb6.mono HB5.out.size))
  clear HC5 HE5 HI5 HS5 HT25 HB5
  obtain ⟨t4, ht4⟩ : ∃ x, w5.heap.size = x := ⟨_, rfl⟩
  rw [ht4] at HN6 ⊢
  clear HN6 hbb6 ht4
  obtain ⟨a0, a1⟩ := cells2 HC6.out
  obtain ⟨b0, b1, b2, b3, b4⟩ := blk5 HT26.out
  go_wp2_with fail
  refine (Run_sample p q g c d 1 100 6 (Or.inl ⟨rfl, rfl⟩) hc hd w6 HE6.out HI6.out HS6.out).mono ?_
  rintro e w7 ⟨hb7, xo, xc, ko, kc, rfl, hk7⟩
  have HX7 := Lib.hid hk7
  have HC7 := Lib.hid (block_below hb7 HC6.out)
  have HE7 := Lib.hid (HE6.out.below Ent.l_len hb7)
  have HI7 := Lib.hid (HI6.out.below Ins.l_len hb7)
  have HS7 := Lib.hid (HS6.out.below hb7)
  have HT27 := Lib.hid (block_below hb7 HT26.out)
  have HB7 := Lib.hid (HB6.out.trans (hb7.mono HB6.out.size))
  clear HC6 HE6 HI6 HS6 HT26 HB6
  clear hb7 hk7 a0 a1 b0 b1 b2 b3 b4
  simp only [show stT 6 = 2 from rfl, show wtT 6 = 5 from rfl, show (xsT 6).length = 1 from rfl, show (ysT 6).length = 0 from rfl, show ((6 : Nat) : Int) = 6 from rfl, show (100 : Int) - 6 = 94 from rfl]
  go_upto_region 5 with fail
  obtain ⟨w8, hw8⟩ : ∃ x, w7.alloc (.cells #[.int .i64 2, .int .i64 6, .int .i64 5, .slice xo 1 xc, .slice ko 0 kc] 28) = x := ⟨_, rfl⟩
  have HN8 := Lib.hid (show w8.heap[w7.heap.size]? = some (.cells #[.int .i64 2, .int .i64 6, .int .i64 5, .slice xo 1 xc, .slice ko 0 kc] 28) by rw [← hw8]; exact tok_new _ _)
  have hbb8 : Below w7.heap.size w7 w8 := by rw [← hw8]; exact below_new _ _
  rw [hw8]
  clear hw8
  have HC8 := Lib.hid (block_below hbb8 HC7.out)
  have HE8 := Lib.hid (HE7.out.below Ent.l_len hbb8)
  have HI8 := Lib.hid (HI7.out.below Ins.l_len hbb8)
  have HS8 := Lib.hid (HS7.out.below hbb8)
  have HT28 := Lib.hid (block_below hbb8 HT27.out)
  have HB8 := Lib.hid (HB7.out.trans (hbb8.mono HB7.out.size))
  clear HC7 HE7 HI7 HS7 HT27 HB7
  obtain ⟨t6, ht6⟩ : ∃ x, w7.heap.size = x := ⟨_, rfl⟩
  rw [ht6] at HN8 ⊢
  have HT68 := HN8
  clear HN8 hbb8 ht6
  obtain ⟨a0, a1⟩ := cells2 HC8.out
  obtain ⟨b0, b1, b2, b3, b4⟩ := blk5 HT28.out
  go_wp2_with fail
  refine (Run_sample p q g c d 1 4 4 (Or.inr ⟨rfl, rfl⟩) hc hd w8 HE8.out HI8.out HS8.out).mono ?_
  rintro e w9 ⟨hb9, yo, yc, lo, lc, rfl, hk9⟩
  have HK9 := Lib.hid (show IntSl w9 (.slice lo 2 lc) [2, 3] from hk9)
  have HC9 := Lib.hid (block_below hb9 HC8.out)
  have HE9 := Lib.hid (HE8.out.below Ent.l_len hb9)
  have HI9 := Lib.hid (HI8.out.below Ins.l_len hb9)
  have HS9 := Lib.hid (HS8.out.below hb9)
  have HT29 := Lib.hid (block_below hb9 HT28.out)
  have HT69 := Lib.hid (block_below hb9 HT68.out)
  have HB9 := Lib.hid (HB8.out.trans (hb9.mono HB8.out.size))
  clear HC8 HE8 HI8 HS8 HT28 HT68 HB8
  clear hb9 hk9 a0 a1 b0 b1 b2 b3 b4
  simp only [show stT 4 = 1 from rfl, show wtT 4 = 0 from rfl, show (xsT 4).length = 1 from rfl, show (ysT 4).length = 2 from rfl, show ((4 : Nat) : Int) = 4 from rfl, show (4 : Int) - 4 = 0 from rfl]
  go_upto_region 6 with fail
  obtain ⟨w10, hw10⟩ : ∃ x, w9.alloc (.cells #[.int .i64 1, .int .i64 4, .int .i64 0, .slice yo 1 yc, .slice lo 2 lc] 28) = x := ⟨_, rfl⟩
  have HN10 := Lib.hid (show w10.heap[w9.heap.size]? = some (.cells #[.int .i64 1, .int .i64 4, .int .i64 0, .slice yo 1 yc, .slice lo 2 lc] 28) by rw [← hw10]; exact tok_new _ _)
  have hbb10 : Below w9.heap.size w9 w10 := by rw [← hw10]; exact below_new _ _
  rw [hw10]
  clear hw10
  have HC10 := Lib.hid (block_below hbb10 HC9.out)
  have HE10 := Lib.hid (HE9.out.below Ent.l_len hbb10)
  have HI10 := Lib.hid (HI9.out.below Ins.l_len hbb10)
  have HS10 := Lib.hid (HS9.out.below hbb10)
  have HT210 := Lib.hid (block_below hbb10 HT29.out)
  have HT610 := Lib.hid (block_below hbb10 HT69.out)
  have HK10 := Lib.hid (HK9.out.below hbb10)
  have HB10 := Lib.hid (HB9.out.trans (hbb10.mono HB9.out.size))
  clear HC9 HE9 HI9 HS9 HT29 HT69 HK9 HB9
  obtain ⟨t10, ht10⟩ : ∃ x, w9.heap.size = x := ⟨_, rfl⟩
  rw [ht10] at HN10 ⊢
  have HTA10 := HN10
  clear HN10 hbb10 ht10
  go_wp2_with fail
  refine (Query_ore w10).mono ?_
  rintro e w11 ⟨rfl, hb11⟩
  have HC11 := Lib.hid (block_below hb11 HC10.out)
  have HE11 := Lib.hid (HE10.out.below Ent.l_len hb11)
  have HI11 := Lib.hid (HI10.out.below Ins.l_len hb11)
  have HS11 := Lib.hid (HS10.out.below hb11)
  have HT211 := Lib.hid (block_below hb11 HT210.out)
  have HT611 := Lib.hid (block_below hb11 HT610.out)
  have HK11 := Lib.hid (HK10.out.below hb11)
  have HTA11 := Lib.hid (block_below hb11 HTA10.out)
  have HB11 := Lib.hid (HB10.out.trans (hb11.mono HB10.out.size))
  clear HC10 HE10 HI10 HS10 HT210 HT610 HK10 HTA10 HB10
  clear hb11
  go_wp2_with fail
  refine (Query_x w11).mono ?_
  rintro e w12 ⟨rfl, hb12⟩
  have HC12 := Lib.hid (block_below hb12 HC11.out)
  have HE12 := Lib.hid (HE11.out.below Ent.l_len hb12)
  have HI12 := Lib.hid (HI11.out.below Ins.l_len hb12)
  have HS12 := Lib.hid (HS11.out.below hb12)
  have HT212 := Lib.hid (block_below hb12 HT211.out)
  have HT612 := Lib.hid (block_below hb12 HT611.out)
  have HK12 := Lib.hid (HK11.out.below hb12)
  have HTA12 := Lib.hid (block_below hb12 HTA11.out)
  have HB12 := Lib.hid (HB11.out.trans (hb12.mono HB11.out.size))
  clear HC11 HE11 HI11 HS11 HT211 HT611 HK11 HTA11 HB11
  clear hb12
  obtain ⟨a0, a1⟩ := cells2 HC12.out
  obtain ⟨b0, b1, b2, b3, b4⟩ := blk5 HT212.out
  obtain ⟨d0, d1, d2, d3, d4⟩ := blk5 HT612.out
  obtain ⟨e0, e1, e2, e3, e4⟩ := blk5 HTA12.out
  obtain ⟨lo2, lc2, hv, hk⟩ := HK12.out
  injection hv with hv1 hv2 hv3
  subst hv1
  obtain ⟨la, rfl, hka⟩ := hk.resolve_left (by simp)
  have l0 : w12.cell? la = some (.int .i64 2) := by have h := intAt hka 0 (by decide); simpa [Addr.add] using h
  have l1 : w12.cell? (la.add 1) = some (.int .i64 3) := intAt hka 1 (by decide)
  have l2 : w12.cell? ⟨la.block, la.off + 1, none⟩ = some (.int .i64 3) := l1
  clear hv2 hv3 hka hk e1 e2 e3
  go_wp2_with fail
  refine (show Calls Try.prog 12 #[smC p q c d, .agg #[.int .i64 1, .int .i64 0, .int .i64 0, .slice (some ⟨g, 0, none⟩) 1 1, .slice none 0 0]] w12 (fun e w' => e = .returned (.bool true) ∧ Below w12.heap.size w12 w') from by have h := Valid_any (some ⟨p, 0, none⟩) (some ⟨q, 0, none⟩) (some ⟨g, 0, none⟩) none c d 1 7 1 0 1 0 smE smI 1 0 0 rfl rfl (by omega) (by omega) hc hd sm_okE sm_okI w12 (Or.inr ⟨_, rfl, HE12.out⟩) (Or.inr ⟨_, rfl, HI12.out⟩); rw [sm_v1] at h; exact h).mono ?_
  rintro e w13 ⟨rfl, hb13⟩
  clear HK12 HTA12 l0 l1 l2 a0 a1 b0 b1 b2 b3 b4 d0 d1 d2 d3 d4 e0 e4
  have HC13 := Lib.hid (block_below hb13 HC12.out)
  have HE13 := Lib.hid (HE12.out.below Ent.l_len hb13)
  have HI13 := Lib.hid (HI12.out.below Ins.l_len hb13)
  have HS13 := Lib.hid (HS12.out.below hb13)
  have HT213 := Lib.hid (block_below hb13 HT212.out)
  have HT613 := Lib.hid (block_below hb13 HT612.out)
  have HB13 := Lib.hid (HB12.out.trans (hb13.mono HB12.out.size))
  clear HC12 HE12 HI12 HS12 HT212 HT612 HB12
  clear hb13
  obtain ⟨a0, a1⟩ := cells2 HC13.out
  obtain ⟨b0, b1, b2, b3, b4⟩ := blk5 HT213.out
  obtain ⟨d0, d1, d2, d3, d4⟩ := blk5 HT613.out
  go_wp2_with fail
  refine (show Calls Try.prog 12 #[smC p q c d, .agg #[.int .i64 2, .int .i64 6, .int .i64 5, .slice xo 1 xc, .slice ko 0 kc]] w13 (fun e w' => e = .returned (.bool true) ∧ Below w13.heap.size w13 w') from by have h := Valid_any (some ⟨p, 0, none⟩) (some ⟨q, 0, none⟩) xo ko c d 1 7 1 0 xc kc smE smI 2 6 5 rfl rfl (by omega) (by omega) hc hd sm_okE sm_okI w13 (Or.inr ⟨_, rfl, HE13.out⟩) (Or.inr ⟨_, rfl, HI13.out⟩); rw [sm_v2] at h; exact h).mono ?_
  rintro e w14 ⟨rfl, hb14⟩
  clear a0 a1 b0 b1 b2 b3 b4 d0 d1 d2 d3 d4
  have HC14 := Lib.hid (block_below hb14 HC13.out)
  have HE14 := Lib.hid (HE13.out.below Ent.l_len hb14)
  have HI14 := Lib.hid (HI13.out.below Ins.l_len hb14)
  have HS14 := Lib.hid (HS13.out.below hb14)
  have HT214 := Lib.hid (block_below hb14 HT213.out)
  have HT614 := Lib.hid (block_below hb14 HT613.out)
  have HB14 := Lib.hid (HB13.out.trans (hb14.mono HB13.out.size))
  clear HC13 HE13 HI13 HS13 HT213 HT613 HB13
  clear hb14
  obtain ⟨b0, b1, b2, b3, b4⟩ := blk5 HT214.out
  go_wp2_with fail
  refine (show Calls Try.prog 18 #[.agg #[.int .i64 1, .int .i64 0, .int .i64 0, .slice (some ⟨g, 0, none⟩) 1 1, .slice none 0 0], .agg #[.int .i64 1, .int .i64 0, .int .i64 0, .slice (some ⟨g, 0, none⟩) 1 1, .slice none 0 0]] w14 (fun e w' => e = .returned (.bool true) ∧ Below w14.heap.size w14 w') from Same_any 1 0 0 1 0 0 _ _ _ _ [0] [] [0] [] (by simp) (by simp) (by simp) (by simp) w14 HS14.out ⟨none, 0, rfl, Or.inl rfl⟩ HS14.out ⟨none, 0, rfl, Or.inl rfl⟩).mono ?_
  rintro e w15 ⟨rfl, hb15⟩
  have HB15 := Lib.hid (HB14.out.trans (hb15.mono HB14.out.size))
  clear hb15 b0 b1 b2 b3 b4
  go_wp2_with fail
  go_ret
  exact ⟨rfl, HB15.out⟩
end Go.Proofs.Ytcicbijpiffbkaa
