/- Walks: Valid, the reference's side. -/
import Derived.Test.YtcicbijpiffbkaaW15
import Derived.Test.YtcicbijpiffbkaaW16
import Derived.Test.YtcicbijpiffbkaaW18
import Derived.Deep.Cut
namespace Go.Proofs.Ytcicbijpiffbkaa
open Go.RowKit
set_option linter.unusedVariables false
set_option linter.unusedSimpArgs false
set_option maxRecDepth 100000
set_option maxHeartbeats 4000000

theorem rValid_any (ao bo so ko : Option Addr) (c d n m ns nk sc kc : Nat) (es : List Ent) (is : List Ins) (st at' wt : Int) (hn : es.length = n) (hm : is.length = m) (hz : n ≤ 1000000) (hm2 : m ≤ 1000000) (hE : OkE es) (hI : OkI is)
    (w : World) (he : es = [] ∨ ∃ a, ao = some a ∧ EntAt w a es) (hi : is = [] ∨ ∃ a, bo = some a ∧ InsAt w a is) : KB 13 #[codeV (.slice ao n c) (.slice bo m d), taskV st at' wt (.slice so ns sc) (.slice ko nk kc)] (.bool (validB es is st at' wt ns nk)) w := by
  have HEN := Lib.hid hn; have HEA := Lib.hid he; have HIN := Lib.hid hm; have HIA := Lib.hid hi
  have HCV := Lib.hid (fun w' (hb : Below w.heap.size w w') => rcValidate_any ao bo c d n m es is hn hm hz hm2 hE hI w' (he.imp id fun ⟨a, e, y⟩ => ⟨a, e, y.below Ent.l_len hb⟩) (hi.imp id fun ⟨a, e, y⟩ => ⟨a, e, y.below Ins.l_len hb⟩))
  obtain ⟨E, hEE⟩ : ∃ E, codeE es is = E := ⟨_, rfl⟩
  rw [hEE] at HCV
  obtain ⟨R, hR⟩ : ∃ R, validB es is st at' wt ns nk = R := ⟨_, rfl⟩
  rw [hR]
  have HBD := Lib.hid (show ¬ (E = 0 ∧ 0 ≤ at' ∧ at' < (m : Int)) → R = false from fun h => by rw [← hR]; exact valid_bad (by rw [hEE, hm]; exact h))
  have HEND := Lib.hid (show E = 0 ∧ 0 ≤ at' ∧ at' < (m : Int) → st = 3 ∨ st = 4 → R = ((wt == 0) && (((ns : Int) == 0) && ((nk : Int) == 0))) from fun h h2 => by rw [← hR]; exact valid_end (by rw [hEE, hm]; exact h) h2)
  have HGO := Lib.hid (show E = 0 ∧ 0 ≤ at' ∧ at' < (m : Int) → ¬ (st = 3 ∨ st = 4) → R = if (st = 1 ∧ wt = 0) ∨ (st = 2 ∧ 1 ≤ wt ∧ wt ≤ 1048576) then fillB es is at' ns nk else false from fun h h2 => by rw [← hR]; exact valid_go (by rw [hEE, hm]; exact h) h2)
  have HNT := Lib.hid (show E = 0 → 0 ≤ at' → 0 ≤ (entA es at').at' ∧ (entA es at').at' ≤ at' from fun h h2 => ent_bounds (hEE.trans h) h2)
  have HPA := Lib.hid (show entP es at' n = entA es at' by rw [← hn, entP_all])
  have HEN2 := Lib.hid (fun w' (hb : Below w.heap.size w w') => rentry39_any ao (.slice bo m d) c n es at' hn hz w' (he.imp id fun ⟨a, e, y⟩ => ⟨a, e, y.below Ent.l_len hb⟩))
  have HDE := Lib.hid (fun (a : Addr) (f t : Nat) (hbo : bo = some a) (hia : InsAt w a is) (hf : (entA es (t : Int)).at' = (f : Int)) (hft : f ≤ t) (htm : t ≤ m) w' (hb : Below w.heap.size w w') => show KB 26 #[codeV (.slice ao n c) (.slice bo m d), .int .i64 t] (.int .i64 (sumD (segL is f t))) w' from by subst hbo; exact Depth_any ao a c d n m f t es is hn hm hz hm2 hf hft htm w' (he.imp id fun ⟨a, e, y⟩ => ⟨a, e, y.below Ent.l_len hb⟩) (hia.below Ins.l_len hb))
  clear he hi hn hm hR hEE
  unfold KB codeV at HCV
  unfold KB codeV
  obtain ⟨w2, hw2⟩ : ∃ w2, (w.alloc (.cells #[.slice ao n c, .slice bo m d] 25)).alloc (taskO st at' wt (.slice so ns sc) (.slice ko nk kc)) = w2 := ⟨_, rfl⟩
  have HB2 := Lib.hid (show Below w.heap.size w w2 by rw [← hw2]; exact (below_new _ _).alloc (by simp) _)
  have HX2 := Lib.hid (show w2.heap[w.heap.size]? = some (.cells #[.slice ao n c, .slice bo m d] 25) by rw [← hw2, Below.heap_alloc _ _ _ (by simp)]; exact tok_new _ _)
  have HY2 := Lib.hid (show w2.heap[w.heap.size + 1]? = some (taskO st at' wt (.slice so ns sc) (.slice ko nk kc)) by
    have h := tok_new (w.alloc (.cells #[.slice ao n c, .slice bo m d] 25)) (taskO st at' wt (.slice so ns sc) (.slice ko nk kc))
    rw [tok_size, hw2] at h
    exact h)
  have HZ2 := Lib.hid (show w2.heap.size = w.heap.size + 2 by rw [← hw2, tok_size, tok_size])
  have HW2 := Lib.hid hw2
  clear hw2
  go_enter Try.func13, Try.ntmps13
  go_upto_region 1 with fail
  rw [HW2.out]
  clear HW2
  obtain ⟨m0, m1⟩ := cells2 HX2.out
  go_wp2_with fail
  refine (HCV.out w2 HB2.out).mono ?_
  rintro e w3 ⟨rfl, hb3⟩
  have HB3 := Lib.hid (HB2.out.trans (hb3.mono HB2.out.size))
  have HX3 := Lib.hid (block_below hb3 HX2.out)
  have HY3 := Lib.hid (block_below hb3 HY2.out)
  have HZ3 := Lib.hid (show w.heap.size + 2 ≤ w3.heap.size by have := HZ2.out; have := hb3.size; omega)
  clear hb3 m0 m1
  obtain ⟨m0, m1⟩ := cells2 HX3.out
  obtain ⟨t0, t1, t2, t3, t4⟩ := blk5 HY3.out
  by_cases hE0 : E = 0
  rotate_left
  · have HX := Lib.hid (HBD.out (fun h => hE0 h.1))
    have z1 : (E != 0) = true := by rw [bne_iff_ne]; exact hE0
    clear hE0
    go_wp2_with fail
    go_ret
    exact ⟨by rw [HX.out]; rfl, HB3.out⟩
  subst hE0
  by_cases ha0 : at' < 0
  · have HX := Lib.hid (HBD.out (fun h => by have := h.2.1; omega))
    go_wp2_with fail
    go_ret
    exact ⟨by rw [HX.out]; rfl, HB3.out⟩
  by_cases ham : (m : Int) ≤ at'
  · have HX := Lib.hid (HBD.out (fun h => by have := h.2.2; omega))
    go_wp2_with fail
    go_ret
    exact ⟨by rw [HX.out]; rfl, HB3.out⟩
  have hok : (0 : Int) = 0 ∧ 0 ≤ at' ∧ at' < (m : Int) := ⟨rfl, by omega, by omega⟩
  replace HEND := Lib.hid (HEND.out hok)
  replace HGO := Lib.hid (HGO.out hok)
  replace HNT := Lib.hid (HNT.out rfl hok.2.1)
  clear HBD HCV hok
  obtain ⟨tn, hatn⟩ : ∃ tn : Nat, at' = (tn : Int) := ⟨at'.toNat, by omega⟩
  obtain ⟨⟨rn, ra, rl⟩, hRA⟩ : ∃ x, entA es at' = x := ⟨_, rfl⟩
  have hnt := HNT.out
  rw [hRA] at hnt
  dsimp only at hnt
  obtain ⟨f, hfe⟩ : ∃ f : Nat, ra = (f : Int) := ⟨ra.toNat, by omega⟩
  subst hfe hatn
  have hft : f ≤ tn := by omega
  have HFILL := Lib.hid (show fillB es is (tn : Int) ns nk = (((ns : Int) == rl) && ((nk : Int) == sumD (segL is f tn))) by unfold fillB depA; rw [hRA]; rfl)
  obtain ⟨a, hbo, haat⟩ : ∃ a, bo = some a ∧ InsAt w a is := HIA.out.resolve_left (fun h => by have := HIN.out; rw [h] at this; simp at this; omega)
  have HD2 := Lib.hid (fun (x : Kept w3) => show Calls Try.prog 26 #[.agg #[.slice ao n c, .slice bo m d], .int .i64 (tn : Int)] x.W (fun e w' => e = .returned (.int .i64 (sumD (segL is f tn))) ∧ Below x.W.heap.size x.W w') from HDE.out a f tn hbo haat (by rw [hRA]) hft (by omega) x.W (HB3.out.trans (x.below.mono HB3.out.size)))
  have HE2 := Lib.hid (fun (x : Kept w3) => show Calls Try.prog 25 #[.agg #[.slice ao n c, .slice bo m d], .int .i64 (tn : Int)] x.W (fun e w' => e = .returned (.agg #[.string (str rn), .int .i64 (f : Int), .int .i64 rl]) ∧ Below x.W.heap.size x.W w') from by
    have h := HEN2.out x.W (HB3.out.trans (x.below.mono HB3.out.size))
    rw [hRA] at h
    exact h)
  obtain ⟨D, hD⟩ : ∃ D, sumD (segL is f tn) = D := ⟨_, rfl⟩
  rw [hD] at HFILL HD2
  obtain ⟨FB, hFB⟩ : ∃ FB, (((ns : Int) == rl) && ((nk : Int) == D)) = FB := ⟨_, rfl⟩
  rw [hFB] at HFILL
  have HFF := Lib.hid hFB
  have hfs := field_sl
  clear HEN2 HDE hnt hRA hbo haat hD HIA HPA HNT hFB
  generalize str rn = SN at *
  go_upto_region 3 with fail
  have ka0 := kept_cell m0; have ka1 := kept_cell m1
  have kt0 := kept_cell t0; have kt1 := kept_cell t1; have kt2 := kept_cell t2; have kt3 := kept_cell t3; have kt4 := kept_cell t4
  go_cut [5] from 22 (fun fv wc => fv = .bool FB ∧ Below w3.heap.size w3 wc)
  case first =>
    cases hb1 : ((ns : Int) == rl)
    · have HX := Lib.hid (show FB = false by rw [← HFF.out, hb1]; rfl)
      refine wp_region_kept (by kernel_rfl) (by kernel_rfl) ?_
      repeat (go_big_quiet_step ((first | (go_at_call 25; with_reducible exact Kept.call (HE2.out _)) | (go_at_call 26; with_reducible exact Kept.call (HD2.out _)))))
      refine wpQuiet_nil ?_
      intro _ hw'
      obtain ⟨kx, hw''⟩ := hw'
      subst hw''
      have HKX := Lib.hid kx.below
      go_wp2_with fail
      go_meet
      case rel => exact ⟨by rw [HX.out], HKX.out⟩
    · have HX := Lib.hid (show FB = ((nk : Int) == D) by rw [← HFF.out, hb1]; rfl)
      refine wp_region_kept (by kernel_rfl) (by kernel_rfl) ?_
      repeat (go_big_quiet_step ((first | (go_at_call 25; with_reducible exact Kept.call (HE2.out _)) | (go_at_call 26; with_reducible exact Kept.call (HD2.out _)))))
      refine wpQuiet_nil ?_
      intro _ hw'
      obtain ⟨kx, hw''⟩ := hw'
      subst hw''
      have HKX := Lib.hid kx.below
      go_wp2_with fail
      go_meet
      case rel => exact ⟨by rw [HX.out], HKX.out⟩
  case rest =>
    obtain ⟨rfl, hbc⟩ := hcut
    have HBC := Lib.hid (HB3.out.trans (hbc.mono HB3.out.size))
    have HYC := Lib.hid (block_below hbc HY3.out)
    clear hbc t0 t1 t2 t3 t4 m0 m1 ka0 ka1 kt0 kt1 kt2 kt3 kt4 HD2 HE2 HFF hfs
    obtain ⟨t0, t1, t2, t3, t4⟩ := blk5 HYC.out
    by_cases h34 : st = 3 ∨ st = 4
    · have HX := Lib.hid (HEND.out h34)
      clear HGO HEND
      cases hw0 : (wt == 0)
      · have HX2 := Lib.hid (show R = false by rw [HX.out, hw0]; rfl)
        rcases h34 with rfl | rfl
        all_goals
          go_wp2_with fail
          go_ret
          exact ⟨by rw [HX2.out]; rfl, HBC.out⟩
      cases hs0 : ((ns : Int) == 0)
      · have HX2 := Lib.hid (show R = false by rw [HX.out, hw0, hs0]; rfl)
        rcases h34 with rfl | rfl
        all_goals
          go_wp2_with fail
          go_ret
          exact ⟨by rw [HX2.out]; rfl, HBC.out⟩
      cases hk0 : ((nk : Int) == 0)
      · have HX2 := Lib.hid (show R = false by rw [HX.out, hw0, hs0, hk0]; rfl)
        rcases h34 with rfl | rfl
        all_goals
          go_wp2_with fail
          go_ret
          exact ⟨by rw [HX2.out]; rfl, HBC.out⟩
      have HX2 := Lib.hid (show R = true by rw [HX.out, hw0, hs0, hk0]; rfl)
      rcases h34 with rfl | rfl
      all_goals
        go_wp2_with fail
        go_ret
        exact ⟨by rw [HX2.out]; rfl, HBC.out⟩
    replace HGO := Lib.hid (HGO.out h34)
    have HNO := Lib.hid (show ¬ ((st = 1 ∧ wt = 0) ∨ (st = 2 ∧ 1 ≤ wt ∧ wt ≤ 1048576)) → R = false from fun h => by rw [HGO.out, if_neg h])
    have HYES := Lib.hid (show ((st = 1 ∧ wt = 0) ∨ (st = 2 ∧ 1 ≤ wt ∧ wt ≤ 1048576)) → R = FB from fun h => by rw [HGO.out, if_pos h, HFILL.out])
    have z3 : (st == 3) = false := by rw [beq_eq_false_iff_ne]; exact fun e => h34 (Or.inl e)
    have z4 : (st == 4) = false := by rw [beq_eq_false_iff_ne]; exact fun e => h34 (Or.inr e)
    clear HGO HEND HFILL h34
    by_cases s1 : st = 1
    · subst s1
      by_cases w0 : wt = 0
      · subst w0
        have HX := Lib.hid (HYES.out (Or.inl ⟨rfl, rfl⟩))
        clear HNO HYES
        go_wp2_with fail
        go_ret
        exact ⟨by rw [HX.out]; rfl, HBC.out⟩
      · have z5 : (wt == 0) = false := by rw [beq_eq_false_iff_ne]; exact w0
        have HX := Lib.hid (HNO.out (by rintro (h | h); exact w0 h.2; exact absurd h.1 (by decide)))
        clear HNO HYES
        go_wp2_with fail
        go_ret
        exact ⟨by rw [HX.out]; rfl, HBC.out⟩
    have z5 : (st == 1) = false := by rw [beq_eq_false_iff_ne]; exact s1
    by_cases s2 : st = 2
    · subst s2
      by_cases w1 : 1 ≤ wt
      · by_cases w2 : wt ≤ 1048576
        · have HX := Lib.hid (HYES.out (Or.inr ⟨rfl, w1, w2⟩))
          clear HNO HYES
          go_wp2_with fail
          go_ret
          exact ⟨by rw [HX.out]; rfl, HBC.out⟩
        · have HX := Lib.hid (HNO.out (by rintro (h | h); exact absurd h.1 (by decide); exact w2 h.2.2))
          clear HNO HYES
          go_wp2_with fail
          go_ret
          exact ⟨by rw [HX.out]; rfl, HBC.out⟩
      · have HX := Lib.hid (HNO.out (by rintro (h | h); exact absurd h.1 (by decide); exact w1 h.2.1))
        clear HNO HYES
        go_wp2_with fail
        go_ret
        exact ⟨by rw [HX.out]; rfl, HBC.out⟩
    have z6 : (st == 2) = false := by rw [beq_eq_false_iff_ne]; exact s2
    have HX := Lib.hid (HNO.out (by rintro (h | h); exact s1 h.1; exact s2 h.1))
    clear HNO HYES
    go_wp2_with fail
    go_ret
    exact ⟨by rw [HX.out]; rfl, HBC.out⟩
end Go.Proofs.Ytcicbijpiffbkaa
