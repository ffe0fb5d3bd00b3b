/- Walks: Valid, the program's side. -/
import Derived.Test.YtcicbijpiffbkaaW14
import Derived.Test.YtcicbijpiffbkaaW16
import Derived.Test.YtcicbijpiffbkaaW18
namespace Go.Proofs.Ytcicbijpiffbkaa
open Go.RowKit
set_option linter.unusedVariables false
set_option linter.unusedSimpArgs false
set_option maxRecDepth 100000
set_option maxHeartbeats 4000000

theorem Valid_any (ao bo so ko : Option Addr) (c d n m ns nk sc kc : Nat) (es : List Ent) (is : List Ins) (st at' wt : Int) (hn : es.length = n) (hm : is.length = m) (hz : n ≤ 1000000) (hm2 : m ≤ 1000000) (hnc : n ≤ c) (hmd : m ≤ d) (hE : OkE es) (hI : OkI is)
    (w : World) (he : es = [] ∨ ∃ a, ao = some a ∧ EntAt w a es) (hi : is = [] ∨ ∃ a, bo = some a ∧ InsAt w a is) : KB 12 #[codeV (.slice ao n c) (.slice bo m d), taskV st at' wt (.slice so ns sc) (.slice ko nk kc)] (.bool (validB es is st at' wt ns nk)) w := by
  have HEN := Lib.hid hn; have HEA := Lib.hid he; have HIN := Lib.hid hm; have HIA := Lib.hid hi
  have HCV := Lib.hid (fun w' (hb : Below w.heap.size w w') => cValidate_any ao bo c d n m es is hn hm hz hm2 hnc hmd hE hI w' (he.imp id fun ⟨a, e, y⟩ => ⟨a, e, y.below Ent.l_len hb⟩) (hi.imp id fun ⟨a, e, y⟩ => ⟨a, e, y.below Ins.l_len hb⟩))
  obtain ⟨E, hEE⟩ : ∃ E, codeE es is = E := ⟨_, rfl⟩
  rw [hEE] at HCV
  obtain ⟨R, hR⟩ : ∃ R, validB es is st at' wt ns nk = R := ⟨_, rfl⟩
  rw [hR]
  have HBD := Lib.hid (show ¬ (E = 0 ∧ 0 ≤ at' ∧ at' < (m : Int)) → R = false from fun h => by rw [← hR]; exact valid_bad (by rw [hEE, hm]; exact h))
  have HEND := Lib.hid (show E = 0 ∧ 0 ≤ at' ∧ at' < (m : Int) → st = 3 ∨ st = 4 → R = ((wt == 0) && (((ns : Int) == 0) && ((nk : Int) == 0))) from fun h h2 => by rw [← hR]; exact valid_end (by rw [hEE, hm]; exact h) h2)
  have HGO := Lib.hid (show E = 0 ∧ 0 ≤ at' ∧ at' < (m : Int) → ¬ (st = 3 ∨ st = 4) → R = if (st = 1 ∧ wt = 0) ∨ (st = 2 ∧ 1 ≤ wt ∧ wt ≤ 1048576) then fillB es is at' ns nk else false from fun h h2 => by rw [← hR]; exact valid_go (by rw [hEE, hm]; exact h) h2)
  have HNT := Lib.hid (show E = 0 → 0 ≤ at' → 0 ≤ (entA es at').at' ∧ (entA es at').at' ≤ at' from fun h h2 => ent_bounds (hEE.trans h) h2)
  have HPA := Lib.hid (show entP es at' n = entA es at' by rw [← hn, entP_all])
  have HCH := Lib.hid change_any
  clear he hi hn hm hR hEE
  unfold KB codeV at HCV
  unfold KB codeV
  obtain ⟨w2, hw2⟩ : ∃ w2, (w.alloc (.cells #[.slice ao n c, .slice bo m d] 25)).alloc (taskO st at' wt (.slice so ns sc) (.slice ko nk kc)) = w2 := ⟨_, rfl⟩
  have HB2 := Lib.hid (show Below w.heap.size w w2 by rw [← hw2]; exact (below_new _ _).alloc (by simp) _)
  have HX2 := Lib.hid (show w2.heap[w.heap.size]? = some (.cells #[.slice ao n c, .slice bo m d] 25) by rw [← hw2, Below.heap_alloc _ _ _ (by simp)]; exact tok_new _ _)
  have HY2 := Lib.hid (show w2.heap[w.heap.size + 1]? = some (taskO st at' wt (.slice so ns sc) (.slice ko nk kc)) by
    have h := tok_new (w.alloc (.cells #[.slice ao n c, .slice bo m d] 25)) (taskO st at' wt (.slice so ns sc) (.slice ko nk kc))
    rw [tok_size, hw2] at h
    exact h)
  have HZ2 := Lib.hid (show w2.heap.size = w.heap.size + 2 by rw [← hw2, tok_size, tok_size])
  have HW2 := Lib.hid hw2
  clear hw2
  go_enter Try.func12, Try.ntmps12
  go_upto_region 1 with fail
  rw [HW2.out]
  clear HW2
  obtain ⟨m0, m1⟩ := cells2 HX2.out
  go_wp2_with fail
  refine (HCV.out w2 HB2.out).mono ?_
  rintro e w3 ⟨rfl, hb3⟩
  have HB3 := Lib.hid (HB2.out.trans (hb3.mono HB2.out.size))
  have HX3 := Lib.hid (block_below hb3 HX2.out)
  have HY3 := Lib.hid (block_below hb3 HY2.out)
  have HZ3 := Lib.hid (show w.heap.size + 2 ≤ w3.heap.size by have := HZ2.out; have := hb3.size; omega)
  clear hb3 m0 m1
  obtain ⟨m0, m1⟩ := cells2 HX3.out
  obtain ⟨t0, t1, t2, t3, t4⟩ := blk5 HY3.out
  by_cases hE0 : E = 0
  rotate_left
  · have HX := Lib.hid (HBD.out (fun h => hE0 h.1))
    have z1 : (E != 0) = true := by rw [bne_iff_ne]; exact hE0
    clear hE0
    go_wp2_with fail
    go_ret
    exact ⟨by rw [HX.out]; rfl, HB3.out⟩
  subst hE0
  by_cases ha0 : at' < 0
  · have HX := Lib.hid (HBD.out (fun h => by have := h.2.1; omega))
    go_wp2_with fail
    go_ret
    exact ⟨by rw [HX.out]; rfl, HB3.out⟩
  by_cases ham : (m : Int) ≤ at'
  · have HX := Lib.hid (HBD.out (fun h => by have := h.2.2; omega))
    go_wp2_with fail
    go_ret
    exact ⟨by rw [HX.out]; rfl, HB3.out⟩
  have hok : (0 : Int) = 0 ∧ 0 ≤ at' ∧ at' < (m : Int) := ⟨rfl, by omega, by omega⟩
  replace HEND := Lib.hid (HEND.out hok)
  replace HGO := Lib.hid (HGO.out hok)
  replace HNT := Lib.hid (HNT.out rfl hok.2.1)
  clear HBD HCV hok
  by_cases h34 : st = 3 ∨ st = 4
  · have HX := Lib.hid (HEND.out h34)
    clear HGO HEND
    cases hw0 : (wt == 0)
    · have HX2 := Lib.hid (show R = false by rw [HX.out, hw0]; rfl)
      rcases h34 with rfl | rfl
      all_goals
        go_wp2_with fail
        go_ret
        exact ⟨by rw [HX2.out]; rfl, HB3.out⟩
    cases hs0 : ((ns : Int) == 0)
    · have HX2 := Lib.hid (show R = false by rw [HX.out, hw0, hs0]; rfl)
      rcases h34 with rfl | rfl
      all_goals
        go_wp2_with fail
        go_ret
        exact ⟨by rw [HX2.out]; rfl, HB3.out⟩
    cases hk0 : ((nk : Int) == 0)
    · have HX2 := Lib.hid (show R = false by rw [HX.out, hw0, hs0, hk0]; rfl)
      rcases h34 with rfl | rfl
      all_goals
        go_wp2_with fail
        go_ret
        exact ⟨by rw [HX2.out]; rfl, HB3.out⟩
    have HX2 := Lib.hid (show R = true by rw [HX.out, hw0, hs0, hk0]; rfl)
    rcases h34 with rfl | rfl
    all_goals
      go_wp2_with fail
      go_ret
      exact ⟨by rw [HX2.out]; rfl, HB3.out⟩
  replace HGO := Lib.hid (HGO.out h34)
  have z3 : (st == 3) = false := by rw [beq_eq_false_iff_ne]; exact fun e => h34 (Or.inl e)
  have z4 : (st == 4) = false := by rw [beq_eq_false_iff_ne]; exact fun e => h34 (Or.inr e)
  clear HEND h34
  go_upto_region 6 with fail
  obtain ⟨w5, hw5⟩ : ∃ w5, w3.alloc (.cells #[.string ⟨#[]⟩, .int .i64 0, .int .i64 0] 68) = w5 := ⟨_, rfl⟩
  have HE5 := Lib.hid (show w5.heap[w3.heap.size]? = some (entO ent0) by rw [← hw5]; exact tok_new _ _)
  have HBB5 := Lib.hid (show Below w3.heap.size w3 w5 by rw [← hw5]; exact below_new _ _)
  rw [hw5]
  clear hw5 m0 m1 t0 t1 t2 t3 t4
  have HX5 := Lib.hid (block_below HBB5.out HX3.out)
  obtain ⟨m0, m1⟩ := cells2 HX5.out
  go_wp2_with fail
  clear m0 m1
  have hst := Lib.hid (show w5.heap[w3.heap.size]? = some (entO (entP es at' 0)) from HE5.out)
  go_loopw [54] (fun v wr => ∃ k : Nat, k ≤ n ∧ v = .int .i64 (k : Int) ∧ Below w3.heap.size w3 wr ∧ wr.heap[w3.heap.size]? = some (entO (entP es at' k))) (fun v _ => n - (intOf v).toNat)
  case atStart => exact ⟨0, by omega, rfl, HBB5.out, hst.out⟩
  case round =>
    clear hst HX5 HE5 HBB5
    obtain ⟨k, hk, rfl, hbel, hent⟩ := hrel
    have HBE := Lib.hid hbel
    have HENT := Lib.hid hent
    have HBW := Lib.hid (HB3.out.trans (hbel.mono (by have := HZ3.out; omega)))
    have HXR := Lib.hid (block_below hbel HX3.out)
    have HYR := Lib.hid (block_below hbel HY3.out)
    have HZR := Lib.hid (heap_lt hent)
    clear hbel hent
    obtain ⟨m0, m1⟩ := cells2 HXR.out
    by_cases hkn : k < n
    · have hkl : k < es.length := by have := HEN.out; omega
      obtain ⟨a, rfl, hat⟩ : ∃ a, ao = some a ∧ EntAt w a es := HEA.out.resolve_left (fun h => by rw [h] at hkl; simp at hkl)
      obtain ⟨c0, c1, c2⟩ := entAt (hat.below Ent.l_len HBW.out) k hkl
      have hps := entP_s (a := at') hkl
      obtain ⟨⟨en, ea, el⟩, hx⟩ : ∃ x, es[k] = x := ⟨_, rfl⟩
      rw [hx] at c0 c1 c2 hps
      dsimp only at c0 c1 c2 hps
      have e1 : (0 : Int) ≤ ((k : Int)) := by omega
      have e2 : (k : Int) < (n : Int) := by omega
      have hmeas : n - (k + 1) < n - k := by omega
      obtain ⟨T, hT⟩ : ∃ T, str en = T := ⟨_, rfl⟩
      rw [hT] at c0
      have HTT := Lib.hid hT
      clear hx hat hT m0 m1
      go_upto_region 9 with fail
      obtain ⟨w4, hw4⟩ : ∃ w4, wr.alloc (.cells #[.string T, .int .i64 ea, .int .i64 el] 68) = w4 := ⟨_, rfl⟩
      have HE4 := Lib.hid (show w4.heap[wr.heap.size]? = some (.cells #[.string T, .int .i64 ea, .int .i64 el] 68) by rw [← hw4]; exact tok_new _ _)
      have HBB4 := Lib.hid (show Below wr.heap.size wr w4 by rw [← hw4]; exact below_new _ _)
      have HB4 := Lib.hid (HBE.out.trans (HBB4.out.mono (by have := HZR.out; omega)))
      have HY4 := Lib.hid (block_below HBB4.out HYR.out)
      have HN4 := Lib.hid (block_below HBB4.out HENT.out)
      rw [hw4]
      clear hw4 c0 c1 c2
      obtain ⟨c0, c1, c2⟩ := blk3 HE4.out
      obtain ⟨t0, t1, t2, t3, t4⟩ := blk5 HY4.out
      obtain ⟨⟨y0, y1, y2⟩, q0, q1, q2⟩ := blk3f HN4.out
      have hzs := heap_lt HN4.out
      by_cases hle : ea ≤ at'
      · rw [if_pos hle] at hps
        have HN := Lib.hid (show (st3 w4 w3.heap.size (.string T) (.int .i64 ea) (.int .i64 el)).heap[w3.heap.size]? = some (entO (entP es at' (k + 1))) by rw [hps, ← HTT.out]; exact st3_at HN4.out)
        have HNB := Lib.hid (show Below w3.heap.size w3 (st3 w4 w3.heap.size (.string T) (.int .i64 ea) (.int .i64 el)) from st3_below HB4.out (Nat.le_refl _))
        clear hps
        go_wp2_with fail
        go_roundw
        case rel => exact ⟨k + 1, by omega, by go_num, HNB.out, HN.out⟩
        case measure => simp [intOf]; omega
      · rw [if_neg hle] at hps
        have HN := Lib.hid (show w4.heap[w3.heap.size]? = some (entO (entP es at' (k + 1))) by rw [hps]; exact HN4.out)
        clear hps
        go_wp2_with fail
        go_roundw
        case rel => exact ⟨k + 1, by omega, by go_num, HB4.out, HN.out⟩
        case measure => simp [intOf]; omega
    · obtain rfl : k = n := by omega
      rename World => w6
      rw [HPA.out] at HENT
      obtain ⟨tn, hatn⟩ : ∃ tn : Nat, at' = (tn : Int) := ⟨at'.toNat, by omega⟩
      obtain ⟨⟨rn, ra, rl⟩, hRA⟩ : ∃ x, entA es at' = x := ⟨_, rfl⟩
      have hnt := HNT.out
      rw [hRA] at hnt HENT
      dsimp only at hnt
      obtain ⟨f, hfe⟩ : ∃ f : Nat, ra = (f : Int) := ⟨ra.toNat, by omega⟩
      subst hfe hatn
      have hft : f ≤ tn := by omega
      have HFILL := Lib.hid (show fillB es is (tn : Int) ns nk = (((ns : Int) == rl) && ((nk : Int) == sumD (segL is f tn))) by unfold fillB depA; rw [hRA]; rfl)
      have hlen := segL_len (is := is) hft (by have := HIN.out; omega)
      have HLEN := Lib.hid hlen
      obtain ⟨a, rfl, haat⟩ : ∃ a, bo = some a ∧ InsAt w a is := HIA.out.resolve_left (fun h => by have := HIN.out; rw [h] at this; simp at this; omega)
      have HIP := Lib.hid (haat.part f (tn - f))
      have e2 : ¬ (k : Int) < (k : Int) := by omega
      have i1 : (0 : Int) ≤ (f : Int) := by omega
      have i2 : (f : Int) ≤ (tn : Int) := by omega
      have i3 : (tn : Int) ≤ (d : Int) := by omega
      have HND := Lib.hid hnt
      clear hnt hRA hlen haat HIA HPA HNT
      obtain ⟨t0, t1, t2, t3, t4⟩ := blk5 HYR.out
      obtain ⟨y0, y1, y2⟩ := blk3 HENT.out
      generalize str rn = T at *
      go_wp2_with fail
      have HB6 := Lib.hid (Below.refl w6.heap.size w6)
      clear m0 m1 t0 t1 t2 t3 t4 y0 y1 y2
      have hcs : ((tn - f : Nat) : Int) = (tn : Int) - (f : Int) := by omega
      go_loopw [8, 73] (fun dv iv wr => ∃ (j : Nat) (D : Int), j ≤ tn - f ∧ dv = .int .i64 D ∧ iv = .int .i64 (j : Int) ∧ -3000000 ≤ D ∧ D ≤ 3000000 ∧ Below w6.heap.size w6 wr ∧ Hid (dep (segL is f tn) j = D)) (fun _ iv _ => tn - f - (intOf iv).toNat)
      case atStart => exact ⟨0, 0, by omega, rfl, rfl, by omega, by omega, HB6.out, Lib.hid (dep_0 _)⟩
      case round =>
        clear HB6
        obtain ⟨j, D, hj, rfl, rfl, hD1, hD2, hbel, hD⟩ := hrel
        have HBE2 := Lib.hid (HBE.out.trans (hbel.mono (by have := HZR.out; omega)))
        have HBW := Lib.hid (HBW.out.trans (hbel.mono HBW.out.size))
        have HYQ := Lib.hid (block_below hbel HYR.out)
        have HNQ := Lib.hid (block_below hbel HENT.out)
        have HBQ := Lib.hid (hbel.trans (Below.refl _ _))
        have HSZ := Lib.hid hbel.size
        clear hbel
        by_cases hjn : j < tn - f
        · have hjl : j < (segL is f tn).length := by have := HLEN.out; omega
          obtain ⟨c0, c1, c2, c3⟩ := insAt (HIP.out.below Ins.l_len HBW.out) j hjl
          have hds := dep_s hjl
          have hsl := sumD_le ((segL is f tn).take (j + 1))
          have htl : ((segL is f tn).take (j + 1)).length ≤ j + 1 := by rw [List.length_take]; omega
          obtain ⟨x, hx⟩ : ∃ x, (segL is f tn)[j] = x := ⟨_, rfl⟩
          have hx2 : ((is.drop f).take (tn - f))[j]'hjl = x := hx
          rw [hx2] at c0 c1 c2 c3
          rw [hx] at hds
          have HC := Lib.hid (HCH.out x)
          obtain ⟨G, hG⟩ : ∃ G, delta x = G := ⟨_, rfl⟩
          have hdl := delta_le x
          have hds2 : dep (segL is f tn) (j + 1) = D + G := by rw [hds, hD.out, ← hG]; rfl
          rw [hG] at hdl HC
          obtain ⟨d1, d2⟩ := hdl
          have HDS := Lib.hid (show dep (segL is f tn) (j + 1) = D + G ∧ -3000000 ≤ D + G ∧ D + G ≤ 3000000 from ⟨hds2, by unfold dep at hds2; omega, by unfold dep at hds2; omega⟩)
          obtain ⟨op, xa, xn, s⟩ := x
          dsimp only at c0 c1 c2 c3
          unfold KB Ins.v at HC
          dsimp only at HC
          generalize str s = SS at *
          have e3 : (0 : Int) ≤ (j : Int) := by omega
          have e4 : (j : Int) < ((tn - f : Nat) : Int) := by omega
          have hmeas : tn - f - (j + 1) < tn - f - j := by omega
          clear hx hx2 hds hds2 hsl htl hG hcs
          go_upto_region 16 with fail
          obtain ⟨w8, hw8⟩ : ∃ w8, wr.alloc (.cells #[.int .i64 op, .int .i64 xa, .int .i64 xn, .string SS] 71) = w8 := ⟨_, rfl⟩
          have HI8 := Lib.hid (show w8.heap[wr.heap.size]? = some (.cells #[.int .i64 op, .int .i64 xa, .int .i64 xn, .string SS] 71) by rw [← hw8]; exact tok_new _ _)
          have HB8 := Lib.hid (show Below wr.heap.size wr w8 by rw [← hw8]; exact below_new _ _)
          rw [hw8]
          clear hw8 c0 c1 c2 c3
          obtain ⟨c0, c1, c2, c3⟩ := blk4 HI8.out
          go_wp2_with fail
          refine (HC.out _).mono ?_
          rintro e w9 ⟨rfl, hb9⟩
          have HB9 := Lib.hid (HBQ.out.trans ((HB8.out.mono HSZ.out).trans (hb9.mono (Nat.le_trans HSZ.out HB8.out.size))))
          clear hb9 c0 c1 c2 c3
          go_wp2_with fail
          go_roundw
          case rel => exact ⟨j + 1, D + G, by omega, rfl, by go_num, HDS.out.2.1, HDS.out.2.2, HB9.out, Lib.hid HDS.out.1⟩
          case measure => simp [intOf]; omega
        · obtain rfl : j = tn - f := by omega
          have HFIL := Lib.hid (show fillB es is (tn : Int) ns nk = (((ns : Int) == rl) && ((nk : Int) == D)) by
            rw [HFILL.out, ← hD.out]
            unfold dep
            rw [List.take_of_length_le (by rw [HLEN.out]; exact Nat.le_refl _)])
          have HNO := Lib.hid (show ¬ ((st = 1 ∧ wt = 0) ∨ (st = 2 ∧ 1 ≤ wt ∧ wt ≤ 1048576)) → R = false from fun h => by rw [HGO.out, if_neg h])
          have HYES := Lib.hid (show ((st = 1 ∧ wt = 0) ∨ (st = 2 ∧ 1 ≤ wt ∧ wt ≤ 1048576)) → R = (((ns : Int) == rl) && ((nk : Int) == D)) from fun h => by rw [HGO.out, if_pos h, HFIL.out])
          have e5 : ¬ ((tn - f : Nat) : Int) < ((tn - f : Nat) : Int) := by omega
          clear HGO HFILL hD HFIL hcs
          obtain ⟨t0, t1, t2, t3, t4⟩ := blk5 HYQ.out
          obtain ⟨y0, y1, y2⟩ := blk3 HNQ.out
          by_cases s1 : st = 1
          · subst s1
            by_cases w0 : wt = 0
            · subst w0
              have HFIL := Lib.hid (HYES.out (Or.inl ⟨rfl, rfl⟩))
              clear HNO HYES
              go_upto_region 19 with fail
              cases hb1 : ((ns : Int) == rl)
              · have HX := Lib.hid (show R = false by rw [HFIL.out, hb1]; rfl)
                go_wp2_with fail
                go_ret
                exact ⟨by rw [HX.out]; rfl, HBW.out⟩
              cases hb2 : ((nk : Int) == D)
              · have HX := Lib.hid (show R = false by rw [HFIL.out, hb1, hb2]; rfl)
                go_wp2_with fail
                go_ret
                exact ⟨by rw [HX.out]; rfl, HBW.out⟩
              have HX := Lib.hid (show R = true by rw [HFIL.out, hb1, hb2]; rfl)
              go_wp2_with fail
              go_ret
              exact ⟨by rw [HX.out]; rfl, HBW.out⟩
            · have z5 : (wt == 0) = false := by rw [beq_eq_false_iff_ne]; exact w0
              have HX := Lib.hid (HNO.out (by rintro (h | h); exact w0 h.2; exact absurd h.1 (by decide)))
              go_wp2_with fail
              go_ret
              exact ⟨by rw [HX.out]; rfl, HBW.out⟩
          have z5 : (st == 1) = false := by rw [beq_eq_false_iff_ne]; exact s1
          by_cases s2 : st = 2
          · subst s2
            by_cases w1 : 1 ≤ wt
            · by_cases w2 : wt ≤ 1048576
              · have HFIL := Lib.hid (HYES.out (Or.inr ⟨rfl, w1, w2⟩))
                clear HNO HYES
                go_upto_region 19 with fail
                cases hb1 : ((ns : Int) == rl)
                · have HX := Lib.hid (show R = false by rw [HFIL.out, hb1]; rfl)
                  go_wp2_with fail
                  go_ret
                  exact ⟨by rw [HX.out]; rfl, HBW.out⟩
                cases hb2 : ((nk : Int) == D)
                · have HX := Lib.hid (show R = false by rw [HFIL.out, hb1, hb2]; rfl)
                  go_wp2_with fail
                  go_ret
                  exact ⟨by rw [HX.out]; rfl, HBW.out⟩
                have HX := Lib.hid (show R = true by rw [HFIL.out, hb1, hb2]; rfl)
                go_wp2_with fail
                go_ret
                exact ⟨by rw [HX.out]; rfl, HBW.out⟩
              · skip
                have HX := Lib.hid (HNO.out (by rintro (h | h); exact absurd h.1 (by decide); exact w2 h.2.2))
                go_wp2_with fail
                go_ret
                exact ⟨by rw [HX.out]; rfl, HBW.out⟩
            · skip
              have HX := Lib.hid (HNO.out (by rintro (h | h); exact absurd h.1 (by decide); exact w1 h.2.1))
              go_wp2_with fail
              go_ret
              exact ⟨by rw [HX.out]; rfl, HBW.out⟩
          have z6 : (st == 2) = false := by rw [beq_eq_false_iff_ne]; exact s2
          have HX := Lib.hid (HNO.out (by rintro (h | h); exact s1 h.1; exact s2 h.1))
          go_wp2_with fail
          go_ret
          exact ⟨by rw [HX.out]; rfl, HBW.out⟩
end Go.Proofs.Ytcicbijpiffbkaa
