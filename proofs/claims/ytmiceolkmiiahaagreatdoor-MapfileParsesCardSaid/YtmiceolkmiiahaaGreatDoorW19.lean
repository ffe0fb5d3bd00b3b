/- Walks: Print of a valid map. -/
import Derived.Test.YtmiceolkmiiahaaGreatDoorW18
namespace Go.Proofs.YtmiceolkmiiahaaGreatDoor
open Go.RowKit
set_option linter.unusedVariables false
set_option linter.unusedSimpArgs false
set_option maxRecDepth 100000
set_option maxHeartbeats 32000000

theorem line_s (s1 s2 : ByteArray) (l : List UInt8) (ns : List Int) (h1 : s1 = str l) (h2 : str (lineL l ns) = s2) (hll : l.length ≤ 100000) (hz : ns.length ≤ 1000) (hb : ∀ x ∈ ns, I64 x) (a : Addr) (n ca : Nat) (hn : ns.length = n) (w : World) (ht : Tab w) (ha : IntAt w a ns) :
    KB 19 #[.string s1, .slice (some a) n ca] (.string s2) w := by
  rw [h1, ← h2]
  exact line_any l a n ca ns hn (by omega) hll hb w ht ha
theorem ws_s (B : Nat) (l s r : List UInt8) (s2 : ByteArray) (h2 : str s = s2) (w : World) (hr : l ++ s = r) (h : IB B B l w) (hl : l.length ≤ 1000000) (hs : s.length ≤ 1000000) :
    Calls Tryz.prog 18 #[.pointer (some ⟨B, 0, none⟩), .string s2] w fun e w' => e = .returned (.tuple #[.int .i64 s.length, .nilIface]) ∧ IB B B r w' ∧ Below B w w' := by
  rw [← h2]
  exact (ws_e B B l s r w hr h hl hs).mono fun e w' ⟨h1, h2, h3⟩ => ⟨h1, h2, h3.1⟩

theorem Print_ok (n : List UInt8) (hn : n.length ≤ 1000) (W H : Int) (hWH : 1 ≤ W ∧ W ≤ 32 ∧ 1 ≤ H ∧ H ≤ 32) (cv pv : Value) (cs : List Cel) (ps : List Po) (w : World) (hc : CelSl w cv cs) (hcz : cs.length ≤ 1100) (hp : PoSl w pv ps) (hpz : ps.length ≤ 20)
    (hv : ∀ c ∈ cs, celB c = true) (hpb : ∀ p ∈ ps, I64 p.x ∧ I64 p.y) (hT : Tab w) (h1 : ∀ w', Below w.heap.size w w' → KB 11 #[fileV (str n) W H cv pv] (.int .i64 0) w') :
    KB 9 #[fileV (str n) W H cv pv] (.tuple #[.string (str (printL n W H cs ps)), .int .i64 0]) w := by
  obtain ⟨ao, ca, rfl, ha⟩ := hc
  obtain ⟨bo, cb, rfl, hb⟩ := hp
  have HCS := Lib.hid (show CelSl w (.slice ao cs.length ca) cs from ⟨ao, ca, rfl, ha⟩)
  have HA := Lib.hid ha; have HB := Lib.hid hb; have HT := Lib.hid hT; have H1 := Lib.hid h1; have HV := Lib.hid hv; have HPB := Lib.hid hpb
  obtain ⟨nc, hnc⟩ : ∃ k, cs.length = k := ⟨_, rfl⟩
  obtain ⟨np, hnp⟩ : ∃ k, ps.length = k := ⟨_, rfl⟩
  obtain ⟨sn, hsn⟩ : ∃ s, str n = s := ⟨_, rfl⟩
  obtain ⟨s1, hs1⟩ : ∃ s, str (headL n W H) = s := ⟨_, rfl⟩
  obtain ⟨s2, hs2⟩ : ∃ s, str (rowsL kindC W 0 cs) = s := ⟨_, rfl⟩
  obtain ⟨s3, hs3⟩ : ∃ s, str (rowsL highC W 0 cs) = s := ⟨_, rfl⟩
  obtain ⟨R2, hR2⟩ : ∃ R, printL n W H cs ps = R := ⟨_, rfl⟩
  have hzn : sn.size ≤ 1000 := by rw [← hsn, str_size]; exact hn
  obtain ⟨W1, W2, W3, W4⟩ := hWH
  have hbW : ∀ x ∈ [W, H], I64 x := by
    intro x hx
    simp only [List.mem_cons, List.not_mem_nil, or_false] at hx
    unfold I64
    omega
  have HL := Lib.hid (fun a w ht ha => line_s (⟨#[109, 97, 112, 32]⟩ ++ sn) s1 (mapW ++ n) [W, H] (by rw [← hsn]; exact str_append mapW n) hs1 (by simp [mapW]; omega) (by simp) hbW a 2 2 rfl w ht ha)
  have hk2 := rowsL_len kindC W cs 0
  have hk3 := rowsL_len highC W cs 0
  have hhl : (headL n W H).length ≤ 2000 := by
    have := lineL_len (mapW ++ n) [W, H] hbW
    have h4 : (mapW ++ n).length = 4 + n.length := by rw [List.length_append]; rfl
    have h5 : [W, H].length = 2 := rfl
    unfold headL
    omega
  have HW1 := Lib.hid (fun B w h => ws_s B [] (headL n W H) (headL n W H) s1 hs1 w rfl h (by simp) (by omega))
  have HW2 := Lib.hid (fun B w h => ws_s B (headL n W H) (rowsL kindC W 0 cs) (headL n W H ++ rowsL kindC W 0 cs) s2 hs2 w rfl h (by omega) (by omega))
  have HW3 := Lib.hid (fun B w h => ws_s B (headL n W H ++ rowsL kindC W 0 cs) (rowsL highC W 0 cs) (headL n W H ++ rowsL kindC W 0 cs ++ rowsL highC W 0 cs) s3 hs3 w rfl h (by simp; omega) (by omega))
  have HR2 := Lib.hid (fun w h => rows_Print1 kindC W H (.slice ao cs.length ca) cs ⟨W1, by omega⟩ (by omega) (fun c hc w => Print1_any c w) w h)
  have HR3 := Lib.hid (fun w h => rows_Print2 highC W H (.slice ao cs.length ca) cs ⟨W1, by omega⟩ (by omega) (fun c hc w => Print2_any c (by have := celB_k (hv c hc); omega) w) w h)
  rw [hs2] at HR2
  rw [hs3] at HR3
  rw [hsn] at H1 ⊢
  rw [hnc] at HCS HR2 HR3 H1 hcz ⊢
  rw [hnp] at H1 hpz ⊢
  have HNC := Lib.hid hnc; have HNP := Lib.hid hnp; have HPR := Lib.hid hR2
  have HLEN := Lib.hid (And.intro hhl (And.intro hk2 hk3))
  rw [hR2]
  unfold KB fileV at *
  clear ha hb hT h1 hv hpb hnc hnp hsn hs1 hs2 hs3 hR2 hn hbW hk2 hk3 hhl
  go_enter Tryz.func9, Tryz.ntmps9
  go_wp2_with fail
  refine (H1.out _ (below_new _ _)).mono ?_
  rintro e w1 ⟨rfl, hb⟩
  obtain ⟨n1, hb1, hz1⟩ := new_below hb
  obtain ⟨⟨c0, c1, c2, c3, c4⟩, _⟩ := cells5 n1
  have HO := Lib.hid n1; have HB1 := Lib.hid hb1
  have hf := Lib.hid (fresh_IB w1)
  clear hb n1 hb1 H1
  go_wp2_with fail
  have hia := intAt_two (w := w1.alloc (.cells #[.pointer none, .slice none 0 0] 45)) (t := 3) W H
  rw [tok_size] at hia
  refine (HL.out _ _ (HT.out.below ((HB1.out.alloc (by omega) _).alloc (by simp; omega) _)) hia).mono ?_
  rintro e w2 ⟨rfl, hb2⟩
  have q2 := (below_new (w1.alloc (.cells #[.pointer none, .slice none 0 0] 45)) _).trans (hb2.mono (by simp))
  have i2 := Lib.hid (hf.out.below q2)
  have b2 := Lib.hid ((below_new w1 _).trans (q2.mono (by simp)))
  clear hia hb2 q2 hf c0 c1 c2 c3 c4
  go_wp2_with fail
  refine (HW1.out w1.heap.size w2 i2.out).mono ?_
  rintro e w3 ⟨rfl, i3, b3⟩
  have b3 := Lib.hid (b2.out.trans b3)
  have i3 := Lib.hid i3
  obtain ⟨⟨c0, c1, c2, c3, c4⟩, _⟩ := cells5 (by rw [b3.out.block _ hz1]; exact HO.out)
  clear i2 b2
  go_wp2_with fail
  refine (HR2.out w3 (CelSl.below HCS.out (HB1.out.trans (b3.out.mono (by omega))))).mono ?_
  rintro e w4 ⟨rfl, hb4⟩
  have i4 := Lib.hid (i3.out.below hb4)
  have b4 := Lib.hid (b3.out.trans (hb4.mono b3.out.size))
  clear hb4 i3 b3 c0 c1 c2 c3 c4
  go_wp2_with fail
  refine (HW2.out w1.heap.size w4 i4.out).mono ?_
  rintro e w5 ⟨rfl, i5, b5⟩
  have b5 := Lib.hid (b4.out.trans b5)
  have i5 := Lib.hid i5
  obtain ⟨⟨c0, c1, c2, c3, c4⟩, _⟩ := cells5 (by rw [b5.out.block _ hz1]; exact HO.out)
  clear i4 b4
  go_wp2_with fail
  refine (HR3.out w5 (CelSl.below HCS.out (HB1.out.trans (b5.out.mono (by omega))))).mono ?_
  rintro e w6 ⟨rfl, hb6⟩
  have i6 := Lib.hid (i5.out.below hb6)
  have b6 := Lib.hid (b5.out.trans (hb6.mono b5.out.size))
  clear hb6 i5 b5 c0 c1 c2 c3 c4
  go_wp2_with fail
  refine (HW3.out w1.heap.size w6 i6.out).mono ?_
  rintro e w7 ⟨rfl, i7, b7⟩
  have b7 := Lib.hid (b6.out.trans b7)
  have i7 := Lib.hid i7
  obtain ⟨⟨c0, c1, c2, c3, c4⟩, _⟩ := cells5 (by rw [b7.out.block _ hz1]; exact HO.out)
  clear i6 b6 HL HW1 HW2 HW3 HR2 HR3
  go_wp2_with fail
  clear c0 c1 c2 c3 c4
  obtain ⟨hd, hhd⟩ : ∃ l, headL n W H ++ rowsL kindC W 0 cs ++ rowsL highC W 0 cs = l := ⟨_, rfl⟩
  have hdl : hd.length ≤ 300000 := by
    rw [← hhd]
    obtain ⟨h1, h2, h3⟩ := HLEN.out
    simp only [List.length_append]
    have := HNC.out
    omega
  rw [hhd] at i7
  obtain ⟨R1, hR1⟩ : ∃ l, hd ++ amountsL W 0 cs = l := ⟨_, rfl⟩
  have HPR2 := Lib.hid (show R1 ++ startsL ps = R2 by rw [← HPR.out, ← hR1, ← hhd]; rfl)
  have hst := Lib.hid (show PrRel w1.heap.size w1 W cs R1 (.int .i64 0) w7 from ⟨0, hd, rfl, by omega, by omega, by rw [List.drop_zero]; exact hR1, i7.out, b7.out⟩)
  clear hhd hdl hR1 i7 b7 HPR HLEN
  go_loopw [40] (fun i wr => PrRel w1.heap.size w1 W cs R1 i wr) (fun i _ => nc - (intOf i).toNat)
  case atStart => exact hst.out
  case round =>
    clear hst
    obtain ⟨k, acc, rfl, hk, hlen, hrow, hib, hbel⟩ := hrel
    have HE := Lib.hid hbel
    have HI := Lib.hid hib
    have hkn' : k ≤ nc := by have := HNC.out; omega
    have hzr := hbel.size
    have hwr : w.heap.size < wr.heap.size := by omega
    obtain ⟨⟨c0, c1, c2, c3, c4⟩, _⟩ := cells5 (by rw [hbel.block _ hz1]; exact HO.out)
    have c1k := fun w' (hb : Below wr.heap.size wr w') => cell_below hb c1
    by_cases hkn : k < nc
    · have hkl : k < cs.length := by have := HNC.out; omega
      obtain ⟨a, rfl, hat⟩ : ∃ a, ao = some a ∧ CelAt w a cs := HA.out.resolve_left (fun h => by rw [h] at hkl; simp at hkl)
      have hall : Below w.heap.size w wr := HB1.out.trans (hbel.mono (by omega))
      obtain ⟨k0, k1, k2⟩ := celAt (hat.below Cel.l_len hall) k hkl
      have hcel := celB_k (HV.out cs[k] (List.getElem_mem hkl))
      have hd : cs.drop k = cs[k] :: cs.drop (k + 1) := List.drop_eq_getElem_cons hkl
      rw [hd] at hrow
      obtain ⟨⟨ck, ch, cv⟩, hx⟩ : ∃ t, cs[k] = t := ⟨_, rfl⟩
      rw [hx] at k0 k1 k2 hcel hrow
      dsimp only at k0 k1 k2 hcel
      have HAt := Lib.hid (fun w => At_nat W k W1 (by omega) (by omega) w)
      have q1 : 0 ≤ (k : Int) % W := Int.emod_nonneg _ (by omega)
      have q2 : (k : Int) % W < W := Int.emod_lt_of_pos _ (by omega)
      have q3 : 0 ≤ (k : Int) / W := Int.ediv_nonneg (by omega) (by omega)
      have q4 : (k : Int) / W ≤ k := Int.ediv_le_self _ (by omega)
      have hrow2 : acc ++ ((if richB ck then lineL amountW [(k : Int) % W, (k : Int) / W, cv] else []) ++ amountsL W (k + 1) (cs.drop (k + 1))) = R1 := hrow
      obtain ⟨qx, hqx⟩ : ∃ x, (k : Int) % W = x := ⟨_, rfl⟩
      obtain ⟨qy, hqy⟩ : ∃ x, (k : Int) / W = x := ⟨_, rfl⟩
      rw [hqx, hqy] at HAt hrow2
      rw [hqx] at q1 q2
      rw [hqy] at q3 q4
      have hI : ∀ x ∈ [qx, qy, cv], I64 x := by
        intro x hx
        simp only [List.mem_cons, List.not_mem_nil, or_false] at hx
        unfold I64
        omega
      have hll := lineL_len amountW [qx, qy, cv] hI
      have hll2 : (lineL amountW [qx, qy, cv]).length ≤ 73 := hll
      unfold KB Po.v at HAt
      dsimp only at HAt
      have HRI := Lib.hid (rich_any ck)
      have e1 : (0 : Int) ≤ ((k : Int)) := by omega
      have e2 : (k : Int) < (nc : Int) := by omega
      have e3 : (k : Int) ≤ 100000 := by omega
      have HROW := Lib.hid hrow2
      have HLN := Lib.hid hI
      clear hib hall hat hd hx hrow hrow2 hbel hcel hqx hqy hI hll c0 c2 c3 c4
      cases hbr : richB ck
      · rw [hbr] at HRI HROW
        have HROW2 := Lib.hid (show acc ++ amountsL W (k + 1) (cs.drop (k + 1)) = R1 by rw [← HROW.out]; rfl)
        clear HROW hbr
        go_wp2_with fail
        refine (HAt.out _).mono ?_
        rintro e w2 ⟨rfl, hb2⟩
        obtain ⟨n2, hb2', hz2⟩ := new_below hb2
        obtain ⟨⟨g0, g1, g2⟩, _⟩ := cells3 n2
        have HB2 := Lib.hid hb2'
        clear n2 hb2 hb2' k0 k1 k2 c1 c1k
        go_wp2_with fail
        refine (HRI.out _).mono ?_
        rintro e w3 ⟨rfl, rfl⟩
        go_wp2_with fail
        go_roundw
        case rel =>
          have hx3 : Below wr.heap.size wr (w2.alloc (.cells #[.int .i64 qx, .int .i64 qy] 55)) := HB2.out.alloc (by omega) _
          exact ⟨k + 1, acc, by go_num, by have := HNC.out; omega, by omega, HROW2.out, HI.out.below hx3, HE.out.trans (hx3.mono (by omega))⟩
        case measure => simp [intOf]; omega
      · rw [hbr] at HRI HROW
        obtain ⟨s4, hs4⟩ : ∃ s, str (lineL amountW [qx, qy, cv]) = s := ⟨_, rfl⟩
        have HROW2 := Lib.hid (show acc ++ lineL amountW [qx, qy, cv] ++ amountsL W (k + 1) (cs.drop (k + 1)) = R1 by rw [← HROW.out]; simp)
        have HL := Lib.hid (fun a w ht ha => line_s ⟨#[97, 109, 111, 117, 110, 116]⟩ s4 amountW [qx, qy, cv] rfl hs4 (by simp [amountW]) (by simp) HLN.out a 3 3 rfl w ht ha)
        have HWS := Lib.hid (fun B w h => ws_s B acc (lineL amountW [qx, qy, cv]) (acc ++ lineL amountW [qx, qy, cv]) s4 hs4 w rfl h (by omega) (by omega))
        clear HROW hbr hs4
        go_wp2_with fail
        refine (HAt.out _).mono ?_
        rintro e w2 ⟨rfl, hb2⟩
        obtain ⟨n2, hb2', hz2⟩ := new_below hb2
        obtain ⟨⟨g0, g1, g2⟩, _⟩ := cells3 n2
        have HB2 := Lib.hid hb2'
        clear n2 hb2 hb2' k0 k1 k2 c1 c1k
        go_wp2_with fail
        refine (HRI.out _).mono ?_
        rintro e w3 ⟨rfl, rfl⟩
        go_wp2_with fail
        have hia := intAt_three (w := w2.alloc (.cells #[.int .i64 qx, .int .i64 qy] 55)) (t := 3) qx qy cv
        rw [tok_size] at hia
        have hx4 : Below wr.heap.size wr ((w2.alloc (.cells #[.int .i64 qx, .int .i64 qy] 55)).alloc (.cells #[.int .i64 qx, .int .i64 qy, .int .i64 cv] 3)) := (HB2.out.alloc (by omega) _).alloc (by simp; omega) _
        refine (HL.out _ _ (HT.out.below (HB1.out.trans ((HE.out.mono (by omega)).trans (hx4.mono (by omega))))) hia).mono ?_
        rintro e w4 ⟨rfl, hb4⟩
        have hb4' : Below wr.heap.size wr w4 := hx4.trans (hb4.mono (by simp; omega))
        have i4 := Lib.hid (HI.out.below hb4')
        have b4 := Lib.hid (HE.out.trans (hb4'.mono (by omega)))
        clear hia hx4 hb4 hb4' g0 g1 g2
        go_wp2_with fail
        refine (HWS.out w1.heap.size w4 i4.out).mono ?_
        rintro e w5 ⟨rfl, i5, b5⟩
        have b5 := Lib.hid (b4.out.trans b5)
        have i5 := Lib.hid i5
        go_wp2_with fail
        go_roundw
        case rel => exact ⟨k + 1, acc ++ lineL amountW [qx, qy, cv], by go_num, by have := HNC.out; omega, by simp only [List.length_append]; omega, HROW2.out, i5.out, b5.out⟩
        case measure => simp [intOf]; omega
    · have hacc : acc = R1 := by
        rw [← hrow, List.drop_of_length_le (by have := HNC.out; omega)]
        simp [amountsL]
      subst hacc
      have hst2 := Lib.hid (show PsRel w1.heap.size w1 ps R2 (.int .i64 0) wr from ⟨0, acc, rfl, by omega, by omega, by rw [List.drop_zero]; exact HPR2.out, hib, hbel⟩)
      clear hrow hib hbel
      go_wp2_with fail
      clear c0 c1 c2 c3 c4 c1k
      go_loopw [66] (fun i wr => PsRel w1.heap.size w1 ps R2 i wr) (fun i _ => np - (intOf i).toNat)
      case atStart => exact hst2.out
      case round =>
        clear hst2 HI HE hzr hwr
        obtain ⟨j, acc', rfl, hj, hlen', hrow, hib, hbel⟩ := hrel
        have HE := Lib.hid hbel
        have HI := Lib.hid hib
        have hjn' : j ≤ np := by have := HNP.out; omega
        have hzr := hbel.size
        by_cases hjn : j < np
        · have hjl : j < ps.length := by have := HNP.out; omega
          obtain ⟨b, rfl, hat⟩ : ∃ b, bo = some b ∧ PoAt w b ps := HB.out.resolve_left (fun h => by rw [h] at hjl; simp at hjl)
          have hall : Below w.heap.size w wr := HB1.out.trans (hbel.mono (by omega))
          obtain ⟨k0, k1⟩ := poAt (hat.below Po.l_len hall) j hjl
          have hI' := HPB.out ps[j] (List.getElem_mem hjl)
          have hd : ps.drop j = ps[j] :: ps.drop (j + 1) := List.drop_eq_getElem_cons hjl
          rw [hd] at hrow
          obtain ⟨⟨x, y⟩, hx⟩ : ∃ t, ps[j] = t := ⟨_, rfl⟩
          rw [hx] at k0 k1 hI' hrow
          dsimp only at k0 k1 hI'
          have hI : ∀ z ∈ [x, y], I64 z := by
            intro z hz
            simp only [List.mem_cons, List.not_mem_nil, or_false] at hz
            rcases hz with rfl | rfl
            · exact hI'.1
            · exact hI'.2
          have hll2 : (lineL startW [x, y]).length ≤ 50 := lineL_len startW [x, y] hI
          obtain ⟨s4, hs4⟩ : ∃ s, str (lineL startW [x, y]) = s := ⟨_, rfl⟩
          have HROW2 := Lib.hid (show acc' ++ lineL startW [x, y] ++ startsL (ps.drop (j + 1)) = R2 by rw [← hrow]; simp [startsL])
          have HL := Lib.hid (fun a w ht ha => line_s ⟨#[115, 116, 97, 114, 116]⟩ s4 startW [x, y] rfl hs4 (by simp [startW]) (by simp) hI a 2 2 rfl w ht ha)
          have HWS := Lib.hid (fun B w h => ws_s B acc' (lineL startW [x, y]) (acc' ++ lineL startW [x, y]) s4 hs4 w rfl h (by omega) (by omega))
          have e1 : (0 : Int) ≤ ((j : Int)) := by omega
          have e2 : (j : Int) < (np : Int) := by omega
          clear hib hall hat hd hx hrow hbel hI hI' hs4
          go_wp2_with fail
          have hia := intAt_two (w := wr.alloc (.cells #[.int .i64 x, .int .i64 y] 55)) (t := 3) x y
          rw [tok_size] at hia
          have hx4 : Below wr.heap.size wr ((wr.alloc (.cells #[.int .i64 x, .int .i64 y] 55)).alloc (.cells #[.int .i64 x, .int .i64 y] 3)) := (below_new _ _).alloc (Nat.le_succ _ |> fun _ => by rw [tok_size]; omega) _
          refine (HL.out _ _ (HT.out.below (HB1.out.trans ((HE.out.mono (by omega)).trans (hx4.mono (by omega))))) hia).mono ?_
          rintro e w4 ⟨rfl, hb4⟩
          have hb4' : Below wr.heap.size wr w4 := hx4.trans (hb4.mono (by simp; omega))
          have i4 := Lib.hid (HI.out.below hb4')
          have b4 := Lib.hid (HE.out.trans (hb4'.mono (by omega)))
          clear hia hx4 hb4 hb4' k0 k1
          go_wp2_with fail
          refine (HWS.out w1.heap.size w4 i4.out).mono ?_
          rintro e w5 ⟨rfl, i5, b5⟩
          have b5 := Lib.hid (b4.out.trans b5)
          have i5 := Lib.hid i5
          go_wp2_with fail
          go_roundw
          case rel => exact ⟨j + 1, acc' ++ lineL startW [x, y], by go_num, by have := HNP.out; omega, by simp only [List.length_append]; omega, HROW2.out, i5.out, b5.out⟩
          case measure => simp [intOf]; omega
        · have hacc' : acc' = R2 := by
            rw [← hrow, List.drop_of_length_le (by have := HNP.out; omega)]
            simp [startsL]
          subst hacc'
          have HBS := Lib.hid (bstr_l w1.heap.size w1.heap.size acc' wr hib)
          clear hrow hib hbel
          go_wp2_with fail
          refine HBS.out.mono ?_
          rintro e w2 ⟨rfl, hb2⟩
          go_wp2_with fail
          go_ret2
          exact ⟨rfl, HB1.out.trans ((HE.out.mono (by omega)).trans (hb2.mono (by omega)))⟩
end Go.Proofs.YtmiceolkmiiahaaGreatDoor
