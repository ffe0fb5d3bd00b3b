/- Walks: the reference's Print. -/
import Derived.Test.YtmiceolkmiiahaaGreatDoorW21
namespace Go.Proofs.YtmiceolkmiiahaaGreatDoor
open Go.RowKit
set_option linter.unusedVariables false
set_option linter.unusedSimpArgs false
set_option maxRecDepth 100000
set_option maxHeartbeats 32000000

theorem text_any (x : Int) (h : 0 ≤ x ∧ x ≤ 9223372036854775807) : KC 27 #[.int .i64 x] (.string (str (Lib.itoa x))) := by
  have e : ((x.toNat : Nat) : Int) = x := by omega
  have := rText_any x.toNat (by omega)
  rw [← dec_itoa, e] at this
  exact this
def itS (x : Int) : ByteArray := str (Lib.itoa x)
theorem text_s (x : Int) (h : 0 ≤ x ∧ x ≤ 9223372036854775807) : KC 27 #[.int .i64 x] (.string (itS x)) := text_any x h
theorem rPrint_err (n : ByteArray) (W H : Int) (cv pv : Value) (r : Int) (hr : r ≠ 0) (w : World) (h1 : ∀ w', Below w.heap.size w w' → KB 12 #[fileV n W H cv pv] (.int .i64 r) w') :
    KB 10 #[fileV n W H cv pv] (.tuple #[.string ⟨#[]⟩, .int .i64 r]) w := by
  have H1 := Lib.hid h1
  clear h1
  unfold KB fileV at *
  have e1 : (r != 0) = true := by simpa using hr
  go_enter Tryz.func10, Tryz.ntmps10
  go_wp2_with fail
  refine (H1.out _ (below_new _ _)).mono ?_
  rintro e w1 ⟨rfl, hb⟩
  obtain ⟨n1, hb1, hz1⟩ := new_below hb
  go_wp2_with fail
  go_ret2
  exact ⟨rfl, hb1⟩
def RpRel (w2 : World) (W : Int) (cs : List Cel) (R : List UInt8) (s i : Value) (wr : World) : Prop :=
  ∃ (k : Nat) (acc : List UInt8), s = .string (str acc) ∧ i = .int .i64 (k : Int) ∧ k ≤ cs.length ∧ acc.length ≤ 300000 + 100 * k ∧ acc ++ amountsL W k (cs.drop k) = R ∧ Below w2.heap.size w2 wr
def RsRel (w2 : World) (ps : List Po) (R : List UInt8) (s i : Value) (wr : World) : Prop :=
  ∃ (k : Nat) (acc : List UInt8), s = .string (str acc) ∧ i = .int .i64 (k : Int) ∧ k ≤ ps.length ∧ acc.length ≤ 500000 + 100 * k ∧ acc ++ startsL (ps.drop k) = R ∧ Below w2.heap.size w2 wr
theorem itoa_sz (x : Int) (h : 0 ≤ x ∧ x ≤ 9223372036854775807) : (str (Lib.itoa x)).size ≤ 21 := by rw [str_size]; exact Lib.itoa_length_le x (by omega) h.2
theorem rPrint_ok (n : List UInt8) (hn : n.length ≤ 1000) (W H : Int) (hWH : 1 ≤ W ∧ W ≤ 32 ∧ 1 ≤ H ∧ H ≤ 32) (cv pv : Value) (cs : List Cel) (ps : List Po) (w : World) (hc : CelSl w cv cs) (hcz : cs.length ≤ 1100) (hp : PoSl w pv ps) (hpz : ps.length ≤ 20)
    (hv : ∀ c ∈ cs, celB c = true) (hpb : ∀ p ∈ ps, (0 ≤ p.x ∧ p.x ≤ 1000) ∧ (0 ≤ p.y ∧ p.y ≤ 1000)) (h1 : ∀ w', Below w.heap.size w w' → KB 12 #[fileV (str n) W H cv pv] (.int .i64 0) w') :
    KB 10 #[fileV (str n) W H cv pv] (.tuple #[.string (str (printL n W H cs ps)), .int .i64 0]) w := by
  obtain ⟨ao, ca, rfl, ha⟩ := hc
  obtain ⟨bo, cb, rfl, hb⟩ := hp
  have HCS := Lib.hid (show CelSl w (.slice ao cs.length ca) cs from ⟨ao, ca, rfl, ha⟩)
  have HA := Lib.hid ha; have HB := Lib.hid hb; have H1 := Lib.hid h1; have HV := Lib.hid hv; have HPB := Lib.hid hpb
  have HNL := Lib.hid hn
  obtain ⟨W1, W2, W3, W4⟩ := hWH
  have HTX := Lib.hid text_s
  have HRR := Lib.hid (fun w h => rrows_any W H (.slice ao cs.length ca) cs ⟨W1, by omega⟩ (by omega) hv w h)
  have zW : (itS W).size ≤ 21 := itoa_sz W (by omega)
  have zH : (itS H).size ≤ 21 := itoa_sz H (by omega)
  have zR : (str (rowsL kindC W 0 cs ++ rowsL highC W 0 cs)).size ≤ 5000 := by
    rw [str_size, List.length_append]
    have := rowsL_len kindC W cs 0
    have := rowsL_len highC W cs 0
    omega
  have hhead : (⟨#[109, 97, 112, 32]⟩ : ByteArray) ++ str n ++ ⟨#[32]⟩ ++ itS W ++ ⟨#[32]⟩ ++ itS H ++ ⟨#[10]⟩ ++ str (rowsL kindC W 0 cs ++ rowsL highC W 0 cs) = str (headL n W H ++ rowsL kindC W 0 cs ++ rowsL highC W 0 cs) := by
    unfold itS
    rw [show (⟨#[109, 97, 112, 32]⟩ : ByteArray) = str mapW from rfl, show (⟨#[32]⟩ : ByteArray) = str [32] from rfl, show (⟨#[10]⟩ : ByteArray) = str [10] from rfl]
    rw [str_append, str_append, str_append, str_append, str_append, str_append, str_append]
    congr 1
    simp [headL, lineL, numsL]
  obtain ⟨nc, hnc⟩ : ∃ k, cs.length = k := ⟨_, rfl⟩
  obtain ⟨np, hnp⟩ : ∃ k, ps.length = k := ⟨_, rfl⟩
  obtain ⟨sn, hsn⟩ : ∃ s, str n = s := ⟨_, rfl⟩
  obtain ⟨sR, hsR⟩ : ∃ s, str (rowsL kindC W 0 cs ++ rowsL highC W 0 cs) = s := ⟨_, rfl⟩
  have hzn : sn.size ≤ 1000 := by rw [← hsn, str_size]; exact hn
  rw [hsn, hsR] at hhead
  rw [hsR] at HRR zR
  rw [hsn] at H1 ⊢
  rw [hnc] at HCS HRR H1 hcz ⊢
  rw [hnp] at H1 hpz ⊢
  obtain ⟨R2, hR2⟩ : ∃ R, printL n W H cs ps = R := ⟨_, rfl⟩
  have HNC := Lib.hid hnc; have HNP := Lib.hid hnp; have HPR := Lib.hid hR2; have HHD := Lib.hid hhead
  rw [hR2]
  unfold KB fileV mapV at *
  clear ha hb h1 hv hpb hnc hnp hsn hsR hR2 hhead
  go_enter Tryz.func10, Tryz.ntmps10
  go_wp2_with fail
  refine (H1.out _ (below_new _ _)).mono ?_
  rintro e w1 ⟨rfl, hb⟩
  obtain ⟨n1, hb1, hz1⟩ := new_below hb
  obtain ⟨⟨c0, c1, c2, c3, c4⟩, _⟩ := cells5 n1
  have HO := Lib.hid n1; have HB1 := Lib.hid hb1
  clear hb n1 hb1 H1
  go_wp2_with fail
  obtain ⟨wm, hwm⟩ : ∃ wm, w1.alloc (mapO W H (.slice ao nc ca) 24) = wm := ⟨_, rfl⟩
  have hbm : Below w1.heap.size w1 wm := by rw [← hwm]; exact below_new _ _
  have hzm : wm.heap.size = w1.heap.size + 1 := by rw [← hwm, tok_size]
  have hmm : wm.heap[w1.heap.size]? = some (mapO W H (.slice ao nc ca) 24) := by rw [← hwm]; exact tok_new _ _
  rw [hwm]
  obtain ⟨⟨m0, m1, m2⟩, _⟩ := cells3 hmm
  have x0 := cell_below hbm c0; have x4 := cell_below hbm c4
  have k0 := kept_cell m0; have k1 := kept_cell m1; have k2 := kept_cell m2; have k3 := kept_cell x0
  have HMM := Lib.hid hmm; have HBM := Lib.hid hbm
  have HXM := Lib.hid (HB1.out.trans (hbm.mono (by omega)))
  clear hwm hbm hmm c0 c1 c2 c3 c4 m0 m1 m2 x0 x4
  refine wp_region_kept (by kernel_rfl) (by kernel_rfl) ?_
  repeat (go_big_quiet_step (first | (go_at_call 27; exact Kept.quiet (HTX.out _ (by omega) _)) | (go_at_call 28; exact Kept.call (HRR.out _ (CelSl.below HCS.out (HXM.out.trans ((Kept.below _).mono (by first | exact HXM.out.size | omega))))))))
  refine wpQuiet_nil ?_
  intro _ hw'
  obtain ⟨kx, hw''⟩ := hw'
  subst hw''
  have hm2 := block_below kx.below HMM.out
  have ho2 := block_below kx.below (block_below HBM.out HO.out)
  have HX2 := Lib.hid (HXM.out.trans (kx.below.mono HXM.out.size))
  have hz2 : w1.heap.size < kx.W.heap.size := by have := kx.below.size; omega
  generalize kx.W = w2 at *
  have HM2 := Lib.hid hm2; have HO2 := Lib.hid ho2
  clear hm2 ho2 k0 k1 k2 k3
  rw [HHD.out]
  obtain ⟨hd, hhd⟩ : ∃ l, headL n W H ++ rowsL kindC W 0 cs ++ rowsL highC W 0 cs = l := ⟨_, rfl⟩
  rw [hhd]
  have hdl : hd.length ≤ 300000 := by
    rw [← hhd]
    have a1 := rowsL_len kindC W cs 0
    have a2 := rowsL_len highC W cs 0
    have a3 := HNC.out
    have a4 : (headL n W H).length ≤ 2000 := by
      have := lineL_len (mapW ++ n) [W, H] (by
        intro x hx
        simp only [List.mem_cons, List.not_mem_nil, or_false] at hx
        unfold I64
        omega)
      have h4 : (mapW ++ n).length = 4 + n.length := by rw [List.length_append]; rfl
      have h6 := HNL.out
      have h5 : [W, H].length = 2 := rfl
      unfold headL
      omega
    simp only [List.length_append]
    omega
  obtain ⟨R1, hR1⟩ : ∃ l, hd ++ amountsL W 0 cs = l := ⟨_, rfl⟩
  have HPR2 := Lib.hid (show R1 ++ startsL ps = R2 by rw [← HPR.out, ← hR1, ← hhd]; rfl)
  have hst := Lib.hid (show RpRel w2 W cs R1 (.string (str hd)) (.int .i64 0) w2 from ⟨0, hd, rfl, rfl, by omega, by omega, by rw [List.drop_zero]; exact hR1, Below.refl _ _⟩)
  clear hhd hdl hR1 HPR HHD
  go_wp2_with fail
  go_loopw [6, 7] (fun s i wr => RpRel w2 W cs R1 s i wr) (fun _ i _ => nc - (intOf i).toNat)
  case atStart => exact hst.out
  case round =>
    clear hst
    obtain ⟨k, acc, rfl, rfl, hk, hlen, hrow, hbel⟩ := hrel
    have HE := Lib.hid hbel
    have hkn' : k ≤ nc := by have := HNC.out; omega
    have hzr := hbel.size
    obtain ⟨⟨m0, m1, m2⟩, _⟩ := cells3 (show wr.heap[w1.heap.size]? = some (mapO W H (.slice ao nc ca) 24) by rw [hbel.block _ (by omega)]; exact HM2.out)
    have za : (str acc).size ≤ 500000 := by rw [str_size]; omega
    by_cases hkn : k < nc
    · have hkl : k < cs.length := by have := HNC.out; omega
      obtain ⟨a, rfl, hat⟩ : ∃ a, ao = some a ∧ CelAt w a cs := HA.out.resolve_left (fun h => by rw [h] at hkl; simp at hkl)
      have hall : Below w.heap.size w wr := HX2.out.trans (hbel.mono HX2.out.size)
      obtain ⟨k0, k1, k2⟩ := celAt (hat.below Cel.l_len hall) k hkl
      have hcel := celB_k (HV.out cs[k] (List.getElem_mem hkl))
      have hd : cs.drop k = cs[k] :: cs.drop (k + 1) := List.drop_eq_getElem_cons hkl
      rw [hd] at hrow
      obtain ⟨⟨ck, ch, cv⟩, hx⟩ : ∃ t, cs[k] = t := ⟨_, rfl⟩
      rw [hx] at k0 k1 k2 hcel hrow
      dsimp only at k0 k1 k2 hcel
      have HRI := Lib.hid (fun w => rresource_any ⟨ck, ch, cv⟩ w)
      unfold KB Cel.v at HRI
      dsimp only at HRI
      have e1 : (0 : Int) ≤ ((k : Int)) := by omega
      have e2 : (k : Int) < (nc : Int) := by omega
      have e3 : (k : Int) ≤ 100000 := by omega
      have hrow2 : acc ++ ((if richB ck then lineL amountW [(k : Int) % W, (k : Int) / W, cv] else []) ++ amountsL W (k + 1) (cs.drop (k + 1))) = R1 := hrow
      have HROW := Lib.hid hrow2
      have HCV := Lib.hid (And.intro hcel.2.2.2.2.1 hcel.2.2.2.2.2.1)
      obtain ⟨sa, hsa⟩ : ∃ s, str acc = s := ⟨_, rfl⟩
      have HSA := Lib.hid hsa
      rw [hsa] at za ⊢
      clear hat hall hd hx hrow hrow2 hbel hcel hsa
      cases hbr : richB ck
      · rw [hbr] at HRI HROW
        have HROW2 := Lib.hid (show acc ++ amountsL W (k + 1) (cs.drop (k + 1)) = R1 by rw [← HROW.out]; rfl)
        clear HROW hbr
        go_wp2_with fail
        refine (HRI.out _).mono ?_
        rintro e w3 ⟨rfl, hb3⟩
        go_wp2_with fail
        go_roundw
        case rel => exact ⟨k + 1, acc, by rw [HSA.out], by go_num, by have := HNC.out; omega, by omega, HROW2.out, HE.out.trans (hb3.mono hzr)⟩
        case measure => simp [intOf]; omega
      · rw [hbr] at HRI HROW
        have HROW2 := Lib.hid (show acc ++ lineL amountW [(k : Int) % W, (k : Int) / W, cv] ++ amountsL W (k + 1) (cs.drop (k + 1)) = R1 by rw [← HROW.out]; simp)
        have q1 : 0 ≤ (k : Int) % W := Int.emod_nonneg _ (by omega)
        have q2 : (k : Int) % W < W := Int.emod_lt_of_pos _ (by omega)
        have q3 : 0 ≤ (k : Int) / W := Int.ediv_nonneg (by omega) (by omega)
        have q4 : (k : Int) / W ≤ k := Int.ediv_le_self _ (by omega)
        have q5 : 0 ≤ cv ∧ cv ≤ 1000000 := ⟨HCV.out.1, HCV.out.2⟩
        have hW0 : ¬ W = 0 := by omega
        have u1 : (itS ((k : Int) % W)).size ≤ 21 := itoa_sz _ (by omega)
        have u2 : (itS ((k : Int) / W)).size ≤ 21 := itoa_sz _ (by omega)
        have u3 : (itS cv).size ≤ 21 := itoa_sz _ (by omega)
        have hst3 := Lib.hid (show sa ++ ⟨#[97, 109, 111, 117, 110, 116, 32]⟩ ++ itS ((k : Int) % W) ++ ⟨#[32]⟩ ++ itS ((k : Int) / W) ++ ⟨#[32]⟩ ++ itS cv ++ ⟨#[10]⟩ = str (acc ++ lineL amountW [(k : Int) % W, (k : Int) / W, cv]) by
          rw [← HSA.out]
          unfold itS
          rw [show (⟨#[97, 109, 111, 117, 110, 116, 32]⟩ : ByteArray) = str (amountW ++ [32]) from rfl, show (⟨#[32]⟩ : ByteArray) = str [32] from rfl, show (⟨#[10]⟩ : ByteArray) = str [10] from rfl]
          rw [str_append, str_append, str_append, str_append, str_append, str_append, str_append]
          congr 1
          simp [lineL, numsL])
        have hll2 : (lineL amountW [(k : Int) % W, (k : Int) / W, cv]).length ≤ 73 := lineL_len amountW [(k : Int) % W, (k : Int) / W, cv] (by
          intro x hx
          simp only [List.mem_cons, List.not_mem_nil, or_false] at hx
          unfold I64
          omega)
        have HLL := Lib.hid hll2
        clear HROW hbr hll2
        go_wp2_with fail
        refine (HRI.out _).mono ?_
        rintro e w3 ⟨rfl, hb3⟩
        have k0 := kept_cell (cell_below hb3 m0); have k4 := kept_cell (cell_below hb3 m2); have k5 := kept_cell (cell_below hb3 k2)
        clear m0 m1 m2 k1 k2
        go_wp2_with fail
        refine wp_region_kept (by kernel_rfl) (by kernel_rfl) ?_
        repeat (go_big_quiet_step ((go_at_call 27; exact Kept.quiet (HTX.out _ (by omega) _))))
        refine wpQuiet_nil ?_
        intro _ hw'
        obtain ⟨ky, hw''⟩ := hw'
        subst hw''
        have HKY := Lib.hid (HE.out.trans (hb3.mono hzr |>.trans (ky.below.mono (by have := hb3.size; omega))))
        rw [hst3.out]
        go_wp2_with fail
        go_roundw
        case rel => exact ⟨k + 1, _, rfl, by go_num, by have := HNC.out; omega, by have := HLL.out; simp only [List.length_append]; omega, HROW2.out, HKY.out⟩
        case measure => simp [intOf]; omega
    · have hacc : acc = R1 := by
        rw [← hrow, List.drop_of_length_le (by have := HNC.out; omega)]
        simp [amountsL]
      subst hacc
      have hst2 := Lib.hid (show RsRel w2 ps R2 (.string (str acc)) (.int .i64 0) wr from ⟨0, acc, rfl, rfl, by omega, by omega, by rw [List.drop_zero]; exact HPR2.out, hbel⟩)
      obtain ⟨sa, hsa⟩ : ∃ s, str acc = s := ⟨_, rfl⟩
      rw [hsa] at za hst2 ⊢
      clear hrow hbel hsa
      go_wp2_with fail
      clear m0 m1 m2
      go_loopw [6, 8] (fun s i wr => RsRel w2 ps R2 s i wr) (fun _ i _ => np - (intOf i).toNat)
      case atStart => exact hst2.out
      case round =>
        clear hst2 HE hzr za
        obtain ⟨j, acc', rfl, rfl, hj, hlen', hrow, hbel⟩ := hrel
        have HE := Lib.hid hbel
        have hjn' : j ≤ np := by have := HNP.out; omega
        have hzr := hbel.size
        have hwz : w.heap.size < w2.heap.size := by omega
        obtain ⟨⟨b0, b1, b2, b3, b4⟩, _⟩ := cells5 (by rw [hbel.block _ hwz]; exact HO2.out)
        have za : (str acc').size ≤ 600000 := by rw [str_size]; omega
        by_cases hjn : j < np
        · have hjl : j < ps.length := by have := HNP.out; omega
          obtain ⟨b, rfl, hat⟩ : ∃ b, bo = some b ∧ PoAt w b ps := HB.out.resolve_left (fun h => by rw [h] at hjl; simp at hjl)
          have hall : Below w.heap.size w wr := HX2.out.trans (hbel.mono HX2.out.size)
          obtain ⟨p0, p1⟩ := poAt (hat.below Po.l_len hall) j hjl
          have hI' := HPB.out ps[j] (List.getElem_mem hjl)
          have hd : ps.drop j = ps[j] :: ps.drop (j + 1) := List.drop_eq_getElem_cons hjl
          rw [hd] at hrow
          obtain ⟨⟨x, y⟩, hx⟩ : ∃ t, ps[j] = t := ⟨_, rfl⟩
          rw [hx] at p0 p1 hI' hrow
          dsimp only at p0 p1 hI'
          obtain ⟨⟨x0, x1⟩, y0, y1⟩ := hI'
          have u1 : (itS x).size ≤ 21 := itoa_sz _ (by omega)
          have u2 : (itS y).size ≤ 21 := itoa_sz _ (by omega)
          obtain ⟨sb, hsb⟩ : ∃ s, str acc' = s := ⟨_, rfl⟩
          have HROW2 := Lib.hid (show acc' ++ lineL startW [x, y] ++ startsL (ps.drop (j + 1)) = R2 by rw [← hrow]; simp [startsL])
          have hst3 := Lib.hid (show sb ++ ⟨#[115, 116, 97, 114, 116, 32]⟩ ++ itS x ++ ⟨#[32]⟩ ++ itS y ++ ⟨#[10]⟩ = str (acc' ++ lineL startW [x, y]) by
            rw [← hsb]
            unfold itS
            rw [show (⟨#[115, 116, 97, 114, 116, 32]⟩ : ByteArray) = str (startW ++ [32]) from rfl, show (⟨#[32]⟩ : ByteArray) = str [32] from rfl, show (⟨#[10]⟩ : ByteArray) = str [10] from rfl]
            rw [str_append, str_append, str_append, str_append, str_append]
            congr 1
            simp [lineL, numsL])
          have HLL := Lib.hid (show (lineL startW [x, y]).length ≤ 50 from lineL_len startW [x, y] (by
            intro z hz
            simp only [List.mem_cons, List.not_mem_nil, or_false] at hz
            unfold I64
            omega))
          have e1 : (0 : Int) ≤ ((j : Int)) := by omega
          have e2 : (j : Int) < (np : Int) := by omega
          rw [hsb] at za ⊢
          have k4 := kept_cell b4; have k5 := kept_cell p0; have k6 := kept_cell p1
          clear hat hall hd hx hrow hbel hsb p0 p1 b0 b1 b2 b3
          go_wp2_with fail
          refine wp_region_kept (by kernel_rfl) (by kernel_rfl) ?_
          repeat (go_big_quiet_step ((go_at_call 27; exact Kept.quiet (HTX.out _ (by omega) _))))
          refine wpQuiet_nil ?_
          intro _ hw'
          obtain ⟨ky, hw''⟩ := hw'
          subst hw''
          have HKY := Lib.hid (HE.out.trans (ky.below.mono hzr))
          rw [hst3.out]
          go_wp2_with fail
          go_roundw
          case rel => exact ⟨j + 1, _, rfl, by go_num, by have := HNP.out; omega, by have := HLL.out; simp only [List.length_append]; omega, HROW2.out, HKY.out⟩
          case measure => simp [intOf]; omega
        · have hacc' : acc' = R2 := by
            rw [← hrow, List.drop_of_length_le (by have := HNP.out; omega)]
            simp [startsL]
          subst hacc'
          clear hrow hbel
          go_wp2_with fail
          go_ret2
          exact ⟨rfl, HX2.out.trans (HE.out.mono HX2.out.size)⟩
end Go.Proofs.YtmiceolkmiiahaaGreatDoor
