/- Walks: the reference's parser. Walks: the reference's parser. Walks: the law of Parse. -/
import Derived.Test.YtmiceolkmiiahaaGreatDoorV4
import Derived.Deep.RegionHeld3
import Derived.Deep.AppendLies
namespace Go.Proofs.YtmiceolkmiiahaaGreatDoor
open Go.RowKit
set_option linter.unusedVariables false
set_option linter.unusedSimpArgs false
set_option maxRecDepth 100000
set_option maxHeartbeats 8000000

theorem firstP_range {l b : List UInt8} {W H : Int} (h : firstP l = some (b, W, H)) : b.length ≤ 1000 ∧ (1 ≤ W ∧ W ≤ 32) ∧ (1 ≤ H ∧ H ≤ 32) := by
  unfold firstP at h
  split at h
  · split at h
    · rename_i a b' c d _ hc
      injection h with h
      injection h with h1 h2
      injection h2 with h2 h3
      subst h1 h2 h3
      obtain ⟨_, h4, h5, h6⟩ := hc
      refine ⟨?_, h5, h6⟩
      unfold nameB at h4
      simp only [Bool.and_eq_true, decide_eq_true_eq] at h4
      have h7 := h4.2.2
      rw [str_size] at h7
      omega
    · cases h
  · cases h
theorem parseS_none {s : List UInt8} (hs : s.length ≤ 6000) (h : nxt (sp 10 s) = none) : parseS s = .bad 1 4 := by
  unfold parseS
  rw [if_neg (by omega), h]
theorem parseS_bad {s l : List UInt8} {L : List (List UInt8)} (hs : s.length ≤ 6000) (h : nxt (sp 10 s) = some (l, L)) (h2 : firstP l = none) : parseS s = .bad 1 5 := by
  unfold parseS
  rw [if_neg (by omega), h]
  simp only [h2]
theorem parseS_some {s l n : List UInt8} {W H : Int} {L : List (List UInt8)} (hs : s.length ≤ 6000) (h : nxt (sp 10 s) = some (l, L)) (h2 : firstP l = some (n, W, H)) : parseS s = sKinds n W H H.toNat [] L 1 := by
  unfold parseS
  rw [if_neg (by omega), h]
  simp only [h2]
theorem posl_r {w : World} {B : Nat} {bo : Option Addr} {n cb : Nat} {ps : List Po} (h : w.ownsRow B 55 2 (.slice bo n cb) n (cellsOf Po.l ps)) (hn : ps.length = n) : PoSl w (.slice bo n cb) ps := by
  subst hn
  exact sl_of_owns Po.l_len h
theorem celsl_r {w : World} {B : Nat} {bo : Option Addr} {n cb : Nat} {cs : List Cel} (h : w.ownsRow B 41 3 (.slice bo n cb) n (cellsOf Cel.l cs)) (hn : cs.length = n) : CelSl w (.slice bo n cb) cs := by
  subst hn
  exact sl_of_owns Cel.l_len h
theorem one2r (a b : Int) : ∀ u ∈ [Value.int .i64 a, Value.int .i64 b], u.oneCell' = true := by
  intro u hu
  simp at hu
  rcases hu with rfl | rfl <;> rfl
theorem addr_zero (a : Addr) : a.add 0 = a := by unfold Addr.add; simp
theorem line_cells {w : World} {B q cap : Nat} {L : List (List UInt8)} {m : Nat} (ho : w.ownsRow B 9 1 (.slice (some ⟨q, 0, none⟩) m cap) m (strVs L)) (hm : L.length = m) {aL : Addr} (ha : (⟨q, 0, none⟩ : Addr) = aL) (i : Nat) (hi : i < L.length) :
    w.cell? (aL.add i) = some (.string (str L[i])) ∧ (aL.add i).block = q := by
  rw [← ha, add0]
  refine ⟨?_, rfl⟩
  rw [ho.cellAt i (by omega)]
  unfold strVs
  rw [List.getElem?_map, List.getElem?_eq_getElem hi]
  rfl
/-- What the three loops keep. -/
structure PK (w wq : World) (rb gf q1 q2 : Nat) (aL : Addr) (L : List (List UInt8)) : Prop where
  below : Below w.heap.size w wq
  rbe : w.heap.size = rb
  res : wq.heap[rb]? = some (fO (str []) 0 0 (.slice none 0 0) (.slice none 0 0))
  lines : ∀ i (hi : i < L.length), wq.cell? (aL.add i) = some (.string (str L[i])) ∧ (aL.add i).block = q1
  o1 : rb < q1
  o2 : q1 < q2
  o3 : q2 < gf
  o4 : gf < wq.heap.size
theorem PK.fr {w wq wr : World} {rb gf q1 q2 g h : Nat} {aL : Addr} {L : List (List UInt8)} (x : PK w wq rb gf q1 q2 aL L) (f : Fr g h wq wr) (hg : q1 < g) (hh : q1 < h) : PK w wr rb gf q1 q2 aL L :=
  ⟨x.below.trans (f.below (by have := x.o1; have := x.rbe; omega) (by have := x.o1; have := x.rbe; omega) x.below.size), x.rbe, f.at (by have := x.o1; omega) (by have := x.o1; omega) x.res,
    fun i hi => ⟨f.cell (by rw [(x.lines i hi).2]; omega) (by rw [(x.lines i hi).2]; omega) (x.lines i hi).1, (x.lines i hi).2⟩, x.o1, x.o2, x.o3, Nat.lt_of_lt_of_le x.o4 f.size⟩
theorem round1_rrow {n : List UInt8} {W H : Int} {L : List (List UInt8)} {r : Res} {k q N : Nat} {C : List Cel} (W1 : 1 ≤ W) (W2 : W ≤ 32) (H1 : 1 ≤ H) (H2 : H ≤ 32) (hN : N = W.toNat * H.toNat) (hcl : C.length = N) (hk : k < 2 * H.toNat) (hq : Q1 n W H L r k C) (h : k + 1 + 1 < L.length) (hlen : L[k + 1].length ≤ 100000) (B : Nat) (hB : B ≤ q) :
    ∃ ok C', (∀ w, w.ownsRow B 41 3 (.slice (some ⟨q, 0, none⟩) N N) N (cellsOf Cel.l C) → Calls Tryz.prog 43 #[mapV W H (.slice (some ⟨q, 0, none⟩) N N), .int .i64 (k : Int), .string (str L[k + 1])] w (RowRes B q N N C' ok w)) ∧ (ok = true → Q1 n W H L r (k + 1) C' ∧ C'.length = N) ∧ (ok = false → r = .bad (k + 1 + 1) 5) := by
  have hx := nxt_drop_some h
  by_cases hh : k < H.toNat
  · refine ⟨_, _, fun w ho => rrow_kinds W H W1 W2 H1 H2 q N N B hB C hcl hN k (by omega) L[k + 1] hlen w ho, fun e => ?_, fun e => ?_⟩
    · simp only [Bool.and_eq_true, decide_eq_true_eq] at e
      exact ⟨q1_kok (by omega) hh hx e hq, by rw [kset_len]; exact hcl⟩
    · refine q1_kbad hh hx (fun hc => ?_) hq
      rw [decide_eq_true hc.1, hc.2] at e
      cases e
  · refine ⟨_, _, fun w ho => rrow_high W H W1 W2 H1 H2 q N N B hB C hcl hN k (k - H.toNat) (by omega) (by omega) L[k + 1] hlen w ho, fun e => ?_, fun e => ?_⟩
    · simp only [Bool.and_eq_true, decide_eq_true_eq] at e
      exact ⟨q1_hok hk (by omega) hx e hq, by rw [hset_len]; exact hcl⟩
    · refine q1_hbad hk (by omega) hx (fun hc => ?_) hq
      rw [decide_eq_true hc.1, hc.2] at e
      cases e
set_option linter.unusedVariables false
set_option linter.unusedSimpArgs false
set_option maxRecDepth 100000
set_option maxHeartbeats 16000000

theorem rParse_any (s : List UInt8) (hs : s.length ≤ 6000) (w : World) : Calls Tryz.prog 14 #[.string (str s)] w (fun en w' => PRes (parseS s) en w' ∧ Below w.heap.size w w') := by
  obtain ⟨L, hL⟩ : ∃ L, sp 10 s = L := ⟨_, rfl⟩
  obtain ⟨r, hr⟩ : ∃ r, parseS s = r := ⟨_, rfl⟩
  have HRN := Lib.hid (show nxt L = none → r = .bad 1 4 from fun h => by rw [← hr]; exact parseS_none hs (by rw [hL]; exact h))
  have HRF := Lib.hid (show ∀ l L', nxt L = some (l, L') → firstP l = none → r = .bad 1 5 from fun l L' h h2 => by rw [← hr]; exact parseS_bad hs (by rw [hL]; exact h) h2)
  have HRS := Lib.hid (show ∀ l L' n W H, nxt L = some (l, L') → firstP l = some (n, W, H) → sKinds n W H H.toNat [] L' 1 = r from fun l L' n W H h h2 => by rw [← hr]; exact (parseS_some hs (by rw [hL]; exact h) h2).symm)
  have hlen : ∀ i (hi : i < L.length), L[i].length ≤ 100000 := fun i hi => Nat.le_trans (sp_le 10 s L[i] (by rw [hL]; exact List.getElem_mem hi)) (by omega)
  have HLEN := Lib.hid hlen
  rw [hr]
  obtain ⟨FR, hFR⟩ : ∃ FR : Ending → World → Prop, (fun en w' => PRes r en w' ∧ Below w.heap.size w w') = FR := ⟨_, rfl⟩
  have HBAD := Lib.hid (show ∀ (line : Nat) (lv e : Int), r = .bad line e → (line : Int) = lv → ∀ w', Below w.heap.size w w' → FR (.returned (.tuple #[file0, .int .i64 lv, .int .i64 e])) w' from fun line lv e h hl w' hb => by rw [← hFR, h, ← hl]; exact ⟨rfl, hb⟩)
  have HGOOD := Lib.hid (show ∀ (n : List UInt8) (W H : Int) (C : List Cel) (ps : List Po) (cv pv : Value) (w' : World), r = .good n W H C ps → CelSl w' cv C → PoSl w' pv ps → CapOk pv → Below w.heap.size w w' → FR (.returned (.tuple #[fileV (str n) W H cv pv, .int .i64 0, .int .i64 0])) w' from fun n W H C ps cv pv w' h h1 h2 h3 hb => by rw [← hFR, h]; exact ⟨⟨cv, pv, rfl, h1, h2, h3⟩, hb⟩)
  have HP := Lib.hid (fun w => rParts_any s (by omega) 10 10 rfl w)
  rw [hL] at HP
  have hml : L.length ≤ 6001 := by rw [← hL]; exact Nat.le_trans (sp_len 10 s) (by omega)
  have hm1 : 0 < L.length := List.length_pos_iff.2 (by rw [← hL]; exact sp_ne 10 s)
  obtain ⟨m, hm⟩ : ∃ m, L.length = m := ⟨_, rfl⟩
  obtain ⟨nn, hnn⟩ : ∃ nn, m = nn + 1 := ⟨m - 1, by omega⟩
  have hsub : IntKind.i64.wrap ((m : Int) - 1) = (nn : Int) := by rw [IntKind.wrap_i64]; omega
  have hnb : nn ≤ 6000 := by omega
  have HM := Lib.hid hm; have HNN := Lib.hid hnn
  obtain ⟨S, hS⟩ : ∃ S, str s = S := ⟨_, rfl⟩
  have hSz : ¬ (32768 : Int) < (S.size : Int) := by rw [← hS, str_size]; omega
  have hSz2 : S.size ≤ 6000 := by rw [← hS, str_size]; exact hs
  rw [hm] at HP
  rw [hS] at HP ⊢
  rw [hFR]
  obtain ⟨w1, hw1⟩ : ∃ w1, w.alloc (fO (str []) 0 0 (.slice none 0 0) (.slice none 0 0)) = w1 := ⟨_, rfl⟩
  have HB1 := Lib.hid (show Below w.heap.size w w1 by rw [← hw1]; exact below_new _ _)
  have HR1 := Lib.hid (show w1.heap[w.heap.size]? = some (fO (str []) 0 0 (.slice none 0 0) (.slice none 0 0)) by rw [← hw1]; exact tok_new _ _)
  have HZ1 := Lib.hid (show w1.heap.size = w.heap.size + 1 by rw [← hw1, tok_size])
  have HW1 := Lib.hid hw1
  clear hFR hS hw1 hr hlen hm hnn hL hml hm1 hs
  go_enter Tryz.func14, Tryz.ntmps14
  go_wp2_with fail
  rw [HW1.out]
  clear HW1
  refine (HP.out w1).mono ?_
  rintro e w2 ⟨ao, cap, rfl, hown, hb2⟩
  obtain ⟨q1, cp, hv, hq1, hq1z⟩ := hown.form (by have := HNN.out; omega)
  injection hv with i1 i2 i3
  subst i1 i3
  obtain ⟨aL, haL⟩ : ∃ a : Addr, (⟨q1, 0, none⟩ : Addr) = a := ⟨_, rfl⟩
  have HLC := Lib.hid (fun i hi => line_cells hown HM.out haL i hi)
  rw [haL]
  have HRR2 := Lib.hid (block_below hb2 HR1.out)
  have HB2 := Lib.hid (HB1.out.trans (hb2.mono HB1.out.size))
  clear hown hb2 haL HP i2
  by_cases hn1 : nn < 1
  · have hrb : r = .bad 1 4 := by
      have h := nxt_drop_none (L := L) (i := 0) (by have := HM.out; have := HNN.out; omega)
      rw [List.drop_zero] at h
      exact HRN.out h
    have HRB := Lib.hid hrb
    have e1 : (nn : Int) < 1 := by omega
    obtain ⟨⟨t0, t1, t2, t3, t4⟩, ⟨y0, y1, y2, y3, y4⟩⟩ := cells5 HRR2.out
    have hz := heap_lt HRR2.out
    clear hrb
    go_wp2_with fail
    exact bodyPost_ret (v := .tuple #[file0, .int .i64 1, .int .i64 4]) (by simp [results, Tryz.results14, go_sem, file0, fileV, t0, t1, t2, t3, t4, y0, y1, y2, y3, y4, hz]) rfl (HBAD.out 1 1 4 HRB.out rfl _ (st5_below HB2.out (Nat.le_refl _)))
  · have e1 : ¬ (nn : Int) < 1 := by omega
    have h0l : 0 < L.length := by have := HM.out; have := HNN.out; omega
    have hnx : nxt L = some (L[0], L.drop 1) := by
      have h := nxt_drop_some (L := L) (i := 0) (by have := HM.out; have := HNN.out; omega)
      rw [List.drop_zero] at h
      exact h
    have c0 : w2.cell? aL = some (.string (str L[0])) := by
      have h := (HLC.out 0 h0l).1
      rw [addr_zero] at h
      exact h
    have HF := Lib.hid (rfirst_any L[0] (HLEN.out 0 h0l))
    have i0 : (0 : Int) < (m : Int) := by have := HNN.out; omega
    cases hfp : firstP L[0] with
    | none =>
      have HRB := Lib.hid (HRF.out _ _ hnx hfp)
      clear hnx
      generalize str L[0] = S0 at *
      go_wp2_with fail
      refine (HF.out w2).mono ?_
      rintro e w3 hres
      unfold FirstRes file0 fileV at hres
      rw [hfp] at hres
      obtain ⟨rfl, hb3⟩ := hres
      have hR3 := block_below hb3 HRR2.out
      have HB3 := Lib.hid (HB2.out.trans (hb3.mono HB2.out.size))
      obtain ⟨⟨t0, t1, t2, t3, t4⟩, ⟨y0, y1, y2, y3, y4⟩⟩ := cells5 hR3
      have hz := heap_lt hR3
      clear hb3 hR3 c0
      go_wp2_with fail
      exact bodyPost_ret (v := .tuple #[file0, .int .i64 1, .int .i64 5]) (by simp [results, Tryz.results14, go_sem, file0, fileV, t0, t1, t2, t3, t4, y0, y1, y2, y3, y4, hz]) rfl (HBAD.out 1 1 5 HRB.out rfl _ (by with_reducible exact (st5_below HB3.out (Nat.le_refl _)).alloc (by rw [st5_size]; omega) _))
    | some bWH =>
      obtain ⟨b, W, H⟩ := bWH
      have HSK := Lib.hid (HRS.out _ _ _ _ _ hnx hfp)
      obtain ⟨hbl, ⟨W1, W2⟩, H1, H2⟩ := firstP_range hfp
      have HFP := Lib.hid hfp
      clear hnx hfp
      obtain ⟨HH, hHH⟩ : ∃ HH, 2 * H.toNat = HH := ⟨_, rfl⟩
      have h2H : IntKind.i64.wrap (2 * H) = (HH : Int) := by rw [IntKind.wrap_i64]; omega
      have hHHb : HH ≤ 64 := by omega
      have HHE := Lib.hid hHH
      have hH0 : 0 < H.toNat := by omega
      have HH0 := Lib.hid hH0
      clear hHH hH0
      generalize hS0 : str L[0] = S0 at *
      clear hS0
      go_wp2_with fail
      refine (HF.out w2).mono ?_
      rintro e w3 hres
      unfold FirstRes at hres
      rw [HFP.out] at hres
      unfold fileV at hres
      obtain ⟨⟨q2, N, rfl, hN, hown⟩, hb3⟩ := hres
      have hz2 : w.heap.size < w2.heap.size := heap_lt HRR2.out
      have hq2 := (hown.lt q2 rfl)
      have hR3 := block_below hb3 HRR2.out
      have HB3 := Lib.hid (HB2.out.trans (hb3.mono HB2.out.size))
      have HPK := Lib.hid (show PK w (w3.alloc (fO (str b) W H (.slice (some ⟨q2, 0, none⟩) N N) (.slice none 0 0))) w.heap.size w3.heap.size q1 q2 aL L from ⟨HB3.out.alloc (by have := HB3.out.size; omega) _, rfl, block_below (below_new _ _) hR3, fun i hi => ⟨cell_below (below_new _ _) (cell_below hb3 (HLC.out i hi).1), (HLC.out i hi).2⟩, by have := HZ1.out; omega, by omega, hq2.2, by rw [tok_size]; omega⟩)
      have HGF := Lib.hid (tok_new w3 (fO (str b) W H (.slice (some ⟨q2, 0, none⟩) N N) (.slice none 0 0)))
      have HN := Lib.hid hN
      obtain ⟨a2, ha2⟩ : ∃ a : Addr, (⟨q2, 0, none⟩ : Addr) = a := ⟨_, rfl⟩
      have HA2 := Lib.hid ha2
      have HOC := Lib.hid (hown.alloc (fO (str b) W H (.slice (some a2) N N) (.slice none 0 0)))
      have hB2 : w2.heap.size + 1 ≤ q2 := hq2.1
      rw [ha2]
      rw [ha2] at HPK HGF
      clear hown hb3 hR3 c0 hN ha2 hq2
      go_upto_region 10 with fail
      generalize hgf : w3.heap.size = gf at *
      generalize hw4 : w3.alloc (fO (str b) W H (.slice (some a2) N N) (.slice none 0 0)) = w4 at *
      have hN1024 : N ≤ 1024 := by rw [HN.out]; exact Nat.mul_le_mul (show W.toNat ≤ 32 by omega) (show H.toNat ≤ 32 by omega)
      have hgq : ¬ gf = q2 := by have := HPK.out.o3; omega
      have hq12 : q1 < q2 := HPK.out.o2
      have hwg : w.heap.size < gf := by have := HPK.out.o1; have := HPK.out.o3; omega
      clear hgf hw4 hsub
      go_wp2_with fail
      go_loopw [9, 10] (fun av kv wr => ∃ (k a : Nat) (C : List Cel), av = .int .i64 (a : Int) ∧ kv = .int .i64 (k : Int) ∧ Hid (a = k + 1) ∧ k ≤ HH ∧ a ≤ nn ∧ Fr q2 q2 w4 wr ∧ wr.ownsRow (w2.heap.size + 1) 41 3 (.slice (some ⟨q2, 0, none⟩) N N) N (cellsOf Cel.l C) ∧ Hid (Q1 b W H L r k C) ∧ Hid (C.length = N)) (fun av kv _ => HH - (intOf kv).toNat)
      case atStart => exact ⟨0, 1, List.replicate N zc, rfl, rfl, Lib.hid rfl, by omega, by omega, Fr.refl _ _ _, HOC.out, Lib.hid (by rw [HN.out]; exact q1_start HH0.out HSK.out), Lib.hid (by simp)⟩
      case round =>
        obtain ⟨k, a, C, rfl, rfl, hak, hk, ha, hfr, hown, hq, hcl⟩ := hrel
        have HAK := hak
        have HFRr := Lib.hid hfr; have HOR := Lib.hid hown
        obtain ⟨⟨g0, g1, g2, g3, g4⟩, _⟩ := cells5 (hfr.at (i := gf) hgq hgq HGF.out)
        have HPR := Lib.hid (HPK.out.fr hfr hq12 hq12)
        have i1 : (0 : Int) ≤ (a : Int) := Int.natCast_nonneg _
        have i2 : (a : Int) < (m : Int) := by have := HNN.out; omega
        have i3 : (a : Int) ≤ 6000 := by omega
        by_cases hkh : k < HH
        · have j1 : (k : Int) < (HH : Int) := by omega
          by_cases hal : a < nn
          · have j2 : ¬ (nn : Int) ≤ (a : Int) := by omega
            have hlt : k + 1 + 1 < L.length := by have := HM.out; have := HNN.out; have := HAK.out; omega
            obtain ⟨ok, C', hrw, hy, hn⟩ := round1_rrow W1 W2 H1 H2 HN.out hcl.out (by have := HHE.out; omega) hq.out hlt (HLEN.out _ (by omega)) (w2.heap.size + 1) hB2
            obtain ⟨lc0, lb0⟩ := HPR.out.lines (k + 1) (by omega)
            obtain ⟨ln, hln⟩ : ∃ l, L[k + 1] = l := ⟨_, rfl⟩
            rw [hln] at lc0 hrw
            have lc : wr.cell? (aL.add a) = some (.string (str ln)) := by rw [HAK.out]; exact lc0
            have hlq : ¬ (aL.add a).block = q2 := by rw [HAK.out, lb0]; omega
            have HRW := Lib.hid (show ∀ w', w'.ownsRow (w2.heap.size + 1) 41 3 (.slice (some ⟨q2, 0, none⟩) N N) N (cellsOf Cel.l C) → Calls Tryz.prog 43 #[.agg #[.int .i64 W, .int .i64 H, .slice (some a2) N N], .int .i64 (k : Int), .string (str ln)] w' (RowRes (w2.heap.size + 1) q2 N N C' ok w') from fun w' ho => by
              have h := hrw w' ho
              rw [HA2.out] at h
              exact h)
            have HY := Lib.hid hy; have HNo := Lib.hid hn
            clear hrw hy hn lc0 lb0 hln hlt hown hfr hq hcl
            cases ok with
            | false =>
              go_wp2_with fail
              go_region_held3 (fun w' => w'.cell? ⟨gf, 1, none⟩ = some (.int .i64 W) ∧ w'.cell? ⟨gf, 2, none⟩ = some (.int .i64 H) ∧ w'.cell? ⟨gf, 3, none⟩ = some (.slice (some a2) N N) ∧ w'.cell? (aL.add a) = some (.string (str ln))) (first | exact ⟨v1, v2, v3, v4⟩ | exact ⟨g1, g2, g3, lc⟩) (first | (go_at_call 43; refine (HRW.out _ (by exact HOR.out)).mono ?_; rintro e w8 ⟨rfl, ho8, hf8⟩; have f8 : Fr q2 q2 wr w8 := Fr.trans (by repeat' (first | exact Fr.refl _ _ _ | refine Fr.drew ?_ | refine Fr.dN ?_ _)) hf8; have v1 := f8.cell hgq hgq g1; have v2 := f8.cell hgq hgq g2; have v3 := f8.cell hgq hgq g3; have v4 := f8.cell hlq hlq lc))
              all_goals
                have HP8 := Lib.hid (HPR.out.fr f8 hq12 hq12)
                obtain ⟨⟨t0, t1, t2, t3, t4⟩, ⟨y0, y1, y2, y3, y4⟩⟩ := cells5 HP8.out.res
                have hz := heap_lt HP8.out.res
                clear v1 v2 v3 v4 f8 ho8 hf8 g0 g1 g2 g3 g4 lc
                go_wp2_with fail
                exact bodyPost_ret (v := .tuple #[file0, .int .i64 ((a : Int) + 1), .int .i64 5]) (by simp [results, Tryz.results14, go_sem, file0, fileV, t0, t1, t2, t3, t4, y0, y1, y2, y3, y4, hz]) rfl (HBAD.out (k + 1 + 1) ((a : Int) + 1) 5 (HNo.out (by first | rfl | trivial)) (by have := HAK.out; omega) _ (by repeat' (first | with_reducible exact HP8.out.below | refine Below.setCell ?_ (by exact Nat.le_refl _) _ | refine Below.drew ?_ | refine below_dN ?_ _)))
            | true =>
              go_wp2_with fail
              go_region_held3 (fun w' => w'.cell? ⟨gf, 1, none⟩ = some (.int .i64 W) ∧ w'.cell? ⟨gf, 2, none⟩ = some (.int .i64 H) ∧ w'.cell? ⟨gf, 3, none⟩ = some (.slice (some a2) N N) ∧ w'.cell? (aL.add a) = some (.string (str ln))) (first | exact ⟨v1, v2, v3, v4⟩ | exact ⟨g1, g2, g3, lc⟩) (first | (go_at_call 43; refine (HRW.out _ (by exact HOR.out)).mono ?_; rintro e w8 ⟨rfl, ho8, hf8⟩; have f8 : Fr q2 q2 wr w8 := Fr.trans (by repeat' (first | exact Fr.refl _ _ _ | refine Fr.drew ?_ | refine Fr.dN ?_ _)) hf8; have v1 := f8.cell hgq hgq g1; have v2 := f8.cell hgq hgq g2; have v3 := f8.cell hgq hgq g3; have v4 := f8.cell hlq hlq lc))
              all_goals
                have HF8 := Lib.hid (HFRr.out.trans f8)
                have HO8 := Lib.hid (ho8 (by first | rfl | trivial))
                clear v1 v2 v3 v4 f8 ho8 hf8 g0 g1 g2 g3 g4 lc
                go_wp2_with fail
                go_roundw
                case rel => exact ⟨k + 1, a + 1, C', by go_num, by go_num, Lib.hid (by have := HAK.out; omega), by omega, by omega, HF8.out, HO8.out, Lib.hid (HY.out (by first | rfl | trivial)).1, Lib.hid (HY.out (by first | rfl | trivial)).2⟩
                case measure => simp [intOf]; omega
          · have j2 : (nn : Int) ≤ (a : Int) := by omega
            have hbd := q1_none (by have := HHE.out; omega) (nxt_drop_none (L := L) (i := k + 1) (by have := HM.out; have := HNN.out; have := HAK.out; omega)) hq.out
            have HBD := Lib.hid hbd
            obtain ⟨⟨t0, t1, t2, t3, t4⟩, ⟨y0, y1, y2, y3, y4⟩⟩ := cells5 HPR.out.res
            have hz := heap_lt HPR.out.res
            clear hbd hown hfr hq hcl
            go_wp2_with fail
            exact bodyPost_ret (v := .tuple #[file0, .int .i64 ((a : Int) + 1), .int .i64 4]) (by simp [results, Tryz.results14, go_sem, file0, fileV, t0, t1, t2, t3, t4, y0, y1, y2, y3, y4, hz]) rfl (HBAD.out (k + 1 + 1) ((a : Int) + 1) 4 HBD.out (by have := HAK.out; omega) _ (by repeat' (first | with_reducible exact HPR.out.below | refine Below.setCell ?_ (by exact Nat.le_refl _) _ | refine Below.drew ?_ | refine below_dN ?_ _)))
        · have j1 : ¬ (k : Int) < (HH : Int) := by omega
          have hsa := q1_end HH0.out (by have := HHE.out; omega) hq.out (by have := HHE.out; omega)
          rw [hcl.out, ← HAK.out] at hsa
          have HSA := Lib.hid hsa
          have HCL := hcl
          obtain ⟨wl, rfl⟩ : ∃ wl, wl = wr := ⟨wr, rfl⟩
          clear hsa hown hfr hq hcl i2
          go_wp2_with fail
          go_loopw [9, 11] (fun av iv wr => ∃ (i a : Nat) (C : List Cel), av = .int .i64 (a : Int) ∧ iv = .int .i64 (i : Int) ∧ i ≤ N ∧ a ≤ nn ∧ Fr q2 q2 w4 wr ∧ wr.ownsRow (w2.heap.size + 1) 41 3 (.slice (some ⟨q2, 0, none⟩) N N) N (cellsOf Cel.l C) ∧ Hid (sAmts b W H (N - i) i C (L.drop a) a = r) ∧ Hid (C.length = N)) (fun av iv _ => N - (intOf iv).toNat)
          case atStart => exact ⟨0, a, C, rfl, rfl, Nat.zero_le _, ha, HFRr.out, HOR.out, HSA, HCL⟩
          case round =>
            clear HSA HCL HOR HFRr HPR HAK g0 g1 g2 g3 g4 j1 hk ha i1 i3 hkh hak
            obtain ⟨i, a, C, rfl, rfl, hi, ha, hfr, hown, hsa, hcl⟩ := hrel
            have HSA := hsa; have HCL := hcl
            have HFRr := Lib.hid hfr; have HOR := Lib.hid hown
            have HGR := Lib.hid (hfr.at (i := gf) hgq hgq HGF.out)
            obtain ⟨⟨g0, g1, g2, g3, g4⟩, _⟩ := cells5 HGR.out
            have HPR := Lib.hid (HPK.out.fr hfr hq12 hq12)
            have i1 : (0 : Int) ≤ (a : Int) := Int.natCast_nonneg _
            have i2 : (a : Int) < (m : Int) := by have := HNN.out; omega
            have i3 : (a : Int) ≤ 6000 := by omega
            by_cases hiN : i < N
            · have i4 : (0 : Int) ≤ (i : Int) := Int.natCast_nonneg _
              have i5 : (i : Int) < (N : Int) := by omega
              have hil : i < C.length := by rw [HCL.out]; exact hiN
              obtain ⟨_, _, ev, hca⟩ := celsl_r hown HCL.out
              injection ev with ev1 ev2 ev3
              subst ev1
              obtain ⟨_, ev4, hat⟩ := hca.resolve_left (fun e => by rw [e] at hil; simp at hil)
              injection ev4 with ev4
              rw [← ev4, HA2.out] at hat
              obtain ⟨k0, k1, k2⟩ := celAt hat i hil
              obtain ⟨⟨kk, kh, ka⟩, hx⟩ : ∃ t, C[i] = t := ⟨_, rfl⟩
              rw [hx] at k0 k1 k2
              dsimp only at k0 k1 k2
              have hget : C[i]? = some ⟨kk, kh, ka⟩ := by rw [List.getElem?_eq_getElem hil, hx]
              have HGET := Lib.hid hget
              have HRI := Lib.hid (fun w => rresource_any ⟨kk, kh, ka⟩ w)
              unfold KB Cel.v at HRI
              dsimp only at HRI
              have hNi : N - i = (N - (i + 1)) + 1 := by omega
              have HNI := Lib.hid hNi
              clear hat hca hx hget hfr hown ev2 ev3 ev4 hNi hsa hcl
              cases hri : richB kk with
              | false =>
                rw [hri] at HRI
                have HRB := Lib.hid hri
                clear hri
                go_wp2_with fail
                refine (HRI.out _).mono ?_
                rintro e w8 ⟨rfl, hb8⟩
                have HF8 := Lib.hid (HFRr.out.trans (Fr.of hb8 (Nat.le_refl _)))
                have HO8 := Lib.hid (ownsRow_below HOR.out hb8)
                have HS8 := Lib.hid (show sAmts b W H (N - (i + 1)) (i + 1) C (L.drop a) a = r by
                  have h := HSA.out
                  rw [HNI.out, amts_no b W H _ i C _ a _ HGET.out HRB.out] at h
                  exact h)
                clear hb8 g0 g1 g2 g3 g4 k0 k1 k2
                go_wp2_with fail
                go_roundw
                case rel => exact ⟨i + 1, a, C, by first | rfl | go_num, by go_num, by omega, by omega, HF8.out, HO8.out, HS8, HCL⟩
                case measure => simp [intOf]; omega
              | true =>
                rw [hri] at HRI
                have HRB := Lib.hid hri
                clear hri
                by_cases hal : a < nn
                · have j2 : ¬ (nn : Int) ≤ (a : Int) := by omega
                  have hlt : a + 1 < L.length := by have := HM.out; have := HNN.out; omega
                  have hnx := nxt_drop_some hlt
                  obtain ⟨lc0, lb0⟩ := HPR.out.lines a (by omega)
                  have hll := HLEN.out a (by omega)
                  obtain ⟨ln, hln⟩ : ∃ l, L[a] = l := ⟨_, rfl⟩
                  rw [hln] at lc0 hnx hll
                  have hlq : ¬ (aL.add a).block = q2 := by rw [lb0]; omega
                  have hra := fun w' ho => ramount_any W H W1 W2 q2 N N (w2.heap.size + 1) hB2 C HCL.out i hiN hN1024 ln hll w' ho
                  rw [HA2.out] at hra
                  have HLC0 := Lib.hid lc0
                  have HNX := Lib.hid hnx
                  cases hap : amtP W i ln with
                  | none =>
                    have HRA := Lib.hid (show ∀ w', w'.ownsRow (w2.heap.size + 1) 41 3 (.slice (some ⟨q2, 0, none⟩) N N) N (cellsOf Cel.l C) → Calls Tryz.prog 44 #[.agg #[.int .i64 W, .int .i64 H, .slice (some a2) N N], .int .i64 (i : Int), .string (str ln)] w' (fun en w'' => en = .returned (.bool false) ∧ Fr q2 q2 w' w'') from fun w' ho => (hra w' (by rw [← HA2.out]; exact ho)).mono (fun en w'' h => by unfold AmtRes at h; rw [hap] at h; exact h))
                    have HBD := Lib.hid (show r = .bad (a + 1) 5 by
                      have h := HSA.out
                      rw [HNI.out, amts_bad b W H _ i C _ _ _ a _ HGET.out HRB.out HNX.out hap] at h
                      exact h.symm)
                    clear hra hap hnx lc0 lb0 hln hlt hll
                    go_wp2_with fail
                    refine (HRI.out _).mono ?_
                    rintro e w8 ⟨rfl, hb8⟩
                    have HF8 := Lib.hid (HFRr.out.trans (Fr.of hb8 (Nat.le_refl _)))
                    have HO8 := Lib.hid (ownsRow_below HOR.out hb8)
                    obtain ⟨⟨z0, z1, z2, z3, z4⟩, _⟩ := cells5 (block_below hb8 HGR.out)
                    have lc := cell_below hb8 HLC0.out
                    clear hb8 g0 g1 g2 g3 g4 k0 k1 k2
                    go_wp2_with fail
                    go_region_held3 (fun w' => w'.cell? ⟨gf, 1, none⟩ = some (.int .i64 W) ∧ w'.cell? ⟨gf, 2, none⟩ = some (.int .i64 H) ∧ w'.cell? ⟨gf, 3, none⟩ = some (.slice (some a2) N N) ∧ w'.cell? (aL.add a) = some (.string (str ln))) (first | exact ⟨v1, v2, v3, v4⟩ | exact ⟨z1, z2, z3, lc⟩) (first | (go_at_call 44; refine (HRA.out _ (by exact HO8.out)).mono ?_; rintro e w9 ⟨rfl, hf9⟩; have f9 : Fr q2 q2 w8 w9 := Fr.trans (by repeat' (first | exact Fr.refl _ _ _ | refine Fr.drew ?_ | refine Fr.dN ?_ _)) hf9; have v1 := f9.cell hgq hgq z1; have v2 := f9.cell hgq hgq z2; have v3 := f9.cell hgq hgq z3; have v4 := f9.cell hlq hlq lc))
                    all_goals
                      have HP9 := Lib.hid (HPK.out.fr (HF8.out.trans f9) hq12 hq12)
                      obtain ⟨⟨t0, t1, t2, t3, t4⟩, ⟨y0, y1, y2, y3, y4⟩⟩ := cells5 HP9.out.res
                      have hz := heap_lt HP9.out.res
                      clear v1 v2 v3 v4 f9 hf9 z0 z1 z2 z3 z4 lc
                      go_wp2_with fail
                      exact bodyPost_ret (v := .tuple #[file0, .int .i64 ((a : Int) + 1), .int .i64 5]) (by simp [results, Tryz.results14, go_sem, file0, fileV, t0, t1, t2, t3, t4, y0, y1, y2, y3, y4, hz]) rfl (HBAD.out (a + 1) ((a : Int) + 1) 5 HBD.out (by simp) _ (by repeat' (first | with_reducible exact HP9.out.below | refine Below.setCell ?_ (by exact Nat.le_refl _) _ | refine Below.drew ?_ | refine below_dN ?_ _)))
                  | some v =>
                    have HRA := Lib.hid (show ∀ w', w'.ownsRow (w2.heap.size + 1) 41 3 (.slice (some ⟨q2, 0, none⟩) N N) N (cellsOf Cel.l C) → Calls Tryz.prog 44 #[.agg #[.int .i64 W, .int .i64 H, .slice (some a2) N N], .int .i64 (i : Int), .string (str ln)] w' (fun en w'' => en = .returned (.bool true) ∧ w''.ownsRow (w2.heap.size + 1) 41 3 (.slice (some ⟨q2, 0, none⟩) N N) N (cellsOf Cel.l (aset C i v)) ∧ Fr q2 q2 w' w'') from fun w' ho => (hra w' (by rw [← HA2.out]; exact ho)).mono (fun en w'' h => by unfold AmtRes at h; rw [hap] at h; exact ⟨h.1.1, h.1.2, h.2⟩))
                    have HS9 := Lib.hid (show sAmts b W H (N - (i + 1)) (i + 1) (aset C i v) (L.drop (a + 1)) (a + 1) = r by
                      have h := HSA.out
                      rw [HNI.out, amts_ok b W H _ i C _ _ _ a _ v HGET.out HRB.out HNX.out hap] at h
                      unfold aset
                      rw [HGET.out]
                      exact h)
                    have HC9 := Lib.hid (show (aset C i v).length = N by
                      unfold aset
                      rw [HGET.out]
                      simpa using HCL.out)
                    clear hra hap hnx lc0 lb0 hln hlt hll
                    go_wp2_with fail
                    refine (HRI.out _).mono ?_
                    rintro e w8 ⟨rfl, hb8⟩
                    have HF8 := Lib.hid (HFRr.out.trans (Fr.of hb8 (Nat.le_refl _)))
                    have HO8 := Lib.hid (ownsRow_below HOR.out hb8)
                    obtain ⟨⟨z0, z1, z2, z3, z4⟩, _⟩ := cells5 (block_below hb8 HGR.out)
                    have lc := cell_below hb8 HLC0.out
                    clear hb8 g0 g1 g2 g3 g4 k0 k1 k2
                    go_wp2_with fail
                    go_region_held3 (fun w' => w'.cell? ⟨gf, 1, none⟩ = some (.int .i64 W) ∧ w'.cell? ⟨gf, 2, none⟩ = some (.int .i64 H) ∧ w'.cell? ⟨gf, 3, none⟩ = some (.slice (some a2) N N) ∧ w'.cell? (aL.add a) = some (.string (str ln))) (first | exact ⟨v1, v2, v3, v4⟩ | exact ⟨z1, z2, z3, lc⟩) (first | (go_at_call 44; refine (HRA.out _ (by exact HO8.out)).mono ?_; rintro e w9 ⟨rfl, ho9, hf9⟩; have f9 : Fr q2 q2 w8 w9 := Fr.trans (by repeat' (first | exact Fr.refl _ _ _ | refine Fr.drew ?_ | refine Fr.dN ?_ _)) hf9; have v1 := f9.cell hgq hgq z1; have v2 := f9.cell hgq hgq z2; have v3 := f9.cell hgq hgq z3; have v4 := f9.cell hlq hlq lc))
                    all_goals
                      have HF9 := Lib.hid (HF8.out.trans f9)
                      have HO9 := Lib.hid ho9
                      clear v1 v2 v3 v4 f9 ho9 hf9 z0 z1 z2 z3 z4 lc
                      go_wp2_with fail
                      go_roundw
                      case rel => exact ⟨i + 1, a + 1, aset C i v, by go_num, by go_num, by omega, by omega, HF9.out, HO9.out, HS9, HC9⟩
                      case measure => simp [intOf]; omega
                · have j2 : (nn : Int) ≤ (a : Int) := by omega
                  have HBD := Lib.hid (show r = .bad (a + 1) 4 by
                    have h := HSA.out
                    rw [HNI.out, amts_end b W H _ i C _ a _ HGET.out HRB.out (nxt_drop_none (by have := HM.out; have := HNN.out; omega))] at h
                    exact h.symm)
                  go_wp2_with fail
                  refine (HRI.out _).mono ?_
                  rintro e w8 ⟨rfl, hb8⟩
                  have HP8 := Lib.hid (HPR.out.fr (g := q2) (h := q2) (Fr.of hb8 (Nat.le_refl _)) hq12 hq12)
                  obtain ⟨⟨t0, t1, t2, t3, t4⟩, ⟨y0, y1, y2, y3, y4⟩⟩ := cells5 HP8.out.res
                  have hz := heap_lt HP8.out.res
                  clear hb8 g0 g1 g2 g3 g4 k0 k1 k2
                  go_wp2_with fail
                  exact bodyPost_ret (v := .tuple #[file0, .int .i64 ((a : Int) + 1), .int .i64 4]) (by simp [results, Tryz.results14, go_sem, file0, fileV, t0, t1, t2, t3, t4, y0, y1, y2, y3, y4, hz]) rfl (HBAD.out (a + 1) ((a : Int) + 1) 4 HBD.out (by simp) _ (by repeat' (first | with_reducible exact HP8.out.below | refine Below.setCell ?_ (by exact Nat.le_refl _) _ | refine Below.drew ?_ | refine below_dN ?_ _)))
            · have i5 : ¬ (i : Int) < (N : Int) := by omega
              have hss := HSA.out
              rw [show N - i = 0 by omega] at hss
              simp only [sAmts] at hss
              have HSS := Lib.hid hss
              obtain ⟨w5, rfl⟩ : ∃ w5, w5 = wr := ⟨wr, rfl⟩
              have hgz5 : gf < w5.heap.size := heap_lt HGR.out
              have hq1g : q1 < gf := by have := HPK.out.o3; omega
              clear hss hown hfr hsa hcl i2
              go_wp2_with fail
              clear g0 g1 g2 g3 g4
              go_loopw [9] (fun av wr => ∃ (a : Nat) (ps : List Po) (po : Option Addr) (pl pc : Nat), av = .int .i64 (a : Int) ∧ a ≤ nn ∧ Fr gf gf w5 wr ∧ wr.heap[gf]? = some (fO (str b) W H (.slice (some a2) N N) (.slice po pl pc)) ∧ wr.ownsRow w5.heap.size 55 2 (.slice po pl pc) pl (cellsOf Po.l ps) ∧ Hid (sStarts b W H C (L.drop a) a ps = r) ∧ Hid (ps.length = pl ∧ pl ≤ a)) (fun av _ => nn - (intOf av).toNat)
              case atStart => exact ⟨a, [], none, 0, 0, rfl, ha, Fr.refl _ _ _, HGR.out, World.ownsRow_nil _ _ _ _, HSS, Lib.hid ⟨rfl, Nat.zero_le _⟩⟩
              case round =>
                clear HSS HSA i5 hi ha i1 i3 hiN
                obtain ⟨a, ps, po, pl, pc, rfl, ha, hfr, hg, hown, hss, hpl⟩ := hrel
                have HSS := hss; have HPL := hpl
                have HFR := Lib.hid hfr; have HG := Lib.hid hg; have HOW := Lib.hid hown
                have HP3 := Lib.hid (HPR.out.fr hfr hq1g hq1g)
                obtain ⟨lc0, lb0⟩ := HP3.out.lines a (by have := HM.out; have := HNN.out; omega)
                have hll := HLEN.out a (by have := HM.out; have := HNN.out; omega)
                obtain ⟨ln, hln⟩ : ∃ l, L[a]'(by have := HM.out; have := HNN.out; omega) = l := ⟨_, rfl⟩
                rw [hln] at lc0 hll
                have HLN := Lib.hid hln
                have i1 : (0 : Int) ≤ (a : Int) := Int.natCast_nonneg _
                have i2 : (a : Int) < (m : Int) := by have := HNN.out; omega
                have i3 : (a : Int) ≤ 6000 := by omega
                have hzr := hfr.size
                by_cases hal : a < nn
                · have j2 : (a : Int) < (nn : Int) := by omega
                  have hlt : a + 1 < L.length := by have := HM.out; have := HNN.out; omega
                  have HST := Lib.hid (rstart_any ln hll)
                  have HSO := Lib.hid (fun (p : Po) (h : startP ln = some p) => show sStarts b W H C (L.drop (a + 1)) (a + 1) (ps ++ [p]) = r from by
                    rw [← HSS.out, rst_ok (p := p) hlt (by rw [HLN.out]; exact h)])
                  have HSB := Lib.hid (fun (h : startP ln = none) => show r = .bad (a + 1) 5 from by
                    rw [← HSS.out, rst_bad hlt (by rw [HLN.out]; exact h)])
                  have hgr : gf < wr.heap.size := heap_lt hg
                  clear hln hll hfr hg hown hss hlt lb0
                  generalize str ln = LS at *
                  go_wp2_with fail
                  refine (HST.out wr).mono ?_
                  rintro e w8 ⟨⟨x, y, bb, rfl, hsp⟩, hb8⟩
                  have HG8 := Lib.hid (block_below hb8 HG.out)
                  have HO8 := Lib.hid (ownsRow_below HOW.out hb8)
                  have HF8 := Lib.hid (HFR.out.trans (Fr.of hb8 (Nat.le_refl _)))
                  have hz8 := hb8.size
                  cases bb with
                  | false =>
                    have HBD := Lib.hid (HSB.out hsp)
                    have HP8 := Lib.hid (HPR.out.fr HF8.out hq1g hq1g)
                    obtain ⟨⟨t0, t1, t2, t3, t4⟩, ⟨y0, y1, y2, y3, y4⟩⟩ := cells5 HP8.out.res
                    have hz := heap_lt HP8.out.res
                    clear hb8 hsp lc0
                    go_wp2_with fail
                    exact bodyPost_ret (v := .tuple #[file0, .int .i64 ((a : Int) + 1), .int .i64 5]) (by simp [results, Tryz.results14, go_sem, file0, fileV, t0, t1, t2, t3, t4, y0, y1, y2, y3, y4, hz]) rfl (HBAD.out (a + 1) ((a : Int) + 1) 5 HBD.out (by simp) _ (by with_reducible exact (st5_below HP8.out.below (by exact Nat.le_refl _)).alloc (by rw [st5_size]; omega) _))
                  | true =>
                    have HN9 := Lib.hid (HSO.out _ hsp)
                    obtain ⟨i1', ji, jz0, jz1, jz2⟩ := pos_info
                    have f4 : ∀ o, (w8.alloc o).cell? ⟨gf, 4, none⟩ = some (.slice po pl pc) := fun o => cell_below (below_new _ _) (cells5 HG8.out).1.2.2.2.2
                    have hplb : pl ≤ 6000 := by have := HPL.out.2; omega
                    clear hb8 hsp lc0
                    go_wp2_with (at_builtin; go_must (refine wpList_append_lies _ rfl _ _ 25 rfl w5.heap.size 55 i1' (.agg #[.int .i64 0, .int .i64 0]) 2 16 Tryz.underlying25 ji jz0 jz1 jz2 rfl (by decide) _ _ _ rfl ((HO8.out.alloc _).alloc _) ⟨w8.heap.size + 1, 0, none⟩ 1 1 [.int .i64 x, .int .i64 y] rfl rfl (by first | exact World.news_of_block (heap_alloc_new _ _) | exact World.news_of_block (by rw [← tok_size w8]; exact heap_alloc_new _ _)) (one2r x y) (by omega) (by unfold maxLen; omega) (by omega) (by first | omega | (simp; omega)) _ rfl ?_))
                    intro qq cap2 w9 hown9 hgrow hat hlt
                    have hrow : ∀ j, (Value.slice po pl pc).ownBlock = some j → w5.heap.size ≤ j ∧ j < w8.heap.size := fun j hj => HO8.out.lt j hj
                    have m9 := app_keep (gf := gf) hgrow (Eq.trans (Below.heap_alloc _ _ gf (by simp; omega)) (Eq.trans (Below.heap_alloc w8 _ gf (by omega)) HG8.out)) (fun j hj => by have := (hrow j hj).1; omega)
                    have HF9 := Lib.hid ((((HF8.out.alloc _).alloc _).grown hgrow (fun j hj => (hrow j hj).1)).st 4 (.slice (some ⟨qq, 0, none⟩) (pl + 1) cap2))
                    have HM9 := Lib.hid (show (w9.setCell ⟨gf, 4, none⟩ (.slice (some ⟨qq, 0, none⟩) (pl + 1) cap2)).heap[gf]? = some (fO (str b) W H (.slice (some a2) N N) (.slice (some ⟨qq, 0, none⟩) (pl + 1) cap2)) by rw [heap_setCell_same _ _ _ _ _ _ m9]; rfl)
                    have HO9 := Lib.hid (show (w9.setCell ⟨gf, 4, none⟩ (.slice (some ⟨qq, 0, none⟩) (pl + 1) cap2)).ownsRow w5.heap.size 55 2 (.slice (some ⟨qq, 0, none⟩) (pl + 1) cap2) (pl + 1) (cellsOf Po.l (ps ++ [⟨x, y⟩])) by
                      rw [cellsOf_snoc]
                      exact ownsRow_setfar hown9 _ _ hgz5)
                    obtain ⟨⟨v0, v1, v2, v3, v4⟩, ⟨s0, s1, s2, s3, s4⟩⟩ := cells5 m9
                    clear hown9 hgrow hat m9 f4
                    go_wp2_with fail
                    go_roundw
                    case rel => exact ⟨a + 1, ps ++ [⟨x, y⟩], some ⟨qq, 0, none⟩, pl + 1, cap2, by go_num, by omega, HF9.out, HM9.out, HO9.out, HN9, Lib.hid ⟨by rw [List.length_append, HPL.out.1]; rfl, by have := HPL.out.2; omega⟩⟩
                    case measure => simp [intOf]; omega
                · have j2 : ¬ (a : Int) < (nn : Int) := by omega
                  have han : a = nn := by omega
                  have hend : a + 1 = L.length := by have := HM.out; have := HNN.out; omega
                  have hre := rst_end (n := b) (W := W) (H := H) (C := C) (L := L) (i := a) (ps := ps) hend
                  rw [HSS.out, HLN.out] at hre
                  have lc : wr.cell? (aL.add nn) = some (.string (str ln)) := by rw [← han]; exact lc0
                  have k1 : (0 : Int) ≤ (nn : Int) := Int.natCast_nonneg _
                  have k2 : (nn : Int) < (m : Int) := by have := HNN.out; omega
                  obtain ⟨⟨t0, t1, t2, t3, t4⟩, ⟨y0, y1, y2, y3, y4⟩⟩ := cells5 HP3.out.res
                  have hz := heap_lt HP3.out.res
                  have HAN := Lib.hid han
                  by_cases ht : ln = []
                  · rw [if_pos ht] at hre
                    have hq : ((str ln).toList == []) = true := by rw [str_list, ht]; rfl
                    have HRE := Lib.hid hre
                    clear hre ht han hend hln hll hss lc0 lb0
                    generalize str ln = LS at *
                    have HCR := Lib.hid (row_fr HOR.out HFR.out (Nat.ne_of_lt HPK.out.o3) (Nat.ne_of_lt HPK.out.o3))
                    have S1 := celsl_r HCR.out HCL.out
                    rw [HA2.out] at S1
                    have S2 := posl_r HOW.out HPL.out.1
                    obtain ⟨E, hE⟩ : ∃ E, validT (str b) W H C ps = E := ⟨_, rfl⟩
                    have hva := rValid_any (str b) W H (.slice (some a2) N N) (.slice po pl pc) C ps wr (by rw [str_size]; omega) S1 (by have := HCL.out; omega) S2 (by have := HPL.out; omega)
                    rw [hE] at hva
                    unfold KB fileV at hva
                    have HVA := Lib.hid hva
                    have HFE := Lib.hid hE
                    obtain ⟨⟨d0, d1, d2, d3, d4⟩, _⟩ := cells5 HG.out
                    clear hva S1 S2 hE t0 t1 t2 t3 t4 y0 y1 y2 y3 y4 hz
                    go_wp2_with fail
                    refine HVA.out.mono ?_
                    rintro e wv ⟨rfl, hbv⟩
                    have HPV := Lib.hid (HP3.out.fr (g := gf) (h := gf) (Fr.of hbv (Nat.le_refl _)) hq1g hq1g)
                    have HCV := Lib.hid (ownsRow_below HCR.out hbv); have HOV := Lib.hid (ownsRow_below HOW.out hbv)
                    obtain ⟨⟨d0, d1, d2, d3, d4⟩, _⟩ := cells5 (block_below hbv HG.out)
                    obtain ⟨⟨t0, t1, t2, t3, t4⟩, ⟨y0, y1, y2, y3, y4⟩⟩ := cells5 HPV.out.res
                    have hz := heap_lt HPV.out.res
                    clear hbv lc
                    by_cases hE0 : E = 0
                    · subst hE0
                      have HRG := Lib.hid (show r = .good b W H C ps by rw [HRE.out]; unfold fin; rw [if_pos HFE.out])
                      go_wp2_with fail
                      exact bodyPost_ret (v := .tuple #[fileV (str b) W H (.slice (some a2) N N) (.slice po pl pc), .int .i64 0, .int .i64 0]) (by simp [results, Tryz.results14, go_sem, fileV, t0, t1, t2, t3, t4, y0, y1, y2, y3, y4, hz]) rfl (HGOOD.out b W H C ps _ _ _ HRG.out (by rw [← HA2.out]; exact celsl_r (st5_row HCV.out (Nat.lt_succ_of_lt hz2)) HCL.out) (posl_r (st5_row HOV.out (by omega)) HPL.out.1) (capOk_owns HOV.out) (st5_below HPV.out.below (by exact Nat.le_refl _)))
                    · have hE1 : (E == 0) = false := by simpa using hE0
                      have hE2 : (E != 0) = true := by simpa using hE0
                      have HRG := Lib.hid (show r = .bad 0 E by rw [HRE.out]; unfold fin; rw [HFE.out, if_neg hE0])
                      go_wp2_with fail
                      exact bodyPost_ret (v := .tuple #[file0, .int .i64 0, .int .i64 E]) (by simp [results, Tryz.results14, go_sem, file0, fileV, t0, t1, t2, t3, t4, y0, y1, y2, y3, y4, hz]) rfl (HBAD.out 0 0 E HRG.out rfl _ (st5_below HPV.out.below (by exact Nat.le_refl _)))
                  · rw [if_neg ht] at hre
                    have hq : ((str ln).toList == []) = false := by rw [str_list, beq_eq_false_iff_ne]; exact ht
                    have HRE := Lib.hid hre
                    clear hre ht han hend hln hll hss lc0 lb0
                    generalize str ln = LS at *
                    go_wp2_with fail
                    exact bodyPost_ret (v := .tuple #[file0, .int .i64 ((nn : Int) + 1), .int .i64 4]) (by simp [results, Tryz.results14, go_sem, file0, fileV, t0, t1, t2, t3, t4, y0, y1, y2, y3, y4, hz]) rfl (HBAD.out (a + 1) ((nn : Int) + 1) 4 HRE.out (by have := HAN.out; omega) _ (by repeat' (first | with_reducible exact HP3.out.below | refine Below.setCell ?_ (by exact Nat.le_refl _) _ | refine Below.drew ?_ | refine below_dN ?_ _)))
set_option linter.unusedVariables false
set_option linter.unusedSimpArgs false
set_option maxRecDepth 100000
set_option maxHeartbeats 8000000

theorem pres_one (s : List UInt8) :
    ∃ (N : ByteArray) (W' H' line E : Int) (cs' : List Cel) (ps' : List Po) (L1 L2 : Nat), cs'.length ≤ 1100 ∧ ps'.length ≤ 40 ∧ ∀ en w', PRes (parseS s) en w' → ∃ bo d qo qd, en = .returned (.tuple #[fileV N W' H' (.slice bo L1 d) (.slice qo L2 qd), .int .i64 line, .int .i64 E]) ∧ CelSl w' (.slice bo L1 d) cs' ∧ PoSl w' (.slice qo L2 qd) ps' := by
  rcases hr : parseS s with ⟨l, er⟩ | ⟨n, W, H, cs, ps⟩
  · exact ⟨⟨#[]⟩, 0, 0, l, er, [], [], 0, 0, by simp, by simp, fun en w' h => ⟨none, 0, none, 0, h, ⟨none, 0, rfl, Or.inl rfl⟩, ⟨none, 0, rfl, Or.inl rfl⟩⟩⟩
  · obtain ⟨_, _, ⟨_, h3⟩, _, h5, _⟩ := valid_facts (parse_text hr).2
    refine ⟨str n, W, H, 0, 0, cs, ps, cs.length, ps.length, by omega, by omega, fun en w' h => ?_⟩
    obtain ⟨cv, pv, h1, h2, h3, _⟩ := h
    obtain ⟨bo, d, rfl, k2⟩ := h2
    obtain ⟨qo, qd, rfl, k3⟩ := h3
    exact ⟨bo, d, qo, qd, h1, ⟨bo, d, rfl, k2⟩, ⟨qo, qd, rfl, k3⟩⟩
theorem same_r (S : ByteArray) (W H : Int) (cs : List Cel) (ps : List Po) (hz : cs.length ≤ 1000000) (hz2 : ps.length ≤ 1000000) (cv pv cv2 pv2 : Value) (w : World) (h1 : CelSl w cv cs) (h2 : CelSl w cv2 cs) (h3 : PoSl w pv ps) (h4 : PoSl w pv2 ps) : KB 15 #[fileV S W H cv pv, fileV S W H cv2 pv2] (.bool true) w := by
  obtain ⟨ao, c, rfl, a1⟩ := h1
  obtain ⟨bo, d, rfl, a2⟩ := h2
  obtain ⟨po, pc, rfl, a3⟩ := h3
  obtain ⟨qo, qc, rfl, a4⟩ := h4
  exact rSame_yes S W H ao bo po qo c d pc qc _ _ cs ps rfl rfl hz hz2 w a1 a2 a3 a4
theorem w_MapfileParses (a : ByteArray) (z : a.size ≤ 140737488351232) (w : World) (hc : Ctx w) : Calls Tryz.prog 4 #[.string a] w fun e w' => e = .returned (.bool true) ∧ Below w.heap.size w w' := by
  have HA := Lib.hid alive_any
  have HX := Lib.hid hc
  clear hc
  by_cases h1 : 6000 < a.size
  · have e1 : (6000 : Int) < (a.size : Int) := by omega
    go_enter Tryz.func4, Tryz.ntmps4
    go_wp2_with fail
    refine (HA.out w HX.out).mono ?_
    rintro e w1 ⟨rfl, hb⟩
    go_wp2_with fail
    go_ret
    exact ⟨rfl, hb⟩
  · have e1 : ¬ (6000 : Int) < (a.size : Int) := by omega
    have hal : a.data.toList.length ≤ 6000 := by rw [← Lib.size_eq]; omega
    obtain ⟨N, W', H', line, E, cs', ps', L1, L2, q1, q2, hf⟩ := pres_one a.data.toList
    have HM1 := Lib.hid (fun w' (hb : Below w.heap.size w w') => (Parse_any a.data.toList (by omega) w' (HX.out.below hb)).mono (fun en w'' h => And.intro (hf en w'' h.1) h.2))
    have HM2 := Lib.hid (fun w' => (rParse_any a.data.toList hal w').mono (fun en w'' h => And.intro (hf en w'' h.1) h.2))
    rw [str_of] at HM1 HM2
    have HSA := Lib.hid (fun cv pv cv2 pv2 w' => same_r N W' H' cs' ps' (by omega) (by omega) cv pv cv2 pv2 w')
    have hq : (E == E) = true := by simp
    have hq2 : (line == line) = true := by simp
    clear hf hal
    unfold KB fileV at *
    go_enter Tryz.func4, Tryz.ntmps4
    go_wp2_with fail
    refine (HM1.out _ (Below.refl _ _)).mono ?_
    rintro e w2 ⟨⟨bo, bd, qo, qd, rfl, hcv, hpv⟩, hb2⟩
    have HB2 := Lib.hid hb2
    have HCV := Lib.hid hcv; have HPV := Lib.hid hpv
    clear hb2 hcv hpv
    go_wp2_with fail
    refine (HM2.out _).mono ?_
    rintro e w3 ⟨⟨bo2, bd2, qo2, qd2, rfl, hcv2, hpv2⟩, hb3⟩
    have hb3a := (below_new w2 _).trans (hb3.mono (by simp))
    have HN3 := Lib.hid (block_below hb3 (tok_new w2 _))
    have HB3 := Lib.hid (HB2.out.trans (hb3a.mono HB2.out.size))
    obtain ⟨⟨d0, d1, d2, d3, d4⟩, _⟩ := cells5 HN3.out
    have f0 : ∀ o, (w3.alloc o).cell? ⟨w2.heap.size, 0, none⟩ = some (.string N) := fun o => cell_below (below_new _ _) d0
    have f1 : ∀ o, (w3.alloc o).cell? ⟨w2.heap.size, 1, none⟩ = some (.int .i64 W') := fun o => cell_below (below_new _ _) d1
    have f2 : ∀ o, (w3.alloc o).cell? ⟨w2.heap.size, 2, none⟩ = some (.int .i64 H') := fun o => cell_below (below_new _ _) d2
    have f3 : ∀ o, (w3.alloc o).cell? ⟨w2.heap.size, 3, none⟩ = some (.slice bo L1 bd) := fun o => cell_below (below_new _ _) d3
    have f4 : ∀ o, (w3.alloc o).cell? ⟨w2.heap.size, 4, none⟩ = some (.slice qo L2 qd) := fun o => cell_below (below_new _ _) d4
    have HSB := Lib.hid (fun (o : Obj) => HSA.out (.slice bo L1 bd) (.slice qo L2 qd) (.slice bo2 L1 bd2) (.slice qo2 L2 qd2) (w3.alloc o) ((HCV.out.below hb3a).below (below_new _ _)) (hcv2.below (below_new _ _)) ((HPV.out.below hb3a).below (below_new _ _)) (hpv2.below (below_new _ _)))
    clear hb3 hb3a hcv2 hpv2 d0 d1 d2 d3 d4
    go_wp2_with fail
    refine (HSB.out _).mono ?_
    rintro e w4 ⟨rfl, hb4⟩
    have HB4 := Lib.hid (HB3.out.trans ((new_below hb4).2.1.mono HB3.out.size))
    clear hb4
    go_wp2_with fail
    refine (HA.out w4 (HX.out.below HB4.out)).mono ?_
    rintro e w5 ⟨rfl, hb5⟩
    have HB5 := Lib.hid (HB4.out.trans (hb5.mono HB4.out.size))
    clear hb5
    go_wp2_with fail
    go_ret
    exact ⟨rfl, HB5.out⟩
end Go.Proofs.YtmiceolkmiiahaaGreatDoor
