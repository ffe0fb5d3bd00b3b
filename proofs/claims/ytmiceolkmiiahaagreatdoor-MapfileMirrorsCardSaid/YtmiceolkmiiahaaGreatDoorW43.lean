/- Walks: the reference's Turned and Mirror. -/
import Derived.Test.YtmiceolkmiiahaaGreatDoorW42
import Derived.Deep.RegionLaw
import Derived.Deep.AppendLies
namespace Go.Proofs.YtmiceolkmiiahaaGreatDoor
open Go.RowKit
set_option linter.unusedVariables false
set_option linter.unusedSimpArgs false
set_option maxRecDepth 100000
set_option maxHeartbeats 8000000

theorem validT_many {n : List UInt8} {W H : Int} {cs : List Cel} {ps : List Po} (h1 : nameB (str n) = true) (h2 : mapB W H cs = true) (h3 : 6 < ps.length) : validT (str n) W H cs ps = 2 := by
  unfold validT
  simp [h1, h2]
  omega
theorem rev_of {cs : List Cel} {nc : Nat} (hn : cs.length = nc) (h : ∀ j : Nat, j < nc → cs[j]? = cs[nc - 1 - j]?) : cs.reverse = cs := by
  apply List.ext_getElem?
  intro i
  by_cases hi : i < nc
  · rw [List.getElem?_reverse (by omega), hn]
    exact (h i hi).symm
  · rw [List.getElem?_eq_none (by simp; omega), List.getElem?_eq_none (by omega)]
theorem rev_not {cs : List Cel} {nc k j : Nat} (hn : cs.length = nc) (hk : k < nc) (hj : nc - 1 - k = j) (h : cs[k]? ≠ cs[j]?) : cs.reverse ≠ cs := by
  intro e
  apply h
  have h1 : cs.reverse[k]? = cs[j]? := by rw [List.getElem?_reverse (by omega), hn, hj]
  rw [← h1, e]
theorem rTurned_any (W H : Int) (cv : Value) (p : Po) (w : World) : KB 51 #[mapV W H cv, p.v] (turnP W H p).v w := by
  obtain ⟨x, y⟩ := p
  unfold KB Po.v turnP mapV
  dsimp only
  go_enter Tryz.func51, Tryz.ntmps51
  go_wp2_with fail
  exact bodyPost_ret (v := Po.v ⟨wrap64 (wrap64 (W - 1) - x), wrap64 (wrap64 (H - 1) - y)⟩) (by simp [results, Tryz.results51, go_sem, Po.v]) rfl ⟨rfl, by repeat' (first | exact Below.refl _ _ | refine below_dN ?_ _ | refine Below.drew ?_ | refine Below.setCell ?_ (by first | omega | (simp <;> omega)) _ | refine Below.alloc ?_ (by first | omega | (simp <;> omega)) _)⟩
theorem rmirror_good {n : List UInt8} {W H : Int} {cs : List Cel} {ps : List Po} {w wv : World} {rb B' k cb : Nat} {cv : Value} {bo : Option Addr} {a b c d e : Value} (hE : mirE n W H cs ps = 0) (hc : CelSl w cv cs) (hpl : (ps ++ ps.map (turnP W H)).length = k) (h2 : wv.ownsRow B' 55 2 (.slice bo k cb) k (cellsOf Po.l (ps ++ ps.map (turnP W H)))) (hB' : rb < B') (hb : Below w.heap.size w wv) (hr : w.heap.size ≤ rb) :
    MRes n W H cs ps w (.returned (.tuple #[fileV (str n) W H cv (.slice bo k cb), .int .i64 0])) (st5 wv rb a b c d e) := by
  unfold MRes
  rw [if_pos hE]
  exact ⟨⟨_, _, rfl, hc.below (st5_below hb hr), posl_of (st5_row h2 hB') hpl, capOk_owns h2⟩, st5_below hb hr⟩
theorem set_far {w : World} {p q : Addr} {u v : Value} (h : w.cell? p = some v) (hlt : p.block < q.block) : (w.setCell q u).cell? p = some v := by
  rw [World.cell?_setCell_far _ _ _ _ (by simp <;> omega)]
  exact h
theorem one2 (a b : Int) : ∀ u ∈ [Value.int .i64 a, Value.int .i64 b], u.oneCell' = true := by
  intro u hu
  simp at hu
  rcases hu with rfl | rfl <;> rfl
theorem rMirror_any (n : List UInt8) (W H : Int) (ao po : Option Addr) (c pc : Nat) (cs : List Cel) (ps : List Po) (hn : n.length ≤ 1000) (hcz : cs.length ≤ 1100) (hpz : ps.length ≤ 20) (w : World)
    (hc : CelSl w (.slice ao cs.length c) cs) (hp : PoSl w (.slice po ps.length pc) ps) :
    Calls Tryz.prog 17 #[fileV (str n) W H (.slice ao cs.length c) (.slice po ps.length pc)] w (MRes n W H cs ps w) := by
  have HNM := Lib.hid (rName_any (str n) (by rw [str_size]; omega))
  have HTV := Lib.hid (fun w' (hb : Below w.heap.size w w') => r7Valid_any W H (.slice ao cs.length c) cs w' (hc.below hb) (by omega))
  have HCS := Lib.hid hc; have HPS := Lib.hid hp
  clear hc hp
  obtain ⟨w2, hw2⟩ : ∃ w2, (w.alloc (fO (str n) W H (.slice ao cs.length c) (.slice po ps.length pc))).alloc (fO (str []) 0 0 (.slice none 0 0) (.slice none 0 0)) = w2 := ⟨_, rfl⟩
  have hb2 : Below w.heap.size w w2 := by rw [← hw2]; exact (below_new _ _).alloc (by simp) _
  have hm2 : w2.heap[w.heap.size]? = some (fO (str n) W H (.slice ao cs.length c) (.slice po ps.length pc)) := by rw [← hw2, Below.heap_alloc _ _ _ (by simp)]; exact tok_new _ _
  have hr2 : w2.heap[w.heap.size + 1]? = some (fO (str []) 0 0 (.slice none 0 0) (.slice none 0 0)) := by
    have h := tok_new (w.alloc (fO (str n) W H (.slice ao cs.length c) (.slice po ps.length pc))) (fO (str []) 0 0 (.slice none 0 0) (.slice none 0 0))
    rw [tok_size, hw2] at h
    exact h
  have HB2 := Lib.hid hb2; have HM2 := Lib.hid hm2; have HR2 := Lib.hid hr2; have HW2 := Lib.hid hw2
  clear hb2 hm2 hr2 hw2
  cases h1 : nameB (str n) with
  | false =>
    have hE : mirE n W H cs ps = 1 := by unfold mirE; rw [if_pos (Or.inl h1)]
    rw [h1] at HNM
    suffices hsf : Calls Tryz.prog 17 #[fileV (str n) W H (.slice ao cs.length c) (.slice po ps.length pc)] w (fun en w' => en = .returned (.tuple #[file0, .int .i64 1]) ∧ Below w.heap.size w w') from hsf.mono fun en w' hh => mres_err hE (by decide) hh
    obtain ⟨⟨m0, m1, m2, m3, m4⟩, _⟩ := cells5 HM2.out
    obtain ⟨⟨t0, t1, t2, t3, t4⟩, ⟨y0, y1, y2, y3, y4⟩⟩ := cells5 HR2.out
    have hz := heap_lt HR2.out
    clear h1 hE
    unfold KC fileV at *
    go_enter Tryz.func17, Tryz.ntmps17
    go_wp2_with fail
    refine (HNM.out _).mono ?_
    rw [HW2.out]
    rintro e w3 ⟨rfl, rfl⟩
    clear HW2
    go_wp2_with fail
    exact bodyPost_ret (v := .tuple #[file0, .int .i64 1]) (by simp [results, Tryz.results17, go_sem, file0, fileV, t0, t1, t2, t3, t4, y0, y1, y2, y3, y4, hz]) rfl ⟨rfl, st5_below HB2.out (by omega)⟩
  | true =>
    rw [h1] at HNM
    cases h2 : mapB W H cs with
    | false =>
      have hE : mirE n W H cs ps = 1 := by unfold mirE; rw [if_pos (Or.inr h2)]
      rw [h2] at HTV
      suffices hsf : Calls Tryz.prog 17 #[fileV (str n) W H (.slice ao cs.length c) (.slice po ps.length pc)] w (fun en w' => en = .returned (.tuple #[file0, .int .i64 1]) ∧ Below w.heap.size w w') from hsf.mono fun en w' hh => mres_err hE (by decide) hh
      obtain ⟨⟨m0, m1, m2, m3, m4⟩, _⟩ := cells5 HM2.out
      clear h1 h2 hE
      unfold KC fileV KB mapV at *
      go_enter Tryz.func17, Tryz.ntmps17
      go_wp2_with fail
      refine (HNM.out _).mono ?_
      rw [HW2.out]
      rintro e w3 ⟨rfl, rfl⟩
      clear HW2
      go_wp2_with fail
      refine (HTV.out _ HB2.out).mono ?_
      rintro e w4 ⟨rfl, hb4⟩
      have hR4 := block_below hb4 HR2.out
      obtain ⟨⟨t0, t1, t2, t3, t4⟩, ⟨y0, y1, y2, y3, y4⟩⟩ := cells5 hR4
      have hz := heap_lt hR4
      have HB4 := Lib.hid (HB2.out.trans (hb4.mono HB2.out.size))
      clear hb4 hR4 m0 m1 m2 m3 m4
      go_wp2_with fail
      exact bodyPost_ret (v := .tuple #[file0, .int .i64 1]) (by simp [results, Tryz.results17, go_sem, file0, fileV, t0, t1, t2, t3, t4, y0, y1, y2, y3, y4, hz]) rfl ⟨rfl, st5_below HB4.out (by omega)⟩
    | true =>
      rw [h2] at HTV
      have hne : 0 < cs.length := by
        unfold mapB fmB at h2
        simp only [Bool.and_eq_true, beq_iff_eq] at h2
        have hg := (gvB_iff W H).1 h2.1.1
        have : 1 * 1 ≤ W * H := Int.mul_le_mul hg.1 hg.2.2.1 (by omega) (by omega)
        omega
      have HNB := Lib.hid h1; have HMB := Lib.hid h2
      obtain ⟨_, _, e0, hca⟩ := HCS.out
      injection e0 with i1 i2 i3
      subst i1
      obtain ⟨a, rfl, ha⟩ := hca.resolve_left (fun e => by rw [e] at hne; simp at hne)
      have HA := Lib.hid ha
      obtain ⟨nc, hnc⟩ : ∃ k, cs.length = k := ⟨_, rfl⟩
      obtain ⟨b, hb⟩ : ∃ b, ps.length = b := ⟨_, rfl⟩
      obtain ⟨⟨m0, m1, m2, m3, m4⟩, _⟩ := cells5 HM2.out
      have hnc0 : 0 < nc := by omega
      have HNC := Lib.hid hnc; have HLB := Lib.hid hb
      rw [hnc] at HTV HM2 HW2 m3 HCS ⊢
      rw [hb] at HM2 HW2 m4 HPS ⊢
      rw [hnc] at hcz
      rw [hb] at hpz
      obtain ⟨E, hE⟩ : ∃ E, mirE n W H cs ps = E := ⟨_, rfl⟩
      have HEE := Lib.hid hE
      obtain ⟨n1, hn1⟩ : ∃ n1, nc = n1 + 1 := ⟨nc - 1, by omega⟩
      have hw1 : IntKind.i64.wrap ((nc : Int) - 1) = (n1 : Int) := by rw [IntKind.wrap_i64]; omega
      have HN1 := Lib.hid hn1
      clear hca ha i2 i3 h1 h2 hE hnc hb hn1
      unfold KC fileV KB mapV at *
      go_enter Tryz.func17, Tryz.ntmps17
      go_wp2_with fail
      refine (HNM.out _).mono ?_
      rw [HW2.out]
      rintro e w3 ⟨rfl, rfl⟩
      clear HW2
      go_wp2_with fail
      refine (HTV.out _ HB2.out).mono ?_
      rintro e w4 ⟨rfl, hb4⟩
      have HM4 := Lib.hid (block_below hb4 HM2.out); have HR4 := Lib.hid (block_below hb4 HR2.out); have HB4 := Lib.hid (HB2.out.trans (hb4.mono HB2.out.size))
      clear hb4 m0 m1 m2 m3 m4
      obtain ⟨⟨m0, m1, m2, m3, m4⟩, _⟩ := cells5 HM4.out
      go_wp2_with fail
      clear m0 m1 m2 m3 m4
      go_loopw [5] (fun v wr => ∃ k : Nat, k ≤ nc ∧ v = .int .i64 (k : Int) ∧ Below w4.heap.size w4 wr ∧ Hid (∀ j : Nat, j < k → cs[j]? = cs[nc - 1 - j]?)) (fun v _ => nc - (intOf v).toNat)
      case atStart => exact ⟨0, by omega, rfl, Below.refl _ _, Lib.hid (fun j h => absurd h (by omega))⟩
      case round =>
        obtain ⟨k, hk, rfl, hbel, hall⟩ := hrel
        have HE := Lib.hid hbel
        obtain ⟨⟨m0, m1, m2, m3, m4⟩, _⟩ := cells5 (block_below hbel HM4.out)
        by_cases hkn : k < nc
        · have hka : k < cs.length := by have := HNC.out; omega
          obtain ⟨j, hj⟩ : ∃ j, nc - 1 - k = j := ⟨_, rfl⟩
          have hkb : j < cs.length := by have := HNC.out; omega
          have hw2 : IntKind.i64.wrap ((n1 : Int) - (k : Int)) = (j : Int) := by have := HN1.out; rw [IntKind.wrap_i64]; omega
          have hat := HA.out.below Cel.l_len (HB4.out.trans (hbel.mono HB4.out.size))
          obtain ⟨p0, p1, p2⟩ := celAt hat k hka
          obtain ⟨q0, q1, q2⟩ := celAt hat j hkb
          have hce := celEq_iff cs[k] cs[j]
          obtain ⟨⟨ck, ch, ca⟩, hx⟩ : ∃ t, cs[k] = t := ⟨_, rfl⟩
          obtain ⟨⟨dk, dh, da⟩, hy⟩ : ∃ t, cs[j] = t := ⟨_, rfl⟩
          rw [hx] at p0 p1 p2
          rw [hy] at q0 q1 q2
          dsimp only at p0 p1 p2 q0 q1 q2
          rw [hx, hy] at hce
          have e1 : (0 : Int) ≤ ((k : Int)) := by omega
          have e2 : (k : Int) < (nc : Int) := by omega
          have e3 : (0 : Int) ≤ ((j : Int)) := by omega
          have e4 : (j : Int) < (nc : Int) := by have := HNC.out; omega
          by_cases heq : celEq ⟨ck, ch, ca⟩ ⟨dk, dh, da⟩ = true
          · have hxy := hce.1 heq
            have HNX := Lib.hid (show ∀ j : Nat, j < k + 1 → cs[j]? = cs[nc - 1 - j]? from fun i hi => by
              by_cases hik : i < k
              · exact hall.out i hik
              · obtain rfl : i = k := by omega
                rw [hj, List.getElem?_eq_getElem hka, List.getElem?_eq_getElem hkb, hx, hy, hxy])
            injection hxy with i1 i2 i3
            subst i1 i2 i3
            have b1 : (ck == ck) = true := by simp
            have b2 : (ch == ch) = true := by simp
            have b3 : (ca == ca) = true := by simp
            clear hx hy hce heq hbel hat hj
            go_wp2_with fail
            go_quiet (fail)
            go_wp2_with fail
            go_roundw
            case rel => exact ⟨k + 1, by omega, by go_num, by first | exact HE.out | exact HE.out.drew | exact below_dN HE.out _, HNX⟩
            case measure => simp [intOf]; omega
          · have hne : cs[k]? ≠ cs[j]? := fun e => heq (hce.2 (by rw [List.getElem?_eq_getElem hka, List.getElem?_eq_getElem hkb, hx, hy] at e; injection e))
            have hr := rev_not HNC.out hkn hj hne
            have hE14 : E = 14 := by
              rw [← HEE.out]
              unfold mirE
              rw [if_neg (by rw [HNB.out, HMB.out]; simp), if_pos hr]
            have HE14 := Lib.hid hE14
            replace heq : celEq ⟨ck, ch, ca⟩ ⟨dk, dh, da⟩ = false := by simpa using heq
            unfold celEq at heq
            dsimp only at heq
            have hcases : (ck == dk) = false ∨ ((ck == dk) = true ∧ (ch == dh) = false) ∨ ((ck == dk) = true ∧ (ch == dh) = true ∧ (ca == da) = false) := by
              cases h1 : (ck == dk)
              · exact Or.inl rfl
              · cases h2 : (ch == dh)
                · exact Or.inr (Or.inl ⟨rfl, rfl⟩)
                · cases h3 : (ca == da)
                  · exact Or.inr (Or.inr ⟨rfl, rfl, rfl⟩)
                  · rw [h1, h2, h3] at heq; cases heq
            have hR := block_below hbel HR4.out
            obtain ⟨⟨t0, t1, t2, t3, t4⟩, ⟨y0, y1, y2, y3, y4⟩⟩ := cells5 hR
            have hz := heap_lt hR
            have HBR := Lib.hid (HB4.out.trans (hbel.mono HB4.out.size))
            clear hx hy hce hbel hne hr hE14 heq hR hat hj
            rcases hcases with b1 | ⟨b1, b2⟩ | ⟨b1, b2, b3⟩
            all_goals
              go_wp2_with fail
              go_quiet (fail)
              go_wp2_with fail
              exact bodyPost_ret (v := .tuple #[file0, .int .i64 14]) (by simp [results, Tryz.results17, go_sem, file0, fileV, t0, t1, t2, t3, t4, y0, y1, y2, y3, y4, hz]) rfl (mres_err (HEE.out.trans HE14.out) (by decide) ⟨rfl, st5_below (by first | exact HBR.out | exact HBR.out.drew | exact below_dN HBR.out _) (by omega)⟩)
        · have hrev := rev_of HNC.out (fun j hj => hall.out j (by omega))
          have hEv : validT (str n) W H cs (ps ++ ps.map (turnP W H)) = E := by rw [← HEE.out]; unfold mirE; rw [if_neg (by rw [HNB.out, HMB.out]; simp), if_neg (by simpa using hrev)]
          have HEV := Lib.hid hEv
          have e2 : ¬ (k : Int) < (nc : Int) := by omega
          have HBR := Lib.hid (HB4.out.trans (hbel.mono HB4.out.size))
          have HR := Lib.hid (block_below hbel HR4.out); have HM := Lib.hid (block_below hbel HM4.out)
          have hzM := heap_lt HM.out; have hzR := heap_lt HR.out
          clear hrev hEv hbel hall HE hw1
          obtain ⟨wq, rfl⟩ : ∃ wq, wq = wr := ⟨wr, rfl⟩
          obtain ⟨⟨m0, m1, m2, m3, m4⟩, _⟩ := cells5 HM.out
          go_upto_region 10 with fail
          clear m0 m1 m2 m3 m4
          go_cut [6] from 51 to 56 (fun s6 wr => s6 = .pointer (some ⟨wq.heap.size, 0, none⟩) ∧ ∃ bo cb, wr.heap[wq.heap.size]? = some (fO (str n) W H (.slice (some a) nc c) (.slice bo b cb)) ∧ wr.ownsRow (wq.heap.size + 1) 55 2 (.slice bo b cb) b (cellsOf Po.l ps) ∧ Below wq.heap.size wq wr)
          case first =>
            obtain ⟨_, _, e1, k1⟩ := HPS.out.below HBR.out
            injection e1 with i1 i2 i3
            subst i1 i3
            clear i2
            cases po with
            | none =>
              have hp0 : ps = [] := k1.resolve_right (fun ⟨a, e, _⟩ => by cases e)
              have hb0 : b = 0 := by have := HLB.out; rw [hp0] at this; simpa using this.symm
              have f4 : ∀ o, (wq.alloc o).cell? ⟨w.heap.size, 4, none⟩ = some (.slice none b pc) := fun o => cell_below (below_new _ _) (cells5 HM.out).1.2.2.2.2
              subst hb0
              clear k1
              go_wp2_with fail
              go_meet
              exact ⟨rfl, none, 0, tok_new _ _, by rw [hp0]; exact World.ownsRow_nil _ _ _ _, below_new _ _⟩
            | some pa =>
              have hpa : PoAt wq pa ps := by
                rcases k1 with e | ⟨x, ex, hx⟩
                · subst e; intro i hi; exact absurd hi (by simp)
                · injection ex with ex; subst ex; exact hx
              have HPA := Lib.hid hpa
              obtain ⟨i0, hi, hz0, hz1, hz2⟩ := pos_info
              have f4 : ∀ o, (wq.alloc o).cell? ⟨w.heap.size, 4, none⟩ = some (.slice (some pa) b pc) := fun o => cell_below (below_new _ _) (cells5 HM.out).1.2.2.2.2
              have hl : (cellsOf Po.l ps).length = b * 2 := by rw [cellsOf_len Po.l_len, HLB.out]
              clear k1 hpa
              go_wp2_with (at_builtin; go_must (refine wpList_append_own _ rfl _ _ 25 rfl (wq.heap.size + 1) 55 i0 (.agg #[.int .i64 0, .int .i64 0]) 2 16 Tryz.underlying25 hi hz0 hz1 hz2 rfl (by decide) _ 0 [] rfl (World.ownsRow_nil _ _ _ _) pa b pc (cellsOf Po.l ps) rfl hl (news_of (by decide) Po.l_len (HPA.out.below Po.l_len ?hbw)) (one_po ps) (by unfold maxLen; omega) (by omega) ?hbz ?_))
              case hbw => exact below_new _ _
              intro v' w8 hown8 hgrow _
              obtain ⟨bo, cb, rfl⟩ := owns_form hown8
              have z8 := app_keep (gf := wq.heap.size) hgrow (tok_new _ _) (fun k h => by cases h)
              obtain ⟨⟨t0, t1, t2, t3, t4⟩, ⟨y0, y1, y2, y3, y4⟩⟩ := cells5 z8
              have hb8 := (below_new wq _).grown hgrow (by rw [tok_size]; omega) (fun k h => by cases h)
              go_wp2_with fail
              go_meet
              exact ⟨rfl, bo, cb, by rw [heap_setCell_same _ _ _ _ _ _ z8]; rfl, ownsRow_setfar hown8 _ _ (Nat.lt_succ_self _), hb8.setCell (Nat.le_refl _) _⟩
          case rest =>
            obtain ⟨rfl, bo, cb, hg5, ho5, hbc⟩ := hcut
            have HBC := Lib.hid hbc; have HG5 := Lib.hid hg5; have HO5 := Lib.hid ho5
            have HT := Lib.hid (fun (p : Po) w => rTurned_any W H (.slice (some a) nc c) p w)
            unfold KB mapV Po.v at HT
            clear hbc hg5 ho5
            go_wp2_with fail
            go_loopw [7] (fun v wr => ∃ k : Nat, k ≤ b ∧ v = .int .i64 (k : Int) ∧ Below wq.heap.size wq wr ∧ ∃ bo cb, wr.heap[wq.heap.size]? = some (fO (str n) W H (.slice (some a) nc c) (.slice bo (b + k) cb)) ∧ wr.ownsRow (wq.heap.size + 1) 55 2 (.slice bo (b + k) cb) (b + k) (cellsOf Po.l (ps ++ (ps.map (turnP W H)).take k))) (fun v _ => b - (intOf v).toNat)
            case atStart => exact ⟨0, by omega, rfl, HBC.out, bo, cb, HG5.out, by simpa using HO5.out⟩
            case round =>
              clear HBC HG5 HO5
              obtain ⟨k, hk, rfl, hbel, bo, cb, hg, hown⟩ := hrel
              have HE := Lib.hid hbel; have HG := Lib.hid hg; have HOW := Lib.hid hown
              have hMr := block_below hbel HM.out
              obtain ⟨⟨m0, m1, m2, m3, m4⟩, _⟩ := cells5 hMr
              obtain ⟨⟨d0, d1, d2, d3, d4⟩, ⟨y0, y1, y2, y3, y4⟩⟩ := cells5 hg
              have hzr := hbel.size
              have hz5 := heap_lt hg
              by_cases hkb : k < b
              · have hkl : k < ps.length := by have := HLB.out; omega
                obtain ⟨_, _, e1, k1⟩ := HPS.out
                injection e1 with i1 i2 i3
                subst i1 i3
                obtain ⟨pa, rfl, hpa0⟩ := k1.resolve_left (fun e => by rw [e] at hkl; simp at hkl)
                have hpa := hpa0.below Po.l_len (HBR.out.trans (hbel.mono HBR.out.size))
                have hps := cell_lt (poAt hpa0 k hkl).1
                have hps1 := cell_lt (poAt hpa0 k hkl).2
                have hj : ∀ j, (Value.slice bo (b + k) cb).ownBlock = some j → wq.heap.size + 1 ≤ j := fun j hj => (hown.lt j hj).1
                obtain ⟨p0, p1⟩ := poAt hpa k hkl
                obtain ⟨⟨x, y⟩, hxy⟩ : ∃ t, ps[k] = t := ⟨_, rfl⟩
                rw [hxy] at p0 p1
                dsimp only at p0 p1
                replace p1 : wr.cell? ⟨(pa.add (k * 2)).block, (pa.add (k * 2)).off + 1, none⟩ = some (.int .i64 y) := p1
                have e2 : (0 : Int) ≤ ((k : Int)) := by omega
                have e3 : (k : Int) < (b : Int) := by omega
                have hbound : b + k ≤ 1000 := by omega
                have HTK := Lib.hid (show (ps.map (turnP W H)).take (k + 1) = (ps.map (turnP W H)).take k ++ [turnP W H ⟨x, y⟩] by
                  rw [List.take_succ_eq_append_getElem (by rw [List.length_map]; exact hkl), List.getElem_map, hxy])
                have HT1 := Lib.hid (fun w => HT.out ⟨x, y⟩ w)
                obtain ⟨i1, ji, j0, j1, j2⟩ := pos_info
                have hN : (turnP W H ⟨x, y⟩).l = [.int .i64 (turnP W H ⟨x, y⟩).x, .int .i64 (turnP W H ⟨x, y⟩).y] := rfl
                generalize turnP W H ⟨x, y⟩ = q at *
                obtain ⟨qx, qy⟩ := q
                dsimp only at HT1 hN
                have hbel2 := HE.out
                clear k1 hpa hpa0 hxy hbel hg hMr i2
                go_wp2_with fail
                go_region_law (first | (refine step_append_lies _ (by rfl) _ _ 25 (by rfl) (wq.heap.size + 1) 55 i1 (.agg #[.int .i64 0, .int .i64 0]) 2 16 Tryz.underlying25 ji j0 j1 j2 (by rfl) (by decide) (.slice bo (b + k) cb) (b + k) _ (by rfl) (o8.alloc _) ⟨w8.heap.size, 0, none⟩ 1 1 [.int .i64 qx, .int .i64 qy] (by rfl) (by rfl) (by first | exact World.news_of_block (heap_alloc_new w8 _) | exact World.news_of_block (heap_alloc_new _ _)) (one2 qx qy) (by decide) (by unfold maxLen; omega) (by omega) (by have := b8.size; simp; omega) (w8.heap.size + 1) (by simp) ?_; intro qq cap2 w9 hown9 hgrow hat hlt; have K9 : ∀ p v, p.block < wq.heap.size + 1 → w8.cell? p = some v → w9.cell? p = some v := (fun p v hp hv => by have hl8 := cell_lt hv; rw [hgrow.cell_far p (by simp; omega) (fun e => by have := hj _ e.symm; omega)]; exact cell_below (below_new _ _) hv); have v1 := K9 _ _ (by exact Nat.lt_succ_of_lt hzM) v1; have v2 := K9 _ _ (by exact Nat.lt_succ_of_lt hzM) v2; have v3 := K9 _ _ (by exact Nat.lt_succ_of_lt hzM) v3; have v4 := K9 _ _ (by exact Nat.lt_succ_of_lt hzM) v4; have v6 := K9 _ _ (by exact Nat.lt_succ_of_lt (Nat.lt_trans hps hzM)) v6; have v7 := K9 _ _ (by exact Nat.lt_succ_of_lt (Nat.lt_trans hps1 hzM)) v7; have z9 := app_keep hgrow (block_below (below_new w8 _) z8) (fun k hk e => by have := hj k hk; omega); obtain ⟨⟨t0, t1, t2, t3, t4⟩, ⟨s0, s1, s2, s3, s4⟩⟩ := cells5 z9) | (go_simp; go_at_call 51; refine (HT1.out _).mono ?_; rintro e w8 ⟨rfl, hb8⟩; have b8 : Below wr.heap.size wr w8 := Below.trans (by repeat' (first | exact Below.refl _ _ | refine Below.drew ?_ | refine below_dN ?_ _)) (hb8.mono (by first | exact Nat.le_refl _ | simp)); have v1 := cell_below b8 m1; have v2 := cell_below b8 m2; have v3 := cell_below b8 m3; have v4 := cell_below b8 m4; have v6 := cell_below b8 p0; have v7 := cell_below b8 p1; have v5 := cell_below b8 d4; have f8 : ∀ o, (w8.alloc o).cell? ⟨wq.heap.size, 4, none⟩ = some (.slice bo (b + k) cb) := (fun o => cell_below (below_new _ _) v5); have o8 := ownsRow_below HOW.out b8; have z8 := block_below b8 HG.out))
                all_goals
                  have HB9 := Lib.hid (Below.setCell (p := ⟨wq.heap.size, 4, none⟩) ((HE.out.trans ((b8.alloc b8.size _).mono hzr)).grown hgrow (by have := b8.size; simp; omega) (fun j h => by have := hj j h; omega)) (Nat.le_refl _) (.slice (some ⟨qq, 0, none⟩) (b + k + 1) cap2))
                  have HM9 := Lib.hid (show (w9.setCell ⟨wq.heap.size, 4, none⟩ (.slice (some ⟨qq, 0, none⟩) (b + k + 1) cap2)).heap[wq.heap.size]? = some (fO (str n) W H (.slice (some a) nc c) (.slice (some ⟨qq, 0, none⟩) (b + k + 1) cap2)) by rw [heap_setCell_same _ _ _ _ _ _ z9]; rfl)
                  have HO9 := Lib.hid (show (w9.setCell ⟨wq.heap.size, 4, none⟩ (.slice (some ⟨qq, 0, none⟩) (b + k + 1) cap2)).ownsRow (wq.heap.size + 1) 55 2 (.slice (some ⟨qq, 0, none⟩) (b + k + 1) cap2) (b + k + 1) (cellsOf Po.l (ps ++ (ps.map (turnP W H)).take (k + 1))) by
                    rw [HTK.out, ← List.append_assoc, cellsOf_snoc]
                    exact ownsRow_setfar hown9 _ _ (Nat.lt_succ_self _))
                  clear hown9 hgrow hat z9 z8 o8 b8 hb8 f8 hown K9 hj v1 v2 v3 v4 v5 v6 v7 p0 p1 m0 m1 m2 m3 m4 d0 d1 d2 d3 d4 y0 y1 y2 y3 y4
                  go_wp2_with fail
                  go_roundw
                  case rel => exact ⟨k + 1, by omega, by go_num, HB9.out, some ⟨qq, 0, none⟩, cap2, HM9.out, HO9.out⟩
                  case measure => simp [intOf]; omega
              · have hkb2 : k = b := by omega
                have hLB := HLB.out
                have hnl : ¬ ((k : Int) < (b : Int)) := by omega
                subst hkb2
                have htk : (ps.map (turnP W H)).take k = ps.map (turnP W H) := List.take_of_length_le (by rw [List.length_map]; omega)
                have hlen2 : (ps ++ ps.map (turnP W H)).length = k + k := by rw [List.length_append, List.length_map, hLB]
                have HLN := Lib.hid hlen2
                rw [htk] at hown
                have HBW := Lib.hid (HBR.out.trans (hbel.mono HBR.out.size))
                have hR := block_below hbel HR.out
                by_cases h6 : 6 < k
                · have hE2 : E = 2 := by rw [← HEV.out]; exact validT_many HNB.out HMB.out (by omega)
                  have HE2 := Lib.hid hE2
                  have e6 : (6 : Int) < (k : Int) := by omega
                  obtain ⟨⟨t0, t1, t2, t3, t4⟩, ⟨x0, x1, x2, x3, x4⟩⟩ := cells5 hR
                  have hzv := heap_lt hR
                  clear hbel hg hMr hR hown htk hlen2 hLB hE2 d0 d1 d2 d3 d4 y0 y1 y2 y3 y4 m0 m1 m2 m3
                  go_wp2_with fail
                  exact bodyPost_ret (v := .tuple #[file0, .int .i64 2]) (by simp [results, Tryz.results17, go_sem, file0, fileV, t0, t1, t2, t3, t4, x0, x1, x2, x3, x4, hzv]) rfl (mres_err (HEE.out.trans HE2.out) (by decide) ⟨rfl, st5_below HBW.out (by omega)⟩)
                · have e6 : ¬ (6 : Int) < (k : Int) := by omega
                  have S1 := HCS.out.below HBW.out
                  have S2 := posl_of hown hlen2
                  have hva := rValid_any (str n) W H (.slice (some a) nc c) (.slice bo (k + k) cb) cs (ps ++ ps.map (turnP W H)) wr (by rw [str_size]; omega) S1 (by have := HNC.out; omega) S2 (by rw [hlen2]; omega)
                  rw [HEV.out] at hva
                  unfold KB fileV at hva
                  have HVA := Lib.hid hva
                  have HS1 := Lib.hid S1; have HS2 := Lib.hid hown
                  have HRr := Lib.hid hR
                  clear hbel hg hMr hva hown htk hlen2 hLB hR S1 S2
                  go_wp2_with fail
                  refine HVA.out.mono ?_
                  rintro e wv ⟨rfl, hbv⟩
                  obtain ⟨⟨t0, t1, t2, t3, t4⟩, ⟨x0, x1, x2, x3, x4⟩⟩ := cells5 (block_below hbv HRr.out)
                  have hzv := heap_lt (block_below hbv HRr.out)
                  have HBV := Lib.hid (HBW.out.trans (hbv.mono HBW.out.size))
                  have HT2 := Lib.hid (ownsRow_below HS2.out hbv)
                  obtain ⟨⟨d0, d1, d2, d3, d4⟩, _⟩ := cells5 (block_below hbv HG.out)
                  clear hbv m0 m1 m2 m3 m4
                  by_cases hE0 : E = 0
                  · subst hE0
                    go_wp2_with fail
                    exact bodyPost_ret (v := .tuple #[fileV (str n) W H (.slice (some a) nc c) (.slice bo (k + k) cb), .int .i64 0]) (by simp [results, Tryz.results17, go_sem, fileV, t0, t1, t2, t3, t4, x0, x1, x2, x3, x4, hzv]) rfl (rmirror_good HEE.out HCS.out HLN.out HT2.out (by omega) HBV.out (by omega))
                  · have hE1 : (E == 0) = false := by simpa using hE0
                    have hE2 : (E != 0) = true := by simpa using hE0
                    go_wp2_with fail
                    exact bodyPost_ret (v := .tuple #[file0, .int .i64 E]) (by simp [results, Tryz.results17, go_sem, file0, fileV, t0, t1, t2, t3, t4, x0, x1, x2, x3, x4, hzv]) rfl (mres_err HEE.out hE0 ⟨rfl, st5_below HBV.out (by omega)⟩)
end Go.Proofs.YtmiceolkmiiahaaGreatDoor
