/- Walks: Mirror. -/
import Derived.Test.YtmiceolkmiiahaaGreatDoorW41
import Derived.Deep.CutRange
import Derived.Deep.Cut
namespace Go.Proofs.YtmiceolkmiiahaaGreatDoor
open Go.RowKit
set_option linter.unusedVariables false
set_option linter.unusedSimpArgs false
set_option maxRecDepth 100000
set_option maxHeartbeats 8000000

def turnP (W H : Int) (p : Po) : Po := ⟨wrap64 (wrap64 (W - 1) - p.x), wrap64 (wrap64 (H - 1) - p.y)⟩
def mirE (n : List UInt8) (W H : Int) (cs : List Cel) (ps : List Po) : Int :=
  if nameB (str n) = false ∨ mapB W H cs = false then 1 else if cs.reverse ≠ cs then 14 else validT (str n) W H cs (ps ++ ps.map (turnP W H))
/-- What Mirror hands back. -/
def MRes (n : List UInt8) (W H : Int) (cs : List Cel) (ps : List Po) (w : World) (en : Ending) (w' : World) : Prop :=
  (if mirE n W H cs ps = 0 then ∃ cv pv, en = .returned (.tuple #[fileV (str n) W H cv pv, .int .i64 0]) ∧ CelSl w' cv cs ∧ PoSl w' pv (ps ++ ps.map (turnP W H)) ∧ CapOk pv
   else en = .returned (.tuple #[file0, .int .i64 (mirE n W H cs ps)])) ∧ Below w.heap.size w w'

theorem CloneP_any (po : Option Addr) (n pc : Nat) (ps : List Po) (hn : ps.length = n) (hz : n ≤ 1000000) (w : World) (h : ps = [] ∨ ∃ a, po = some a ∧ PoAt w a ps) : Calls Tryz.prog 50 #[.slice po n pc] w (Own1 55 2 (cellsOf Po.l ps) n w) := by
  cases po with
  | none =>
    have h0 : ps = [] := h.resolve_right (fun ⟨a, e, _⟩ => by cases e)
    subst h0
    simp at hn
    subst hn
    exact CloneP_nil pc w
  | some a =>
    refine CloneP_some a n pc ps hn hz w ?_
    rcases h with rfl | ⟨b, e, hb⟩
    · intro i hi; exact absurd hi (by simp)
    · injection e with e; subst e; exact hb
theorem ownsRow_mono {w : World} {B B' e s n : Nat} {v : Value} {xs : List Value} (h : w.ownsRow B e s v n xs) (hB : B' ≤ B) : w.ownsRow B' e s v n xs := by
  refine ⟨h.1, ?_⟩
  rcases h.2 with y | ⟨q, cap, cur, y1, y2, y3⟩
  · exact Or.inl y
  · exact Or.inr ⟨q, cap, cur, y1, Nat.le_trans hB y2, y3⟩
theorem st5_at {w : World} {rb : Nat} {a b c d e a' b' c' d' e' : Value} {t : Nat} (h : w.heap[rb]? = some (.cells #[a', b', c', d', e'] t)) : (st5 w rb a b c d e).heap[rb]? = some (.cells #[a, b, c, d, e] t) := by
  have h1 := heap_setCell_same _ rb 0 _ t a h
  have h2 := heap_setCell_same _ rb 1 _ t b h1
  have h3 := heap_setCell_same _ rb 2 _ t c h2
  have h4 := heap_setCell_same _ rb 3 _ t d h3
  have h5 := heap_setCell_same _ rb 4 _ t e h4
  exact h5
theorem ownsRow_setne {w : World} {base e size n : Nat} {v : Value} {xs : List Value} (o : w.ownsRow base e size v n xs) (p : Addr) (u : Value) (hp : ∀ j, v.ownBlock = some j → p.block ≠ j) : (w.setCell p u).ownsRow base e size v n xs := by
  refine ⟨o.1, ?_⟩
  rcases o.2 with h2 | ⟨g', cap, cur, h1, h2, h3, h4⟩
  · exact Or.inl h2
  · exact Or.inr ⟨g', cap, cur, h1, h2, by rw [Below.heap_setCell _ _ _ _ (fun e => hp g' (by rw [h1]; rfl) e.symm)]; exact h3, h4⟩
theorem mres_err {n : List UInt8} {W H : Int} {cs : List Cel} {ps : List Po} {w : World} {en : Ending} {w' : World} {e : Int} (hE : mirE n W H cs ps = e) (he : e ≠ 0) (h : en = .returned (.tuple #[file0, .int .i64 e]) ∧ Below w.heap.size w w') : MRes n W H cs ps w en w' := by
  unfold MRes
  rw [hE, if_neg he]
  exact h
theorem posl_of {w : World} {B : Nat} {bo : Option Addr} {n cb : Nat} {ps : List Po} (h : w.ownsRow B 55 2 (.slice bo n cb) n (cellsOf Po.l ps)) (hn : ps.length = n) : PoSl w (.slice bo n cb) ps := by
  subst hn
  exact sl_of_owns Po.l_len h
theorem celsl_of {w : World} {B : Nat} {bo : Option Addr} {n cb : Nat} {cs : List Cel} (h : w.ownsRow B 41 3 (.slice bo n cb) n (cellsOf Cel.l cs)) (hn : cs.length = n) : CelSl w (.slice bo n cb) cs := by
  subst hn
  exact sl_of_owns Cel.l_len h
theorem mirror_good {n : List UInt8} {W H : Int} {cs : List Cel} {ps : List Po} {w wv : World} {rb B B' nc k cp cb : Nat} {co bo : Option Addr} {a b c d e : Value} (hE : mirE n W H cs ps = 0) (hcl : cs.length = nc) (hpl : (ps ++ ps.map (turnP W H)).length = k) (h1 : wv.ownsRow B 41 3 (.slice co nc cp) nc (cellsOf Cel.l cs)) (h2 : wv.ownsRow B' 55 2 (.slice bo k cb) k (cellsOf Po.l (ps ++ ps.map (turnP W H)))) (hB : rb < B) (hB' : rb < B') (hb : Below w.heap.size w wv) (hr : w.heap.size ≤ rb) :
    MRes n W H cs ps w (.returned (.tuple #[fileV (str n) W H (.slice co nc cp) (.slice bo k cb), .int .i64 0])) (st5 wv rb a b c d e) := by
  unfold MRes
  rw [if_pos hE]
  exact ⟨⟨_, _, rfl, celsl_of (st5_row h1 hB) hcl, posl_of (st5_row h2 hB') hpl, capOk_owns h2⟩, st5_below hb hr⟩
theorem Mirror_any (n : List UInt8) (W H : Int) (ao po : Option Addr) (c pc : Nat) (cs : List Cel) (ps : List Po) (hn : n.length ≤ 1000) (hcz : cs.length ≤ 1100) (hpz : ps.length ≤ 20) (w : World) (hx : Ctx w)
    (hc : CelSl w (.slice ao cs.length c) cs) (hp : PoSl w (.slice po ps.length pc) ps) :
    Calls Tryz.prog 16 #[fileV (str n) W H (.slice ao cs.length c) (.slice po ps.length pc)] w (MRes n W H cs ps w) := by
  have HNM := Lib.hid (name_any (str n) (by rw [str_size]; omega))
  have HTV := Lib.hid (fun w' (hb : Below w.heap.size w w') => tValid_any W H (.slice ao cs.length c) cs w' (hc.below hb) (by omega))
  have HCS := Lib.hid hc; have HPS := Lib.hid hp; have HX := Lib.hid hx
  clear hc hp hx
  obtain ⟨w2, hw2⟩ : ∃ w2, (w.alloc (fO (str n) W H (.slice ao cs.length c) (.slice po ps.length pc))).alloc (fO (str []) 0 0 (.slice none 0 0) (.slice none 0 0)) = w2 := ⟨_, rfl⟩
  have hb2 : Below w.heap.size w w2 := by rw [← hw2]; exact (below_new _ _).alloc (by simp) _
  have hm2 : w2.heap[w.heap.size]? = some (fO (str n) W H (.slice ao cs.length c) (.slice po ps.length pc)) := by rw [← hw2, Below.heap_alloc _ _ _ (by simp)]; exact tok_new _ _
  have hr2 : w2.heap[w.heap.size + 1]? = some (fO (str []) 0 0 (.slice none 0 0) (.slice none 0 0)) := by
    have h := tok_new (w.alloc (fO (str n) W H (.slice ao cs.length c) (.slice po ps.length pc))) (fO (str []) 0 0 (.slice none 0 0) (.slice none 0 0))
    rw [tok_size, hw2] at h
    exact h
  have HB2 := Lib.hid hb2; have HM2 := Lib.hid hm2; have HR2 := Lib.hid hr2; have HW2 := Lib.hid hw2
  clear hb2 hm2 hr2 hw2
  cases h1 : nameB (str n) with
  | false =>
    have hE : mirE n W H cs ps = 1 := by unfold mirE; rw [if_pos (Or.inl h1)]
    rw [h1] at HNM
    suffices hsf : Calls Tryz.prog 16 #[fileV (str n) W H (.slice ao cs.length c) (.slice po ps.length pc)] w (fun en w' => en = .returned (.tuple #[file0, .int .i64 1]) ∧ Below w.heap.size w w') from hsf.mono fun en w' hh => mres_err hE (by decide) hh
    obtain ⟨⟨t0, t1, t2, t3, t4⟩, ⟨y0, y1, y2, y3, y4⟩⟩ := cells5 HR2.out
    have hz := heap_lt HR2.out
    clear h1 hE
    unfold KC fileV at *
    go_enter Tryz.func16, Tryz.ntmps16
    go_wp2_with fail
    refine (HNM.out _).mono ?_
    rw [HW2.out]
    rintro e w3 ⟨rfl, rfl⟩
    clear HW2
    go_wp2_with fail
    exact bodyPost_ret (v := .tuple #[file0, .int .i64 1]) (by simp [results, Tryz.results16, go_sem, file0, fileV, t0, t1, t2, t3, t4, y0, y1, y2, y3, y4, hz]) rfl ⟨rfl, st5_below HB2.out (by omega)⟩
  | true =>
    rw [h1] at HNM
    cases h2 : mapB W H cs with
    | false =>
      have hE : mirE n W H cs ps = 1 := by unfold mirE; rw [if_pos (Or.inr h2)]
      rw [h2] at HTV
      suffices hsf : Calls Tryz.prog 16 #[fileV (str n) W H (.slice ao cs.length c) (.slice po ps.length pc)] w (fun en w' => en = .returned (.tuple #[file0, .int .i64 1]) ∧ Below w.heap.size w w') from hsf.mono fun en w' hh => mres_err hE (by decide) hh
      obtain ⟨⟨m0, m1, m2, m3, m4⟩, _⟩ := cells5 HM2.out
      clear h1 h2 hE
      unfold KC fileV KB mapV at *
      go_enter Tryz.func16, Tryz.ntmps16
      go_wp2_with fail
      refine (HNM.out _).mono ?_
      rw [HW2.out]
      rintro e w3 ⟨rfl, rfl⟩
      clear HW2
      go_wp2_with fail
      refine (HTV.out _ HB2.out).mono ?_
      rintro e w4 ⟨rfl, hb4⟩
      have hR4 := block_below hb4 HR2.out
      obtain ⟨⟨t0, t1, t2, t3, t4⟩, ⟨y0, y1, y2, y3, y4⟩⟩ := cells5 hR4
      have hz := heap_lt hR4
      have HB4 := Lib.hid (HB2.out.trans (hb4.mono HB2.out.size))
      clear hb4 hR4 m0 m1 m2 m3 m4
      go_wp2_with fail
      exact bodyPost_ret (v := .tuple #[file0, .int .i64 1]) (by simp [results, Tryz.results16, go_sem, file0, fileV, t0, t1, t2, t3, t4, y0, y1, y2, y3, y4, hz]) rfl ⟨rfl, st5_below HB4.out (by omega)⟩
    | true =>
      rw [h2] at HTV
      have hne : 0 < cs.length := by
        unfold mapB fmB at h2
        simp only [Bool.and_eq_true, beq_iff_eq] at h2
        have hg := (gvB_iff W H).1 h2.1.1
        have : 1 * 1 ≤ W * H := Int.mul_le_mul hg.1 hg.2.2.1 (by omega) (by omega)
        omega
      obtain ⟨_, _, e0, hca⟩ := HCS.out
      injection e0 with i1 i2 i3
      subst i1
      obtain ⟨a, rfl, ha⟩ := hca.resolve_left (fun e => by rw [e] at hne; simp at hne)
      have HA := Lib.hid ha
      obtain ⟨nc, hnc⟩ : ∃ k, cs.length = k := ⟨_, rfl⟩
      have HCL := Lib.hid (CloneC_some a nc c cs hnc (by omega))
      have HRV := Lib.hid (fun q c' B w' => ReverseC_any q nc c' B cs hnc (by omega) w')
      have hrl : cs.reverse.length = nc := by rw [List.length_reverse, hnc]
      have HEQ := Lib.hid (fun ao bo c' d w' => EqualC_any ao bo nc c' d cs.reverse cs hrl hnc (by omega) w')
      obtain ⟨⟨m0, m1, m2, m3, m4⟩, _⟩ := cells5 HM2.out
      have hnc0 : 0 < nc := by omega
      have HNC := Lib.hid hnc; have HRL := Lib.hid hrl
      rw [hnc] at HTV HM2 HW2 m3 ⊢
      clear hca ha i2 i3 HCS hrl
      by_cases h3 : cs.reverse = cs
      · obtain ⟨E, hEE⟩ : ∃ E, validT (str n) W H cs (ps ++ ps.map (turnP W H)) = E := ⟨_, rfl⟩
        have hE : mirE n W H cs ps = E := by unfold mirE; rw [if_neg (by rw [h1, h2]; simp), if_neg (by simpa using h3)]; exact hEE
        have HE3 := Lib.hid h3
        rw [decide_eq_true h3] at HEQ
        obtain ⟨b, hb⟩ : ∃ b, ps.length = b := ⟨_, rfl⟩
        have HLB := Lib.hid hb
        have HCP := Lib.hid (fun w' (hbw : Below w.heap.size w w') => CloneP_any po b pc ps hb (by omega) w' (by obtain ⟨_, _, e1, k1⟩ := HPS.out.below hbw; injection e1 with i1 i2 i3; subst i1; exact k1))
        have HEE := Lib.hid hE; have HEV := Lib.hid hEE
        rw [hb] at HM2 HW2 ⊢
        clear h1 h2 hE h3 hnc hb hEE
        unfold KC fileV KB mapV at *
        go_enter Tryz.func16, Tryz.ntmps16
        go_wp2_with fail
        refine (HNM.out _).mono ?_
        rw [HW2.out]
        rintro e w3 ⟨rfl, rfl⟩
        clear HW2
        go_wp2_with fail
        refine (HTV.out _ HB2.out).mono ?_
        rintro e w4 ⟨rfl, hb4⟩
        have HM4 := Lib.hid (block_below hb4 HM2.out); have HR4 := Lib.hid (block_below hb4 HR2.out); have HB4 := Lib.hid (HB2.out.trans (hb4.mono HB2.out.size))
        clear hb4 m0 m1 m2 m3 m4
        obtain ⟨⟨m0, m1, m2, m3, m4⟩, _⟩ := cells5 HM4.out
        go_wp2_with fail
        refine (HCL.out _ (HA.out.below Cel.l_len HB4.out)).mono ?_
        rintro e w5 ⟨qo, cap, rfl, hown, hb5⟩
        obtain ⟨q, cp, hqv, hq1, hq2⟩ := hown.form hnc0
        injection hqv with hq3 _ hq4
        subst hq3 hq4
        have HRV1 := Lib.hid (HRV.out q cap w4.heap.size w5 hown)
        have HM5 := Lib.hid (block_below hb5 HM4.out); have HR5 := Lib.hid (block_below hb5 HR4.out); have HB5 := Lib.hid (HB4.out.trans (hb5.mono HB4.out.size))
        clear hb5 hown m0 m1 m2 m3 m4
        go_wp2_with fail
        refine HRV1.out.mono ?_
        rintro e w6 ⟨rfl, hown6, hfr6⟩
        have hz4 := heap_lt HM4.out; have hz4r := heap_lt HR4.out
        have HM6 := Lib.hid (hfr6.at (i := w.heap.size) (by omega) (by omega) HM5.out); have HR6 := Lib.hid (hfr6.at (i := w.heap.size + 1) (by omega) (by omega) HR5.out)
        have HB6 := Lib.hid (HB5.out.trans (hfr6.below (B := w.heap.size) (by omega) (by omega) HB5.out.size))
        obtain ⟨_, _, e1, hsl⟩ := sl_of_owns Cel.l_len (show w6.ownsRow _ _ _ _ cs.reverse.length _ from by rw [HRL.out]; exact hown6)
        injection e1 with i1 i2 i3
        subst i1
        have HEQ6 := Lib.hid (HEQ.out (some ⟨q, 0, none⟩) (some a) cap c w6 hsl (Or.inr ⟨a, rfl, HA.out.below Cel.l_len HB6.out⟩))
        obtain ⟨⟨m0, m1, m2, m3, m4⟩, _⟩ := cells5 HM6.out
        have HOW6 := Lib.hid (show w6.ownsRow w4.heap.size 41 3 (.slice (some ⟨q, 0, none⟩) nc cap) nc (cellsOf Cel.l cs) by rw [HE3.out] at hown6; exact hown6)
        clear hown6 hfr6 hsl i2 i3
        go_wp2_with fail
        refine HEQ6.out.mono ?_
        rintro e w7 ⟨rfl, hb7⟩
        have HM7 := Lib.hid (block_below hb7 HM6.out); have HR7 := Lib.hid (block_below hb7 HR6.out)
        have HB7 := Lib.hid (HB6.out.trans (hb7.mono HB6.out.size))
        have HOW7 := Lib.hid (ownsRow_below HOW6.out hb7)
        have hz7 := heap_lt HR7.out
        clear hb7 m0 m1 m2 m3 m4 HRV1 HRV HCL HEQ HEQ6 HOW6
        obtain ⟨⟨m0, m1, m2, m3, m4⟩, _⟩ := cells5 HM7.out
        go_upto_region 7 with fail
        go_cut [5] from 33 to 46 (fun s5 wx => ∃ g5 bo cb, s5 = .pointer (some ⟨g5, 0, none⟩) ∧ w7.heap.size ≤ g5 ∧ wx.heap[g5]? = some (fO (str n) W H (.slice (some ⟨q, 0, none⟩) nc cap) (.slice bo b cb)) ∧ wx.ownsRow w7.heap.size 55 2 (.slice bo b cb) b (cellsOf Po.l ps) ∧ (∀ j, (Value.slice bo b cb).ownBlock = some j → j ≠ g5) ∧ Below w7.heap.size w7 wx)
        case first =>
          go_region_held3 (fun w' => w'.cell? ⟨w.heap.size, 0, none⟩ = some (.string (str n)) ∧ w'.cell? ⟨w.heap.size, 1, none⟩ = some (.int .i64 W) ∧ w'.cell? ⟨w.heap.size, 2, none⟩ = some (.int .i64 H) ∧ w'.cell? ⟨w.heap.size, 4, none⟩ = some (.slice po b pc)) (refine ⟨?_, ?_, ?_, ?_⟩ <;> first | (with_reducible assumption) | (rw [World.cell?_setCell_far _ _ _ _ (by simp <;> omega), World.cell?_setCell_far _ _ _ _ (by simp <;> omega), World.cell?_setCell_far _ _ _ _ (by simp <;> omega), World.cell?_setCell_far _ _ _ _ (by simp <;> omega), World.cell?_setCell_far _ _ _ _ (by simp <;> omega)]; first | (with_reducible assumption) | go_keep) | go_keep)
            (first | (go_at_call 50; refine (HCP.out _ (HB7.out.trans (by repeat' (first | exact Below.refl _ _ | refine Below.drew ?_ | refine below_dN ?_ _ | refine Below.alloc ?_ (by first | omega | (simp <;> omega)) _)))).mono ?_; rintro e w8 ⟨bo, cb, rfl, hown8, hb8⟩; have v0 : w8.cell? ⟨w.heap.size, 0, none⟩ = some (.string (str n)) := (by rw [hb8.cell (by first | omega | (simp <;> omega))]; first | (with_reducible assumption) | go_keep); have v1 : w8.cell? ⟨w.heap.size, 1, none⟩ = some (.int .i64 W) := (by rw [hb8.cell (by first | omega | (simp <;> omega))]; first | (with_reducible assumption) | go_keep); have v2 : w8.cell? ⟨w.heap.size, 2, none⟩ = some (.int .i64 H) := (by rw [hb8.cell (by first | omega | (simp <;> omega))]; first | (with_reducible assumption) | go_keep); have v4 : w8.cell? ⟨w.heap.size, 4, none⟩ = some (.slice po b pc) := (by rw [hb8.cell (by first | omega | (simp <;> omega))]; first | (with_reducible assumption) | go_keep); have zz8 := hb8.size; first | (have z8 : w8.heap[w7.heap.size]? = some (fO (str []) 0 0 (.slice none 0 0) (.slice none 0 0)) := (hb8.block w7.heap.size (by simp)).trans (tok_new w7 _); obtain ⟨⟨t0, t1, t2, t3, t4⟩, ⟨y0, y1, y2, y3, y4⟩⟩ := cells5 z8) | skip))
          all_goals (try go_wp2_with fail)
          all_goals go_meet
          · have hs8 := hb8.size
            exact ⟨w8.heap.size, bo, cb, rfl, by first | omega | (simp at hs8; omega), tok_new _ _, (ownsRow_mono hown8 (Nat.le_refl _)).alloc _, fun j hj e => by have := (hown8.lt j hj).2; omega, by first | exact Below.alloc (Below.trans (Below.drew (Below.refl w7.heap.size w7)) hb8) hs8 _ | exact hb8.alloc hs8 _⟩
          · have hs8 := hb8.size
            have hs9 : w7.heap.size + 1 ≤ w8.heap.size := by first | (simp at hs8; omega) | omega
            have ho9 := ownsRow_mono (B' := w7.heap.size + 1) hown8 (by simp)
            refine ⟨w7.heap.size, bo, cb, rfl, Nat.le_refl _, st5_at z8, ownsRow_mono (st5_row ho9 (Nat.lt_succ_self _)) (Nat.le_succ _), fun j hj e => by have := (ho9.lt j hj).1; omega, st5_below ?_ (Nat.le_refl _)⟩
            exact ((below_new w7 _).drew.trans (hb8.mono (by simp)))
        case rest =>
          obtain ⟨g5, bo, cb, rfl, hg5, hb5, ho5, hd5, hbc⟩ := hcut
          have HBC := Lib.hid hbc; have HG5 := Lib.hid hb5; have HO5 := Lib.hid ho5; have HD5 := Lib.hid hd5
          obtain ⟨⟨m0, m1, m2, m3, m4⟩, _⟩ := cells5 (block_below hbc HM7.out)
          clear hbc hb5 ho5 hd5
          go_wp2_with fail
          clear m0 m1 m2 m3 m4
          go_loopw [50] (fun v wr => ∃ k : Nat, k ≤ b ∧ v = .int .i64 (k : Int) ∧ Below w7.heap.size w7 wr ∧ ∃ bo cb, wr.heap[g5]? = some (fO (str n) W H (.slice (some ⟨q, 0, none⟩) nc cap) (.slice bo (b + k) cb)) ∧ wr.ownsRow w7.heap.size 55 2 (.slice bo (b + k) cb) (b + k) (cellsOf Po.l (ps ++ (ps.map (turnP W H)).take k)) ∧ (∀ j, (Value.slice bo (b + k) cb).ownBlock = some j → j ≠ g5)) (fun v _ => b - (intOf v).toNat)
          case atStart => exact ⟨0, by omega, rfl, HBC.out, bo, cb, HG5.out, by simpa using HO5.out, HD5.out⟩
          case round =>
            clear HBC HG5 HO5 HD5
            obtain ⟨k, hk, rfl, hbel, bo, cb, hg, hown, hdis⟩ := hrel
            have HE := Lib.hid hbel; have HG := Lib.hid hg; have HOW := Lib.hid hown; have HD := Lib.hid hdis
            have hMr := block_below hbel HM7.out
            obtain ⟨⟨m0, m1, m2, m3, m4⟩, _⟩ := cells5 hMr
            obtain ⟨⟨d0, d1, d2, d3, d4⟩, ⟨y0, y1, y2, y3, y4⟩⟩ := cells5 hg
            have hz1 := heap_lt hMr
            have hz5 := heap_lt hg
            have hzr := hbel.size
            by_cases hkb : k < b
            · have hkl : k < ps.length := by have := HLB.out; omega
              have hb24 := HB7.out.trans (hbel.mono HB7.out.size)
              obtain ⟨_, _, e1, k1⟩ := HPS.out.below hb24
              injection e1 with i1 i2 i3
              subst i1 i3
              obtain ⟨pa, rfl, hpa⟩ := k1.resolve_left (fun e => by rw [e] at hkl; simp at hkl)
              obtain ⟨p0, p1⟩ := poAt hpa k hkl
              obtain ⟨⟨x, y⟩, hxy⟩ : ∃ t, ps[k] = t := ⟨_, rfl⟩
              have hXY := Lib.hid hxy
              rw [hxy] at p0 p1
              dsimp only at p0 p1
              have e2 : (0 : Int) ≤ ((k : Int)) := by omega
              have e3 : (k : Int) < (b : Int) := by omega
              have f1 : ∀ o, (wr.alloc o).cell? ⟨w.heap.size, 1, none⟩ = some (.int .i64 W) := fun o => cell_below (below_new _ _) m1
              have f2 : ∀ o, (wr.alloc o).cell? ⟨w.heap.size, 2, none⟩ = some (.int .i64 H) := fun o => cell_below (below_new _ _) m2
              have f4 : ∀ o, (wr.alloc o).cell? ⟨g5, 4, none⟩ = some (.slice bo (b + k) cb) := fun o => cell_below (below_new _ _) d4
              clear k1 hpa hxy hbel hg hdis hMr
              have hb24s := hb24
              have hbound : b + k ≤ 1000 := by have := HLB.out; omega
              have hturn : turnP W H ⟨x, y⟩ = ⟨wrap64 (wrap64 (W - 1) - x), wrap64 (wrap64 (H - 1) - y)⟩ := rfl
              have htk : (ps.map (turnP W H)).take (k + 1) = (ps.map (turnP W H)).take k ++ [turnP W H ⟨x, y⟩] := by
                rw [List.take_succ_eq_append_getElem (by rw [List.length_map]; exact hkl), List.getElem_map, hXY.out]
              have HTK := Lib.hid htk
              obtain ⟨i1, ji, j0, j1, j2⟩ := pos_info
              rw [hturn] at HTK
              clear htk hturn hb24 hb24s
              go_wp2_with (at_builtin; go_must (refine wpList_append_lies _ rfl _ _ 25 rfl w7.heap.size 55 i1 (.agg #[.int .i64 0, .int .i64 0]) 2 16 Tryz.underlying25 ji j0 j1 j2 rfl (by decide) _ _ _ rfl ((HOW.out.alloc _).alloc _) ⟨wr.heap.size + 1, 0, none⟩ 1 1 [.int .i64 (wrap64 (wrap64 (W - 1) - x)), .int .i64 (wrap64 (wrap64 (H - 1) - y))] rfl rfl ?c1 ?c2 (by omega) ?c3 ?c4 ?c5 _ rfl ?_))
              case c2 => exact ⟨rfl, rfl⟩
              case c3 => unfold maxLen; omega
              case c4 => omega
              case c5 => first | omega | (simp; omega)
              intro qq cap2 w8 hown8 hgrow hat hlt
              have hrow : ∀ j, (Value.slice bo (b + k) cb).ownBlock = some j → w7.heap.size ≤ j ∧ j < wr.heap.size := fun j hj => HOW.out.lt j hj
              have m8 := app_keep (gf := g5) hgrow (Eq.trans (Below.heap_alloc _ _ g5 (by simp; omega)) (Eq.trans (Below.heap_alloc wr _ g5 hz5) HG.out)) (fun j hj => HD.out j hj)
              have hqq : qq ≠ g5 := by
                rcases hat with h | h
                · exact HD.out qq h
                · first | omega | (simp at h; omega)
              have HB8 := Lib.hid (Below.setCell (p := ⟨g5, 4, none⟩) (((HE.out.alloc hzr _).alloc (by simp; omega) _).grown hgrow (by simp; omega) (fun j hj => (hrow j hj).1)) hg5 (.slice (some ⟨qq, 0, none⟩) (b + k + 1) cap2))
              have HM8 := Lib.hid (show (w8.setCell ⟨g5, 4, none⟩ (.slice (some ⟨qq, 0, none⟩) (b + k + 1) cap2)).heap[g5]? = some (fO (str n) W H (.slice (some ⟨q, 0, none⟩) nc cap) (.slice (some ⟨qq, 0, none⟩) (b + k + 1) cap2)) by rw [heap_setCell_same _ _ _ _ _ _ m8]; rfl)
              have HO8 := Lib.hid (show (w8.setCell ⟨g5, 4, none⟩ (.slice (some ⟨qq, 0, none⟩) (b + k + 1) cap2)).ownsRow w7.heap.size 55 2 (.slice (some ⟨qq, 0, none⟩) (b + k + 1) cap2) (b + k + 1) (cellsOf Po.l (ps ++ (ps.map (turnP W H)).take (k + 1))) by
                rw [HTK.out, ← List.append_assoc, cellsOf_snoc]
                have hx := ownsRow_setne hown8 ⟨g5, 4, none⟩ (.slice (some ⟨qq, 0, none⟩) (b + k + 1) cap2) (fun j hj => by simp [Value.ownBlock] at hj; subst hj; exact fun e => hqq (by simpa using e.symm))
                exact hx)
              obtain ⟨⟨v0, v1, v2, v3, v4⟩, ⟨s0, s1, s2, s3, s4⟩⟩ := cells5 m8
              clear hown8 hgrow hat m8 f1 f2 f4 m0 m1 m2 m3 m4 d0 d1 d2 d3 d4 y0 y1 y2 y3 y4 p0 p1 hown
              go_wp2_with fail
              go_roundw
              case rel => exact ⟨k + 1, by omega, by go_num, HB8.out, some ⟨qq, 0, none⟩, cap2, HM8.out, HO8.out, fun j hj => by simp [Value.ownBlock] at hj; subst hj; exact hqq⟩
              case measure => simp [intOf]; omega
            · have hcsl := HNC.out
              have hkb2 : k = b := by omega
              have hLB := HLB.out
              subst hkb2
              have htk : (ps.map (turnP W H)).take k = ps.map (turnP W H) := List.take_of_length_le (by rw [List.length_map]; omega)
              have hlen2 : (ps ++ ps.map (turnP W H)).length = k + k := by rw [List.length_append, List.length_map, hLB]
              have X1 := ownsRow_below HOW7.out hbel
              have S1 := celsl_of X1 hcsl
              rw [htk] at hown
              have S2 := posl_of hown hlen2
              have hcap := capOk_owns hown
              have HBR := Lib.hid (HB7.out.trans (hbel.mono HB7.out.size))
              have hva := Valid_any (str n) W H (.slice (some ⟨q, 0, none⟩) nc cap) (.slice bo (k + k) cb) cs (ps ++ ps.map (turnP W H)) wr (by rw [str_size]; omega) S1 (by omega) S2 (by rw [hlen2]; omega) hcap (HX.out.below HBR.out).pass
              rw [HEV.out] at hva
              unfold KB fileV at hva
              have HVA := Lib.hid hva
              have HS1 := Lib.hid X1; have HS2 := Lib.hid hown
              have HRr := Lib.hid (block_below hbel HR7.out)
              clear X1 hbel hg hdis hMr hva S1 S2 hcap hown htk
              go_wp2_with fail
              refine HVA.out.mono ?_
              rintro e wv ⟨rfl, hbv⟩
              obtain ⟨⟨t0, t1, t2, t3, t4⟩, ⟨y0, y1, y2, y3, y4⟩⟩ := cells5 (block_below hbv HRr.out)
              obtain ⟨⟨d0, d1, d2, d3, d4⟩, _⟩ := cells5 (block_below hbv HG.out)
              have hzv := heap_lt (block_below hbv HRr.out)
              have HBV := Lib.hid (HBR.out.trans (hbv.mono HBR.out.size))
              have HT1 := Lib.hid (ownsRow_below HS1.out hbv); have HT2 := Lib.hid (ownsRow_below HS2.out hbv)
              have hze := HB7.out.size
              have hz4 := heap_lt HR4.out
              have hz7 := heap_lt HR7.out
              clear hbv m0 m1 m2 m3 m4 hLB
              by_cases hE0 : E = 0
              · subst hE0
                go_wp2_with fail
                exact bodyPost_ret (v := .tuple #[fileV (str n) W H (.slice (some ⟨q, 0, none⟩) nc cap) (.slice bo (k + k) cb), .int .i64 0]) (by simp [results, Tryz.results16, go_sem, fileV, t0, t1, t2, t3, t4, y0, y1, y2, y3, y4, hzv]) rfl (mirror_good HEE.out hcsl hlen2 HT1.out HT2.out hz4 hz7 HBV.out (by omega))
              · have hE1 : (E == 0) = false := by simpa using hE0
                have hE2 : (E != 0) = true := by simpa using hE0
                go_wp2_with fail
                exact bodyPost_ret (v := .tuple #[file0, .int .i64 E]) (by simp [results, Tryz.results16, go_sem, file0, fileV, t0, t1, t2, t3, t4, y0, y1, y2, y3, y4, hzv]) rfl (mres_err HEE.out hE0 ⟨rfl, st5_below HBV.out (by omega)⟩)
      · have hE : mirE n W H cs ps = 14 := by unfold mirE; rw [if_neg (by rw [h1, h2]; simp), if_pos h3]
        suffices hsf : Calls Tryz.prog 16 #[fileV (str n) W H (.slice (some a) nc c) (.slice po ps.length pc)] w (fun en w' => en = .returned (.tuple #[file0, .int .i64 14]) ∧ Below w.heap.size w w') from hsf.mono fun en w' hh => mres_err hE (by decide) hh
        rw [decide_eq_false h3] at HEQ
        clear h1 h2 hE h3 hnc
        unfold KC fileV KB mapV at *
        go_enter Tryz.func16, Tryz.ntmps16
        go_wp2_with fail
        refine (HNM.out _).mono ?_
        rw [HW2.out]
        rintro e w3 ⟨rfl, rfl⟩
        clear HW2
        go_wp2_with fail
        refine (HTV.out _ HB2.out).mono ?_
        rintro e w4 ⟨rfl, hb4⟩
        have HM4 := Lib.hid (block_below hb4 HM2.out); have HR4 := Lib.hid (block_below hb4 HR2.out); have HB4 := Lib.hid (HB2.out.trans (hb4.mono HB2.out.size))
        clear hb4 m0 m1 m2 m3 m4
        obtain ⟨⟨m0, m1, m2, m3, m4⟩, _⟩ := cells5 HM4.out
        go_wp2_with fail
        refine (HCL.out _ (HA.out.below Cel.l_len HB4.out)).mono ?_
        rintro e w5 ⟨qo, cap, rfl, hown, hb5⟩
        obtain ⟨q, cp, hqv, hq1, hq2⟩ := hown.form hnc0
        injection hqv with hq3 _ hq4
        subst hq3 hq4
        have HRV1 := Lib.hid (HRV.out q cap w4.heap.size w5 hown)
        have HM5 := Lib.hid (block_below hb5 HM4.out); have HR5 := Lib.hid (block_below hb5 HR4.out); have HB5 := Lib.hid (HB4.out.trans (hb5.mono HB4.out.size))
        have HOW := Lib.hid hown
        clear hb5 hown m0 m1 m2 m3 m4
        go_wp2_with fail
        refine HRV1.out.mono ?_
        rintro e w6 ⟨rfl, hown6, hfr6⟩
        have hz4 := heap_lt HM4.out; have hz4r := heap_lt HR4.out
        have HM6 := Lib.hid (hfr6.at (i := w.heap.size) (by omega) (by omega) HM5.out); have HR6 := Lib.hid (hfr6.at (i := w.heap.size + 1) (by omega) (by omega) HR5.out)
        have HB6 := Lib.hid (HB5.out.trans (hfr6.below (B := w.heap.size) (by omega) (by omega) HB5.out.size))
        obtain ⟨_, _, e1, hsl⟩ := sl_of_owns Cel.l_len (show w6.ownsRow _ _ _ _ cs.reverse.length _ from by rw [HRL.out]; exact hown6)
        injection e1 with i1 i2 i3
        subst i1
        have HEQ6 := Lib.hid (HEQ.out (some ⟨q, 0, none⟩) (some a) cap c w6 hsl (Or.inr ⟨a, rfl, HA.out.below Cel.l_len HB6.out⟩))
        obtain ⟨⟨m0, m1, m2, m3, m4⟩, _⟩ := cells5 HM6.out
        clear hown6 hfr6 hsl i2 i3
        go_wp2_with fail
        refine HEQ6.out.mono ?_
        rintro e w7 ⟨rfl, hb7⟩
        have hR7 := block_below hb7 HR6.out
        obtain ⟨⟨t0, t1, t2, t3, t4⟩, ⟨y0, y1, y2, y3, y4⟩⟩ := cells5 hR7
        have hz := heap_lt hR7
        have HB7 := Lib.hid (HB6.out.trans (hb7.mono HB6.out.size))
        clear hb7 hR7 m0 m1 m2 m3 m4
        go_wp2_with fail
        exact bodyPost_ret (v := .tuple #[file0, .int .i64 14]) (by simp [results, Tryz.results16, go_sem, file0, fileV, t0, t1, t2, t3, t4, y0, y1, y2, y3, y4, hz]) rfl ⟨rfl, st5_below HB7.out (by omega)⟩
end Go.Proofs.YtmiceolkmiiahaaGreatDoor
