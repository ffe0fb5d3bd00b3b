/- Walks: the law of Mirror. -/
import Derived.Test.YtmiceolkmiiahaaGreatDoorW43
import Derived.Test.YtmiceolkmiiahaaGreatDoorW38
namespace Go.Proofs.YtmiceolkmiiahaaGreatDoor
open Go.RowKit
set_option linter.unusedVariables false
set_option linter.unusedSimpArgs false
set_option maxRecDepth 100000
set_option maxHeartbeats 8000000

theorem mres_one {n : List UInt8} {W H : Int} {cs : List Cel} {ps : List Po} (hcz : cs.length ≤ 1100) (hpz : ps.length ≤ 20) :
    ∃ (N : ByteArray) (W' H' E : Int) (cs' : List Cel) (ps' : List Po) (L1 L2 : Nat), cs'.length ≤ 1100 ∧ ps'.length ≤ 40 ∧ ∀ w en w', MRes n W H cs ps w en w' → ∃ bo d qo qd, en = .returned (.tuple #[fileV N W' H' (.slice bo L1 d) (.slice qo L2 qd), .int .i64 E]) ∧ CelSl w' (.slice bo L1 d) cs' ∧ PoSl w' (.slice qo L2 qd) ps' ∧ Below w.heap.size w w' := by
  by_cases hE : mirE n W H cs ps = 0
  · refine ⟨str n, W, H, 0, cs, ps ++ ps.map (turnP W H), cs.length, (ps ++ ps.map (turnP W H)).length, hcz, by simp; omega, fun w en w' h => ?_⟩
    unfold MRes at h
    rw [if_pos hE] at h
    obtain ⟨⟨cv, pv, h1, h2, h3, _⟩, h4⟩ := h
    obtain ⟨bo, d, rfl, k2⟩ := h2
    obtain ⟨qo, qd, rfl, k3⟩ := h3
    exact ⟨bo, d, qo, qd, h1, ⟨bo, d, rfl, k2⟩, ⟨qo, qd, rfl, k3⟩, h4⟩
  · refine ⟨⟨#[]⟩, 0, 0, mirE n W H cs ps, [], [], 0, 0, by simp, by simp, fun w en w' h => ?_⟩
    unfold MRes at h
    rw [if_neg hE] at h
    exact ⟨none, 0, none, 0, h.1, ⟨none, 0, rfl, Or.inl rfl⟩, ⟨none, 0, rfl, Or.inl rfl⟩, h.2⟩
theorem same_sl (S : ByteArray) (W H : Int) (cs : List Cel) (ps : List Po) (hz : cs.length ≤ 1000000) (hz2 : ps.length ≤ 1000000) (cv pv cv2 pv2 : Value) (w : World) (h1 : CelSl w cv cs) (h2 : CelSl w cv2 cs) (h3 : PoSl w pv ps) (h4 : PoSl w pv2 ps) : KB 15 #[fileV S W H cv pv, fileV S W H cv2 pv2] (.bool true) w := by
  obtain ⟨ao, c, rfl, a1⟩ := h1
  obtain ⟨bo, d, rfl, a2⟩ := h2
  obtain ⟨po, pc, rfl, a3⟩ := h3
  obtain ⟨qo, qc, rfl, a4⟩ := h4
  exact rSame_yes S W H ao bo po qo c d pc qc _ _ cs ps rfl rfl hz hz2 w a1 a2 a3 a4
theorem mirrors_walk (n : List UInt8) (W H : Int) (ao po : Option Addr) (c pc : Nat) (cs : List Cel) (ps : List Po) (w : World) (hx : Ctx w) (hc : CelSl w (.slice ao cs.length c) cs) (hp : PoSl w (.slice po ps.length pc) ps) :
    Calls Tryz.prog 6 #[fileV (str n) W H (.slice ao cs.length c) (.slice po ps.length pc)] w (Yes w) := by
  have HX := Lib.hid hx
  have HA := Lib.hid alive_any
  have HSM := Lib.hid (fun w' => small_any n W H ao po c pc cs ps w')
  by_cases hs : smallB n cs ps = true
  · have hs2 := hs
    unfold smallB at hs2
    simp only [Bool.and_eq_true, decide_eq_true_eq] at hs2
    obtain ⟨hz1, hz2, hz3⟩ := hs2
    obtain ⟨N, W', H', E, cs', ps', L1, L2, q1, q2, hf⟩ := mres_one (n := n) (W := W) (H := H) hz1 hz2
    have HM1 := Lib.hid (fun w' (hb : Below w.heap.size w w') => (Mirror_any n W H ao po c pc cs ps hz3 hz1 hz2 w' (hx.below hb) (hc.below hb) (hp.below hb)).mono (hf w'))
    have HM2 := Lib.hid (fun w' (hb : Below w.heap.size w w') => (rMirror_any n W H ao po c pc cs ps hz3 hz1 hz2 w' (hc.below hb) (hp.below hb)).mono (hf w'))
    have HSA := Lib.hid (fun cv pv cv2 pv2 w' => same_sl N W' H' cs' ps' (by omega) (by omega) cv pv cv2 pv2 w')
    have hq : (E == E) = true := by simp
    rw [hs] at HSM
    clear hx hc hp hs hf
    unfold KB fileV at *
    generalize str n = S at *
    generalize cs.length = a at *
    generalize ps.length = b at *
    go_enter Tryz.func6, Tryz.ntmps6
    go_wp2_with fail
    refine (HSM.out _).mono ?_
    rintro e w1 ⟨rfl, hb1⟩
    obtain ⟨n1, hb11, hz11⟩ := new_below hb1
    obtain ⟨⟨c0, c1, c2, c3, c4⟩, _⟩ := cells5 n1
    have HN1 := Lib.hid n1; have HB1 := Lib.hid hb11
    clear hb1 n1 hb11
    go_wp2_with fail
    refine (HM1.out _ HB1.out).mono ?_
    rintro e w2 ⟨bo, bd, qo, qd, rfl, hcv, hpv, hb2⟩
    have HN2 := Lib.hid (block_below hb2 HN1.out); have HB2 := Lib.hid (HB1.out.trans (hb2.mono HB1.out.size))
    obtain ⟨⟨d0, d1, d2, d3, d4⟩, _⟩ := cells5 HN2.out
    have k0 : ∀ o, (w2.alloc o).cell? ⟨w.heap.size, 0, none⟩ = some (.string S) := fun o => cell_below (below_new _ _) d0
    have k1 : ∀ o, (w2.alloc o).cell? ⟨w.heap.size, 1, none⟩ = some (.int .i64 W) := fun o => cell_below (below_new _ _) d1
    have k2 : ∀ o, (w2.alloc o).cell? ⟨w.heap.size, 2, none⟩ = some (.int .i64 H) := fun o => cell_below (below_new _ _) d2
    have k3 : ∀ o, (w2.alloc o).cell? ⟨w.heap.size, 3, none⟩ = some (.slice ao a c) := fun o => cell_below (below_new _ _) d3
    have k4 : ∀ o, (w2.alloc o).cell? ⟨w.heap.size, 4, none⟩ = some (.slice po b pc) := fun o => cell_below (below_new _ _) d4
    have HCV := Lib.hid hcv; have HPV := Lib.hid hpv
    clear hb2 hcv hpv c0 c1 c2 c3 c4 d0 d1 d2 d3 d4
    go_wp2_with fail
    refine (HM2.out _ (HB2.out.trans ((below_new w2 _).mono HB2.out.size))).mono ?_
    rintro e w3 ⟨bo2, bd2, qo2, qd2, rfl, hcv2, hpv2, hb3⟩
    have hb3a := (below_new w2 _).trans (hb3.mono (by simp))
    have HN3 := Lib.hid (block_below hb3 (tok_new w2 _))
    have HB3 := Lib.hid (HB2.out.trans (hb3a.mono HB2.out.size))
    obtain ⟨⟨d0, d1, d2, d3, d4⟩, _⟩ := cells5 HN3.out
    have f0 : ∀ o, (w3.alloc o).cell? ⟨w2.heap.size, 0, none⟩ = some (.string N) := fun o => cell_below (below_new _ _) d0
    have f1 : ∀ o, (w3.alloc o).cell? ⟨w2.heap.size, 1, none⟩ = some (.int .i64 W') := fun o => cell_below (below_new _ _) d1
    have f2 : ∀ o, (w3.alloc o).cell? ⟨w2.heap.size, 2, none⟩ = some (.int .i64 H') := fun o => cell_below (below_new _ _) d2
    have f3 : ∀ o, (w3.alloc o).cell? ⟨w2.heap.size, 3, none⟩ = some (.slice bo L1 bd) := fun o => cell_below (below_new _ _) d3
    have f4 : ∀ o, (w3.alloc o).cell? ⟨w2.heap.size, 4, none⟩ = some (.slice qo L2 qd) := fun o => cell_below (below_new _ _) d4
    have HSB := Lib.hid (fun (o : Obj) => HSA.out (.slice bo L1 bd) (.slice qo L2 qd) (.slice bo2 L1 bd2) (.slice qo2 L2 qd2) (w3.alloc o) ((HCV.out.below hb3a).below (below_new _ _)) (hcv2.below (below_new _ _)) ((HPV.out.below hb3a).below (below_new _ _)) (hpv2.below (below_new _ _)))
    clear hb3 hb3a hcv2 hpv2 d0 d1 d2 d3 d4 k0 k1 k2 k3 k4
    go_wp2_with fail
    refine (HSB.out _).mono ?_
    rintro e w4 ⟨rfl, hb4⟩
    have HB4 := Lib.hid (HB3.out.trans ((new_below hb4).2.1.mono HB3.out.size))
    clear hb4
    go_wp2_with fail
    refine (HA.out w4 (HX.out.below HB4.out)).mono ?_
    rintro e w5 ⟨rfl, hb5⟩
    have HB5 := Lib.hid (HB4.out.trans (hb5.mono HB4.out.size))
    clear hb5
    go_wp2_with fail
    go_ret
    exact ⟨rfl, HB5.out⟩
  · replace hs : smallB n cs ps = false := by simpa using hs
    rw [hs] at HSM
    unfold KB fileV at *
    generalize str n = N at *
    generalize cs.length = a at *
    generalize ps.length = b at *
    clear hx hc hp hs
    go_enter Tryz.func6, Tryz.ntmps6
    go_wp2_with fail
    refine (HSM.out _).mono ?_
    rintro e w1 ⟨rfl, hb1⟩
    obtain ⟨n1, hb11, hz1⟩ := new_below hb1
    have HB1 := Lib.hid hb11
    clear hb1 n1 hb11
    go_wp2_with fail
    refine (HA.out w1 (HX.out.below HB1.out)).mono ?_
    rintro e w2 ⟨rfl, hb2⟩
    have HB2 := Lib.hid (HB1.out.trans (hb2.mono HB1.out.size))
    clear hb2
    go_wp2_with fail
    go_ret
    exact ⟨rfl, HB2.out⟩
set_option maxRecDepth 100000 in
theorem w_MapfileMirrors {H : Type} {enc : TypeId × Value → H} {base b : Nat} {spare : Nat → Bool} {held : Bool} (w : World) (v : Value) (hv : Value.okWide Tryz.prog w .any b 27 v) {d : DataW H} {p : List MemPlace} (h : DataW.Trod enc Tryz.prog w base spare held 27 v d p) (hl : Light Tryz.prog 27 d) (hc : Ctx w) : Calls Tryz.prog 6 #[v] w (Yes w) := by
  obtain ⟨n, W, Hh, cv, pv, cs, ps, ⟨rfl, ⟨ao, c, rfl, h1⟩, ⟨po, pc, rfl, h2⟩, h3, _, _, _, _, _, _, _⟩⟩ := file_of hv h hl
  exact mirrors_walk n W Hh ao po c pc cs ps w hc ⟨ao, c, rfl, h1⟩ ⟨po, pc, rfl, h2⟩
end Go.Proofs.YtmiceolkmiiahaaGreatDoor
