/- Walks: the reference's Same, on files that are the same; the law of the way there and back. -/
import Derived.Test.YtmiceolkmiiahaaGreatDoorW37
namespace Go.Proofs.YtmiceolkmiiahaaGreatDoor
open Go.RowKit
set_option linter.unusedVariables false
set_option linter.unusedSimpArgs false
set_option maxRecDepth 100000
set_option maxHeartbeats 8000000

theorem rSame_yes (S : ByteArray) (W H : Int) (ao bo po qo : Option Addr) (c d pc qc n m : Nat) (cs : List Cel) (ps : List Po) (hn : cs.length = n) (hm : ps.length = m) (hz : n ≤ 1000000) (hz2 : m ≤ 1000000) (w : World) (h1 : cs = [] ∨ ∃ a, ao = some a ∧ CelAt w a cs) (h2 : cs = [] ∨ ∃ a, bo = some a ∧ CelAt w a cs)
    (h3 : ps = [] ∨ ∃ a, po = some a ∧ PoAt w a ps) (h4 : ps = [] ∨ ∃ a, qo = some a ∧ PoAt w a ps) :
    KB 15 #[fileV S W H (.slice ao n c) (.slice po m pc), fileV S W H (.slice bo n d) (.slice qo m qc)] (.bool true) w := by
  have HN := Lib.hid hm; have HA := Lib.hid h3; have HB := Lib.hid h4
  have H7 := Lib.hid (fun w' (hb : Below w.heap.size w w') => r7Same_yes W H ao bo c d n cs hn hz w' (h1.imp id fun ⟨a, e, x⟩ => ⟨a, e, x.below Cel.l_len hb⟩) (h2.imp id fun ⟨a, e, x⟩ => ⟨a, e, x.below Cel.l_len hb⟩))
  clear hn hm h1 h2 h3 h4
  unfold KB mapV at H7
  unfold KB fileV
  have eS : (S.toList == S.toList) = true := by simp
  go_enter Tryz.func15, Tryz.ntmps15
  obtain ⟨w1, hw1⟩ : ∃ w1, (w.alloc (fO S W H (.slice ao n c) (.slice po m pc))).alloc (fO S W H (.slice bo n d) (.slice qo m qc)) = w1 := ⟨_, rfl⟩
  have hb1 : Below w.heap.size w w1 := by rw [← hw1]; exact (below_new _ _).alloc (by simp) _
  have hm1 : w1.heap[w.heap.size]? = some (fO S W H (.slice ao n c) (.slice po m pc)) := by rw [← hw1, Below.heap_alloc _ _ _ (by simp)]; exact tok_new _ _
  have hm2 : w1.heap[w.heap.size + 1]? = some (fO S W H (.slice bo n d) (.slice qo m qc)) := by
    have h := tok_new (w.alloc (fO S W H (.slice ao n c) (.slice po m pc))) (fO S W H (.slice bo n d) (.slice qo m qc))
    rw [tok_size, hw1] at h
    exact h
  have HB1 := Lib.hid hb1; have HM1 := Lib.hid hm1; have HM2 := Lib.hid hm2; have HW1 := Lib.hid hw1
  have hb1' : Below w.heap.size w ((w.alloc (fO S W H (.slice ao n c) (.slice po m pc))).alloc (fO S W H (.slice bo n d) (.slice qo m qc))) := by rw [hw1]; exact hb1
  have H71 := Lib.hid (H7.out _ hb1')
  clear hb1 hm1 hm2 hw1 hb1' H7
  go_wp2_with fail
  refine H71.out.mono ?_
  rw [HW1.out]
  rintro e w2 ⟨rfl, hb2⟩
  have HB2 := Lib.hid (HB1.out.trans (hb2.mono HB1.out.size)); have HN1 := Lib.hid (block_below hb2 HM1.out); have HN2 := Lib.hid (block_below hb2 HM2.out)
  obtain ⟨⟨c0, c1, c2, c3, c4⟩, _⟩ := cells5 HN1.out
  obtain ⟨⟨d0, d1, d2, d3, d4⟩, _⟩ := cells5 HN2.out
  clear hb2 HW1 H71
  go_wp2_with fail
  clear c0 c1 c2 c3 c4 d0 d1 d2 d3 d4
  go_loopw [5] (fun v wr => ∃ k : Nat, k ≤ m ∧ v = .int .i64 (k : Int) ∧ Below w2.heap.size w2 wr) (fun v _ => m - (intOf v).toNat)
  case atStart => exact ⟨0, by omega, rfl, Below.refl _ _⟩
  case round =>
    obtain ⟨k, hk, rfl, hbel⟩ := hrel
    have HE := Lib.hid hbel
    obtain ⟨⟨c0, c1, c2, c3, c4⟩, _⟩ := cells5 (block_below hbel HN1.out)
    obtain ⟨⟨d0, d1, d2, d3, d4⟩, _⟩ := cells5 (block_below hbel HN2.out)
    by_cases hkn : k < m
    · have hkl : k < ps.length := by have := HN.out; omega
      have hall := HB2.out.trans (hbel.mono HB2.out.size)
      obtain ⟨a, rfl, ha⟩ := HA.out.resolve_left (fun e => by rw [e] at hkl; simp at hkl)
      obtain ⟨b, rfl, hb⟩ := HB.out.resolve_left (fun e => by rw [e] at hkl; simp at hkl)
      obtain ⟨p0, p1⟩ := poAt (ha.below Po.l_len hall) k hkl
      obtain ⟨q0, q1⟩ := poAt (hb.below Po.l_len hall) k hkl
      obtain ⟨⟨x, y⟩, hx⟩ : ∃ t, ps[k] = t := ⟨_, rfl⟩
      rw [hx] at p0 p1 q0 q1
      dsimp only at p0 p1 q0 q1
      have e1 : (0 : Int) ≤ ((k : Int)) := by omega
      have e2 : (k : Int) < (m : Int) := by omega
      clear hall ha hb hx hbel
      go_wp2_with fail
      go_quiet (fail)
      go_wp2_with fail
      go_roundw
      case rel => exact ⟨k + 1, by omega, by go_num, by first | exact HE.out | exact HE.out.drew | exact below_dN HE.out _⟩
      case measure => simp [intOf]; omega
    · have e2 : ¬ (k : Int) < (m : Int) := by omega
      clear hbel
      go_wp2_with fail
      go_ret
      exact ⟨rfl, HB2.out.trans (HE.out.mono HB2.out.size)⟩
theorem trips_walk (n : List UInt8) (W H : Int) (ao po : Option Addr) (c pc : Nat) (cs : List Cel) (ps : List Po) (w : World) (hx : Ctx w) (hc : CelSl w (.slice ao cs.length c) cs) (hp : PoSl w (.slice po ps.length pc) ps) (hcap : CapOk (.slice po ps.length pc)) :
    Calls Tryz.prog 5 #[fileV (str n) W H (.slice ao cs.length c) (.slice po ps.length pc)] w (Yes w) := by
  have HX := Lib.hid hx
  have HA := Lib.hid alive_any
  have HSM := Lib.hid (fun w' => small_any n W H ao po c pc cs ps w')
  by_cases hs : smallB n cs ps = true
  · have HF := Lib.hid (fun w' hb => four (W := W) (H := H) hs hc hp hcap hx w' hb)
    have hs2 := hs
    unfold smallB at hs2
    simp only [Bool.and_eq_true, decide_eq_true_eq] at hs2
    rw [hs] at HSM
    by_cases hv : validT (str n) W H cs ps = 0
    · have hpl := print_len hv
      have hpp := parse_print hv
      have HPA := Lib.hid (fun w' hx' => Parse_any (printL n W H cs ps) hpl w' hx')
      rw [hpp] at HPA
      have hps : prS n W H cs ps = str (printL n W H cs ps) := by unfold prS; rw [if_pos hv]
      rw [hps, hv] at HF
      have HCA := Lib.hid hc; have HPO := Lib.hid hp
      obtain ⟨a, ha⟩ : ∃ a, cs.length = a := ⟨_, rfl⟩
      obtain ⟨b, hb⟩ : ∃ b, ps.length = b := ⟨_, rfl⟩
      have HSA := Lib.hid (fun w' (hbw : Below w.heap.size w w') (bo qo : Option Addr) (d qc : Nat) (g1 : cs = [] ∨ ∃ a, bo = some a ∧ CelAt w' a cs) (g2 : ps = [] ∨ ∃ a, qo = some a ∧ PoAt w' a ps) => show KB 15 #[fileV (str n) W H (.slice ao a c) (.slice po b pc), fileV (str n) W H (.slice bo a d) (.slice qo b qc)] (.bool true) w' from by
        obtain ⟨_, _, e1, k1⟩ := HCA.out.below hbw
        obtain ⟨_, _, e2, k2⟩ := HPO.out.below hbw
        injection e1 with i1 i2 i3
        injection e2 with j1 j2 j3
        subst i1 j1
        exact rSame_yes (str n) W H ao bo po qo c d pc qc a b cs ps ha hb (by omega) (by omega) w' k1 g1 k2 g2)
      rw [ha, hb] at HF HSM ⊢
      have HLA := Lib.hid ha; have HLB := Lib.hid hb
      generalize printL n W H cs ps = PL at *
      clear hx hc hp hcap hs hs2 hv hpl hpp hps ha hb
      unfold KB fileV at *
      generalize str PL = S at *
      go_enter Tryz.func5, Tryz.ntmps5
      go_wp2_with fail
      refine (HSM.out _).mono ?_
      rintro e w1 ⟨rfl, hb1⟩
      obtain ⟨n1, hb11, hz1⟩ := new_below hb1
      obtain ⟨⟨c0, c1, c2, c3, c4⟩, _⟩ := cells5 n1
      have HN1 := Lib.hid n1; have HB1 := Lib.hid hb11
      clear hb1 n1 hb11
      go_wp2_with fail
      refine (HF.out _ HB1.out).2.1.mono ?_
      rintro e w2 ⟨rfl, hb2⟩
      have HN2 := Lib.hid (block_below hb2 HN1.out); have HB2 := Lib.hid (HB1.out.trans (hb2.mono HB1.out.size))
      clear hb2 c0 c1 c2 c3 c4
      obtain ⟨⟨c0, c1, c2, c3, c4⟩, _⟩ := cells5 HN2.out
      go_wp2_with fail
      refine (HF.out _ HB2.out).2.2.1.mono ?_
      rintro e w3 ⟨rfl, hb3⟩
      have HN3 := Lib.hid (block_below hb3 HN2.out); have HB3 := Lib.hid (HB2.out.trans (hb3.mono HB2.out.size))
      clear hb3 c0 c1 c2 c3 c4
      go_wp2_with fail
      refine (HPA.out w3 (HX.out.below HB3.out)).mono ?_
      rintro e w4 ⟨⟨cv, pv, rfl, ⟨bo, d, rfl, hcv⟩, ⟨qo, qc, rfl, hpv⟩, _⟩, hb4⟩
      have hN4 := block_below hb4 HN3.out
      have HB4 := Lib.hid (HB3.out.trans (hb4.mono HB3.out.size))
      rw [HLA.out, HLB.out]
      obtain ⟨⟨c0, c1, c2, c3, c4⟩, _⟩ := cells5 hN4
      have hlt := heap_lt hN4
      have k0 : ∀ o, (w4.alloc o).cell? ⟨w.heap.size, 0, none⟩ = some (.string (str n)) := fun o => cell_below (below_new _ _) c0
      have k1 : ∀ o, (w4.alloc o).cell? ⟨w.heap.size, 1, none⟩ = some (.int .i64 W) := fun o => cell_below (below_new _ _) c1
      have k2 : ∀ o, (w4.alloc o).cell? ⟨w.heap.size, 2, none⟩ = some (.int .i64 H) := fun o => cell_below (below_new _ _) c2
      have k3 : ∀ o, (w4.alloc o).cell? ⟨w.heap.size, 3, none⟩ = some (.slice ao a c) := fun o => cell_below (below_new _ _) c3
      have k4 : ∀ o, (w4.alloc o).cell? ⟨w.heap.size, 4, none⟩ = some (.slice po b pc) := fun o => cell_below (below_new _ _) c4
      have HCV := Lib.hid hcv; have HPV := Lib.hid hpv
      have HSB := Lib.hid (fun (o : Obj) => HSA.out (w4.alloc o) (HB4.out.trans ((below_new w4 o).mono HB4.out.size)) bo qo d qc (HCV.out.imp id fun ⟨a, e, x⟩ => ⟨a, e, x.below Cel.l_len (below_new _ _)⟩) (HPV.out.imp id fun ⟨a, e, x⟩ => ⟨a, e, x.below Po.l_len (below_new _ _)⟩))
      clear hb4 hN4 hcv hpv c0 c1 c2 c3 c4
      unfold fileV at *
      go_wp2_with fail
      refine (HSB.out _).mono ?_
      rintro e w5 ⟨rfl, hb5⟩
      have HB5 := Lib.hid (HB4.out.trans ((new_below hb5).2.1.mono HB4.out.size))
      clear hb5
      go_wp2_with fail
      refine (HA.out w5 (HX.out.below HB5.out)).mono ?_
      rintro e w6 ⟨rfl, hb6⟩
      have HB6 := Lib.hid (HB5.out.trans (hb6.mono HB5.out.size))
      clear hb6
      go_wp2_with fail
      go_ret
      exact ⟨rfl, HB6.out⟩
    · have hv2 : (validT (str n) W H cs ps != 0) = true := by simpa using hv
      generalize prS n W H cs ps = S at *
      generalize validT (str n) W H cs ps = r at *
      unfold KB fileV at *
      generalize str n = N at *
      generalize cs.length = a at *
      generalize ps.length = b at *
      clear hx hc hp hcap hs hv hs2
      go_enter Tryz.func5, Tryz.ntmps5
      go_wp2_with fail
      refine (HSM.out _).mono ?_
      rintro e w1 ⟨rfl, hb1⟩
      obtain ⟨n1, hb11, hz1⟩ := new_below hb1
      obtain ⟨⟨c0, c1, c2, c3, c4⟩, _⟩ := cells5 n1
      have HB1 := Lib.hid hb11
      clear hb1 n1 hb11
      go_wp2_with fail
      refine (HF.out _ HB1.out).2.1.mono ?_
      rintro e w2 ⟨rfl, hb2⟩
      have HB2 := Lib.hid (HB1.out.trans (hb2.mono HB1.out.size))
      clear hb2 c0 c1 c2 c3 c4
      go_wp2_with fail
      refine (HA.out w2 (HX.out.below HB2.out)).mono ?_
      rintro e w3 ⟨rfl, hb3⟩
      have HB3 := Lib.hid (HB2.out.trans (hb3.mono HB2.out.size))
      clear hb3
      go_wp2_with fail
      go_ret
      exact ⟨rfl, HB3.out⟩
  · replace hs : smallB n cs ps = false := by simpa using hs
    rw [hs] at HSM
    unfold KB fileV at *
    generalize str n = N at *
    generalize cs.length = a at *
    generalize ps.length = b at *
    clear hx hc hp hcap hs
    go_enter Tryz.func5, Tryz.ntmps5
    go_wp2_with fail
    refine (HSM.out _).mono ?_
    rintro e w1 ⟨rfl, hb1⟩
    obtain ⟨n1, hb11, hz1⟩ := new_below hb1
    have HB1 := Lib.hid hb11
    clear hb1 n1 hb11
    go_wp2_with fail
    refine (HA.out w1 (HX.out.below HB1.out)).mono ?_
    rintro e w2 ⟨rfl, hb2⟩
    have HB2 := Lib.hid (HB1.out.trans (hb2.mono HB1.out.size))
    clear hb2
    go_wp2_with fail
    go_ret
    exact ⟨rfl, HB2.out⟩
set_option maxRecDepth 100000 in
theorem w_MapfileRoundTrips {H : Type} {enc : TypeId × Value → H} {base b : Nat} {spare : Nat → Bool} {held : Bool} (w : World) (v : Value) (hv : Value.okWide Tryz.prog w .any b 27 v) {d : DataW H} {p : List MemPlace} (h : DataW.Trod enc Tryz.prog w base spare held 27 v d p) (hl : Light Tryz.prog 27 d) (hc : Ctx w) : Calls Tryz.prog 5 #[v] w (Yes w) := by
  obtain ⟨n, W, Hh, cv, pv, cs, ps, ⟨rfl, ⟨ao, c, rfl, h1⟩, ⟨po, pc, rfl, h2⟩, h3, _, _, _, _, _, _, _⟩⟩ := file_of hv h hl
  exact trips_walk n W Hh ao po c pc cs ps w hc ⟨ao, c, rfl, h1⟩ ⟨po, pc, rfl, h2⟩ h3
end Go.Proofs.YtmiceolkmiiahaaGreatDoor
