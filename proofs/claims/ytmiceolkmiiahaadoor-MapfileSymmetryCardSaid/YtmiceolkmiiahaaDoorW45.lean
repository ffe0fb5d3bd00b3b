/- Walks: the law of the pairs of starts. -/
import Derived.Test.YtmiceolkmiiahaaDoorW43
import Derived.Test.YtmiceolkmiiahaaDoorW36
namespace Go.Proofs.YtmiceolkmiiahaaDoor
open Go.RowKit
set_option linter.unusedVariables false
set_option linter.unusedSimpArgs false
set_option maxRecDepth 100000
set_option maxHeartbeats 8000000

theorem turn_turn {W H : Int} {p : Po} (h1 : 1 ≤ W ∧ W ≤ 32 ∧ 1 ≤ H ∧ H ≤ 32) (h2 : (0 ≤ p.x ∧ p.x < W) ∧ (0 ≤ p.y ∧ p.y < H)) : turnP W H (turnP W H p) = p := by
  obtain ⟨x, y⟩ := p
  obtain ⟨a1, a2, a3, a4⟩ := h1
  obtain ⟨⟨b1, b2⟩, b3, b4⟩ := h2
  dsimp only at b1 b2 b3 b4
  unfold turnP wrap64
  congr 1 <;> (dsimp only; omega)
theorem sym_walk (n : List UInt8) (W H : Int) (ao po : Option Addr) (c pc : Nat) (cs : List Cel) (ps : List Po) (w : World) (hx : Ctx w) (hc : CelSl w (.slice ao cs.length c) cs) (hp : PoSl w (.slice po ps.length pc) ps) :
    Calls Tryd.prog 5 #[fileV (str n) W H (.slice ao cs.length c) (.slice po ps.length pc)] w (Yes w) := by
  have HX := Lib.hid hx
  have HA := Lib.hid alive_any
  have HSM := Lib.hid (fun w' => small_any n W H ao po c pc cs ps w')
  by_cases hs : smallB n cs ps = true
  · have hs2 := hs
    unfold smallB at hs2
    simp only [Bool.and_eq_true, decide_eq_true_eq] at hs2
    obtain ⟨hz1, hz2, hz3⟩ := hs2
    have HM1 := Lib.hid (fun w' (hb : Below w.heap.size w w') => Mirror_any n W H ao po c pc cs ps hz3 hz1 hz2 w' (hx.below hb) (hc.below hb) (hp.below hb))
    rw [hs] at HSM
    by_cases hE : mirE n W H cs ps = 0
    · have hv : validT (str n) W H cs (ps ++ ps.map (turnP W H)) = 0 := by
        have h := hE
        unfold mirE at h
        split at h
        · omega
        · split at h
          · omega
          · exact h
      obtain ⟨_, f2, _, _, _, f6⟩ := valid_facts hv
      have HTT := Lib.hid (fun k (hk : k < ps.length) => turn_turn f2 (f6 ps[k] (List.mem_append_left _ (List.getElem_mem hk))))
      have HT := Lib.hid (fun (cv : Value) (p : Po) w => rTurned_any W H cv p w)
      have HVA := Lib.hid (fun cv pv w' (h1 : CelSl w' cv cs) (h2 : PoSl w' pv (ps ++ ps.map (turnP W H))) (h3 : CapOk pv) (h4 : Pass w') => Valid_any (str n) W H cv pv cs (ps ++ ps.map (turnP W H)) w' (by rw [str_size]; omega) h1 (by omega) h2 (by simp; omega) h3 h4)
      rw [hv] at HVA
      have HPO := Lib.hid hp
      obtain ⟨a, ha⟩ : ∃ a, cs.length = a := ⟨_, rfl⟩
      obtain ⟨b, hb⟩ : ∃ b, ps.length = b := ⟨_, rfl⟩
      obtain ⟨L, hL⟩ : ∃ L, ps ++ ps.map (turnP W H) = L := ⟨_, rfl⟩
      obtain ⟨b2, hb2⟩ : ∃ b2, L.length = b2 := ⟨_, rfl⟩
      have hb22 : b2 = b + b := by rw [← hb2, ← hL, List.length_append, List.length_map, hb]
      have HG1 := Lib.hid (fun k (hk : k < ps.length) => show L[k]? = some ps[k] from by rw [← hL, List.getElem?_append_left hk, List.getElem?_eq_getElem hk])
      have HG2 := Lib.hid (fun k (hk : k < ps.length) => show L[b + k]? = some (turnP W H ps[k]) from by rw [← hL, List.getElem?_append_right (by omega), hb, Nat.add_sub_cancel_left, List.getElem?_map, List.getElem?_eq_getElem hk]; rfl)
      rw [hL] at HVA
      have HMR := Lib.hid (fun (w1 : World) (en : Ending) (w' : World) (h : MRes n W H cs ps w1 en w') => show ∃ bo d qo qd, en = .returned (.tuple #[fileV (str n) W H (.slice bo a d) (.slice qo b2 qd), .int .i64 0]) ∧ CelSl w' (.slice bo a d) cs ∧ PoSl w' (.slice qo b2 qd) L ∧ CapOk (.slice qo b2 qd) ∧ Below w1.heap.size w1 w' from by
        unfold MRes at h
        rw [if_pos hE, hL] at h
        obtain ⟨⟨cv, pv, h1, h2, h3, h5⟩, h4⟩ := h
        obtain ⟨bo, d, rfl, k2⟩ := h2
        obtain ⟨qo, qd, rfl, k3⟩ := h3
        rw [ha, hb2] at h1
        rw [hb2] at h5
        exact ⟨bo, d, qo, qd, h1, ⟨bo, d, by rw [ha], k2⟩, ⟨qo, qd, by rw [hb2], k3⟩, h5, h4⟩)
      have HM2 := Lib.hid (fun w' hb => (HM1.out w' hb).mono (HMR.out w'))
      have hmul : IntKind.i64.wrap (2 * (b : Int)) = (b2 : Int) := by rw [IntKind.wrap_i64]; omega
      have HLB := Lib.hid hb; have HLB2 := Lib.hid hb2; have HB22 := Lib.hid hb22
      rw [ha, hb] at HM2 HSM
      rw [hb] at HPO
      rw [ha, hb]
      clear hx hc hp hs hE hv f2 f6 ha hb hL hb2 hb22 HM1 HMR
      unfold KB fileV mapV Po.v at *
      generalize str n = S at *
      go_enter Tryd.func5, Tryd.ntmps5
      go_wp2_with fail
      refine (HSM.out _).mono ?_
      rintro e w1 ⟨rfl, hb1⟩
      obtain ⟨n1, hb11, hz11⟩ := new_below hb1
      obtain ⟨⟨c0, c1, c2, c3, c4⟩, _⟩ := cells5 n1
      have HN1 := Lib.hid n1; have HB1 := Lib.hid hb11
      clear hb1 n1 hb11
      go_wp2_with fail
      refine (HM2.out _ HB1.out).mono ?_
      rintro e w2 ⟨bo, bd, qo, qd, rfl, hcv, hpv, hcp, hb2⟩
      have HN2 := Lib.hid (block_below hb2 HN1.out); have HB2 := Lib.hid (HB1.out.trans (hb2.mono HB1.out.size))
      obtain ⟨⟨d0, d1, d2, d3, d4⟩, _⟩ := cells5 HN2.out
      have k4 : ∀ o, (w2.alloc o).cell? ⟨w.heap.size, 4, none⟩ = some (.slice po b pc) := fun o => cell_below (below_new _ _) d4
      have HCV := Lib.hid hcv; have HPV := Lib.hid hpv
      have HVB := Lib.hid (fun (o : Obj) => HVA.out (.slice bo a bd) (.slice qo b2 qd) (w2.alloc o) (hcv.below (below_new _ _)) (hpv.below (below_new _ _)) hcp (HX.out.below (HB2.out.trans ((below_new _ _).mono HB2.out.size))).pass)
      clear hb2 hcv hpv hcp c0 c1 c2 c3 c4 d0 d1 d2 d3 d4
      go_wp2_with fail
      refine (HVB.out _).mono ?_
      rintro e w3 ⟨rfl, hb3⟩
      obtain ⟨n3, hb33, hz33⟩ := new_below hb3
      have HN3 := Lib.hid n3; have HB3 := Lib.hid (HB2.out.trans (hb33.mono HB2.out.size))
      have HN1' := Lib.hid (block_below hb33 HN2.out)
      have HPV3 := Lib.hid (HPV.out.below hb33)
      obtain ⟨⟨d0, d1, d2, d3, d4⟩, _⟩ := cells5 HN3.out
      clear hb3 n3 hb33 k4
      go_wp2_with fail
      clear d0 d1 d2 d3 d4
      go_loopw [6] (fun v wr => ∃ k : Nat, k ≤ b ∧ v = .int .i64 (k : Int) ∧ Below w3.heap.size w3 wr) (fun v _ => b - (intOf v).toNat)
      case atStart => exact ⟨0, by omega, rfl, Below.refl _ _⟩
      case round =>
        obtain ⟨k, hk, rfl, hbel⟩ := hrel
        have HE := Lib.hid hbel
        have HBR := Lib.hid (HB3.out.trans (hbel.mono HB3.out.size))
        by_cases hkb : k < b
        · have hkl : k < ps.length := by have := HLB.out; omega
          obtain ⟨_, _, e1, k1⟩ := HPO.out.below HBR.out
          injection e1 with i1 i2 i3
          subst i1 i3
          clear i2
          obtain ⟨pa, rfl, hpa⟩ := k1.resolve_left (fun e => by rw [e] at hkl; simp at hkl)
          have hL1 := HG1.out k hkl
          have hL2 := HG2.out k hkl
          obtain ⟨hl1, hl1e⟩ := List.getElem?_eq_some_iff.1 hL1
          obtain ⟨hl2, hl2e⟩ := List.getElem?_eq_some_iff.1 hL2
          obtain ⟨_, _, e1, k1'⟩ := HPV3.out.below hbel
          injection e1 with i1 i2 i3
          subst i1 i3
          clear i2
          obtain ⟨qa, rfl, hqa⟩ := k1'.resolve_left (fun e => by rw [e] at hl1; simp at hl1)
          obtain ⟨p0, p1⟩ := poAt hpa k hkl
          obtain ⟨q0, q1⟩ := poAt hqa k hl1
          obtain ⟨r0, r1⟩ := poAt hqa (b + k) hl2
          have htt := HTT.out k hkl
          rw [hl1e] at q0 q1
          rw [hl2e] at r0 r1
          obtain ⟨⟨x, y⟩, hxy⟩ : ∃ t, ps[k] = t := ⟨_, rfl⟩
          rw [hxy] at p0 p1 q0 q1 r0 r1 htt
          obtain ⟨⟨tx, ty⟩, htx⟩ : ∃ t, turnP W H ⟨x, y⟩ = t := ⟨_, rfl⟩
          rw [htx] at r0 r1 htt
          dsimp only at p0 p1 q0 q1 r0 r1
          have HT1 := Lib.hid (fun cv (z : Kept wr) => Kept.call (x := z) (HT.out cv ⟨tx, ty⟩ z.W))
          rw [htt] at HT1
          dsimp only at HT1
          obtain ⟨⟨m0, m1, m2, m3, m4⟩, _⟩ := cells5 (block_below hbel HN1'.out)
          obtain ⟨⟨d0, d1, d2, d3, d4⟩, _⟩ := cells5 (block_below hbel HN3.out)
          have e2 : (0 : Int) ≤ ((k : Int)) := by omega
          have e3 : (k : Int) < (b : Int) := by omega
          have hB22 := HB22.out
          have e4 : (k : Int) < (b2 : Int) := by omega
          obtain ⟨j, hj⟩ : ∃ j, b + k = j := ⟨_, rfl⟩
          have e5 : IntKind.i64.wrap ((b : Int) + (k : Int)) = (j : Int) := by have := HLB.out; rw [IntKind.wrap_i64]; omega
          have e6 : (0 : Int) ≤ (j : Int) := by omega
          have e7 : (j : Int) < (b2 : Int) := by omega
          rw [hj] at r0 r1
          have b1 : (x == x) = true := by simp
          have b2' : (y == y) = true := by simp
          have km1 := kept_cell m1; have km2 := kept_cell m2; have km3 := kept_cell m3; have km4 := kept_cell m4
          have kd4 := kept_cell d4
          have kp0 := kept_cell p0; have kp1 := kept_cell p1; have kq0 := kept_cell q0; have kq1 := kept_cell q1; have kr0 := kept_cell r0; have kr1 := kept_cell r1
          clear k1 k1' hpa hqa hxy htx htt hL1 hL2 hl1e hl2e hj hB22 hbel p0 p1 q0 q1 r0 r1 m0 m1 m2 m3 m4 d0 d1 d2 d3 d4
          have hm2 : (wr.cell? ⟨w.heap.size, 4, none⟩) = some (.slice (some pa) b pc) := km4 ⟨wr, Below.refl _ _⟩
          go_wp2_with fail
          refine wp_region_kept (by kernel_rfl) (by kernel_rfl) ?_
          repeat (go_big_quiet_step (first | (go_at_call 12; exact HT1.out _ _)))
          refine wpQuiet_nil ?_
          intro _ hw'
          obtain ⟨kx, hw''⟩ := hw'
          subst hw''
          have HK := Lib.hid (HE.out.trans (kx.below.mono HE.out.size))
          go_wp2_with fail
          go_roundw
          case rel => exact ⟨k + 1, by omega, by go_num, HK.out⟩
          case measure => simp [intOf]; omega
        · have e3 : ¬ (k : Int) < (b : Int) := by omega
          clear hbel
          go_wp2_with fail
          refine (HA.out wr (HX.out.below HBR.out)).mono ?_
          rintro e w4 ⟨rfl, hb4⟩
          have HB4 := Lib.hid (HBR.out.trans (hb4.mono HBR.out.size))
          clear hb4
          go_wp2_with fail
          go_ret
          exact ⟨rfl, HB4.out⟩
    · have hE2 : (mirE n W H cs ps != 0) = true := by simpa using hE
      have HMR := Lib.hid (fun (w1 : World) (en : Ending) (w' : World) (h : MRes n W H cs ps w1 en w') => show en = .returned (.tuple #[file0, .int .i64 (mirE n W H cs ps)]) ∧ Below w1.heap.size w1 w' from by
        unfold MRes at h
        rw [if_neg hE] at h
        exact h)
      have HM2 := Lib.hid (fun w' hb => (HM1.out w' hb).mono (HMR.out w'))
      clear hx hc hp hs hE HM1 HMR
      unfold KB file0 fileV at *
      generalize mirE n W H cs ps = E at *
      generalize str n = S at *
      generalize cs.length = a at *
      generalize ps.length = b at *
      go_enter Tryd.func5, Tryd.ntmps5
      go_wp2_with fail
      refine (HSM.out _).mono ?_
      rintro e w1 ⟨rfl, hb1⟩
      obtain ⟨n1, hb11, hz11⟩ := new_below hb1
      obtain ⟨⟨c0, c1, c2, c3, c4⟩, _⟩ := cells5 n1
      have HB1 := Lib.hid hb11
      clear hb1 n1 hb11
      go_wp2_with fail
      refine (HM2.out _ HB1.out).mono ?_
      rintro e w2 ⟨rfl, hb2⟩
      have HB2 := Lib.hid (HB1.out.trans (hb2.mono HB1.out.size))
      clear hb2 c0 c1 c2 c3 c4
      go_wp2_with fail
      refine (HA.out _ (HX.out.below (HB2.out.trans ((below_new w2 _).mono HB2.out.size)))).mono ?_
      rintro e w3 ⟨rfl, hb3⟩
      have HB3 := Lib.hid (HB2.out.trans ((new_below hb3).2.1.mono HB2.out.size))
      clear hb3
      go_wp2_with fail
      go_ret
      exact ⟨rfl, HB3.out⟩
  · replace hs : smallB n cs ps = false := by simpa using hs
    rw [hs] at HSM
    unfold KB fileV at *
    generalize str n = N at *
    generalize cs.length = a at *
    generalize ps.length = b at *
    clear hx hc hp hs
    go_enter Tryd.func5, Tryd.ntmps5
    go_wp2_with fail
    refine (HSM.out _).mono ?_
    rintro e w1 ⟨rfl, hb1⟩
    obtain ⟨n1, hb11, hz1⟩ := new_below hb1
    have HB1 := Lib.hid hb11
    clear hb1 n1 hb11
    go_wp2_with fail
    refine (HA.out w1 (HX.out.below HB1.out)).mono ?_
    rintro e w2 ⟨rfl, hb2⟩
    have HB2 := Lib.hid (HB1.out.trans (hb2.mono HB1.out.size))
    clear hb2
    go_wp2_with fail
    go_ret
    exact ⟨rfl, HB2.out⟩
set_option maxRecDepth 100000 in
theorem w_MapfileSymmetry {H : Type} {enc : TypeId × Value → H} {base b : Nat} {spare : Nat → Bool} {held : Bool} (w : World) (v : Value) (hv : Value.okWide Tryd.prog w .any b 28 v) {d : DataW H} {p : List MemPlace} (h : DataW.Trod enc Tryd.prog w base spare held 28 v d p) (hl : Light Tryd.prog 28 d) (hc : Ctx w) : Calls Tryd.prog 5 #[v] w (Yes w) := by
  obtain ⟨n, W, Hh, cv, pv, cs, ps, ⟨rfl, ⟨ao, c, rfl, h1⟩, ⟨po, pc, rfl, h2⟩, h3, _, _, _, _, _, _, _⟩⟩ := file_of hv h hl
  exact sym_walk n W Hh ao po c pc cs ps w hc ⟨ao, c, rfl, h1⟩ ⟨po, pc, rfl, h2⟩
end Go.Proofs.YtmiceolkmiiahaaDoor
