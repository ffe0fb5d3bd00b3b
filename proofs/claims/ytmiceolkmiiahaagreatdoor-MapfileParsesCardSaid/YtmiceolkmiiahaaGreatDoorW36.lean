/- Walks: small; the law of Valid and Print. -/
import Derived.Test.YtmiceolkmiiahaaGreatDoorW35
import Derived.Test.YtmiceolkmiiahaaGreatDoorW22
namespace Go.Proofs.YtmiceolkmiiahaaGreatDoor
open Go.RowKit
set_option linter.unusedVariables false
set_option linter.unusedSimpArgs false
set_option maxRecDepth 100000
set_option maxHeartbeats 8000000

def smallB (n : List UInt8) (cs : List Cel) (ps : List Po) : Bool := decide (cs.length ≤ 1100) && (decide (ps.length ≤ 20) && decide (n.length ≤ 1000))
theorem small_any (n : List UInt8) (W H : Int) (ao po : Option Addr) (c pc : Nat) (cs : List Cel) (ps : List Po) (w : World) : KB 7 #[fileV (str n) W H (.slice ao cs.length c) (.slice po ps.length pc)] (.bool (smallB n cs ps)) w := by
  unfold KB fileV smallB
  have hs : ((str n).size : Int) = (n.length : Int) := by rw [str_size]
  generalize str n = S at *
  generalize cs.length = a at *
  generalize ps.length = b at *
  generalize n.length = d at *
  by_cases h1 : a ≤ 1100
  · have e1 : (a : Int) ≤ 1100 := by omega
    by_cases h2 : b ≤ 20
    · have e2 : (b : Int) ≤ 20 := by omega
      by_cases h3 : d ≤ 1000
      · have e3 : (d : Int) ≤ 1000 := by omega
        go_enter Tryz.func7, Tryz.ntmps7
        go_wp2_with fail
        go_ret
        exact ⟨by simp [h1, h2, h3], below_new _ _⟩
      · have e3 : ¬ (d : Int) ≤ 1000 := by omega
        go_enter Tryz.func7, Tryz.ntmps7
        go_wp2_with fail
        go_ret
        exact ⟨by simp [h1, h2, h3], below_new _ _⟩
    · have e2 : ¬ (b : Int) ≤ 20 := by omega
      go_enter Tryz.func7, Tryz.ntmps7
      go_wp2_with fail
      go_ret
      exact ⟨by simp [h1, h2], below_new _ _⟩
  · have e1 : ¬ (a : Int) ≤ 1100 := by omega
    go_enter Tryz.func7, Tryz.ntmps7
    go_wp2_with fail
    go_ret
    exact ⟨by simp [h1], below_new _ _⟩
def prS (n : List UInt8) (W H : Int) (cs : List Cel) (ps : List Po) : ByteArray := if validT (str n) W H cs ps = 0 then str (printL n W H cs ps) else ⟨#[]⟩
/-- The four answers on a file that is small. -/
theorem four {n : List UInt8} {W H : Int} {cv pv : Value} {cs : List Cel} {ps : List Po} (hs : smallB n cs ps = true) {w0 : World} (hc : CelSl w0 cv cs) (hp : PoSl w0 pv ps) (hcap : CapOk pv) (hx : Ctx w0) (w : World) (hb : Below w0.heap.size w0 w) :
    KB 11 #[fileV (str n) W H cv pv] (.int .i64 (validT (str n) W H cs ps)) w ∧ KB 12 #[fileV (str n) W H cv pv] (.int .i64 (validT (str n) W H cs ps)) w ∧
    KB 9 #[fileV (str n) W H cv pv] (.tuple #[.string (prS n W H cs ps), .int .i64 (validT (str n) W H cs ps)]) w ∧ KB 10 #[fileV (str n) W H cv pv] (.tuple #[.string (prS n W H cs ps), .int .i64 (validT (str n) W H cs ps)]) w := by
  unfold smallB at hs
  simp only [Bool.and_eq_true, decide_eq_true_eq] at hs
  obtain ⟨s1, s2, s3⟩ := hs
  have k1 : ∀ w', Below w0.heap.size w0 w' → KB 11 #[fileV (str n) W H cv pv] (.int .i64 (validT (str n) W H cs ps)) w' := fun w' hb' =>
    Valid_any (str n) W H cv pv cs ps w' (by rw [str_size]; omega) (hc.below hb') (by omega) (hp.below hb') (by omega) hcap (hx.below hb').pass
  have k2 : ∀ w', Below w0.heap.size w0 w' → KB 12 #[fileV (str n) W H cv pv] (.int .i64 (validT (str n) W H cs ps)) w' := fun w' hb' =>
    rValid_any (str n) W H cv pv cs ps w' (by rw [str_size]; omega) (hc.below hb') (by omega) (hp.below hb') (by omega)
  refine ⟨k1 w hb, k2 w hb, ?_⟩
  unfold prS
  by_cases hv : validT (str n) W H cs ps = 0
  · obtain ⟨h1, h2, ⟨_, h3⟩, h4, h5, h6⟩ := valid_facts hv
    rw [hv] at k1 k2 ⊢
    rw [if_pos rfl]
    exact ⟨Print_ok n (by omega) W H h2 cv pv cs ps w (hc.below hb) (by omega) (hp.below hb) (by omega) h4 (fun p hp => by obtain ⟨⟨a, b⟩, c, d⟩ := h6 p hp; exact ⟨⟨by omega, by omega⟩, by omega, by omega⟩) (hx.below hb).tab (fun w' hb' => k1 w' (hb.trans (hb'.mono hb.size))),
      rPrint_ok n (by omega) W H h2 cv pv cs ps w (hc.below hb) (by omega) (hp.below hb) (by omega) h4 (fun p hp => by obtain ⟨⟨a, b⟩, c, d⟩ := h6 p hp; exact ⟨⟨by omega, by omega⟩, by omega, by omega⟩) (fun w' hb' => k2 w' (hb.trans (hb'.mono hb.size)))⟩
  · rw [if_neg hv]
    exact ⟨Print_err (str n) W H cv pv _ hv w (fun w' hb' => k1 w' (hb.trans (hb'.mono hb.size))), rPrint_err (str n) W H cv pv _ hv w (fun w' hb' => k2 w' (hb.trans (hb'.mono hb.size)))⟩
theorem valid_walk (n : List UInt8) (W H : Int) (ao po : Option Addr) (c pc : Nat) (cs : List Cel) (ps : List Po) (w : World) (hx : Ctx w) (hc : CelSl w (.slice ao cs.length c) cs) (hp : PoSl w (.slice po ps.length pc) ps) (hcap : CapOk (.slice po ps.length pc)) :
    Calls Tryz.prog 3 #[fileV (str n) W H (.slice ao cs.length c) (.slice po ps.length pc)] w (Yes w) := by
  have HX := Lib.hid hx
  have HA := Lib.hid alive_any
  have HSM := Lib.hid (fun w' => small_any n W H ao po c pc cs ps w')
  by_cases hs : smallB n cs ps = true
  · have HF := Lib.hid (fun w' hb => four (W := W) (H := H) hs hc hp hcap hx w' hb)
    rw [hs] at HSM
    generalize prS n W H cs ps = S at *
    generalize validT (str n) W H cs ps = r at *
    unfold KB fileV at *
    generalize str n = N at *
    generalize cs.length = a at *
    generalize ps.length = b at *
    have hq : (S.toList == S.toList) = true := by simp
    have hq2 : (r == r) = true := by simp
    clear hx hc hp hcap hs
    go_enter Tryz.func3, Tryz.ntmps3
    go_wp2_with fail
    refine (HSM.out _).mono ?_
    rintro e w1 ⟨rfl, hb1⟩
    obtain ⟨n1, hb11, hz1⟩ := new_below hb1
    obtain ⟨⟨c0, c1, c2, c3, c4⟩, _⟩ := cells5 n1
    have HN1 := Lib.hid n1; have HB1 := Lib.hid hb11
    clear hb1 n1 hb11
    go_wp2_with fail
    refine (HF.out _ HB1.out).2.2.1.mono ?_
    rintro e w2 ⟨rfl, hb2⟩
    have HN2 := Lib.hid (block_below hb2 HN1.out); have HB2 := Lib.hid (HB1.out.trans (hb2.mono HB1.out.size))
    clear hb2 c0 c1 c2 c3 c4
    obtain ⟨⟨c0, c1, c2, c3, c4⟩, _⟩ := cells5 HN2.out
    go_wp2_with fail
    refine (HF.out _ HB2.out).2.2.2.mono ?_
    rintro e w3 ⟨rfl, hb3⟩
    have HN3 := Lib.hid (block_below hb3 HN2.out); have HB3 := Lib.hid (HB2.out.trans (hb3.mono HB2.out.size))
    clear hb3 c0 c1 c2 c3 c4
    obtain ⟨⟨c0, c1, c2, c3, c4⟩, _⟩ := cells5 HN3.out
    have k0 := kept_cell c0; have k1 := kept_cell c1; have k2 := kept_cell c2; have k3 := kept_cell c3; have k4 := kept_cell c4
    have hz3 := HB3.out.size
    have V1 := Lib.hid (fun x : Kept w3 => Kept.call (x := x) (HF.out x.W (HB3.out.trans (x.below.mono hz3))).1)
    have V2 := Lib.hid (fun x : Kept w3 => Kept.call (x := x) (HF.out x.W (HB3.out.trans (x.below.mono hz3))).2.1)
    have V3 := Lib.hid (fun x : Kept w3 => Kept.call (x := x) (HA.out x.W (HX.out.below (HB3.out.trans (x.below.mono hz3)))))
    clear c0 c1 c2 c3 c4
    go_wp2_with fail
    refine wp_region_kept (by kernel_rfl) (by kernel_rfl) ?_
    repeat (go_big_quiet_step (first | (go_at_call 11; exact V1.out _) | (go_at_call 12; exact V2.out _) | (go_at_call 8; exact V3.out _)))
    refine wpQuiet_nil ?_
    intro _ hw'
    obtain ⟨kx, hw''⟩ := hw'
    subst hw''
    have HK := Lib.hid (HB3.out.trans (kx.below.mono hz3))
    go_wp2_with fail
    go_ret
    exact ⟨rfl, HK.out⟩
  · replace hs : smallB n cs ps = false := by simpa using hs
    rw [hs] at HSM
    unfold KB fileV at *
    generalize str n = N at *
    generalize cs.length = a at *
    generalize ps.length = b at *
    clear hx hc hp hcap hs
    go_enter Tryz.func3, Tryz.ntmps3
    go_wp2_with fail
    refine (HSM.out _).mono ?_
    rintro e w1 ⟨rfl, hb1⟩
    obtain ⟨n1, hb11, hz1⟩ := new_below hb1
    have HB1 := Lib.hid hb11
    clear hb1 n1 hb11
    go_wp2_with fail
    refine (HA.out w1 (HX.out.below HB1.out)).mono ?_
    rintro e w2 ⟨rfl, hb2⟩
    have HB2 := Lib.hid (HB1.out.trans (hb2.mono HB1.out.size))
    clear hb2
    go_wp2_with fail
    go_ret
    exact ⟨rfl, HB2.out⟩
set_option maxRecDepth 100000 in
theorem w_MapfileValid {H : Type} {enc : TypeId × Value → H} {base b : Nat} {spare : Nat → Bool} {held : Bool} (w : World) (v : Value) (hv : Value.okWide Tryz.prog w .any b 27 v) {d : DataW H} {p : List MemPlace} (h : DataW.Trod enc Tryz.prog w base spare held 27 v d p) (hl : Light Tryz.prog 27 d) (hc : Ctx w) : Calls Tryz.prog 3 #[v] w (Yes w) := by
  obtain ⟨n, W, Hh, cv, pv, cs, ps, ⟨rfl, ⟨ao, c, rfl, h1⟩, ⟨po, pc, rfl, h2⟩, h3, _, _, _, _, _, _, _⟩⟩ := file_of hv h hl
  exact valid_walk n W Hh ao po c pc cs ps w hc ⟨ao, c, rfl, h1⟩ ⟨po, pc, rfl, h2⟩ h3
end Go.Proofs.YtmiceolkmiiahaaGreatDoor
