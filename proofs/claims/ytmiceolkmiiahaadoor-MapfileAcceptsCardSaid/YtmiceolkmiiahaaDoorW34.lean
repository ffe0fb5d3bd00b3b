/- Walks: what Parse accepts is printed again (another seat). -/
import Derived.Test.YtmiceolkmiiahaaDoorW33
import Derived.Test.YtmiceolkmiiahaaDoorP4
namespace Go.Proofs.YtmiceolkmiiahaaDoor
open Go.RowKit
set_option linter.unusedVariables false
set_option linter.unusedSimpArgs false
set_option maxRecDepth 100000
set_option maxHeartbeats 8000000

/-- Valid and Print of a file that is valid. -/
theorem Print_valid {n : List UInt8} {W H : Int} {cv pv : Value} {cs : List Cel} {ps : List Po} (h : validT (str n) W H cs ps = 0) {w0 : World} (hc : CelSl w0 cv cs) (hp : PoSl w0 pv ps) (hcap : CapOk pv) (hx : Ctx w0) (w : World) (hb : Below w0.heap.size w0 w) :
    KB 9 #[fileV (str n) W H cv pv] (.int .i64 0) w ∧ KB 8 #[fileV (str n) W H cv pv] (.tuple #[.string (str (printL n W H cs ps)), .int .i64 0]) w := by
  obtain ⟨h1, h2, ⟨_, h3⟩, h4, h5, h6⟩ := valid_facts h
  have key : ∀ w', Below w0.heap.size w0 w' → KB 9 #[fileV (str n) W H cv pv] (.int .i64 0) w' := fun w' hb' => by
    have := Valid_any (str n) W H cv pv cs ps w' (by rw [str_size]; omega) (hc.below hb') (by omega) (hp.below hb') (by omega) hcap (hx.below hb').pass
    rwa [h] at this
  exact ⟨key w hb, Print_ok n (by omega) W H h2 cv pv cs ps w (hc.below hb) (by omega) (hp.below hb) (by omega) h4 (fun p hp => by obtain ⟨⟨a, b⟩, c, d⟩ := h6 p hp; exact ⟨⟨by omega, by omega⟩, by omega, by omega⟩) (hx.below hb).tab
    (fun w' hb' => key w' (hb.trans (hb'.mono hb.size)))⟩
theorem w_MapfileAccepts (a : ByteArray) (z : a.size ≤ 140737488351232) (w : World) (hc : Ctx w) : Calls Tryd.prog 4 #[.string a] w fun e w' => e = .returned (.bool true) ∧ Below w.heap.size w w' := by
  have HA := Lib.hid alive_any
  have HC := Lib.hid hc
  clear hc
  by_cases h1 : 6000 < a.size
  · have e1 : (6000 : Int) < (a.size : Int) := by omega
    go_enter Tryd.func4, Tryd.ntmps4
    go_wp2_with fail
    refine (HA.out w HC.out).mono ?_
    rintro e w1 ⟨rfl, hb⟩
    go_wp2_with fail
    go_ret
    exact ⟨rfl, hb⟩
  · have e1 : ¬ (6000 : Int) < (a.size : Int) := by omega
    have HP := Lib.hid (Parse_any a.data.toList (by rw [← Lib.size_eq]; omega) w HC.out)
    rw [str_of] at HP
    rcases hr : parseS a.data.toList with ⟨l, er⟩ | ⟨n, W, H, cs, ps⟩
    · rw [hr] at HP
      have hne : (er != 0) = true := by simpa using parse_ne hr
      clear hr
      go_enter Tryd.func4, Tryd.ntmps4
      go_wp2_with fail
      refine HP.out.mono ?_
      rintro e w1 ⟨rfl, hb⟩
      have HB := Lib.hid hb
      have hA2 := Lib.hid (HA.out _ ((HC.out.below hb).below (below_new w1 (fO (str []) 0 0 (.slice none 0 0) (.slice none 0 0)))))
      unfold file0 fileV at *
      clear hb
      go_wp2_with fail
      refine hA2.out.mono ?_
      rintro e w2 ⟨rfl, hb2⟩
      go_wp2_with fail
      go_ret
      exact ⟨rfl, HB.out.trans ((new_below hb2).2.1.mono HB.out.size)⟩
    · rw [hr] at HP
      obtain ⟨t1, t2⟩ := parse_text hr
      have T1 := Lib.hid t1; have T2 := Lib.hid t2
      have hq : (a.toList == a.toList) = true := by simp
      clear hr t1 t2
      go_enter Tryd.func4, Tryd.ntmps4
      go_wp2_with fail
      refine HP.out.mono ?_
      rintro e w1 ⟨⟨cv, pv, rfl, hcv, hpv, hcap⟩, hb⟩
      have hcv' := hcv; have hpv' := hpv
      obtain ⟨ao, ca, rfl, _⟩ := hcv'
      obtain ⟨po, pc, rfl, _⟩ := hpv'
      have HB := Lib.hid hb
      have HV := Lib.hid (fun w hb' => Print_valid T2.out hcv hpv hcap (HC.out.below hb) w hb')
      rw [T1.out, str_of] at HV
      unfold fileV KB at *
      have hA2 := Lib.hid (fun w hb' => HA.out w ((HC.out.below HB.out).below (w' := w) hb'))
      clear hb hcv hpv hcap
      go_wp2_with fail
      refine (HV.out _ (below_new _ _)).2.mono ?_
      rintro e w2 ⟨rfl, hb2⟩
      obtain ⟨n1, hb21, hz1⟩ := new_below hb2
      obtain ⟨⟨c0, c1, c2, c3, c4⟩, _⟩ := cells5 n1
      have HB2 := Lib.hid hb21
      clear hb2 n1 hb21
      go_wp2_with fail
      refine (HV.out _ HB2.out).1.mono ?_
      rintro e w3 ⟨rfl, hb3⟩
      have HB3 := Lib.hid (HB2.out.trans (hb3.mono HB2.out.size))
      clear hb3
      go_wp2_with fail
      refine (hA2.out _ HB3.out).mono ?_
      rintro e w4 ⟨rfl, hb4⟩
      go_wp2_with fail
      go_ret
      exact ⟨rfl, HB.out.trans ((HB3.out.trans (hb4.mono HB3.out.size)).mono HB.out.size)⟩
end Go.Proofs.YtmiceolkmiiahaaDoor
