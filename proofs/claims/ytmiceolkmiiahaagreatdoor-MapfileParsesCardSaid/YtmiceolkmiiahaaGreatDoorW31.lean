/- Walks: alive. -/
import Derived.Test.YtmiceolkmiiahaaGreatDoorW30
namespace Go.Proofs.YtmiceolkmiiahaaGreatDoor
open Go.RowKit
set_option linter.unusedVariables false
set_option linter.unusedSimpArgs false
set_option maxRecDepth 100000
set_option maxHeartbeats 8000000

def aText : List UInt8 := [109, 97, 112, 32, 100, 117, 101, 108, 32, 51, 32, 49, 10, 46, 42, 46, 10, 48, 48, 48, 10, 97, 109, 111, 117, 110, 116, 32, 49, 32, 48, 32, 57, 10, 115, 116, 97, 114, 116, 32, 48, 32, 48, 10, 115, 116, 97, 114, 116, 32, 50, 32, 48, 10]
def aName : List UInt8 := [100, 117, 101, 108]
def aCs : List Cel := [⟨1, 0, 0⟩, ⟨5, 0, 9⟩, ⟨1, 0, 0⟩]
def aPs : List Po := [⟨0, 0⟩, ⟨2, 0⟩]
theorem itoa_dig (n : Nat) (h : n < 10) : Lib.itoa (n : Int) = [UInt8.ofNat (48 + n)] := by rw [dec_itoa, dec_small n h]
theorem aPrint : printL aName 3 1 aCs aPs = aText := by
  have h0 : Lib.itoa 0 = [48] := itoa_dig 0 (by decide)
  have h1 : Lib.itoa 1 = [49] := itoa_dig 1 (by decide)
  have h2 : Lib.itoa 2 = [50] := itoa_dig 2 (by decide)
  have h3 : Lib.itoa 3 = [51] := itoa_dig 3 (by decide)
  have h9 : Lib.itoa 9 = [57] := itoa_dig 9 (by decide)
  have e1 : headL aName 3 1 = [109, 97, 112, 32, 100, 117, 101, 108, 32, 51, 32, 49, 10] := by
    simp [headL, lineL, numsL, h3, h1, mapW, aName]
  have e2 : rowsL kindC 3 0 aCs = [46, 42, 46, 10] := by kernel_rfl
  have e3 : rowsL highC 3 0 aCs = [48, 48, 48, 10] := by kernel_rfl
  have e4 : amountsL 3 0 aCs = [97, 109, 111, 117, 110, 116, 32, 49, 32, 48, 32, 57, 10] := by
    simp [amountsL, aCs, richB, lineL, numsL, h0, h1, h9, amountW]
  have e5 : startsL aPs = [115, 116, 97, 114, 116, 32, 48, 32, 48, 10, 115, 116, 97, 114, 116, 32, 50, 32, 48, 10] := by
    simp [startsL, aPs, lineL, numsL, h0, h2, startW]
  unfold printL
  rw [e1, e2, e3, e4, e5]
  rfl
theorem aValid : validT (str aName) 3 1 aCs aPs = 0 := by kernel_rfl
theorem aParse : parseS aText = .good aName 3 1 aCs aPs := by kernel_rfl
theorem aParse0 : parseS [] = .bad 1 4 := by kernel_rfl
theorem aValid0 : validT (str []) 0 0 [] [] = 6 := by kernel_rfl

theorem alive_any (w : World) (hc : Ctx w) : Calls Tryz.prog 8 #[] w fun e w' => e = .returned (.bool true) ∧ Below w.heap.size w w' := by
  have HC := Lib.hid hc
  have HP := Lib.hid (fun w hc => Parse_any aText (by decide) w hc)
  have HP0 := Lib.hid (fun w hc => Parse_any [] (by decide) w hc)
  rw [aParse] at HP
  rw [aParse0] at HP0
  have HV0 := Lib.hid (fun w hc => Valid_any (str []) 0 0 (.slice none 0 0) (.slice none 0 0) [] [] w (by decide) ⟨none, 0, rfl, Or.inl rfl⟩ (by decide) ⟨none, 0, rfl, Or.inl rfl⟩ (by decide) (fun a l c h => by cases h) hc)
  rw [aValid0] at HV0
  clear hc
  go_enter Tryz.func8, Tryz.ntmps8
  go_wp2_with fail
  refine (HP.out w HC.out).mono ?_
  rintro e w1 ⟨⟨cv, pv, rfl, hcv, hpv, hcap⟩, hb⟩
  obtain ⟨ao, ca, rfl, ha⟩ := hcv
  obtain ⟨po, pc, rfl, hp⟩ := hpv
  obtain ⟨a, rfl, hat⟩ := ha.resolve_left (by decide)
  have hHC := Lib.hid (HC.out.below hb)
  obtain ⟨k0, k1, k2⟩ := celAt hat 1 (by decide)
  have HB := Lib.hid hb
  have HCV := Lib.hid (show CelSl w1 (.slice (some a) 3 ca) aCs from ⟨_, _, rfl, Or.inr ⟨a, rfl, hat⟩⟩)
  have HPV := Lib.hid (show PoSl w1 (.slice po 2 pc) aPs from ⟨_, _, rfl, hp⟩)
  have HCAP := Lib.hid hcap
  have hal := cell_lt k0
  have k2' : ∀ o, (w1.alloc o).cell? ⟨a.block, a.off + 3 + 2, none⟩ = some (.int .i64 9) := fun o => cell_below (below_new _ _) k2
  have HPR := Lib.hid (fun w' (hb' : Below w1.heap.size w1 w') => Print_ok aName (by decide) 3 1 (by decide) (.slice (some a) 3 ca) (.slice po 2 pc) aCs aPs w' (HCV.out.below hb') (by decide) (HPV.out.below hb') (by decide) (by decide) (fun p hp => by simp [aPs] at hp; rcases hp with rfl | rfl <;> (unfold I64; decide)) (hHC.out.below hb').tab
    (fun w'' hb'' => by
      have := Valid_any (str aName) 3 1 (.slice (some a) 3 ca) (.slice po 2 pc) aCs aPs w'' (by decide) ((HCV.out.below hb').below hb'') (by decide) ((HPV.out.below hb').below hb'') (by decide) HCAP.out ((hHC.out.below hb').below hb'').pass
      rwa [aValid] at this))
  rw [aPrint] at HPR
  unfold KB at HPR
  unfold fileV at *
  clear ha hp hat hb hcap k2
  go_wp2_with fail
  refine (HPR.out _ (below_new _ _)).mono ?_
  rintro e w2 ⟨rfl, hb2⟩
  have hB2 := Lib.hid (HB.out.trans ((new_below hb2).2.1.mono HB.out.size))
  have hq : ((str aText).toList == (⟨#[109, 97, 112, 32, 100, 117, 101, 108, 32, 51, 32, 49, 10, 46, 42, 46, 10, 48, 48, 48, 10, 97, 109, 111, 117, 110, 116, 32, 49, 32, 48, 32, 57, 10, 115, 116, 97, 114, 116, 32, 48, 32, 48, 10, 115, 116, 97, 114, 116, 32, 50, 32, 48, 10]⟩ : ByteArray).toList) = true := by
    show ((str aText).toList == (str aText).toList) = true
    simp
  clear hb2 k0 k1 k2'
  go_wp2_with fail
  refine (HP0.out w2 (HC.out.below hB2.out)).mono ?_
  rintro e w3 ⟨rfl, hb3⟩
  have hB3 := Lib.hid (hB2.out.trans (hb3.mono hB2.out.size))
  clear hb3
  unfold file0 fileV at *
  go_wp2_with fail
  refine (HV0.out _ ((HC.out.below hB3.out).below (below_new _ _)).pass).mono ?_
  rintro e w4 ⟨rfl, hb4⟩
  have hB4 := Lib.hid (hB3.out.trans ((new_below hb4).2.1.mono hB3.out.size))
  clear hb4
  go_wp2_with fail
  go_ret
  exact ⟨rfl, hB4.out⟩
end Go.Proofs.YtmiceolkmiiahaaGreatDoor
