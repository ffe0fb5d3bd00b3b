/- Walks: a valid map. -/
import Derived.Test.YtmiceolkmiiahaaDoorW5
namespace Go.Proofs.YtmiceolkmiiahaaDoor
open Go.RowKit
set_option linter.unusedVariables false
set_option linter.unusedSimpArgs false
set_option maxRecDepth 100000

def mapB (W H : Int) (cs : List Cel) : Bool := fmB W H cs.length && !cs.any badC
abbrev CelSl (w : World) (v : Value) (cs : List Cel) : Prop := SlIs 3 Cel.l w v cs
abbrev PoSl (w : World) (v : Value) (ps : List Po) : Prop := SlIs 2 Po.l w v ps
theorem tValid_any (W H : Int) (v : Value) (cs : List Cel) (w : World) (h : CelSl w v cs) (hz : cs.length ≤ 1000000) : KB 27 #[mapV W H v] (.bool (mapB W H cs)) w := by
  have HS := Lib.hid h
  have H2 := fun w h => ContainsFuncC_any v cs w h hz
  obtain ⟨ao, cap, rfl, h⟩ := h
  have H1 := Lib.hid (formed_any W H ao cs.length cap)
  have H2 := Lib.hid H2
  unfold KB at *
  unfold mapV at *
  unfold mapB
  clear h
  generalize cs.any badC = B at *
  generalize fmB W H cs.length = F at *
  generalize cs.length = n at *
  cases F
  · go_enter Tryd.func27, Tryd.ntmps27
    go_wp2_with fail
    refine (H1.out _).mono ?_
    rintro e w1 ⟨rfl, hb⟩
    obtain ⟨n1, hb1, hz1⟩ := new_below hb
    go_wp2_with fail
    go_ret
    exact ⟨by simp, hb1⟩
  · go_enter Tryd.func27, Tryd.ntmps27
    go_wp2_with fail
    refine (H1.out _).mono ?_
    rintro e w1 ⟨rfl, hb⟩
    obtain ⟨n1, hb1, hz1⟩ := new_below hb
    obtain ⟨⟨c0, c1, c2⟩, _⟩ := cells3 n1
    clear hb
    go_wp2_with fail
    refine (H2.out _ (HS.out.below Cel.l_len hb1)).mono ?_
    rintro e w2 ⟨rfl, hb2⟩
    go_wp2_with fail
    go_ret
    exact ⟨by simp, hb1.trans (hb2.mono (by omega))⟩

end Go.Proofs.YtmiceolkmiiahaaDoor
