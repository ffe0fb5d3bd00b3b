/- Valid, of both. -/
import Derived.Test.YtmiceolkmiiahaaGreatDoorW13
namespace Go.Proofs.YtmiceolkmiiahaaGreatDoor
open Go.RowKit
set_option linter.unusedVariables false
set_option linter.unusedSimpArgs false

def CapOk (v : Value) : Prop := ∀ a l c, v = .slice (some a) l c → l ≤ c
theorem PoSl.below {w w' : World} {v : Value} {ps : List Po} (h : PoSl w v ps) (hb : Below w.heap.size w w') : PoSl w' v ps := SlIs.below Po.l_len h hb
theorem CelSl.below {w w' : World} {v : Value} {cs : List Cel} (h : CelSl w v cs) (hb : Below w.heap.size w w') : CelSl w' v cs := SlIs.below Cel.l_len h hb
theorem Valid_any (n : ByteArray) (W H : Int) (cv pv : Value) (cs : List Cel) (ps : List Po) (w : World) (hz : n.size ≤ 1000000) (hc : CelSl w cv cs) (hcz : cs.length ≤ 1000000) (hp : PoSl w pv ps) (hpz : ps.length ≤ 1000000) (hcap : CapOk pv) (hP : Pass w) :
    KB 11 #[fileV n W H cv pv] (.int .i64 (validT n W H cs ps)) w := by
  have h1 := name_any n hz
  unfold validT
  cases hn : nameB n with
  | false => rw [hn] at h1; rw [if_pos rfl]; exact Valid_e6 n pv W H cv h1 w
  | true =>
    rw [hn] at h1
    rw [if_neg (by simp)]
    have h2 := fun w' (hb : Below w.heap.size w w') => tValid_any W H cv cs w' (hc.below hb) hcz
    cases hm : mapB W H cs with
    | false => rw [hm] at h2; rw [if_pos rfl]; exact Valid_e1 n pv W H cv h1 w h2
    | true =>
      rw [hm] at h2
      rw [if_neg (by simp)]
      obtain ⟨ao, ca, rfl, hp⟩ := hp
      by_cases hl : ps.length < 2 ∨ 6 < ps.length
      · rw [if_pos hl]
        exact Valid_e2 n ao _ ca W H cv h1 w h2 hl hpz
      · rw [if_neg hl]
        obtain ⟨a, rfl, ha⟩ := hp.resolve_left (fun h => by rw [h] at hl; simp at hl)
        refine Valid_run n a _ ca W H cv ps (passB W H cs) rfl h1 w h2 (by omega) (hcap a _ ca rfl) ha (fun p w' hb => Passable_any W H cv cs p w' (hc.below hb) hcz hm (hP.below hb)) ?_
        intro p k hk w' hb
        have hk' : (ps.take k).length = k := by rw [List.length_take]; omega
        refine ContainsP_any p _ (ps.take k) w' ⟨some a, ca, by rw [hk'], Or.inr ⟨a, rfl, slAt_take (ha.below Po.l_len hb) k⟩⟩ (by omega)
theorem rValid_any (n : ByteArray) (W H : Int) (cv pv : Value) (cs : List Cel) (ps : List Po) (w : World) (hz : n.size ≤ 1000000) (hc : CelSl w cv cs) (hcz : cs.length ≤ 1000000) (hp : PoSl w pv ps) (hpz : ps.length ≤ 1000000) :
    KB 12 #[fileV n W H cv pv] (.int .i64 (validT n W H cs ps)) w := by
  have h1 := rName_any n hz
  unfold validT
  cases hn : nameB n with
  | false => rw [hn] at h1; rw [if_pos rfl]; exact rValid_e6 n pv W H cv h1 w
  | true =>
    rw [hn] at h1
    rw [if_neg (by simp)]
    have h2 := fun w' (hb : Below w.heap.size w w') => r7Valid_any W H cv cs w' (hc.below hb) hcz
    cases hm : mapB W H cs with
    | false => rw [hm] at h2; rw [if_pos rfl]; exact rValid_e1 n pv W H cv h1 w h2
    | true =>
      rw [hm] at h2
      rw [if_neg (by simp)]
      obtain ⟨ao, ca, rfl, hp⟩ := hp
      by_cases hl : ps.length < 2 ∨ 6 < ps.length
      · rw [if_pos hl]
        exact rValid_e2 n ao _ ca W H cv h1 w h2 hl hpz
      · rw [if_neg hl]
        obtain ⟨a, rfl, ha⟩ := hp.resolve_left (fun h => by rw [h] at hl; simp at hl)
        exact rValid_run n a _ ca W H cv ps (passB W H cs) rfl h1 w h2 (by omega) ha (fun p w' hb => r7Passable_any W H cv cs p w' (hc.below hb) hcz)
end Go.Proofs.YtmiceolkmiiahaaGreatDoor
