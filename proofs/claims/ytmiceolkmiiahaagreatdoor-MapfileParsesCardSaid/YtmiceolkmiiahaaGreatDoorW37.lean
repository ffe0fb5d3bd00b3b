/- Walks: the reference's Same, on files that are the same. -/
import Derived.Test.YtmiceolkmiiahaaGreatDoorW36
import Derived.Test.YtmiceolkmiiahaaGreatDoorP6
namespace Go.Proofs.YtmiceolkmiiahaaGreatDoor
open Go.RowKit
set_option linter.unusedVariables false
set_option linter.unusedSimpArgs false
set_option maxRecDepth 100000
set_option maxHeartbeats 8000000

theorem r7Same_yes (W H : Int) (ao bo : Option Addr) (c d n : Nat) (cs : List Cel) (hn : cs.length = n) (hz : n ≤ 1000000) (w : World) (h1 : cs = [] ∨ ∃ a, ao = some a ∧ CelAt w a cs) (h2 : cs = [] ∨ ∃ a, bo = some a ∧ CelAt w a cs) :
    KB 46 #[mapV W H (.slice ao n c), mapV W H (.slice bo n d)] (.bool true) w := by
  have HN := Lib.hid hn; have HA := Lib.hid h1; have HB := Lib.hid h2
  clear hn h1 h2
  unfold KB mapV
  have eW : (W == W) = true := by simp
  have eH : (H == H) = true := by simp
  go_enter Tryz.func46, Tryz.ntmps46
  obtain ⟨w1, hw1⟩ : ∃ w1, (w.alloc (mapO W H (.slice ao n c) 24)).alloc (mapO W H (.slice bo n d) 24) = w1 := ⟨_, rfl⟩
  have hb1 : Below w.heap.size w w1 := by rw [← hw1]; exact (below_new _ _).alloc (by simp) _
  have hm1 : w1.heap[w.heap.size]? = some (mapO W H (.slice ao n c) 24) := by rw [← hw1, Below.heap_alloc _ _ _ (by simp)]; exact tok_new _ _
  have hm2 : w1.heap[w.heap.size + 1]? = some (mapO W H (.slice bo n d) 24) := by
    have h := tok_new (w.alloc (mapO W H (.slice ao n c) 24)) (mapO W H (.slice bo n d) 24)
    rw [tok_size, hw1] at h
    exact h
  have HB1 := Lib.hid hb1; have HM1 := Lib.hid hm1; have HM2 := Lib.hid hm2; have HW1 := Lib.hid hw1
  clear hb1 hm1 hm2 hw1
  go_wp2_with fail
  rw [HW1.out]
  clear HW1
  go_loopw [5] (fun v wr => ∃ k : Nat, k ≤ n ∧ v = .int .i64 (k : Int) ∧ Below w1.heap.size w1 wr) (fun v _ => n - (intOf v).toNat)
  case atStart => exact ⟨0, by omega, rfl, Below.refl _ _⟩
  case round =>
    obtain ⟨k, hk, rfl, hbel⟩ := hrel
    have HE := Lib.hid hbel
    obtain ⟨⟨c0, c1, c2⟩, _⟩ := cells3 (block_below hbel HM1.out)
    obtain ⟨⟨d0, d1, d2⟩, _⟩ := cells3 (block_below hbel HM2.out)
    by_cases hkn : k < n
    · have hkl : k < cs.length := by have := HN.out; omega
      have hall := HB1.out.trans (hbel.mono HB1.out.size)
      obtain ⟨a, rfl, ha⟩ := HA.out.resolve_left (fun e => by rw [e] at hkl; simp at hkl)
      obtain ⟨b, rfl, hb⟩ := HB.out.resolve_left (fun e => by rw [e] at hkl; simp at hkl)
      obtain ⟨p0, p1, p2⟩ := celAt (ha.below Cel.l_len hall) k hkl
      obtain ⟨q0, q1, q2⟩ := celAt (hb.below Cel.l_len hall) k hkl
      obtain ⟨⟨ck, ch, ca⟩, hx⟩ : ∃ t, cs[k] = t := ⟨_, rfl⟩
      rw [hx] at p0 p1 p2 q0 q1 q2
      dsimp only at p0 p1 p2 q0 q1 q2
      have e1 : (0 : Int) ≤ ((k : Int)) := by omega
      have e2 : (k : Int) < (n : Int) := by omega
      clear hall ha hb hx hbel
      go_wp2_with fail
      go_quiet (fail)
      go_wp2_with fail
      go_roundw
      case rel => exact ⟨k + 1, by omega, by go_num, by first | exact HE.out | exact HE.out.drew | exact below_dN HE.out _⟩
      case measure => simp [intOf]; omega
    · have e2 : ¬ (k : Int) < (n : Int) := by omega
      clear hbel
      go_wp2_with fail
      go_ret
      exact ⟨rfl, HB1.out.trans (HE.out.mono HB1.out.size)⟩
end Go.Proofs.YtmiceolkmiiahaaGreatDoor
