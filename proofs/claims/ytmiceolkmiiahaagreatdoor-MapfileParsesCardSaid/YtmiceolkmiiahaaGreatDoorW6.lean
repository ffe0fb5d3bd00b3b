/- Walks: a valid map. -/
import Derived.Test.YtmiceolkmiiahaaGreatDoorW5
namespace Go.Proofs.YtmiceolkmiiahaaGreatDoor
open Go.RowKit
set_option linter.unusedVariables false
set_option linter.unusedSimpArgs false
set_option maxRecDepth 100000

def mapB (W H : Int) (cs : List Cel) : Bool := fmB W H cs.length && !cs.any badC
abbrev CelSl (w : World) (v : Value) (cs : List Cel) : Prop := SlIs 3 Cel.l w v cs
abbrev PoSl (w : World) (v : Value) (ps : List Po) : Prop := SlIs 2 Po.l w v ps
theorem tValid_any (W H : Int) (v : Value) (cs : List Cel) (w : World) (h : CelSl w v cs) (hz : cs.length ≤ 1000000) : KB 31 #[mapV W H v] (.bool (mapB W H cs)) w := by
  have HS := Lib.hid h
  have H2 := fun w h => ContainsFuncC_any v cs w h hz
  obtain ⟨ao, cap, rfl, h⟩ := h
  have H1 := Lib.hid (formed_any W H ao cs.length cap)
  have H2 := Lib.hid H2
  unfold KB at *
  unfold mapV at *
  unfold mapB
  clear h
  generalize cs.any badC = B at *
  generalize fmB W H cs.length = F at *
  generalize cs.length = n at *
  cases F
  · go_enter Tryz.func31, Tryz.ntmps31
    go_wp2_with fail
    refine (H1.out _).mono ?_
    rintro e w1 ⟨rfl, hb⟩
    obtain ⟨n1, hb1, hz1⟩ := new_below hb
    go_wp2_with fail
    go_ret
    exact ⟨by simp, hb1⟩
  · go_enter Tryz.func31, Tryz.ntmps31
    go_wp2_with fail
    refine (H1.out _).mono ?_
    rintro e w1 ⟨rfl, hb⟩
    obtain ⟨n1, hb1, hz1⟩ := new_below hb
    obtain ⟨⟨c0, c1, c2⟩, _⟩ := cells3 n1
    clear hb
    go_wp2_with fail
    refine (H2.out _ (HS.out.below Cel.l_len hb1)).mono ?_
    rintro e w2 ⟨rfl, hb2⟩
    go_wp2_with fail
    go_ret
    exact ⟨by simp, hb1.trans (hb2.mono (by omega))⟩

set_option maxHeartbeats 4000000 in
theorem r7Valid_any (W H : Int) (v : Value) (cs : List Cel) (w : World) (h : CelSl w v cs) (hz : cs.length ≤ 1000000) : KB 35 #[mapV W H v] (.bool (mapB W H cs)) w := by
  have HS := Lib.hid h
  obtain ⟨ao, ca, rfl, h⟩ := h
  have HA := Lib.hid h
  have H1 := Lib.hid (r7Formed_any W H ao cs.length ca)
  have HF := Lib.hid r7ValidCell_any
  obtain ⟨n, hn⟩ : ∃ n, cs.length = n := ⟨_, rfl⟩
  obtain ⟨F, hF⟩ : ∃ F, fmB W H cs.length = F := ⟨_, rfl⟩
  obtain ⟨r, hr⟩ : ∃ r, mapB W H cs = r := ⟨_, rfl⟩
  have hrF : r = (F && !cs.any badC) := by rw [← hr, ← hF]; rfl
  rw [hr]
  rw [hF] at H1
  unfold KB at *
  unfold mapV at *
  rw [hn] at H1 hz ⊢
  have HN := Lib.hid hn; have HRF := Lib.hid hrF
  clear h hn hr hrF hF
  cases F
  · obtain rfl : r = false := by rw [HRF.out]; rfl
    go_enter Tryz.func35, Tryz.ntmps35
    go_wp2_with fail
    refine (H1.out _).mono ?_
    rintro e w1 ⟨rfl, hb⟩
    obtain ⟨n1, hb1, hz1⟩ := new_below hb
    go_wp2_with fail
    go_ret
    exact ⟨rfl, hb1⟩
  · go_enter Tryz.func35, Tryz.ntmps35
    go_wp2_with fail
    refine (H1.out _).mono ?_
    rintro e w1 ⟨rfl, hb⟩
    obtain ⟨n1, hb1, hz1⟩ := new_below hb
    have HB1 := Lib.hid hb1
    have HO := Lib.hid n1
    clear hb hb1 n1
    go_wp2_with fail
    go_loopw [3] (fun v wr => ∃ k : Nat, k ≤ n ∧ v = .int .i64 (k : Int) ∧ Below w1.heap.size w1 wr ∧ Hid (∀ j (hj : j < cs.length), j < k → badC cs[j] = false)) (fun v _ => n - (intOf v).toNat)
    case atStart => exact ⟨0, by omega, rfl, Below.refl _ _, Lib.hid (fun _ _ h => absurd h (by omega))⟩
    case round =>
      obtain ⟨k, hk, rfl, hbel, hall⟩ := hrel
      have HE := Lib.hid hbel
      have hzz := hbel.size
      obtain ⟨⟨d0, d1, d2⟩, _⟩ := cells3 (block_below hbel HO.out)
      by_cases hkn : k < n
      · have hkl : k < cs.length := by have := HN.out; omega
        obtain ⟨a, rfl, hat⟩ : ∃ a, ao = some a ∧ CelAt w a cs := HA.out.resolve_left (fun h => by rw [h] at hkl; simp at hkl)
        obtain ⟨c0, c1, c2⟩ := celAt ((hat.below Cel.l_len HB1.out).below Cel.l_len hbel) k hkl
        have HC := HF.out cs[k] 
        have HB : badC cs[k] = !celB cs[k] := rfl
        obtain ⟨⟨ck, ch, cv⟩, hx⟩ : ∃ t, cs[k] = t := ⟨_, rfl⟩
        rw [hx] at c0 c1 c2 HC HB
        dsimp only at c0 c1 c2
        obtain ⟨B, hB⟩ : ∃ B, celB ⟨ck, ch, cv⟩ = B := ⟨_, rfl⟩
        rw [hB] at HC HB
        unfold Cel.v at HC
        dsimp only at HC
        have HC := Lib.hid HC
        have e1 : (0 : Int) ≤ ((k : Int)) := by omega
        have e2 : (k : Int) < (n : Int) := by omega
        have hz1 := hbel.size
        clear hbel HF hat
        cases B
        · have hr : r = false := by
            rw [HRF.out]
            have : cs.any badC = true := List.any_eq_true.2 ⟨cs[k], List.getElem_mem _, by rw [hx]; exact HB⟩
            rw [this]; rfl
          have HRk := Lib.hid hr
          clear hB hx HB hr
          go_wp2_with fail
          refine (HC.out _).mono ?_
          rintro e w2 ⟨rfl, hb⟩
          go_wp2_with fail
          go_ret
          exact ⟨by rw [HRk.out]; rfl, HB1.out.trans ((HE.out.mono (by omega)).trans (hb.mono (by omega)))⟩
        · have hn2 : Hid (∀ j (hj : j < cs.length), j < k + 1 → badC cs[j] = false) := Lib.hid fun j hj hjk => by
            by_cases hjk' : j < k
            · exact hall.out j hj hjk'
            · obtain rfl : j = k := by omega
              rw [hx]; exact HB
          clear hB hx HB hall
          go_wp2_with fail
          refine (HC.out _).mono ?_
          rintro e w2 ⟨rfl, hb⟩
          go_wp2_with fail
          go_roundw
          case rel => exact ⟨k + 1, by omega, by go_num, HE.out.trans (hb.mono hzz), hn2⟩
          case measure => simp [intOf]; omega
      · have hr : r = true := by
          rw [HRF.out]
          have : cs.any badC = false := by
            rw [List.any_eq_false]
            intro x hx
            obtain ⟨j, hj, rfl⟩ := List.getElem_of_mem hx
            rw [hall.out j hj (by have := HN.out; omega)]; simp
          rw [this]; rfl
        have HRk := Lib.hid hr
        clear hr hbel
        go_wp2_with fail
        go_ret
        exact ⟨by rw [HRk.out]; rfl, HB1.out.trans (HE.out.mono (by omega))⟩
end Go.Proofs.YtmiceolkmiiahaaGreatDoor
