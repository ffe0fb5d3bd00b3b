/- Walks: the reference's Valid. -/
import Derived.Test.YtmiceolkmiiahaaGreatDoorW12
namespace Go.Proofs.YtmiceolkmiiahaaGreatDoor
open Go.RowKit
set_option linter.unusedVariables false
set_option linter.unusedSimpArgs false
set_option maxRecDepth 100000
set_option maxHeartbeats 8000000

theorem contains_take (ps : List Po) (p : Po) (k : Nat) : (ps.take k).contains p = true ↔ ∃ j, ∃ (h : j < ps.length), j < k ∧ ps[j] = p := by
  rw [List.contains_iff_mem, List.mem_take_iff_getElem]
  constructor
  · rintro ⟨j, hj, h⟩
    exact ⟨j, by omega, by omega, h⟩
  · rintro ⟨j, h1, h2, h⟩
    exact ⟨j, by omega, h⟩
theorem rValid_run (n : ByteArray) (a : Addr) (l ca : Nat) (W H : Int) (cv : Value) (ps : List Po) (P : Po → Bool) (hps : ps.length = l) (h1 : KC 34 #[.string n] (.bool true)) (w : World) (h2 : ∀ w', Below w.heap.size w w' → KB 35 #[mapV W H cv] (.bool true) w')
    (hl : 2 ≤ l ∧ l ≤ 6) (ha : PoAt w a ps) (h3 : ∀ p w', Below w.heap.size w w' → KB 36 #[mapV W H cv, .int .i64 1, p.v] (.bool (P p)) w') : KB 12 #[fileV n W H cv (.slice (some a) l ca)] (.int .i64 (startsE P [] ps)) w := by
  have H1 := Lib.hid h1; have H2 := Lib.hid h2; have H3 := Lib.hid h3
  have HA := Lib.hid ha; have HN := Lib.hid hps
  obtain ⟨r, hr⟩ : ∃ r, startsE P [] ps = r := ⟨_, rfl⟩
  rw [hr]
  have HR := Lib.hid hr
  clear h1 h2 h3 ha hps hr
  unfold KB fileV mapV at *
  have e1 : ¬ (l : Int) < 2 := by omega
  have e2 : ¬ (6 : Int) < (l : Int) := by omega
  go_enter Tryz.func12, Tryz.ntmps12
  go_wp2_with fail
  refine (H1.out _).mono ?_
  rintro e w1 ⟨rfl, rfl⟩
  go_wp2_with fail
  refine (H2.out _ (below_new _ _)).mono ?_
  rintro e w1 ⟨rfl, hb⟩
  obtain ⟨n1, hb1, hz1⟩ := new_below hb
  obtain ⟨⟨c0, c1, c2, c3, c4⟩, _⟩ := cells5 n1
  have HB1 := Lib.hid hb1; have HO := Lib.hid n1
  clear hb hb1 n1
  go_wp2_with fail
  clear c0 c1 c2 c3 c4
  go_loopw [3] (fun v wr => ∃ k : Nat, k ≤ l ∧ v = .int .i64 (k : Int) ∧ Below w1.heap.size w1 wr ∧ Hid (startsE P (ps.take k) (ps.drop k) = r)) (fun v _ => l - (intOf v).toNat)
  case atStart => exact ⟨0, by omega, rfl, Below.refl _ _, HR⟩
  case round =>
    obtain ⟨k, hk, rfl, hbel, hall⟩ := hrel
    have HE := Lib.hid hbel
    have hzz := hbel.size
    obtain ⟨⟨c0, c1, c2, c3, c4⟩, _⟩ := cells5 (block_below hbel HO.out)
    by_cases hkn : k < l
    · have hkl : k < ps.length := by have := HN.out; omega
      obtain ⟨p0, p1⟩ := poAt ((HA.out.below Po.l_len HB1.out).below Po.l_len hbel) k hkl
      have hs := startsE_at P ps k hkl
      rw [hall.out] at hs
      obtain ⟨⟨x, y⟩, hx⟩ : ∃ t, ps[k] = t := ⟨_, rfl⟩
      rw [hx] at p0 p1 hs
      dsimp only at p0 p1
      have HP := Lib.hid (H3.out ⟨x, y⟩)
      obtain ⟨bp, hbp⟩ : ∃ b, P ⟨x, y⟩ = b := ⟨_, rfl⟩
      rw [hbp] at HP hs
      unfold Po.v at HP
      dsimp only at HP
      have e3 : (0 : Int) ≤ ((k : Int)) := by omega
      have e4 : (k : Int) < (l : Int) := by omega
      have HX := Lib.hid hx
      have k1 := kept_cell c1; have k2 := kept_cell c2; have k3 := kept_cell c3; have k4 := kept_cell c4
      have kp0 := kept_cell p0; have kp1 := kept_cell p1
      have HBW := Lib.hid (HB1.out.trans (HE.out.mono (by omega)))
      clear hbp hx hall hbel p0 p1 c0 c1 c2 c3
      cases bp
      · rw [if_pos rfl] at hs
        have HRk := Lib.hid hs
        clear hs
        go_wp2_with fail
        refine wp_region_kept (by kernel_rfl) (by kernel_rfl) ?_
        repeat (go_big_quiet_step ((go_at_call 36; exact Kept.call (HP.out _ (HBW.out.trans ((Kept.below _).mono (by first | exact HBW.out.size | omega)))))))
        refine wpQuiet_nil ?_
        intro _ hw'
        obtain ⟨kx, hw''⟩ := hw'
        subst hw''
        go_wp2_with fail
        go_ret
        exact ⟨by rw [HRk.out]; rfl, HBW.out.trans (kx.below.mono (by first | exact HBW.out.size | omega))⟩
      · rw [if_neg (by simp)] at hs
        have HS := Lib.hid hs
        clear hs
        go_wp2_with fail
        refine wp_region_kept (by kernel_rfl) (by kernel_rfl) ?_
        repeat (go_big_quiet_step ((go_at_call 36; exact Kept.call (HP.out _ (HBW.out.trans ((Kept.below _).mono (by first | exact HBW.out.size | omega)))))))
        refine wpQuiet_nil ?_
        intro _ hw'
        obtain ⟨kx, hw''⟩ := hw'
        subst hw''
        have hkz := kx.below.size
        have HKB := Lib.hid kx.below
        generalize kx.W = wk at *
        obtain ⟨⟨c0, c1, c2, c3, c4⟩, _⟩ := cells5 (block_below (HE.out.trans (HKB.out.mono (by omega))) HO.out)
        have HD := Lib.hid ((((HA.out.below Po.l_len HB1.out).below Po.l_len HE.out)).below Po.l_len HKB.out)
        obtain ⟨p0, p1⟩ := poAt HD.out k hkl
        rw [HX.out] at p0 p1
        dsimp only at p0 p1
        go_wp2_with fail
        go_loopw [4] (fun v wr' => ∃ j m : Nat, j ≤ k ∧ v = .int .i64 (j : Int) ∧ wr' = wk.drewN m ∧ Hid (∀ i (hi : i < ps.length), i < j → isP ps[i] ⟨x, y⟩ = false)) (fun v _ => k - (intOf v).toNat)
        case atStart => exact ⟨0, 0, by omega, rfl, rfl, Lib.hid (fun _ _ h => absurd h (by omega))⟩
        case round =>
          obtain ⟨j, m, hj, rfl, rfl, hno⟩ := hrel
          by_cases hjk : j < k
          · have hjl : j < ps.length := by omega
            obtain ⟨q0, q1⟩ := poAt HD.out j hjl
            obtain ⟨⟨qx, qy⟩, hq⟩ : ∃ t, ps[j] = t := ⟨_, rfl⟩
            rw [hq] at q0 q1
            dsimp only at q0 q1
            have e5 : (0 : Int) ≤ ((j : Int)) := by omega
            have e6 : (j : Int) < (l : Int) := by omega
            have e7 : (j : Int) < (k : Int) := by omega
            have HB : isP ps[j] ⟨x, y⟩ = ((qx == x) && (qy == y)) := by rw [hq]; rfl
            have HQ := Lib.hid hq
            clear hq
            by_cases hB : isP ps[j] ⟨x, y⟩ = true
            · have hc : (ps.take k).contains ⟨x, y⟩ = true := (contains_take _ _ _).2 ⟨j, hjl, hjk, by rw [isP_eq] at hB; exact of_decide_eq_true hB⟩
              have hr := HS.out
              rw [if_pos hc] at hr
              have HRk := Lib.hid hr
              rw [HB, Bool.and_eq_true] at hB
              obtain ⟨b1, b2⟩ := hB
              clear HB hr hc
              go_wp2_with fail
              go_quiet (fail)
              go_wp2_with fail
              go_ret
              exact ⟨by rw [HRk.out]; rfl, by repeat' (first | exact HBW.out.trans (HKB.out.mono (by first | exact HBW.out.size | omega)) | refine below_dN ?_ _ | refine Below.drew ?_)⟩
            · have hB : isP ps[j] ⟨x, y⟩ = false := by simpa using hB
              have hn2 : Hid (∀ i (hi : i < ps.length), i < j + 1 → isP ps[i] ⟨x, y⟩ = false) := Lib.hid fun i hi hij => by
                by_cases hij' : i < j
                · exact hno.out i hi hij'
                · obtain rfl : i = j := by omega
                  exact hB
              rw [HB] at hB
              clear HB hno
              cases b1 : (qx == x)
              · clear hB
                go_wp2_with fail
                go_quiet (fail)
                go_wp2_with fail
                go_roundw
                case rel => exact ⟨j + 1, _, by omega, by go_num, rfl, hn2⟩
                case measure => simp [intOf]; omega
              · rw [b1] at hB
                have b2 : (qy == y) = false := by simpa using hB
                clear hB
                go_wp2_with fail
                go_quiet (fail)
                go_wp2_with fail
                go_roundw
                case rel => exact ⟨j + 1, _, by omega, by go_num, rfl, hn2⟩
                case measure => simp [intOf]; omega
          · have hc : ¬ (ps.take k).contains ⟨x, y⟩ = true := fun hc => by
              obtain ⟨i, hi, hik, he⟩ := (contains_take _ _ _).1 hc
              have := hno.out i hi (by omega)
              rw [isP_eq, he] at this
              simp at this
            have hr := HS.out
            rw [if_neg hc] at hr
            have HRk := Lib.hid hr.symm
            clear hr hc
            have e7 : ¬ (j : Int) < (k : Int) := by omega
            go_wp2_with fail
            go_roundw
            case rel => exact ⟨k + 1, by omega, by go_num, below_dN (HE.out.trans (HKB.out.mono (by omega))) _, HRk⟩
            case measure => simp [intOf]; omega
    · have hr : r = 0 := by
        have := hall.out
        rw [List.drop_of_length_le (by have := HN.out; omega)] at this
        exact this.symm
      have HRk := Lib.hid hr
      clear hr hbel
      go_wp2_with fail
      go_ret
      exact ⟨by rw [HRk.out]; rfl, HB1.out.trans (HE.out.mono (by omega))⟩
end Go.Proofs.YtmiceolkmiiahaaGreatDoor
