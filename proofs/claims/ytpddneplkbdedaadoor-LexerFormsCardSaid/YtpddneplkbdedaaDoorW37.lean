/- Walk of LexerForms. -/
import Derived.Test.YtpddneplkbdedaaDoorW36
import Derived.Test.YtpddneplkbdedaaDoorKept
namespace Go.Proofs.YtpddneplkbdedaaDoor
open Go.RowKit
set_option linter.unusedVariables false
set_option linter.unusedSimpArgs false

set_option maxRecDepth 100000 in
set_option maxHeartbeats 8000000 in
theorem forms_ok (s : ByteArray) (h2 : s.size ≤ 6000) (R : List Tk) (n : Nat) (hn : R.length = n) (hn1 : 1 ≤ n) (hn2 : n ≤ 6000) (hok : okT 1 R = true) (hfit : Fits R)
    (w : World) (hc : Ctx w) (H1 : Calls Tryd.prog 10 #[.string s] w fun e w' => ∃ a ca, e = .returned (.tuple #[.slice (some a) n ca, .int .i64 0, .int .i64 0]) ∧ TokAt w' a R ∧ Below w.heap.size w w') :
    Calls Tryd.prog 8 #[.string s] w (Yes w) := by
  have HC := Lib.hid hc; have HT := Lib.hid H1; have HN := Lib.hid hn; have HOK := Lib.hid hok; have HF := Lib.hid hfit
  clear hc H1 hn hok hfit
  go_enter Tryd.func8, Tryd.ntmps8
  go_wp2_with fail
  refine HT.out.mono ?_
  rintro e w1 ⟨a, ca, rfl, hta, hb1⟩
  have HA := Lib.hid hta
  have HB1 := Lib.hid hb1
  have hz1 := hb1.size
  clear hta hb1 HT
  go_wp2_with fail
  go_loopw [32] (fun i wr => ∃ k : Nat, k ≤ n ∧ i = .int .i64 (k : Int) ∧ Below w1.heap.size w1 wr) (fun i _ => n - (intOf i).toNat)
  case atStart => exact ⟨0, by omega, rfl, Below.refl _ _⟩
  case round =>
    obtain ⟨k, hk, rfl, hbel⟩ := hrel
    have HE := Lib.hid hbel
    have hz := hbel.size
    by_cases hkn : k < n
    · have hkl : k < R.length := by have := HN.out; omega
      have hTA := HA.out.below hbel
      obtain ⟨c0, c1, c2⟩ := hTA k hkl
      obtain ⟨hv, hl1, hlp⟩ := okT_at R HOK.out k hkl
      have htx := (HF.out.2 k hkl).1
      have hform := Lib.hid (fun w => form_any R[k].1 R[k].2.1 R[k].2.2 htx w)
      rw [form_valid, hv] at hform
      clear hbel hv
      by_cases hk0 : k = 0
      · obtain ⟨⟨kd, ln, tx⟩, hx⟩ : ∃ t, R[k] = t := ⟨_, rfl⟩
        rw [hx] at c0 c1 c2 hform hl1
        dsimp only at c0 c1 c2 hform hl1
        generalize str tx = sx at *
        have e1 : (0 : Int) ≤ ((k : Int)) := by omega
        have e2 : (k : Int) < (n : Int) := by omega
        have d1 : decide (ln < 1) = false := decide_eq_false (by omega)
        have k0 := kept_cell c0; have k1 := kept_cell c1; have k2 := kept_cell c2
        clear c0 c1 c2
        have e3 : (k : Int) ≤ 0 := by omega
        have d2 : decide (0 < k) = false := decide_eq_false (by omega)
        clear hx hlp htx hTA hk0
        go_wp2_with fail
        refine wp_region_kept (by kernel_rfl) (by kernel_rfl) ?_
        repeat (go_big_quiet_step ((go_at_call 18; exact Kept.call (hform.out _))))
        refine wpQuiet_nil ?_
        intro _ hw'
        obtain ⟨kx, hw''⟩ := hw'
        subst hw''
        have HK := Lib.hid (HE.out.trans (kx.below.mono hz))
        go_wp2_with fail
        go_roundw
        case rel => exact ⟨k + 1, by omega, by go_num, HK.out⟩
        case measure => simp [intOf]; omega
      · obtain ⟨j, rfl⟩ : ∃ j, k = j + 1 := ⟨k - 1, by omega⟩
        clear hk0
        obtain ⟨⟨kd, ln, tx⟩, hx⟩ : ∃ t, R[j + 1] = t := ⟨_, rfl⟩
        rw [hx] at c0 c1 c2 hform hl1 hlp
        dsimp only at c0 c1 c2 hform hl1 hlp
        generalize str tx = sx at *
        have e1 : (0 : Int) ≤ ((j : Int)) := by omega
        have e2 : (j : Int) + 1 < (n : Int) := by omega
        have d1 : decide (ln < 1) = false := decide_eq_false (by omega)
        have k0 := kept_cell c0; have k1 := kept_cell c1; have k2 := kept_cell c2
        clear c0 c1 c2
        have e3 : (j : Int) < (n : Int) := by omega
        obtain ⟨b0, b1, b2⟩ := hTA j (by omega)
        have hpp := hlp (by omega)
        simp only [Nat.add_sub_cancel] at hpp
        obtain ⟨lp, hlpe⟩ : ∃ z, R[j].2.1 = z := ⟨_, rfl⟩
        rw [hlpe] at b1 hpp
        have d3 : decide (ln < lp) = false := decide_eq_false (by omega)
        have k3 := kept_cell b1
        clear hx htx hTA b0 b1 b2 hlp hlpe
        go_wp2_with fail
        refine wp_region_kept (by kernel_rfl) (by kernel_rfl) ?_
        repeat (go_big_quiet_step ((go_at_call 18; exact Kept.call (hform.out _))))
        refine wpQuiet_nil ?_
        intro _ hw'
        obtain ⟨kx, hw''⟩ := hw'
        subst hw''
        have HK := Lib.hid (HE.out.trans (kx.below.mono hz))
        go_wp2_with fail
        go_roundw
        case rel => exact ⟨j + 1 + 1, by omega, by go_num, HK.out⟩
        case measure => simp [intOf]; omega
    · have hTAk := Lib.hid (HA.out.below HE.out)
      have HBk := Lib.hid (HB1.out.trans (HE.out.mono hz1))
      have hzk := HBk.out.size
      obtain ⟨⟨st, er⟩, hR⟩ : ∃ r, joinL R = r := ⟨_, rfl⟩
      have hlim := join_lim R HOK.out
      have hrt := join_round R st
      have hsl := joinL_len R st
      have W1 := fun w hc h => join_any (.slice (some a) n ca) R HF.out w hc h
      have hsl2 : ∀ w, TokAt w a R → TokSl w (.slice (some a) n ca) R := fun w h => ⟨some a, ca, by rw [HN.out], Or.inr ⟨a, rfl, h⟩⟩
      have HSL := Lib.hid hsl2
      clear hsl2
      rw [hR] at W1 hlim hrt hsl
      unfold JPost at W1
      dsimp only at W1 hlim
      have hlen : R.length ≤ 1000000 := HF.out.1
      by_cases h0 : er = 0
      · subst h0
        have W2 := fun w hw => tok_any st (by have := hsl rfl; omega) w hw
        rw [hrt rfl] at W2
        have H1 := Lib.hid W1; have H2 := Lib.hid W2
        clear W1 W2 hR hlim hrt hsl hbel
        generalize str st = sR at *
        go_wp2_with fail
        refine (H1.out _ (HC.out.below HBk.out) (HSL.out _ hTAk.out)).mono ?_
        rintro e w2 ⟨rfl, hb2⟩
        have hTA2 := Lib.hid (hTAk.out.below hb2)
        have HB2 := Lib.hid (HBk.out.trans (hb2.mono hzk))
        have hz2 := HB2.out.size
        clear hb2
        go_wp2_with fail
        refine (H2.out _ (HC.out.below HB2.out)).mono ?_
        rintro e w3 ⟨v3, rfl, ho3, hb3⟩
        have HS3 := Lib.hid (sl_of_owns ho3)
        have hTA3 := Lib.hid (hTA2.out.below hb3)
        have HB3 := Lib.hid (HB2.out.trans (hb3.mono hz2))
        have hz3 := HB3.out.size
        clear hb3 ho3
        go_wp2_with fail
        refine (same_any _ v3 R R w3 (HSL.out _ hTA3.out) HS3.out hlen hlen).mono ?_
        rw [decide_eq_true rfl]
        rintro e w4 ⟨rfl, hb4⟩
        have HB4 := Lib.hid (HB3.out.trans (hb4.mono hz3))
        have hz4 := HB4.out.size
        clear hb4
        go_wp2_with fail
        refine (alive_any _ (HC.out.below HB4.out)).mono ?_
        rintro e w5 ⟨rfl, hb5⟩
        go_wp2_with fail
        go_ret
        exact ⟨rfl, HB4.out.trans (hb5.mono hz4)⟩
      · obtain rfl : er = 2 := hlim h0
        have H1 := Lib.hid W1
        clear W1 hR hlim hrt hsl hbel h0
        generalize str st = sR at *
        go_wp2_with fail
        refine (H1.out _ (HC.out.below HBk.out) (HSL.out _ hTAk.out)).mono ?_
        rintro e w2 ⟨rfl, hb2⟩
        have HB2 := Lib.hid (HBk.out.trans (hb2.mono hzk))
        have hz2 := HB2.out.size
        clear hb2
        go_wp2_with fail
        refine (alive_any _ (HC.out.below HB2.out)).mono ?_
        rintro e w5 ⟨rfl, hb5⟩
        go_wp2_with fail
        go_ret
        exact ⟨rfl, HB2.out.trans (hb5.mono hz2)⟩

set_option maxRecDepth 100000 in
theorem forms_nil (s : ByteArray) (h2 : s.size ≤ 6000) (w : World) (hc : Ctx w)
    (H1 : Calls Tryd.prog 10 #[.string s] w fun e w' => ∃ ao ca, e = .returned (.tuple #[.slice ao 0 ca, .int .i64 0, .int .i64 0]) ∧ Below w.heap.size w w') :
    Calls Tryd.prog 8 #[.string s] w (Yes w) := by
  have HC := Lib.hid hc; have HT := Lib.hid H1
  have W2 := fun w hw => tok_any [] (by simp) w hw
  have ht : tokL [] = ([], 0, 0) := by decide +kernel
  rw [ht] at W2
  have H2 := Lib.hid W2
  clear hc H1 W2 ht
  go_enter Tryd.func8, Tryd.ntmps8
  go_wp2_with fail
  refine HT.out.mono ?_
  rintro e w1 ⟨ao, ca, rfl, hb1⟩
  have HB1 := Lib.hid hb1
  have hz1 := hb1.size
  clear hb1 HT
  go_wp2_with fail
  refine wp_loop_rounds 1 ?_
  rw [rounds_succ]
  go_wp2_with fail
  refine (join_nil ao ca w1 (HC.out.below HB1.out)).mono ?_
  rintro e w2 ⟨rfl, hb2⟩
  have HB2 := Lib.hid (HB1.out.trans (hb2.mono hz1))
  have hz2 := HB2.out.size
  clear hb2
  go_wp2_with fail
  refine (H2.out _ (HC.out.below HB2.out)).mono ?_
  rintro e w3 ⟨v3, rfl, ho3, hb3⟩
  obtain ⟨bo, cb, rfl⟩ : ∃ bo cb, v3 = .slice bo 0 cb := by
    obtain ⟨ao, cp, h, _⟩ := sl_of_owns (ts := []) ho3
    exact ⟨ao, cp, h⟩
  have HB3 := Lib.hid (HB2.out.trans (hb3.mono hz2))
  have hz3 := HB3.out.size
  clear hb3 ho3
  go_wp2_with fail
  refine (same_nil ao bo ca cb w3).mono ?_
  rintro e w4 ⟨rfl, hb4⟩
  have HB4 := Lib.hid (HB3.out.trans (hb4.mono hz3))
  have hz4 := HB4.out.size
  clear hb4
  go_wp2_with fail
  refine (alive_any _ (HC.out.below HB4.out)).mono ?_
  rintro e w5 ⟨rfl, hb5⟩
  go_wp2_with fail
  go_ret
  exact ⟨rfl, HB4.out.trans (hb5.mono hz4)⟩

theorem forms_bad (s : ByteArray) (h2 : s.size ≤ 6000) (ln er : Int) (h0 : (er != 0) = true) (w : World) (hc : Ctx w)
    (H1 : Calls Tryd.prog 10 #[.string s] w fun e w' => ∃ ao ca, e = .returned (.tuple #[.slice ao 0 ca, .int .i64 ln, .int .i64 er]) ∧ Below w.heap.size w w') :
    Calls Tryd.prog 8 #[.string s] w (Yes w) := by
  have HC := Lib.hid hc; have HT := Lib.hid H1
  clear hc H1
  go_enter Tryd.func8, Tryd.ntmps8
  go_wp2_with fail
  refine HT.out.mono ?_
  rintro e w1 ⟨ao, ca, rfl, hb1⟩
  have HB1 := Lib.hid hb1
  have hz1 := hb1.size
  clear hb1 HT
  go_wp2_with fail
  refine (alive_any _ (HC.out.below HB1.out)).mono ?_
  rintro e w5 ⟨rfl, hb5⟩
  go_wp2_with fail
  go_ret
  exact ⟨rfl, HB1.out.trans (hb5.mono hz1)⟩

theorem w_LexerForms (s : ByteArray) (z : s.size ≤ 140737488351232) (w : World) (hc : Ctx w) : Calls Tryd.prog 8 #[.string s] w (Yes w) := by
  by_cases h : 6000 < s.size
  · have HC := Lib.hid hc
    clear hc
    go_enter Tryd.func8, Tryd.ntmps8
    go_wp2_with fail
    refine (alive_any _ HC.out).mono ?_
    rintro e w1 ⟨rfl, hb⟩
    go_wp2_with fail
    go_ret
    exact ⟨rfl, hb⟩
  · have h2 : s.size ≤ 6000 := by omega
    have hl : s.data.toList.length ≤ 1000000 := by rw [← str_size s.data.toList, str_of]; omega
    have hlen := tokL_len s.data.toList
    have hl2 : s.data.toList.length = s.size := by rw [← str_size s.data.toList, str_of]
    have hok := tokL_ok s.data.toList
    have hbad := tokL_bad s.data.toList
    have hfit := tokL_fits s.data.toList
    have W1 := tok_any s.data.toList hl w hc
    rw [str_of] at W1
    obtain ⟨⟨R, ln, er⟩, hR⟩ : ∃ R, tokL s.data.toList = R := ⟨_, rfl⟩
    rw [hR] at W1 hlen hok hbad hfit
    dsimp only at hlen hok hbad hfit
    unfold TokPost at W1
    dsimp only at W1
    clear hR hl
    by_cases h0 : er = 0
    · subst h0
      obtain ⟨hok1, rfl⟩ := hok rfl
      by_cases hn : R = []
      · subst hn
        refine forms_nil s h2 w hc (W1.mono fun e w' hh => ?_)
        obtain ⟨v, rfl, ho, hb⟩ := hh
        obtain ⟨ao, cp, rfl, _⟩ := sl_of_owns (ts := []) ho
        exact ⟨ao, cp, rfl, hb⟩
      · have hn1 := List.length_pos_iff.2 hn
        refine forms_ok s h2 R R.length rfl hn1 (by omega) hok1 hfit w hc (W1.mono fun e w' hh => ?_)
        obtain ⟨v, rfl, ho, hb⟩ := hh
        obtain ⟨ao, cp, rfl, h | ⟨a, rfl, ha⟩⟩ := sl_of_owns ho
        · exact absurd h hn
        · exact ⟨a, cp, rfl, ha, hb⟩
    · obtain rfl : R = [] := hbad h0
      refine forms_bad s h2 ln er (by simpa using h0) w hc (W1.mono fun e w' hh => ?_)
      obtain ⟨v, rfl, ho, hb⟩ := hh
      obtain ⟨ao, cp, rfl, _⟩ := sl_of_owns (ts := []) ho
      exact ⟨ao, cp, rfl, hb⟩
end Go.Proofs.YtpddneplkbdedaaDoor
