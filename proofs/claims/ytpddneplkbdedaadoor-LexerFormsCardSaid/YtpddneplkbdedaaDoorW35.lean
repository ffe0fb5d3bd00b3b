/- Walks of LexerRoundTrip, LexerForms. -/
import Derived.Test.YtpddneplkbdedaaDoorW34
namespace Go.Proofs.YtpddneplkbdedaaDoor
open Go.RowKit
set_option linter.unusedVariables false
set_option linter.unusedSimpArgs false

theorem joinL_len (ts : List Tk) (s : List UInt8) (h : joinL ts = (s, 0)) : s.length ≤ 4096 := by
  unfold joinL at h
  by_cases hok : okT 1 ts = true
  · rw [if_pos hok] at h
    exact (joinB_ok ts false 1 [] s (by simp) h).2
  · rw [if_neg hok] at h
    injection h with _ h
    exact absurd h (by decide)

theorem w_round (v : Value) (ts : List Tk) (hn : ts.length ≤ 4398046511104) (hT : ∀ t ∈ ts, TkOk t) (w : World) (hc : Ctx w) (h : TokSl w v ts) : Calls Tryd.prog 7 #[v] w (Yes w) := by
  have HC := Lib.hid hc; have HV := Lib.hid h
  have HS := Lib.hid (short_any v ts hn hT w h)
  clear hc h
  cases hs : shortT ts
  · rw [hs] at HS
    clear hs
    go_enter Tryd.func7, Tryd.ntmps7
    go_wp2_with fail
    refine HS.out.mono ?_
    rintro e w1 ⟨rfl, rfl⟩
    go_wp2_with fail
    refine (alive_any _ HC.out).mono ?_
    rintro e w1 ⟨rfl, hb⟩
    go_wp2_with fail
    go_ret
    exact ⟨rfl, hb⟩
  · obtain ⟨hf, _⟩ := short_fits ts hT hs
    rw [hs] at HS
    have hlen := hf.1
    obtain ⟨⟨s, er⟩, hR⟩ : ∃ R, joinL ts = R := ⟨_, rfl⟩
    have W1 := fun w hc h => join_any v ts hf w hc h
    have herr := join_err ts
    have hrt := join_round ts s
    have hsl := joinL_len ts s
    rw [hR] at W1 herr hrt hsl
    unfold JPost at W1
    dsimp only at W1 herr hrt
    by_cases h0 : er = 0
    · subst h0
      have W2 := fun w hw => tok_any s (by have := hsl rfl; omega) w hw
      rw [hrt rfl] at W2
      have H1 := Lib.hid W1; have H2 := Lib.hid W2
      clear W1 W2 hR hf hT herr hrt hsl hs
      generalize str s = sR at *
      go_enter Tryd.func7, Tryd.ntmps7
      go_wp2_with fail
      refine HS.out.mono ?_
      rintro e w1 ⟨rfl, rfl⟩
      go_wp2_with fail
      refine (H1.out _ HC.out HV.out).mono ?_
      rintro e w1 ⟨rfl, hb1⟩
      have HV1 := Lib.hid (HV.out.below hb1)
      have HB1 := Lib.hid hb1
      have hz1 := hb1.size
      clear hb1
      go_wp2_with fail
      refine (H2.out _ (HC.out.below HB1.out)).mono ?_
      rintro e w2 ⟨v2, rfl, ho2, hb2⟩
      have HS2 := Lib.hid (sl_of_owns ho2)
      have HV2 := Lib.hid (HV1.out.below hb2)
      have HB2 := Lib.hid (HB1.out.trans (hb2.mono hz1))
      have hz2 := HB2.out.size
      clear hb2 ho2
      go_wp2_with fail
      refine (same_any v v2 ts ts w2 HV2.out HS2.out hlen hlen).mono ?_
      rw [decide_eq_true rfl]
      rintro e w3 ⟨rfl, hb3⟩
      have HB3 := Lib.hid (HB2.out.trans (hb3.mono hz2))
      have hz3 := HB3.out.size
      clear hb3
      go_wp2_with fail
      refine (alive_any _ (HC.out.below HB3.out)).mono ?_
      rintro e w4 ⟨rfl, hb4⟩
      go_wp2_with fail
      go_ret
      exact ⟨rfl, HB3.out.trans (hb4.mono hz3)⟩
    · obtain rfl : s = [] := herr h0
      have hb0 : (er != 0) = true := by simpa using h0
      have H1 := Lib.hid W1
      clear W1 hR hf hT herr hrt hsl h0 hs
      go_enter Tryd.func7, Tryd.ntmps7
      go_wp2_with fail
      refine HS.out.mono ?_
      rintro e w1 ⟨rfl, rfl⟩
      go_wp2_with fail
      refine (H1.out _ HC.out HV.out).mono ?_
      rintro e w1 ⟨rfl, hb1⟩
      have HB1 := Lib.hid hb1
      have hz1 := hb1.size
      clear hb1
      go_wp2_with fail
      refine (alive_any _ (HC.out.below HB1.out)).mono ?_
      rintro e w2 ⟨rfl, hb2⟩
      go_wp2_with fail
      go_ret
      exact ⟨rfl, HB1.out.trans (hb2.mono hz1)⟩
set_option maxRecDepth 100000 in
theorem w_LexerRoundTrip {H : Type} {enc : TypeId × Value → H} {base b : Nat} {spare : Nat → Bool} {held : Bool} (w : World) (v : Value) (hv : Value.okWide Tryd.prog w .any b 23 v) {d : DataW H} {p : List MemPlace} (h : DataW.Trod enc Tryd.prog w base spare held 23 v d p) (hl : Light Tryd.prog 23 d) (hc : Ctx w) : Calls Tryd.prog 7 #[v] w (Yes w) := by
  obtain ⟨ts, h1, h2, h3⟩ := toks_of hv h hl
  exact w_round v ts h3 h2 w hc h1
end Go.Proofs.YtpddneplkbdedaaDoor
