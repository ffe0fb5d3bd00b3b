/- What Parse of the num package computes. -/
import Derived.Test.YtoihknngllmogaaDoorW16
namespace Go.Proofs.YtoihknngllmogaaDoor
open Go.RowKit
set_option linter.unusedVariables false
set_option linter.unusedSimpArgs false

theorem wrap_neg (x : Int) (h0 : 0 ≤ x) (h1 : x ≤ 9223372036854775808) : wrap64 (IntKind.u64.wrap (-x)) = -x := by
  have : IntKind.u64.wrap (-x) = if x = 0 then 0 else 18446744073709551616 - x := by
    split
    · rename_i h; subst h; rfl
    · show (-x) % 18446744073709551616 = _; omega
  rw [this]
  unfold wrap64
  split <;> omega

/-- The value of decimal digits, behind a number. -/
def valF (acc : Nat) (l : List UInt8) : Nat := l.foldl (fun a c => a * 10 + (c.toNat - 48)) acc

theorem valF_nil (acc : Nat) : valF acc [] = acc := rfl
theorem valF_cons (acc : Nat) (c : UInt8) (l : List UInt8) : valF acc (c :: l) = valF (acc * 10 + (c.toNat - 48)) l := by unfold valF; rw [List.foldl_cons]
theorem valF_ge (l : List UInt8) : ∀ acc, acc ≤ valF acc l := by
  induction l with
  | nil => intro acc; exact Nat.le_refl _
  | cons c l ih => intro acc; rw [valF_cons]; have := ih (acc * 10 + (c.toNat - 48)); omega

theorem parseM (M : Nat) (hM : M < 18446744073709551620) (l : List UInt8) : ∀ acc, allD l = true → Lib.parseUintM M acc l = .ok (valF acc l) ∨ (Lib.parseUintM M acc l = .range ∧ M < valF acc l) := by
  induction l with
  | nil => intro acc _; exact Or.inl rfl
  | cons c l ih =>
    intro acc h
    have hc : isD c = true ∧ allD l = true := by
      unfold allD at h ⊢
      rw [List.all_cons, Bool.and_eq_true] at h
      exact h
    have hd : 48 ≤ c.toNat ∧ c.toNat ≤ 57 := by simpa [isD] using hc.1
    have hg := valF_ge l (acc * 10 + (c.toNat - 48))
    rw [Lib.parseUintM, if_pos hd, valF_cons]
    have hq : 1844674407370955162 ≤ acc → M < acc * 10 + (c.toNat - 48) := fun h => by omega
    generalize acc * 10 + (c.toNat - 48) = q at *
    by_cases h1 : 1844674407370955162 ≤ acc
    · rw [if_pos h1]
      exact Or.inr ⟨rfl, Nat.lt_of_lt_of_le (hq h1) hg⟩
    · rw [if_neg h1]
      by_cases h2 : M < q
      · rw [if_pos h2]
        exact Or.inr ⟨rfl, Nat.lt_of_lt_of_le h2 hg⟩
      · rw [if_neg h2]
        exact ih _ hc.2

theorem parse64 (l : List UInt8) (h : digs l = true) : Lib.parseUintB 64 l = .ok (valF 0 l) ∨ (Lib.parseUintB 64 l = .range ∧ 36028797018963968 < valF 0 l) := by
  unfold digs at h
  rw [Bool.and_eq_true] at h
  have hne : l ≠ [] := by
    intro e; rw [e] at h; simp at h
  unfold Lib.parseUintB
  rw [if_neg hne, show (2 ^ 64 - 1 : Nat) = 18446744073709551615 from rfl]
  rcases parseM 18446744073709551615 (by decide) l 0 h.1 with h1 | ⟨h1, h2⟩
  · exact Or.inl h1
  · exact Or.inr ⟨h1, Nat.lt_trans (by decide) h2⟩

def pN (l : List UInt8) : Bool := Lib.hasPrefix l [45]
def pR (l : List UInt8) : List UInt8 := Lib.trimPrefix l [45]
def pA (l : List UInt8) : List UInt8 := (Lib.cut (pR l) [46]).1
def pB (l : List UInt8) : List UInt8 := (Lib.cut (pR l) [46]).2.1
def pD (l : List UInt8) : Bool := (Lib.cut (pR l) [46]).2.2
def pU (l : List UInt8) : Nat := if pD l then fracV (pB l) else 0
/-- The text is no decimal text. -/
def PBad (l : List UInt8) : Prop :=
  digs (pA l) = false ∨ (1 < (pA l).length ∧ (pA l).head? = some 48) ∨ (pD l = true ∧ fracOk (pB l) = false) ∨ (pN l = true ∧ pA l = [48] ∧ pU l = 0)
instance (l : List UInt8) : Decidable (PBad l) := by unfold PBad; exact inferInstance
def pNum (l : List UInt8) : Nat := valF 0 (pA l) * 256 + pU l
def pVal (l : List UInt8) : Int × Int :=
  if PBad l then (0, 5)
  else if 36028797018963968 < valF 0 (pA l) then (0, 3)
  else if pN l then (if pNum l ≤ 9223372036854775808 then (-(pNum l : Int), 0) else (0, 3))
  else (if pNum l ≤ 9223372036854775807 then ((pNum l : Int), 0) else (0, 3))

theorem fracV_le (l : List UInt8) : fracV l ≤ 255 := by
  unfold fracV
  split
  · rename_i h
    simp only [Bool.and_eq_true] at h
    have hd := h.1.1
    unfold digs at hd
    rw [Bool.and_eq_true] at hd
    have := pv_lt8 l hd.1 8 (by omega)
    omega
  · omega

theorem pR_len (l : List UInt8) : (pR l).length ≤ l.length := by
  unfold pR Lib.trimPrefix
  split
  · simp
  · exact Nat.le_refl _
theorem pA_len (l : List UInt8) : (pA l).length ≤ l.length := by
  have := pR_len l
  unfold pA Lib.cut
  split
  · simp only [List.length_take]; omega
  · exact this
theorem pB_len (l : List UInt8) : (pB l).length ≤ l.length := by
  have := pR_len l
  unfold pB Lib.cut
  split
  · simp only [List.length_drop]; omega
  · simp

theorem toList_str (l : List UInt8) : (str l).toList = l := by rw [ByteArray.toList_eq, str_data]

theorem first_at (l : List UInt8) (h : 0 < (str l).size) : (str l)[0] = l.head?.getD 0 := by
  have : (str l)[0] = (str l).data.toList.head?.getD 0 := by
    rw [← atB _ 0 h, List.head?_eq_getElem?, List.getElem?_eq_getElem (by rw [lenB]; exact h), Option.getD_some]
  rw [str_data] at this
  exact this

theorem nozero (l : List UInt8) (h : ¬ (1 < l.length ∧ l.head? = some 48)) : NoZero (str l) := by
  by_cases h1 : 1 < l.length
  · refine Or.inr ⟨h1, ?_⟩
    rw [u8_48, first_at l (by rw [str_size]; omega)]
    cases l with
    | nil => simp at h1
    | cons c r =>
      have : ¬ c = 48 := fun e => h ⟨h1, by rw [e]; rfl⟩
      simpa using this
  · exact Or.inl (by rw [str_size]; exact h1)

theorem p_bad4w (s R B : ByteArray) (h1 : C33 s R true) (h2 : C34 R ⟨#[48]⟩ B false) (h3 : C35 ⟨#[48]⟩ true) (w : World) (hc : Ctx w) :
    Calls Tryd.prog 23 #[.string s] w (PRet w 0 5) := by
  have hC := Lib.hid hc
  clear hc
  have H1 := Lib.hid h1; have H2 := Lib.hid h2; have H3 := Lib.hid h3
  clear h1 h2 h3
  go_enter Tryd.func23, Tryd.ntmps23
  go_wp2_with fail
  refine (H1.out _).mono ?_
  rintro e w1 ⟨rfl, rfl⟩
  go_wp2_with fail
  refine (H2.out _ hC.out).mono ?_
  rintro e w2 ⟨rfl, hb⟩
  go_wp2_with fail
  refine (H3.out _).mono ?_
  rintro e w3 ⟨rfl, rfl⟩
  go_wp2_with fail
  go_ret2
  exact ⟨rfl, hb⟩

theorem parse_any (l : List UInt8) (hlen : l.length ≤ 1000000) (w : World) (hc : Ctx w) :
    Calls Tryd.prog 23 #[.string (str l)] w (PRet w (pVal l).1 (pVal l).2) := by
  have hlR := pR_len l
  have hlA := pA_len l
  have hlB := pB_len l
  have h1 : C33 (str l) (str (pR l)) (pN l) := fun W => by
    have := Tryd.strings_CutPrefix (str l) (str [45]) W
    rw [str_data] at this
    exact this
  have h2 : C34 (str (pR l)) (str (pA l)) (str (pB l)) (pD l) := fun W hW => by
    obtain ⟨m, hm⟩ := hW.2.1
    have := Tryd.strings_Cut (str (pR l)) (str [46]) m W (by rw [str_size]; omega) hm
    rw [str_data] at this
    refine this.mono ?_
    rintro e w' ⟨he, n, rfl⟩
    exact ⟨he, below_drewN' (Below.refl _ _) n⟩
  have h3 : C35 (str (pA l)) (digs (pA l)) := fun W => by
    have := digits_any (str (pA l)) W (by rw [str_size]; omega)
    rw [str_data] at this
    exact this
  have h4 : C36 (str (pB l)) (fracV (pB l) : Int) (fracOk (pB l)) := fun W => by
    have := fraction_any (str (pB l)) W (by rw [str_size]; omega)
    rw [str_data] at this
    exact this
  have hF := fracV_le (pB l)
  by_cases hb : PBad l
  · unfold pVal
    rw [if_pos hb]
    by_cases g1 : digs (pA l) = false
    · rw [g1] at h3
      exact p_bad1 _ _ _ _ _ _ h1 h2 h3 w hc
    · have g1' : digs (pA l) = true := by simpa using g1
      rw [g1'] at h3
      by_cases g2 : 1 < (pA l).length ∧ (pA l).head? = some 48
      · have hs : 1 < (str (pA l)).size := by rw [str_size]; exact g2.1
        refine p_bad2 _ _ _ _ _ _ h1 h2 h3 hs ?_ w hc
        rw [u8_48, first_at _ (by omega), g2.2]
        rfl
      · have hs : NoZero (str (pA l)) := nozero _ g2
        by_cases g3 : pD l = true ∧ fracOk (pB l) = false
        · rw [g3.1] at h2
          rw [g3.2] at h4
          exact p_bad3 _ _ _ _ _ _ h1 h2 h3 hs h4 w hc
        · have g4 : pN l = true ∧ pA l = [48] ∧ pU l = 0 := by
            unfold PBad at hb
            rcases hb with hb | hb | hb | hb
            · exact absurd hb g1
            · exact absurd hb g2
            · exact absurd hb g3
            · exact hb
          rw [g4.1] at h1
          rw [g4.2.1] at h2 h3
          cases hD : pD l with
          | false => 
            rw [hD] at h2
            exact p_bad4w _ _ _ h1 h2 h3 w hc
          | true =>
            rw [hD] at h2
            have e1 : fracOk (pB l) = true := by
              cases h : fracOk (pB l) with
              | true => rfl
              | false => exact absurd ⟨hD, h⟩ g3
            have e2 : fracV (pB l) = 0 := by have := g4.2.2; unfold pU at this; rw [if_pos hD] at this; exact this
            rw [e1, e2] at h4
            exact p_bad4 _ _ _ _ h1 h2 h3 h4 w hc
  · have g1 : digs (pA l) = true := by
      cases h : digs (pA l) with
      | true => rfl
      | false => exact absurd (Or.inl h) hb
    have hs : NoZero (str (pA l)) := nozero _ fun h => hb (Or.inr (Or.inl h))
    have g3 : pD l = true → fracOk (pB l) = true := fun hD => by
      cases h : fracOk (pB l) with
      | true => rfl
      | false => exact absurd (Or.inr (Or.inr (Or.inl ⟨hD, h⟩))) hb
    have g4 : pN l = true → ¬ (pA l = [48] ∧ pU l = 0) := fun hN h => hb (Or.inr (Or.inr (Or.inr ⟨hN, h⟩)))
    have hv : pVal l = if 36028797018963968 < valF 0 (pA l) then (0, 3)
      else if pN l then (if pNum l ≤ 9223372036854775808 then (-(pNum l : Int), 0) else (0, 3))
      else (if pNum l ≤ 9223372036854775807 then ((pNum l : Int), 0) else (0, 3)) := by unfold pVal; rw [if_neg hb]
    rw [hv]
    clear hv
    rw [g1] at h3
    rcases parse64 (pA l) g1 with hp | ⟨hp, hbig⟩
    · have h5 : C37 (str (pA l)) (valF 0 (pA l) : Int) := fun W hW => by
        have := Tryd.strconv_ParseUint_10_at64_ok (str (pA l)) (by rw [str_size]; omega) (valF 0 (pA l)) (by rw [str_data]; exact hp) W
        refine this.mono ?_
        rintro e w' ⟨he, rfl | rfl⟩
        · exact ⟨he, Below.refl _ _⟩
        · exact ⟨he, Lib.bytesWorld_below _ _ _⟩
      clear hp
      unfold pNum
      cases hD : pD l with
      | false =>
        have hU : pU l = 0 := by unfold pU; rw [hD]; rfl
        rw [hU]
        rw [hD] at h2
        cases hN : pN l with
        | false => 
          rw [hN] at h1
          rw [if_neg (by decide : ¬ false = true)]
          split
          · exact p_big_pw _ _ _ _ 0 _ h1 h2 h3 hs h5 (by omega) (by omega) w hc
          · split
            · rw [show ((valF 0 (pA l) * 256 + 0 : Nat) : Int) = (valF 0 (pA l) : Int) * 256 by omega]
              exact p_fit_pw _ _ _ _ 0 _ h1 h2 h3 hs h5 (by omega) (by omega) (by omega) w hc
            · exact p_not_pw _ _ _ _ 0 _ h1 h2 h3 hs h5 (by omega) (by omega) (by omega) w hc
        | true => 
          rw [hN] at h1
          rw [if_pos rfl]
          have hz : ¬ (str (pA l)).toList = [48] := by rw [toList_str]; exact fun h => g4 hN ⟨h, hU⟩
          split
          · exact p_big_nw _ _ _ _ 0 _ h1 h2 h3 hs h5 hz (by omega) (by omega) w hc
          · split
            · rw [show ((valF 0 (pA l) * 256 + 0 : Nat) : Int) = (valF 0 (pA l) : Int) * 256 by omega, ← wrap_neg ((valF 0 (pA l) : Int) * 256) (by omega) (by omega)]
              exact p_fit_nw _ _ _ _ 0 _ h1 h2 h3 hs h5 hz (by omega) (by omega) (by omega) w hc
            · exact absurd (show valF 0 (pA l) * 256 + 0 ≤ 9223372036854775808 by omega) (by assumption)
      | true =>
        have hU : pU l = fracV (pB l) := by unfold pU; rw [hD]; rfl
        rw [hU]
        rw [hD] at h2
        rw [g3 hD] at h4
        cases hN : pN l with
        | false => 
          rw [hN] at h1
          rw [if_neg (by decide : ¬ false = true)]
          split
          · exact p_big_pd _ _ _ _ _ _ h1 h2 h3 hs h4 (by omega) (by omega) h5 (by omega) (by omega) w hc
          · split
            · rw [show ((valF 0 (pA l) * 256 + fracV (pB l) : Nat) : Int) = (valF 0 (pA l) : Int) * 256 + fracV (pB l) by omega]
              exact p_fit_pd _ _ _ _ _ _ h1 h2 h3 hs h4 (by omega) (by omega) h5 (by omega) (by omega) (by omega) w hc
            · exact p_not_pd _ _ _ _ _ _ h1 h2 h3 hs h4 (by omega) (by omega) h5 (by omega) (by omega) (by omega) w hc
        | true => 
          rw [hN] at h1
          rw [if_pos rfl]
          have hz : ¬ (str (pA l)).toList = [48] ∨ ((str (pA l)).toList = [48] ∧ ((fracV (pB l) : Int) == 0) = false) := by
            rw [toList_str]
            by_cases h : pA l = [48]
            · refine Or.inr ⟨h, ?_⟩
              have : ¬ fracV (pB l) = 0 := fun h' => g4 hN ⟨h, by rw [hU]; exact h'⟩
              rw [beq_eq_false_iff_ne]; omega
            · exact Or.inl h
          split
          · exact p_big_nd _ _ _ _ _ _ h1 h2 h3 hs h4 (by omega) (by omega) h5 hz (by omega) (by omega) w hc
          · split
            · rw [show ((valF 0 (pA l) * 256 + fracV (pB l) : Nat) : Int) = (valF 0 (pA l) : Int) * 256 + fracV (pB l) by omega, ← wrap_neg ((valF 0 (pA l) : Int) * 256 + fracV (pB l)) (by omega) (by omega)]
              exact p_fit_nd _ _ _ _ _ _ h1 h2 h3 hs h4 (by omega) (by omega) h5 hz (by omega) (by omega) (by omega) w hc
            · exact p_not_nd _ _ _ _ _ _ h1 h2 h3 hs h4 (by omega) (by omega) h5 hz (by omega) (by omega) (by omega) w hc
    · rw [if_pos hbig]
      have h5 : C37r (str (pA l)) := fun W hW => by
        obtain ⟨tp, p, hvar⟩ := hW.2.2
        have := Tryd.strconv_ParseUint_10_at64_range_var (str (pA l)) (by rw [str_size]; omega) (by rw [str_data]; exact hp) tp p W hvar
        refine this.mono ?_
        rintro e w' ⟨N, he, _, _, hb⟩
        exact ⟨N, he, hb⟩
      clear hp hbig
      cases hD : pD l with
      | false =>
        have hU : pU l = 0 := by unfold pU; rw [hD]; rfl
        rw [hD] at h2
        cases hN : pN l with
        | false => 
          rw [hN] at h1
          exact p_range_pw _ _ _ _ 0 0 h1 h2 h3 hs h5 w hc
        | true => 
          rw [hN] at h1
          have hz : ¬ (str (pA l)).toList = [48] := by rw [toList_str]; exact fun h => g4 hN ⟨h, hU⟩
          exact p_range_nw _ _ _ _ 0 0 h1 h2 h3 hs h5 hz w hc
      | true =>
        have hU : pU l = fracV (pB l) := by unfold pU; rw [hD]; rfl
        rw [hD] at h2
        rw [g3 hD] at h4
        cases hN : pN l with
        | false => 
          rw [hN] at h1
          exact p_range_pd _ _ _ _ _ 0 h1 h2 h3 hs h4 (by omega) (by omega) h5 w hc
        | true => 
          rw [hN] at h1
          have hz : ¬ (str (pA l)).toList = [48] ∨ ((str (pA l)).toList = [48] ∧ ((fracV (pB l) : Int) == 0) = false) := by
            rw [toList_str]
            by_cases h : pA l = [48]
            · refine Or.inr ⟨h, ?_⟩
              have : ¬ fracV (pB l) = 0 := fun h' => g4 hN ⟨h, by rw [hU]; exact h'⟩
              rw [beq_eq_false_iff_ne]; omega
            · exact Or.inl h
          exact p_range_nd _ _ _ _ _ 0 h1 h2 h3 hs h4 (by omega) (by omega) h5 hz w hc
end Go.Proofs.YtoihknngllmogaaDoor
