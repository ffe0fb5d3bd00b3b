/- The reference's Parse of the num package gives pVal (printed by genw32.py). -/
import Derived.Test.YtoihknngllmogaaDoorW30
import Derived.Test.YtoihknngllmogaaDoorW31
namespace Go.Proofs.YtoihknngllmogaaDoor
open Go.RowKit
set_option linter.unusedVariables false
set_option linter.unusedSimpArgs false

theorem pval_bad (l : List UInt8) (h : PBad l) : pVal l = (0, 5) := by unfold pVal; rw [if_pos h]
theorem tw_head (R : List UInt8) (h : 0 < ldE R) : (R.takeWhile isD).head? = R.head? := by
  unfold ldE at h
  cases R with
  | nil => rfl
  | cons x l =>
    rw [List.takeWhile_cons] at h ⊢
    by_cases hx : isD x = true
    · rw [if_pos hx]; rfl
    · rw [if_neg hx] at h; simp at h
theorem wrap_min (x : Int) (h0 : 1 ≤ x) (h1 : x ≤ 9223372036854775808) : wrap64 (wrap64 (-wrap64 (IntKind.u64.wrap (x - 1))) - 1) = -x := by
  rw [IntKind.wrap_u64]
  unfold wrap64
  omega
theorem str_tail (A B : List UInt8) (c : UInt8) : (str (A ++ c :: B)).extract (A.length + 1) (str (A ++ c :: B)).size = str B := by
  apply ByteArray.ext
  rw [ByteArray.data_extract, str_size]
  have e : A ++ c :: B = (A ++ [c]) ++ B := by simp
  apply Array.toList_inj.1
  rw [e]
  simp [str]
  rw [List.take_of_length_le (by omega)]
theorem str_mid (A B : List UInt8) (c : UInt8) (h : A.length < (str (A ++ c :: B)).size) : (str (A ++ c :: B))[A.length] = c := by
  rw [str_get]; simp
theorem digs_zero (R : List UInt8) (h : ldE R = 0) : digs (R.takeWhile isD) = false := by
  have : R.takeWhile isD = [] := List.eq_nil_of_length_eq_zero h
  rw [this]; rfl
theorem digs_pos (R : List UInt8) (h : ¬ ldE R = 0) : digs (R.takeWhile isD) = true := by
  unfold digs
  rw [ld_all]
  cases he : R.takeWhile isD with
  | nil => exact absurd (show ldE R = 0 by unfold ldE; rw [he]; rfl) h
  | cons x l => rfl
theorem satN_le (v : Nat) : satN v ≤ 36028797018963968 := by unfold satN; split <;> omega
theorem satN_big (v : Nat) (h : 36028797018963968 < v) : satN v = 36028797018963968 := by unfold satN; rw [if_pos h]
theorem ld0 (R : List UInt8) : ldW R 0 = 0 ∧ ldL R 0 = false := by
  unfold ldW ldL
  rw [List.take_zero]
  exact ⟨rfl, rfl⟩
theorem beq0 (x : Int) (h : x ≠ 0) : (x == 0) = false := by rw [beq_eq_false_iff_ne]; exact h
theorem beq0t (x : Int) (h : x = 0) : (x == 0) = true := by rw [beq_iff_eq]; exact h

theorem nz_of (R : List UInt8) (h : 0 < (str R).size) (hz : ¬ (1 < ldE R ∧ R.head? = some 48)) : ldE R ≤ 1 ∨ ∃ h1 : 1 < ldE R, (((str R)[0].toNat : Int) == 48) = false := by
  by_cases h1 : 1 < ldE R
  · refine Or.inr ⟨h1, ?_⟩
    rw [u8_48, first_at R h]
    cases R with
    | nil => exact absurd h (by decide)
    | cons c r =>
      have : ¬ c = 48 := fun e => hz ⟨h1, by rw [e]; rfl⟩
      simpa using this
  · exact Or.inl (by omega)

theorem rparse_n (l : List UInt8) (hlen : l.length ≤ 1000) (hN : pN l = true) (hl : l = 45 :: pR l) (w : World) :
    Calls Tryd.prog 25 #[.string (str l)] w (QRet w (pVal l).1 (pVal l).2) := by
  have n0 : 0 < (str l).size := by rw [str_size, hl]; simp
  have n1 : (((str l)[0].toNat : Int) == 45) = true := by
    have : (str l)[0] = 45 := by rw [first_at l n0, hl]; rfl
    rw [this]; rfl
  have n2 : (str l).extract 1 (str l).size = str (pR l) := by
    have := str_tail [] (pR l) 45
    rw [List.nil_append, ← hl] at this
    exact this
  have hss : (str l).size ≤ 1000000 := by rw [str_size]; omega
  have hpl := pR_len l
  have hrs : (str (pR l)).size ≤ 1000000 := by rw [str_size]; omega
  have he : ldE (pR l) ≤ (str (pR l)).size := by rw [str_size]; exact ld_le _
  have hld := Lib.hid (lead_ok (pR l))
  have h0 := Lib.hid (ld0 (pR l))
  rcases ld_split (pR l) with ⟨hall, hE⟩ | ⟨c, B, hsp, hc⟩
  · obtain ⟨pa, pb, pd⟩ := shape_all l hall
    have hx : (str (pR l)).size ≤ ldE (pR l) := by rw [hE]; exact Nat.le_refl _
    by_cases e0 : ldE (pR l) = 0
    · rw [pval_bad l (Or.inl (by rw [pa]; exact digs_zero _ e0))]
      exact q_synt1_n (str l) (str (pR l)) (str []) (ldE (pR l)) (ldW (pR l)) (ldL (pR l)) _ 0 true true _ n0 n1 n2 hss hrs he hld h0 rfl rfl (by unfold ldW; omega) (by unfold ldW; have := satN_le (valF 0 ((pR l).take (ldE (pR l)))); omega) e0 (Or.inl hx) w
    have ep : 0 < ldE (pR l) := by omega
    have hlen' : (pA l).length = ldE (pR l) := by rw [pa]; rfl
    have hhd : (pA l).head? = (pR l).head? := by rw [pa]; exact tw_head _ ep
    by_cases hz : 1 < ldE (pR l) ∧ (pR l).head? = some 48
    · rw [pval_bad l (Or.inr (Or.inl ⟨by rw [hlen']; exact hz.1, by rw [hhd]; exact hz.2⟩))]
      exact q_synt2_n (str l) (str (pR l)) (str []) (ldE (pR l)) (ldW (pR l)) (ldL (pR l)) _ 0 true true _ n0 n1 n2 hss hrs he hld h0 rfl rfl (by unfold ldW; omega) (by unfold ldW; have := satN_le (valF 0 ((pR l).take (ldE (pR l)))); omega) hz.1 (by rw [u8_48, first_at _ (by omega), hz.2]; rfl) (Or.inl hx) w
    have hz' := nz_of (pR l) (by omega) hz
    have hV : Hid (ldW (pR l) (ldE (pR l)) = (satN (valF 0 (pA l)) : Int)) := by unfold ldW; rw [ld_take, pa]; exact rfl
    have hL : Hid (ldL (pR l) (ldE (pR l)) = decide (36028797018963968 < valF 0 (pA l))) := by unfold ldL; rw [ld_take, pa]; exact rfl
    have hU : pU l = 0 := by unfold pU; rw [pd]; rfl
    have hsat := satN_le (valF 0 (pA l))
    rw [pval_good l (by rw [pa]; exact digs_pos _ e0) (by rw [hlen', hhd]; exact hz) (by rw [pd]; intro h; exact absurd h (by decide)), hN, hU]
    by_cases hzero : satN (valF 0 (pA l)) * 256 + 0 = 0
    · rw [if_pos ⟨rfl, hzero⟩]
      have hnb : ¬ 36028797018963968 < valF 0 (pA l) := fun h => by rw [satN_big _ h] at hzero; omega
      rw [decide_eq_false hnb] at hL
      exact q_zerow_n (str l) (str (pR l)) (str []) (ldE (pR l)) (ldW (pR l)) (ldL (pR l)) (satN (valF 0 (pA l)) : Int) 0 true true false n0 n1 n2 hss hrs he hld h0 hV hL (by omega) (by omega) ep hz' hx (beq0t _ (by omega)) w
    rw [if_neg fun h => hzero h.2]
    by_cases hbig : 36028797018963968 < valF 0 (pA l)
    · rw [if_pos hbig]
      rw [decide_eq_true hbig] at hL
      exact q_largew_n (str l) (str (pR l)) (str []) (ldE (pR l)) (ldW (pR l)) (ldL (pR l)) (satN (valF 0 (pA l)) : Int) 0 true true true n0 n1 n2 hss hrs he hld h0 hV hL (by omega) (by omega) ep hz' hx (beq0 _ (by omega)) w
    rw [if_neg hbig]
    rw [decide_eq_false hbig] at hL
    rw [if_pos rfl]
    by_cases hm : satN (valF 0 (pA l)) * 256 + 0 ≤ 9223372036854775808
    · rw [if_pos hm, show ((satN (valF 0 (pA l)) * 256 + 0 : Nat) : Int) = (satN (valF 0 (pA l)) : Int) * 256 by omega, ← wrap_min ((satN (valF 0 (pA l)) : Int) * 256) (by omega) (by omega)]
      exact q_fitw_n (str l) (str (pR l)) (str []) (ldE (pR l)) (ldW (pR l)) (ldL (pR l)) (satN (valF 0 (pA l)) : Int) 0 true _ false n0 n1 n2 hss hrs he hld h0 hV hL (by omega) (by omega) ep hz' hx (beq0 _ (by omega)) (by omega) rfl w
    · rw [if_neg hm]
      exact absurd (show satN (valF 0 (pA l)) * 256 + 0 ≤ 9223372036854775808 by omega) hm
  · have hlt : ldE (pR l) < (str (pR l)).size := by
      rw [str_size]
      have := congrArg List.length hsp
      rw [List.length_append, List.length_cons] at this
      unfold ldE; omega
    have hcat : (str (pR l))[ldE (pR l)] = c := by
      have h1 : ((pR l))[ldE (pR l)]? = some c := by
        conv => lhs; rw [hsp]
        rw [List.getElem?_append_right (by unfold ldE; rw [← hsp]; exact Nat.le_refl _)]
        rw [← hsp]
        simp [ldE]
      rw [str_get]
      exact (List.getElem?_eq_some_iff.1 h1).2
    have hb : (str (pR l)).extract (ldE (pR l) + 1) (str (pR l)).size = str B := by
      have := str_tail ((pR l).takeWhile isD) B c
      rw [← hsp] at this
      exact this
    have hc' : c.toNat < 48 ∨ 57 < c.toNat := by
      simp only [isD, Bool.and_eq_false_iff, decide_eq_false_iff_not] at hc; omega
    have hBl : B.length ≤ 1000 := by
      have := congrArg List.length hsp
      rw [List.length_append, List.length_cons] at this
      omega
    have h4' : C39 (str B) (fracV B : Int) (fracOk B) := fun W => by
      have := places_any (str B) W (by rw [str_size]; omega)
      rw [str_data] at this
      exact this
    have hany : (str (pR l)).size ≤ ldE (pR l) ∨ (∃ x : ldE (pR l) < (str (pR l)).size, (str (pR l))[ldE (pR l)].toNat < 48) ∨ (∃ x : ldE (pR l) < (str (pR l)).size, 57 < (str (pR l))[ldE (pR l)].toNat) := by
      rcases hc' with h | h
      · exact Or.inr (Or.inl ⟨hlt, by rw [hcat]; exact h⟩)
      · exact Or.inr (Or.inr ⟨hlt, by rw [hcat]; exact h⟩)
    have key : digs (pA l) = false ∨ (c = 46 ∧ pA l = (pR l).takeWhile isD ∧ pB l = B ∧ pD l = true) := by
      by_cases h46 : c = 46
      · subst h46
        obtain ⟨k1, k2, k3⟩ := shape_dot l B (by exact hsp)
        exact Or.inr ⟨rfl, k1, k2, k3⟩
      · exact Or.inl (shape_bad l B c (by exact hsp) hc h46)
    by_cases e0 : ldE (pR l) = 0
    · have hbad : digs (pA l) = false := by
        rcases key with h | ⟨_, pa, _, _⟩
        · exact h
        · rw [pa]; exact digs_zero _ e0
      rw [pval_bad l (Or.inl hbad)]
      exact q_synt1_n (str l) (str (pR l)) (str []) (ldE (pR l)) (ldW (pR l)) (ldL (pR l)) _ 0 true true _ n0 n1 n2 hss hrs he hld h0 rfl rfl (by unfold ldW; omega) (by unfold ldW; have := satN_le (valF 0 ((pR l).take (ldE (pR l)))); omega) e0 hany w
    have ep : 0 < ldE (pR l) := by omega
    by_cases hz : 1 < ldE (pR l) ∧ (pR l).head? = some 48
    · have hbad : PBad l := by
        rcases key with h | ⟨_, pa, _, _⟩
        · exact Or.inl h
        · exact Or.inr (Or.inl ⟨by rw [pa]; exact hz.1, by rw [pa, tw_head _ ep]; exact hz.2⟩)
      rw [pval_bad l hbad]
      exact q_synt2_n (str l) (str (pR l)) (str []) (ldE (pR l)) (ldW (pR l)) (ldL (pR l)) _ 0 true true _ n0 n1 n2 hss hrs he hld h0 rfl rfl (by unfold ldW; omega) (by unfold ldW; have := satN_le (valF 0 ((pR l).take (ldE (pR l)))); omega) hz.1 (by rw [u8_48, first_at _ (by omega), hz.2]; rfl) hany w
    have hz' := nz_of (pR l) (by omega) hz
    by_cases h46 : c = 46
    · obtain ⟨pa, pb, pd⟩ : pA l = (pR l).takeWhile isD ∧ pB l = B ∧ pD l = true := by
        rcases key with h | ⟨_, pa, pb, pd⟩
        · exfalso
          subst h46
          obtain ⟨k1, k2, k3⟩ := shape_dot l B (by exact hsp)
          rw [k1, digs_pos _ e0] at h
          exact absurd h (by decide)
        · exact ⟨pa, pb, pd⟩
      have x1 : (str (pR l))[ldE (pR l)].toNat < 48 := by rw [hcat, h46]; decide
      have x2 : ((str (pR l))[ldE (pR l)].toNat : Int) = 46 := by rw [hcat, h46]; rfl
      have x := hlt
      cases hOk : fracOk B with
      | false =>
        rw [hOk] at h4'
        rw [pval_bad l (Or.inr (Or.inr (Or.inl ⟨pd, by rw [pb]; exact hOk⟩)))]
        exact q_frac_n (str l) (str (pR l)) (str B) (ldE (pR l)) (ldW (pR l)) (ldL (pR l)) _ (fracV B : Int) true true _ n0 n1 n2 hss hrs he hld h0 rfl rfl (by unfold ldW; omega) (by unfold ldW; have := satN_le (valF 0 ((pR l).take (ldE (pR l)))); omega) ep hz' x x1 x2 hb h4' w
      | true =>
        rw [hOk] at h4'
        have h4 := h4'
        have hlen' : (pA l).length = ldE (pR l) := by rw [pa]; rfl
        have hhd : (pA l).head? = (pR l).head? := by rw [pa]; exact tw_head _ ep
        have hV : Hid (ldW (pR l) (ldE (pR l)) = (satN (valF 0 (pA l)) : Int)) := by unfold ldW; rw [ld_take, pa]; exact rfl
        have hL : Hid (ldL (pR l) (ldE (pR l)) = decide (36028797018963968 < valF 0 (pA l))) := by unfold ldL; rw [ld_take, pa]; exact rfl
        have hU : pU l = fracV B := by unfold pU; rw [pd, pb]; rfl
        have hF := fracV_le B
        have hsat := satN_le (valF 0 (pA l))
        rw [pval_good l (by rw [pa]; exact digs_pos _ e0) (by rw [hlen', hhd]; exact hz) (by rw [pb]; intro _; exact hOk), hN, hU]
        by_cases hzero : satN (valF 0 (pA l)) * 256 + fracV B = 0
        · rw [if_pos ⟨rfl, hzero⟩]
          have hnb : ¬ 36028797018963968 < valF 0 (pA l) := fun h => by rw [satN_big _ h] at hzero; omega
          rw [decide_eq_false hnb] at hL
          exact q_zerod_n (str l) (str (pR l)) (str B) (ldE (pR l)) (ldW (pR l)) (ldL (pR l)) (satN (valF 0 (pA l)) : Int) (fracV B : Int) true true false n0 n1 n2 hss hrs he hld h0 hV hL (by omega) (by omega) ep hz' x x1 x2 hb h4 (by omega) (by omega) (beq0t _ (by omega)) w
        rw [if_neg fun h => hzero h.2]
        by_cases hbig : 36028797018963968 < valF 0 (pA l)
        · rw [if_pos hbig]
          rw [decide_eq_true hbig] at hL
          exact q_larged_n (str l) (str (pR l)) (str B) (ldE (pR l)) (ldW (pR l)) (ldL (pR l)) (satN (valF 0 (pA l)) : Int) (fracV B : Int) true true true n0 n1 n2 hss hrs he hld h0 hV hL (by omega) (by omega) ep hz' x x1 x2 hb h4 (by omega) (by omega) (beq0 _ (by omega)) w
        rw [if_neg hbig]
        rw [decide_eq_false hbig] at hL
        rw [if_pos rfl]
        by_cases hm : satN (valF 0 (pA l)) * 256 + fracV B ≤ 9223372036854775808
        · rw [if_pos hm, show ((satN (valF 0 (pA l)) * 256 + fracV B : Nat) : Int) = (satN (valF 0 (pA l)) : Int) * 256 + (fracV B : Int) by omega, ← wrap_min ((satN (valF 0 (pA l)) : Int) * 256 + (fracV B : Int)) (by omega) (by omega)]
          exact q_fitd_n (str l) (str (pR l)) (str B) (ldE (pR l)) (ldW (pR l)) (ldL (pR l)) (satN (valF 0 (pA l)) : Int) (fracV B : Int) true _ false n0 n1 n2 hss hrs he hld h0 hV hL (by omega) (by omega) ep hz' x x1 x2 hb h4 (by omega) (by omega) (beq0 _ (by omega)) (by omega) rfl w
        · rw [if_neg hm]
          exact q_bigd_n (str l) (str (pR l)) (str B) (ldE (pR l)) (ldW (pR l)) (ldL (pR l)) (satN (valF 0 (pA l)) : Int) (fracV B : Int) true true false n0 n1 n2 hss hrs he hld h0 hV hL (by omega) (by omega) ep hz' x x1 x2 hb h4 (by omega) (by omega) (beq0 _ (by omega)) (by omega) w
    · have hbad : digs (pA l) = false := by
        rcases key with h | ⟨h, _, _, _⟩
        · exact h
        · exact absurd h h46
      rw [pval_bad l (Or.inl hbad)]
      exact q_dot_n (str l) (str (pR l)) (str B) (ldE (pR l)) (ldW (pR l)) (ldL (pR l)) _ (fracV B : Int) _ true _ n0 n1 n2 hss hrs he hld h0 rfl rfl (by unfold ldW; omega) (by unfold ldW; have := satN_le (valF 0 ((pR l).take (ldE (pR l)))); omega) ep hz' hlt (by rw [hcat]; exact hc') (by
        rw [hcat]
        intro e
        apply h46
        apply UInt8.toNat_inj.mp
        have : c.toNat = 46 := by omega
        exact this) hb h4' w

theorem rparse_p (l : List UInt8) (hlen : l.length ≤ 1000) (hN : pN l = false) (hl : l = pR l) (hh : l.head? ≠ some 45) (hne : 0 < l.length) (w : World) :
    Calls Tryd.prog 25 #[.string (str l)] w (QRet w (pVal l).1 (pVal l).2) := by
  have n0 : 0 < (str l).size := hne
  have n1 : (((str l)[0].toNat : Int) == 45) = false := by
    rw [first_at l n0]
    cases l with
    | nil => simp at hne
    | cons x r =>
      have : ¬ x = 45 := fun e => hh (by rw [e]; rfl)
      rw [beq_eq_false_iff_ne]
      intro e
      apply this
      apply UInt8.toNat_inj.mp
      have : (x.toNat : Int) = 45 := e
      have : x.toNat = 45 := by omega
      exact this
  have hpl := pR_len l
  have hrs : (str l).size ≤ 1000000 := by rw [str_size]; omega
  have he : ldE l ≤ (str l).size := by rw [str_size]; exact ld_le _
  have hld := Lib.hid (lead_ok l)
  have h0 := Lib.hid (ld0 l)
  have hR : pR l = l := hl.symm
  rcases ld_split l with ⟨hall, hE⟩ | ⟨c, B, hsp, hc⟩
  · obtain ⟨pa, pb, pd⟩ := shape_all l (by rw [hR]; exact hall)
    rw [hR] at pa
    have hx : (str l).size ≤ ldE l := by rw [hE]; exact Nat.le_refl _
    by_cases e0 : ldE l = 0
    · rw [pval_bad l (Or.inl (by rw [pa]; exact digs_zero _ e0))]
      exact q_synt1_p (str l) (str []) (ldE l) (ldW l) (ldL l) _ 0 true true _ n0 n1 hrs he hld h0 rfl rfl (by unfold ldW; omega) (by unfold ldW; have := satN_le (valF 0 (l.take (ldE l))); omega) e0 (Or.inl hx) w
    have ep : 0 < ldE l := by omega
    have hlen' : (pA l).length = ldE l := by rw [pa]; rfl
    have hhd : (pA l).head? = l.head? := by rw [pa]; exact tw_head _ ep
    by_cases hz : 1 < ldE l ∧ l.head? = some 48
    · rw [pval_bad l (Or.inr (Or.inl ⟨by rw [hlen']; exact hz.1, by rw [hhd]; exact hz.2⟩))]
      exact q_synt2_p (str l) (str []) (ldE l) (ldW l) (ldL l) _ 0 true true _ n0 n1 hrs he hld h0 rfl rfl (by unfold ldW; omega) (by unfold ldW; have := satN_le (valF 0 (l.take (ldE l))); omega) hz.1 (by rw [u8_48, first_at _ (by omega), hz.2]; rfl) (Or.inl hx) w
    have hz' := nz_of l (by omega) hz
    have hV : Hid (ldW l (ldE l) = (satN (valF 0 (pA l)) : Int)) := by unfold ldW; rw [ld_take, pa]; exact rfl
    have hL : Hid (ldL l (ldE l) = decide (36028797018963968 < valF 0 (pA l))) := by unfold ldL; rw [ld_take, pa]; exact rfl
    have hU : pU l = 0 := by unfold pU; rw [pd]; rfl
    have hsat := satN_le (valF 0 (pA l))
    rw [pval_good l (by rw [pa]; exact digs_pos _ e0) (by rw [hlen', hhd]; exact hz) (by rw [pd]; intro h; exact absurd h (by decide)), hN, hU]
    rw [if_neg fun h => absurd h.1 (by decide)]
    by_cases hbig : 36028797018963968 < valF 0 (pA l)
    · rw [if_pos hbig]
      rw [decide_eq_true hbig] at hL
      exact q_largew_p (str l) (str []) (ldE l) (ldW l) (ldL l) (satN (valF 0 (pA l)) : Int) 0 true true true n0 n1 hrs he hld h0 hV hL (by omega) (by omega) ep hz' hx  w
    rw [if_neg hbig]
    rw [decide_eq_false hbig] at hL
    rw [if_neg (by decide : ¬ false = true)]
    by_cases hm : satN (valF 0 (pA l)) * 256 + 0 ≤ 9223372036854775807
    · rw [if_pos hm, show ((satN (valF 0 (pA l)) * 256 + 0 : Nat) : Int) = (satN (valF 0 (pA l)) : Int) * 256 by omega]
      exact q_fitw_p (str l) (str []) (ldE l) (ldW l) (ldL l) (satN (valF 0 (pA l)) : Int) 0 true true false n0 n1 hrs he hld h0 hV hL (by omega) (by omega) ep hz' hx (by omega) (by rw [beq_eq_false_iff_ne]; omega) w
    · rw [if_neg hm]
      by_cases hq : satN (valF 0 (pA l)) * 256 + 0 = 9223372036854775808
      · exact q_edgew_p (str l) (str []) (ldE l) (ldW l) (ldL l) (satN (valF 0 (pA l)) : Int) 0 true true false n0 n1 hrs he hld h0 hV hL (by omega) (by omega) ep hz' hx (by omega) (by rw [beq_iff_eq]; omega) w
      · exact absurd (show satN (valF 0 (pA l)) * 256 + 0 = 9223372036854775808 by omega) hq
  · have hlt : ldE l < (str l).size := by
      rw [str_size]
      have := congrArg List.length hsp
      rw [List.length_append, List.length_cons] at this
      unfold ldE; omega
    have hcat : (str l)[ldE l] = c := by
      have h1 : (l)[ldE l]? = some c := by
        conv => lhs; rw [hsp]
        rw [List.getElem?_append_right (by unfold ldE; rw [← hsp]; exact Nat.le_refl _)]
        rw [← hsp]
        simp [ldE]
      rw [str_get]
      exact (List.getElem?_eq_some_iff.1 h1).2
    have hb : (str l).extract (ldE l + 1) (str l).size = str B := by
      have := str_tail (l.takeWhile isD) B c
      rw [← hsp] at this
      exact this
    have hc' : c.toNat < 48 ∨ 57 < c.toNat := by
      simp only [isD, Bool.and_eq_false_iff, decide_eq_false_iff_not] at hc; omega
    have hBl : B.length ≤ 1000 := by
      have := congrArg List.length hsp
      rw [List.length_append, List.length_cons] at this
      omega
    have h4' : C39 (str B) (fracV B : Int) (fracOk B) := fun W => by
      have := places_any (str B) W (by rw [str_size]; omega)
      rw [str_data] at this
      exact this
    have hany : (str l).size ≤ ldE l ∨ (∃ x : ldE l < (str l).size, (str l)[ldE l].toNat < 48) ∨ (∃ x : ldE l < (str l).size, 57 < (str l)[ldE l].toNat) := by
      rcases hc' with h | h
      · exact Or.inr (Or.inl ⟨hlt, by rw [hcat]; exact h⟩)
      · exact Or.inr (Or.inr ⟨hlt, by rw [hcat]; exact h⟩)
    have key : digs (pA l) = false ∨ (c = 46 ∧ pA l = l.takeWhile isD ∧ pB l = B ∧ pD l = true) := by
      by_cases h46 : c = 46
      · subst h46
        obtain ⟨k1, k2, k3⟩ := shape_dot l B (by rw [hR]; exact hsp)
        rw [hR] at k1; exact Or.inr ⟨rfl, k1, k2, k3⟩
      · exact Or.inl (shape_bad l B c (by rw [hR]; exact hsp) hc h46)
    by_cases e0 : ldE l = 0
    · have hbad : digs (pA l) = false := by
        rcases key with h | ⟨_, pa, _, _⟩
        · exact h
        · rw [pa]; exact digs_zero _ e0
      rw [pval_bad l (Or.inl hbad)]
      exact q_synt1_p (str l) (str []) (ldE l) (ldW l) (ldL l) _ 0 true true _ n0 n1 hrs he hld h0 rfl rfl (by unfold ldW; omega) (by unfold ldW; have := satN_le (valF 0 (l.take (ldE l))); omega) e0 hany w
    have ep : 0 < ldE l := by omega
    by_cases hz : 1 < ldE l ∧ l.head? = some 48
    · have hbad : PBad l := by
        rcases key with h | ⟨_, pa, _, _⟩
        · exact Or.inl h
        · exact Or.inr (Or.inl ⟨by rw [pa]; exact hz.1, by rw [pa, tw_head _ ep]; exact hz.2⟩)
      rw [pval_bad l hbad]
      exact q_synt2_p (str l) (str []) (ldE l) (ldW l) (ldL l) _ 0 true true _ n0 n1 hrs he hld h0 rfl rfl (by unfold ldW; omega) (by unfold ldW; have := satN_le (valF 0 (l.take (ldE l))); omega) hz.1 (by rw [u8_48, first_at _ (by omega), hz.2]; rfl) hany w
    have hz' := nz_of l (by omega) hz
    by_cases h46 : c = 46
    · obtain ⟨pa, pb, pd⟩ : pA l = l.takeWhile isD ∧ pB l = B ∧ pD l = true := by
        rcases key with h | ⟨_, pa, pb, pd⟩
        · exfalso
          subst h46
          obtain ⟨k1, k2, k3⟩ := shape_dot l B (by rw [hR]; exact hsp)
          rw [k1, hR, digs_pos _ e0] at h
          exact absurd h (by decide)
        · exact ⟨pa, pb, pd⟩
      have x1 : (str l)[ldE l].toNat < 48 := by rw [hcat, h46]; decide
      have x2 : ((str l)[ldE l].toNat : Int) = 46 := by rw [hcat, h46]; rfl
      have x := hlt
      cases hOk : fracOk B with
      | false =>
        rw [hOk] at h4'
        rw [pval_bad l (Or.inr (Or.inr (Or.inl ⟨pd, by rw [pb]; exact hOk⟩)))]
        exact q_frac_p (str l) (str B) (ldE l) (ldW l) (ldL l) _ (fracV B : Int) true true _ n0 n1 hrs he hld h0 rfl rfl (by unfold ldW; omega) (by unfold ldW; have := satN_le (valF 0 (l.take (ldE l))); omega) ep hz' x x1 x2 hb h4' w
      | true =>
        rw [hOk] at h4'
        have h4 := h4'
        have hlen' : (pA l).length = ldE l := by rw [pa]; rfl
        have hhd : (pA l).head? = l.head? := by rw [pa]; exact tw_head _ ep
        have hV : Hid (ldW l (ldE l) = (satN (valF 0 (pA l)) : Int)) := by unfold ldW; rw [ld_take, pa]; exact rfl
        have hL : Hid (ldL l (ldE l) = decide (36028797018963968 < valF 0 (pA l))) := by unfold ldL; rw [ld_take, pa]; exact rfl
        have hU : pU l = fracV B := by unfold pU; rw [pd, pb]; rfl
        have hF := fracV_le B
        have hsat := satN_le (valF 0 (pA l))
        rw [pval_good l (by rw [pa]; exact digs_pos _ e0) (by rw [hlen', hhd]; exact hz) (by rw [pb]; intro _; exact hOk), hN, hU]
        rw [if_neg fun h => absurd h.1 (by decide)]
        by_cases hbig : 36028797018963968 < valF 0 (pA l)
        · rw [if_pos hbig]
          rw [decide_eq_true hbig] at hL
          exact q_larged_p (str l) (str B) (ldE l) (ldW l) (ldL l) (satN (valF 0 (pA l)) : Int) (fracV B : Int) true true true n0 n1 hrs he hld h0 hV hL (by omega) (by omega) ep hz' x x1 x2 hb h4 (by omega) (by omega)  w
        rw [if_neg hbig]
        rw [decide_eq_false hbig] at hL
        rw [if_neg (by decide : ¬ false = true)]
        by_cases hm : satN (valF 0 (pA l)) * 256 + fracV B ≤ 9223372036854775807
        · rw [if_pos hm, show ((satN (valF 0 (pA l)) * 256 + fracV B : Nat) : Int) = (satN (valF 0 (pA l)) : Int) * 256 + (fracV B : Int) by omega]
          exact q_fitd_p (str l) (str B) (ldE l) (ldW l) (ldL l) (satN (valF 0 (pA l)) : Int) (fracV B : Int) true true false n0 n1 hrs he hld h0 hV hL (by omega) (by omega) ep hz' x x1 x2 hb h4 (by omega) (by omega) (by omega) (by rw [beq_eq_false_iff_ne]; omega) w
        · rw [if_neg hm]
          by_cases hq : satN (valF 0 (pA l)) * 256 + fracV B = 9223372036854775808
          · exact q_edged_p (str l) (str B) (ldE l) (ldW l) (ldL l) (satN (valF 0 (pA l)) : Int) (fracV B : Int) true true false n0 n1 hrs he hld h0 hV hL (by omega) (by omega) ep hz' x x1 x2 hb h4 (by omega) (by omega) (by omega) (by rw [beq_iff_eq]; omega) w
          · exact q_bigd_p (str l) (str B) (ldE l) (ldW l) (ldL l) (satN (valF 0 (pA l)) : Int) (fracV B : Int) true true false n0 n1 hrs he hld h0 hV hL (by omega) (by omega) ep hz' x x1 x2 hb h4 (by omega) (by omega) (by omega) (by rw [beq_eq_false_iff_ne]; omega) w
    · have hbad : digs (pA l) = false := by
        rcases key with h | ⟨h, _, _, _⟩
        · exact h
        · exact absurd h h46
      rw [pval_bad l (Or.inl hbad)]
      exact q_dot_p (str l) (str B) (ldE l) (ldW l) (ldL l) _ (fracV B : Int) _ true _ n0 n1 hrs he hld h0 rfl rfl (by unfold ldW; omega) (by unfold ldW; have := satN_le (valF 0 (l.take (ldE l))); omega) ep hz' hlt (by rw [hcat]; exact hc') (by
        rw [hcat]
        intro e
        apply h46
        apply UInt8.toNat_inj.mp
        have : c.toNat = 46 := by omega
        exact this) hb h4' w

theorem rparse_any (l : List UInt8) (hlen : l.length ≤ 1000) (w : World) : Calls Tryd.prog 25 #[.string (str l)] w (QRet w (pVal l).1 (pVal l).2) := by
  rcases pre_split l with ⟨hN, hl⟩ | ⟨hN, hl, hh⟩
  · exact rparse_n l hlen hN hl w
  · rcases Nat.eq_zero_or_pos l.length with h | h
    · have : l = [] := List.eq_nil_of_length_eq_zero h
      subst this
      exact q_empty_p w
    · exact rparse_p l hlen hN hl hh h w
end Go.Proofs.YtoihknngllmogaaDoor

