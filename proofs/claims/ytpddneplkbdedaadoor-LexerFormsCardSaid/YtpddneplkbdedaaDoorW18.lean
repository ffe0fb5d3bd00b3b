/- The lexer's integer and the reference's, told by lists. -/
import Derived.Test.YtpddneplkbdedaaDoorW17
import Derived.Lib.SmallJoins
namespace Go.Proofs.YtpddneplkbdedaaDoor
open Go.RowKit
set_option linter.unusedVariables false
set_option linter.unusedSimpArgs false

def Err (w : World) : Prop := ∃ tp p, w.var? Tryd.prog "strconv.ErrRange" = some #[.iface tp p]
def Ctx (w : World) : Prop := Spc w ∧ Err w

theorem pi_any (c : UInt8) (l : List UInt8) (h : (c :: l).all isDg = true) (hl : (c :: l).length ≤ 1000000) (w : World) (he : Err w) : PI (str (c :: l)) w (decide (valF 0 (c :: l) ≤ 9223372036854775807)) := by
  have hp := parseI c l h
  obtain ⟨tp, p, hv⟩ := he
  unfold PI
  by_cases h3 : valF 0 (c :: l) ≤ 9223372036854775807
  · rw [if_pos h3] at hp
    rw [decide_eq_true h3]
    refine (Tryd.strconv_ParseInt_10_at64_ok (str (c :: l)) (by rw [str_size]; omega) _ (by rw [str_data]; exact hp) w).mono ?_
    rintro e w' ⟨rfl, hw⟩
    refine ⟨_, 0, rfl, ?_⟩
    rcases hw with rfl | ⟨t, rfl⟩
    · exact Below.refl _ _
    · exact Joins.below_bytesWorld _ _ _ _ (Nat.le_refl _)
  · rw [if_neg h3] at hp
    rw [decide_eq_false h3]
    refine (Tryd.strconv_ParseInt_10_at64_range_var (str (c :: l)) (by rw [str_size]; omega) (by rw [str_data]; exact hp) tp p w hv).mono ?_
    rintro e w' ⟨N, rfl, _, _, hb⟩
    exact ⟨_, N, rfl, hb⟩

theorem all_take (P : UInt8 → Bool) (l : List UInt8) (h : l.all P = true) : l.takeWhile P = l := by
  induction l with
  | nil => rfl
  | cons c l ih =>
    rw [List.all_cons, Bool.and_eq_true] at h
    rw [List.takeWhile_cons, if_pos h.1, ih h.2]
theorem str_inj {a b : List UInt8} (h : str a = str b) : a = b := by
  have := congrArg (fun b : ByteArray => b.data.toList) h
  rw [str_data, str_data] at this
  exact this

theorem int_any (c : UInt8) (l : List UInt8) (hc : isDg c = true) (hl : (c :: l).length ≤ 1000000) (w : World) (he : Err w) : KB 47 #[.string (str (c :: l))] (.int .i64 (intE (c :: l))) w := by
  have hd := pre_digit (c :: l) hl
  unfold intE
  by_cases h : (c :: l).all isDg = true
  · rw [if_neg (by rw [h]; decide), if_neg (List.cons_ne_nil _ _)]
    rw [all_take _ _ h] at hd
    by_cases h1 : 1 < (c :: l).length ∧ (c :: l).head? = some 48
    · rw [if_pos h1]
      have h48 : c = 48 := by simpa using h1.2
      refine (int_bad2 (str (c :: l)) hd (by rw [str_size]; exact h1.1) ?_ w).mono ?_
      · rw [str_get]; simp [h48]
      · rintro e w' ⟨rfl, rfl⟩
        exact ⟨rfl, Below.refl _ _⟩
    · rw [if_neg h1]
      refine (int_good (str (c :: l)) _ hd ?_ w (pi_any c l h hl w he)).mono ?_
      · by_cases h2 : 1 < (c :: l).length
        · refine Or.inr ⟨by rw [str_size]; exact h2, ?_⟩
          have h48 : c ≠ 48 := fun e => h1 ⟨h2, by rw [e]; rfl⟩
          rw [str_get]
          have : c.toNat ≠ 48 := fun e => h48 (UInt8.toNat_inj.mp (by simpa using e))
          simp
          omega
        · exact Or.inl (by rw [str_size]; exact h2)
      · rintro e w' ⟨rfl, hb⟩
        refine ⟨?_, hb⟩
        by_cases h3 : valF 0 (c :: l) ≤ 9223372036854775807
        · rw [if_pos h3, decide_eq_true h3]; rfl
        · rw [if_neg h3, decide_eq_false h3]; rfl
  · have h' : (c :: l).all isDg = false := by simpa using h
    rw [if_pos h']
    refine (int_bad1 (str (c :: l)) _ hd (ne_beq _ _ fun e => ?_) w).mono ?_
    · have := str_inj e
      have h2 : (List.takeWhile isDg (c :: l)).all isDg = true := List.all_takeWhile
      rw [this] at h2
      exact h h2
    · rintro e w' ⟨rfl, rfl⟩
      exact ⟨rfl, Below.refl _ _⟩

theorem rint_any (l : List UInt8) (hl : l.length ≤ 1000000) : KC 35 #[.string (str l)] (.int .i64 (intE l)) := fun w => by
  unfold intE
  have hs : (str l).size ≤ 1000000 := by rw [str_size]; exact hl
  obtain ⟨f1, f2⟩ := tw_facts isDg l
  rcases all_tw isDg l with ⟨h0, h⟩ | ⟨h0, h2, h⟩
  · rw [if_neg (by rw [h]; decide)]
    have hp : ∀ k (hk : k < (str l).size), k < l.length → digI ((str l)[k].toNat : Int) = true := fun k hk _ => by
      rw [str_get]; exact f1 k hk (by rw [str_size] at hk; omega)
    have hx : (str l).size ≤ l.length := by rw [str_size]; omega
    have he : l.length ≤ (str l).size := by rw [str_size]; omega
    by_cases h1 : l = []
    · rw [if_pos h1]
      exact rint_none (str l) l.length hs he hp hx (by rw [str_size, h1]; decide) w
    · rw [if_neg h1]
      obtain ⟨c, r, rfl⟩ : ∃ c r, l = c :: r := by
        cases l with
        | nil => exact absurd rfl h1
        | cons c r => exact ⟨c, r, rfl⟩
      by_cases h3 : 1 < (c :: r).length ∧ (c :: r).head? = some 48
      · rw [if_pos h3]
        have h48 : c = 48 := by simpa using h3.2
        exact rint_zero (str (c :: r)) _ hs he hp hx (by rw [str_size]; exact h3.1) (by rw [str_get]; simp [h48]) w
      · rw [if_neg h3]
        have hz : ¬ 1 < (str (c :: r)).size ∨ ∃ h : 1 < (str (c :: r)).size, (((str (c :: r))[0].toNat : Int) == 48) = false := by
          by_cases h2 : 1 < (c :: r).length
          · refine Or.inr ⟨by rw [str_size]; exact h2, ?_⟩
            have h48 : c ≠ 48 := fun e => h3 ⟨h2, by rw [e]; rfl⟩
            rw [str_get]
            have : c.toNat ≠ 48 := fun e => h48 (UInt8.toNat_inj.mp (by simpa using e))
            simp
            omega
          · exact Or.inl (by rw [str_size]; exact h2)
        have hu := valF_lt (c :: r) h
        have hlo : 1 < (c :: r).length → 10 ^ r.length ≤ valF 0 (c :: r) := fun h2 => by
          have h48 : c ≠ 48 := fun e => h3 ⟨h2, by rw [e]; rfl⟩
          rw [List.all_cons, Bool.and_eq_true] at h
          exact valF_head c r h.1 h48
        by_cases h4 : (c :: r).length < 19
        · rw [if_pos]
          · exact rint_short (str (c :: r)) _ hs he hp hx (by rw [str_size]; simp) (by rw [str_size]; exact h4) hz w
          · have : 10 ^ (c :: r).length ≤ 10 ^ 18 := Nat.pow_le_pow_right (by decide) (by omega)
            have h18 : (10 : Nat) ^ 18 = 1000000000000000000 := rfl
            omega
        · have h5 : 1 < (c :: r).length := by omega
          have hz2 : ((((str (c :: r))[0]'(by rw [str_size]; omega)).toNat : Int) == 48) = false := by
            rcases hz with hz | ⟨_, hz⟩
            · rw [str_size] at hz; exact absurd h5 hz
            · exact hz
          by_cases h6 : 19 < (c :: r).length
          · rw [if_neg]
            · exact rint_long (str (c :: r)) _ hs he hp hx (by rw [str_size]; exact h6) hz2 w
            · have : 10 ^ 19 ≤ 10 ^ r.length := Nat.pow_le_pow_right (by decide) (by simp at h6; omega)
              have h19 : (10 : Nat) ^ 19 = 10000000000000000000 := rfl
              have := hlo h5
              omega
          · have h7 : (c :: r).length = mostL.length := by show _ = 19; omega
            have hb := less_val (c :: r) mostL h7 h (by decide +kernel)
            rw [most_val] at hb
            have ht : (str (c :: r)).toList = c :: r := by rw [ByteArray.toList_eq, str_data]
            by_cases h8 : c :: r = mostL
            · rw [if_pos (by rw [h8, most_val]; exact Nat.le_refl _)]
              refine rint_edgeeq (str (c :: r)) _ hs he hp hx (by rw [str_size]; omega) (by rw [str_size]; omega) hz2 (by rw [ht, h8]; decide +kernel) (by rw [ht, h8]; decide +kernel) w
            · have hne : ((str (c :: r)).toList == mostL) = false := by rw [ht]; simpa using h8
              by_cases h9 : valF 0 (c :: r) < 9223372036854775807
              · rw [if_pos (by omega)]
                rw [decide_eq_true h9] at hb
                exact rint_edgeless (str (c :: r)) _ hs he hp hx (by rw [str_size]; omega) (by rw [str_size]; omega) hz2 (by rw [ht]; exact hb) hne w
              · have h10 : valF 0 (c :: r) ≠ 9223372036854775807 := fun e => h8 (val_inj _ _ h7 h (by decide +kernel) (by rw [e, most_val]))
                rw [if_neg (by omega)]
                rw [decide_eq_false h9] at hb
                exact rint_edgebig (str (c :: r)) _ hs he hp hx (by rw [str_size]; omega) (by rw [str_size]; omega) hz2 (by rw [ht]; exact hb) hne w
  · rw [if_pos h]
    exact rint_char (str l) (List.takeWhile isDg l).length hs (by rw [str_size]; omega) (fun k hk h3 => by rw [str_get]; exact f1 k hk h3) (by rw [str_size]; exact h0) (by rw [str_get]; exact h2) w
end Go.Proofs.YtpddneplkbdedaaDoor
