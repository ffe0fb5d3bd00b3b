/- Walks of the laws: LexerWords, LexerTokenizes, LexerLong. -/
import Derived.Test.YtpddneplkbdedaaDoorW31
namespace Go.Proofs.YtpddneplkbdedaaDoor
open Go.RowKit
set_option linter.unusedVariables false
set_option linter.unusedSimpArgs false

theorem str_of (s : ByteArray) : str s.data.toList = s := by apply ByteArray.ext; simp [str]
def Yes (w : World) (e : Ending) (w' : World) : Prop := e = .returned (.bool true) ∧ Below w.heap.size w w'

theorem w_LexerWords (s : ByteArray) (z : s.size ≤ 140737488351232) (w : World) (hc : Ctx w) : Calls Tryd.prog 4 #[.string s] w (Yes w) := by
  have HC := Lib.hid hc
  clear hc
  by_cases h : 1000 < s.size
  · go_enter Tryd.func4, Tryd.ntmps4
    go_wp2_with fail
    refine (alive_any _ HC.out).mono ?_
    rintro e w1 ⟨rfl, hb⟩
    go_wp2_with fail
    go_ret
    exact ⟨rfl, hb⟩
  · have h2 : s.size ≤ 1000 := by omega
    obtain ⟨b, hb⟩ : ∃ b, isWord s.data.toList = b := ⟨_, rfl⟩
    have W1 := fun w hw => word_any s.data.toList w hw
    have W2 := fun w => rword_any s.data.toList w
    rw [str_of, hb] at W1 W2
    have H1 := Lib.hid W1; have H2 := Lib.hid W2
    clear W1 W2 hb h
    cases b
    all_goals
      go_enter Tryd.func4, Tryd.ntmps4
      go_wp2_with fail
      refine (H1.out _ HC.out.1).mono ?_
      rintro e w1 ⟨rfl, hb1⟩
      have HB1 := Lib.hid hb1
      have hz1 := hb1.size
      clear hb1
      go_wp2_with fail
      refine (H2.out _).mono ?_
      rintro e w2 ⟨rfl, hb2⟩
      have HB2 := Lib.hid (HB1.out.trans (hb2.mono hz1))
      have hz2 := HB2.out.size
      clear hb2
      go_wp2_with fail
      refine (alive_any _ (HC.out.below HB2.out)).mono ?_
      rintro e w3 ⟨rfl, hb3⟩
      go_wp2_with fail
      go_ret
      exact ⟨rfl, HB2.out.trans (hb3.mono hz2)⟩

theorem tokF_len (f : Nat) : ∀ (line : Int) (l : List UInt8) (acc : List Tk), (tokF f line l acc).1.length ≤ acc.length + l.length := by
  induction f with
  | zero => intro line l acc; simp [tokF]
  | succ f ih =>
    intro line l acc
    rw [tokF]
    by_cases he : l.drop (skip false l) = []
    · rw [if_pos he]; dsimp only; omega
    · rw [if_neg he]
      by_cases h0 : (nextT (l.drop (skip false l))).2.2.2 = 0
      · rw [if_pos h0]
        obtain ⟨h1, h2, _⟩ := nextT_ok _ he h0
        refine Nat.le_trans (ih _ _ _) ?_
        rw [List.length_append, List.length_singleton, List.length_drop, List.length_drop]
        rw [List.length_drop] at h2
        omega
      · rw [if_neg h0]; simp
theorem tokL_len (l : List UInt8) : (tokL l).1.length ≤ l.length := by
  unfold tokL
  by_cases h : 4096 < l.length
  · rw [if_pos h]; simp
  · rw [if_neg h]
    have := tokF_len (l.length + 1) 1 l []
    simpa using this

theorem w_LexerTokenizes (s : ByteArray) (z : s.size ≤ 140737488351232) (w : World) (hc : Ctx w) : Calls Tryd.prog 3 #[.string s] w (Yes w) := by
  have HC := Lib.hid hc
  clear hc
  by_cases h : 6000 < s.size
  · go_enter Tryd.func3, Tryd.ntmps3
    go_wp2_with fail
    refine (alive_any _ HC.out).mono ?_
    rintro e w1 ⟨rfl, hb⟩
    go_wp2_with fail
    go_ret
    exact ⟨rfl, hb⟩
  · have h2 : s.size ≤ 6000 := by omega
    have hl : s.data.toList.length ≤ 1000000 := by rw [← str_size s.data.toList, str_of]; omega
    have hlen := tokL_len s.data.toList
    have W1 := fun w hw => tok_any s.data.toList hl w hw
    have W2 := fun w => rtok_any s.data.toList hl w
    rw [str_of] at W1 W2
    obtain ⟨⟨R, ln, er⟩, hR⟩ : ∃ R, tokL s.data.toList = R := ⟨_, rfl⟩
    rw [hR] at W1 W2 hlen
    have hlen2 : R.length ≤ 1000000 := by dsimp only at hlen; omega
    have H1 := Lib.hid W1; have H2 := Lib.hid W2
    have t1 : (ln == ln) = true := BEq.rfl
    have t2 : (er == er) = true := BEq.rfl
    clear W1 W2 hR hlen hl h
    go_enter Tryd.func3, Tryd.ntmps3
    go_wp2_with fail
    refine (H1.out _ HC.out).mono ?_
    rintro e w1 ⟨v, rfl, ho1, hb1⟩
    have HS1 := Lib.hid (sl_of_owns ho1)
    have HO1 := Lib.hid ho1
    have HB1 := Lib.hid hb1
    have hz1 := hb1.size
    clear hb1 ho1
    go_wp2_with fail
    refine (H2.out _).mono ?_
    rintro e w2 ⟨v2, rfl, ho2, hb2⟩
    have HS2 := Lib.hid (sl_of_owns ho2)
    have HS1b := Lib.hid (sl_of_owns (ownsRow_below HO1.out hb2))
    have HB2 := Lib.hid (HB1.out.trans (hb2.mono hz1))
    have hz2 := HB2.out.size
    clear hb2 ho2
    go_wp2_with fail
    refine (same_any v v2 R R w2 HS1b.out HS2.out hlen2 hlen2).mono ?_
    rw [decide_eq_true rfl]
    rintro e w3 ⟨rfl, hb3⟩
    have HB3 := Lib.hid (HB2.out.trans (hb3.mono hz2))
    have hz3 := HB3.out.size
    clear hb3
    go_wp2_with fail
    refine (alive_any _ (HC.out.below HB3.out)).mono ?_
    rintro e w4 ⟨rfl, hb4⟩
    go_wp2_with fail
    go_ret
    exact ⟨rfl, HB3.out.trans (hb4.mono hz3)⟩

theorem w_LexerLong (s : ByteArray) (z : s.size ≤ 140737488351232) (w : World) (hc : Ctx w) : Calls Tryd.prog 5 #[.string s] w (Yes w) := by
  have HC := Lib.hid hc
  clear hc
  by_cases h : 100 < s.size
  · go_enter Tryd.func5, Tryd.ntmps5
    go_wp2_with fail
    refine (alive_any _ HC.out).mono ?_
    rintro e w1 ⟨rfl, hb⟩
    go_wp2_with fail
    go_ret
    exact ⟨rfl, hb⟩
  · have h2 : s.size ≤ 100 := by omega
    by_cases h0 : s.size = 0
    · have hb0 : ((s.size : Int) == 0) = true := by rw [h0]; rfl
      have hb1 : (s.size == 0) = true := by rw [h0]; rfl
      clear h0 h
      go_enter Tryd.func5, Tryd.ntmps5
      go_wp2_with fail
      refine (alive_any _ HC.out).mono ?_
      rintro e w1 ⟨rfl, hb⟩
      go_wp2_with fail
      go_ret
      exact ⟨rfl, hb⟩
    · have hb0 : ((s.size : Int) == 0) = false := by rw [beq_eq_false_iff_ne]; omega
      have hb1 : (s.size == 0) = false := by rw [beq_eq_false_iff_ne]; omega
      have h3 : 1 ≤ s.size := by omega
      clear h0 h
      go_enter Tryd.func5, Tryd.ntmps5
      go_wp2_with fail
      go_loop [3] (fun v => ∃ t : ByteArray, v = .string t ∧ 1 ≤ t.size ∧ t.size ≤ 8192) (fun v => 8193 - szOf v)
      case atStart => exact ⟨s, rfl, h3, by omega⟩
      case round =>
        obtain ⟨t, rfl, ht1, ht2⟩ := hrel
        by_cases hs : t.size ≤ 4096
        · have hap : (t ++ t).size = t.size + t.size := ByteArray.size_append
          have HAP := Lib.hid hap
          clear hap
          go_wp2_with fail
          go_round
          case rel => exact ⟨t ++ t, rfl, by rw [HAP.out]; omega, by rw [HAP.out]; omega⟩
          case measure => simp [szOf, HAP.out]; omega
        · have hs2 : 4096 < t.size := by omega
          clear hs
          go_wp2_with fail
          refine (tok_long t hs2 (by omega) _).mono ?_
          rintro e w1 ⟨v, rfl, ho1, hb1⟩
          obtain ⟨ao, cp, rfl⟩ : ∃ ao cp, v = .slice ao 0 cp := by
            obtain ⟨ao, cp, h, _⟩ := sl_of_owns (ts := []) ho1
            exact ⟨ao, cp, h⟩
          have HB1 := Lib.hid hb1
          have hz1 := hb1.size
          clear hb1 ho1
          go_wp2_with fail
          refine (alive_any _ (HC.out.below HB1.out)).mono ?_
          rintro e w2 ⟨rfl, hb2⟩
          go_wp2_with fail
          go_ret
          exact ⟨rfl, HB1.out.trans (hb2.mono hz1)⟩
end Go.Proofs.YtpddneplkbdedaaDoor
