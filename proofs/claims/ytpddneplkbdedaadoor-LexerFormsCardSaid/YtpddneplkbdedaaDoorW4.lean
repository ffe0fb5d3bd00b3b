/- Walks: blanks of the lexer. -/
import Derived.Test.YtpddneplkbdedaaDoorW3
namespace Go.Proofs.YtpddneplkbdedaaDoor
open Go.RowKit
set_option linter.unusedVariables false
set_option linter.unusedSimpArgs false

/-- prefix, told by the list. -/
theorem prefix_noline_l (l : List UInt8) (hl : l.length ≤ 1000000) : KC 39 #[.string (str l), .func (.func 40) #[] #[]] (.string (str (l.takeWhile fun c => c != 10))) := fun w => by
  have hb : ∀ c : UInt8, ((c.toNat : Int) != 10) = (c != 10) := fun c => by
    by_cases h : c = 10
    · subst h; rfl
    · have h1 : (c != 10) = true := by simpa using h
      have h2 : c.toNat ≠ 10 := fun e => h (UInt8.toNat_inj.mp (by simpa using e))
      rw [h1]
      simp
      omega
  obtain ⟨f1, f2⟩ := tw_facts (fun c => c != 10) l
  have := prefix_noline (str l) (l.takeWhile fun c => c != 10).length (by rw [str_size]; exact hl) (by rw [str_size]; exact tw_len _ _)
    (fun k h hk => by rw [str_get, hb]; exact f1 k h hk) (by
      rcases f2 with h | ⟨h, h2⟩
      · exact Or.inl h
      · exact Or.inr ⟨h, by rw [str_get, hb]; exact h2⟩) w
  rw [str_take, tw_take] at this
  exact this

theorem blanks_any (l : List UInt8) (s : ByteArray) (hs : str l = s) (hl : s.size ≤ 100000) (w : World) :
    Calls Tryd.prog 19 #[.string s] w fun e w' => e = .returned (.int .i64 (skip false l : Int)) ∧ w = w' := by
  have hsz : s.size = l.length := by rw [← hs]; exact str_size l
  have HS := Lib.hid hsz
  have HT := Lib.hid hs
  clear hsz hs
  go_enter Tryd.func19, Tryd.ntmps19
  go_wp2_with fail
  go_loop [3] (fun v => ∃ k : Nat, k ≤ s.size ∧ v = .int .i64 (k : Int) ∧ Hid (skip false l = k + skip false (l.drop k))) (fun v => s.size - (intOf v).toNat)
  case atStart => exact ⟨0, by omega, rfl, show skip false l = 0 + skip false (l.drop 0) by simp⟩
  case round =>
    obtain ⟨k, hk, rfl, hh⟩ := hrel
    have hsz := HS.out
    have hs := HT.out
    by_cases hks : k < s.size
    · have HA := Lib.hid (at_in s k hks (by omega))
      have hkl : k < l.length := by omega
      have hc : s[k] = l[k] := by subst hs; rfl
      have hst := Lib.hid (skip_step l k hkl)
      by_cases hb : l[k] = 10 ∨ l[k] = 32 ∨ l[k] = 9
      · have hn : (s[k].toNat : Int) = 10 ∨ (s[k].toNat : Int) = 32 ∨ (s[k].toNat : Int) = 9 := by
          rw [hc]
          rcases hb with h | h | h
          · exact Or.inl (by rw [h]; rfl)
          · exact Or.inr (Or.inl (by rw [h]; rfl))
          · exact Or.inr (Or.inr (by rw [h]; rfl))
        have HB := Lib.hid hb
        clear hb hc hs hsz
        rcases hn with hn | hn | hn
        all_goals
          rw [hn] at HA
          go_wp2_with fail
          refine (HA.out _).mono ?_
          rintro e1 w1 ⟨rfl, rfl⟩
          go_wp2_with fail
          go_round
          case rel => exact ⟨k + 1, by omega, by go_num, by rw [hh.out, hst.out, if_pos HB.out]; show _ = _; omega⟩
          case measure => simp [intOf]; omega
      · by_cases h35 : l[k] = 35
        · have hn : (s[k].toNat : Int) = 35 := by rw [hc, h35]; rfl
          have hsk := Lib.hid (skip_hash l k hkl h35)
          have hT : ((l.drop k).takeWhile fun c => c != 10).length ≤ l.length - k := by have := tw_len (fun c => c != 10) (l.drop k); rw [List.length_drop] at this; exact this
          have hT1 : 1 ≤ ((l.drop k).takeWhile fun c => c != 10).length := by
            rw [List.drop_eq_getElem_cons hkl, h35, List.takeWhile_cons, if_pos (by decide)]; simp
          have HP := Lib.hid (prefix_noline_l (l.drop k) (by rw [List.length_drop]; omega))
          have hex : s.extract k s.size = str (l.drop k) := by rw [← hs]; exact str_drop l k
          obtain ⟨T, hTe⟩ : ∃ T, ((l.drop k).takeWhile fun c => c != 10) = T := ⟨_, rfl⟩
          rw [hTe] at hsk hT hT1 HP
          have htz : (str T).size = T.length := str_size T
          rw [hn] at HA
          have hT2 : k + T.length ≤ s.size := by omega
          have HT2 := Lib.hid (show ((k + T.length : Nat) : Int) = (k : Int) + (T.length : Int) by omega)
          clear hb h35 hc hs hsz
          generalize hsT : str T = sT at *
          generalize hD : str (l.drop k) = sD at *
          go_wp2_with fail
          refine (HA.out _).mono ?_
          rintro e1 w1 ⟨rfl, rfl⟩
          go_wp2_with fail
          refine (HP.out _).mono ?_
          rintro e1 w1 ⟨rfl, rfl⟩
          go_wp2_with fail
          go_round
          case rel => exact ⟨k + T.length, by omega, by go_num, by rw [hh.out, hsk.out]; show _ = _; omega⟩
          case measure => simp [intOf]; omega
        · have hne : ¬ (s[k].toNat : Int) = 10 ∧ ¬ (s[k].toNat : Int) = 32 ∧ ¬ (s[k].toNat : Int) = 9 ∧ ¬ (s[k].toNat : Int) = 35 := by
            rw [hc]
            have key : ∀ n : UInt8, ¬ l[k] = n → ¬ (l[k].toNat : Int) = (n.toNat : Int) := fun n h e => h (UInt8.toNat_inj.mp (by omega))
            refine ⟨key 10 ?_, key 32 ?_, key 9 ?_, key 35 h35⟩
            · exact fun h => hb (Or.inl h)
            · exact fun h => hb (Or.inr (Or.inl h))
            · exact fun h => hb (Or.inr (Or.inr h))
          have hz : Hid (skip false l = k) := by
            have := hst.out
            rw [if_neg hb, if_neg h35] at this
            rw [hh.out, this]
            rfl
          obtain ⟨n1, n2, n3, n4⟩ := hne
          obtain ⟨x, hx⟩ : ∃ x : Int, (s[k].toNat : Int) = x := ⟨_, rfl⟩
          rw [hx] at HA n1 n2 n3 n4
          clear hb h35 hc hs hsz
          go_wp2_with fail
          refine (HA.out _).mono ?_
          rintro e1 w1 ⟨rfl, rfl⟩
          go_wp2_with fail
          go_ret
          exact ⟨by rw [hz.out]; rfl, rfl⟩
    · have hz : Hid (skip false l = k) := by
        have h0 : l.drop k = [] := List.drop_eq_nil_of_le (by omega)
        have := hh.out
        rw [h0] at this
        exact this
      clear hs hsz
      go_wp2_with fail
      go_ret
      exact ⟨by rw [hz.out]; rfl, rfl⟩
end Go.Proofs.YtpddneplkbdedaaDoor
