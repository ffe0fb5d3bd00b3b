/- The reference's Tokenize: what it computes, and its walk. -/
import Derived.Test.YtpddneplkbdedaaDoorW22
namespace Go.Proofs.YtpddneplkbdedaaDoor
open Go.RowKit
set_option linter.unusedVariables false
set_option linter.unusedSimpArgs false

/-- tokF, begun inside a comment or not. -/
def tokC (cm : Bool) : Nat → Int → List UInt8 → List Tk → TRes
  | 0, _, _, _ => ([], 0, 0)
  | f + 1, line, l, acc =>
    if l.drop (skip cm l) = [] then (acc, 0, 0)
    else if (nextT (l.drop (skip cm l))).2.2.2 = 0 then
      tokF f (line + (Lib.countByte (l.take (skip cm l)) 10 : Int)) ((l.drop (skip cm l)).drop (nextT (l.drop (skip cm l))).2.2.1)
        (acc ++ [((nextT (l.drop (skip cm l))).1, line + (Lib.countByte (l.take (skip cm l)) 10 : Int), (nextT (l.drop (skip cm l))).2.1)])
    else ([], line + (Lib.countByte (l.take (skip cm l)) 10 : Int), (nextT (l.drop (skip cm l))).2.2.2)
theorem tokC_eq (cm : Bool) (f : Nat) (line : Int) (l : List UInt8) (acc : List Tk) : tokC cm (f + 1) line l acc =
    if l.drop (skip cm l) = [] then (acc, 0, 0)
    else if (nextT (l.drop (skip cm l))).2.2.2 = 0 then
      tokF f (line + (Lib.countByte (l.take (skip cm l)) 10 : Int)) ((l.drop (skip cm l)).drop (nextT (l.drop (skip cm l))).2.2.1)
        (acc ++ [((nextT (l.drop (skip cm l))).1, line + (Lib.countByte (l.take (skip cm l)) 10 : Int), (nextT (l.drop (skip cm l))).2.1)])
    else ([], line + (Lib.countByte (l.take (skip cm l)) 10 : Int), (nextT (l.drop (skip cm l))).2.2.2) := rfl
theorem tokC_false (f : Nat) (line : Int) (l : List UInt8) (acc : List Tk) : tokC false f line l acc = tokF f line l acc := by
  cases f <;> rfl
theorem tokC_nil (cm : Bool) (f : Nat) (line : Int) (acc : List Tk) : tokC cm (f + 1) line [] acc = (acc, 0, 0) := by
  rw [tokC_eq]
  simp
theorem tokC_cons (cm cm' : Bool) (c : UInt8) (r : List UInt8) (f : Nat) (line line' : Int) (acc : List Tk) (hs : skip cm (c :: r) = 1 + skip cm' r) (hl : line' = line + (if c = 10 then 1 else 0)) :
    tokC cm (f + 1) line (c :: r) acc = tokC cm' (f + 1) line' r acc := by
  have h1 : (c :: r).drop (skip cm (c :: r)) = r.drop (skip cm' r) := by rw [hs, Nat.add_comm, List.drop_succ_cons]
  have h2 : line + (Lib.countByte ((c :: r).take (skip cm (c :: r))) 10 : Int) = line' + (Lib.countByte (r.take (skip cm' r)) 10 : Int) := by
    rw [hs, Nat.add_comm, List.take_succ_cons]
    unfold Lib.countByte
    rw [List.count_cons, hl]
    by_cases h : c = 10
    · simp [h]; omega
    · simp [h]
  rw [tokC_eq, tokC_eq, h1, h2]
theorem tokC_line (cm : Bool) (r : List UInt8) (f : Nat) (line : Int) (acc : List Tk) : tokC cm (f + 1) line (10 :: r) acc = tokC false (f + 1) (line + 1) r acc :=
  tokC_cons _ _ _ _ _ _ _ _ (by rw [skip, if_pos rfl]) (by simp)
theorem tokC_skip (cm : Bool) (c : UInt8) (r : List UInt8) (f : Nat) (line : Int) (acc : List Tk) (h10 : c ≠ 10) (h : cm = true ∨ c = 32 ∨ c = 9 ∨ c = 35) : tokC cm (f + 1) line (c :: r) acc = tokC (cm || c == 35) (f + 1) line r acc := by
  refine tokC_cons _ _ _ _ _ _ _ _ ?_ (by simp [h10])
  rw [skip, if_neg h10]
  by_cases h1 : (cm || c == 32 || c == 9) = true
  · rw [if_pos h1]
    cases cm
    · have : (c == 35) = false := by
        simp at h1
        rcases h1 with h1 | h1 <;> subst h1 <;> rfl
      rw [this]; rfl
    · rfl
  · rw [if_neg h1]
    simp at h1
    obtain ⟨⟨hcm, h32⟩, h9⟩ := h1
    have h35 : c = 35 := by
      rcases h with h | h | h | h
      · rw [hcm] at h; cases h
      · exact absurd h h32
      · exact absurd h h9
      · exact h
    rw [if_pos h35, h35]
    simp
theorem tokC_tok (c : UInt8) (r : List UInt8) (f : Nat) (line : Int) (acc : List Tk) (h10 : c ≠ 10) (h32 : c ≠ 32) (h9 : c ≠ 9) (h35 : c ≠ 35) :
    tokC false (f + 1) line (c :: r) acc = if (nextT (c :: r)).2.2.2 = 0 then tokC false f line ((c :: r).drop (nextT (c :: r)).2.2.1) (acc ++ [((nextT (c :: r)).1, line, (nextT (c :: r)).2.1)]) else ([], line, (nextT (c :: r)).2.2.2) := by
  have hs : skip false (c :: r) = 0 := by
    rw [skip, if_neg h10, if_neg (by simp [h32, h9]), if_neg h35]
  rw [tokC_eq, hs, List.drop_zero, List.take_zero, if_neg (List.cons_ne_nil _ _)]
  have h0 : Lib.countByte ([] : List UInt8) 10 = 0 := rfl
  rw [h0, show line + ((0 : Nat) : Int) = line by omega]
  split
  · symm; exact tokC_false _ _ _ _
  · rfl

theorem rtok_long (s : ByteArray) (h : 4096 < s.size) (hz : s.size ≤ 9223372036854775807) (w : World) : Calls Tryd.prog 11 #[.string s] w (TokPost w ([], 0, 2)) := by
  go_enter Tryd.func11, Tryd.ntmps11
  go_wp2_with fail
  go_ret3
  exact ⟨_, rfl, World.ownsRow_nil _ _ _ _, Below.refl _ _⟩

/-- What a round keeps. -/
def RTokRel (w : World) (l : List UInt8) (R : TRes) (v i cm j : Value) (wr : World) : Prop :=
  ∃ (f : Nat) (k : Nat) (b : Bool) (line : Int) (acc : List Tk), j = .int .i64 (k : Int) ∧ k ≤ l.length ∧ cm = .bool b ∧ i = .int .i64 line ∧ l.length - k < f ∧ 1 ≤ line ∧ line ≤ 1 + k ∧ acc.length ≤ k ∧ tokC b f line (l.drop k) acc = R ∧
    wr.ownsRow w.heap.size 34 3 v acc.length (cellsT acc) ∧ Below w.heap.size w wr

theorem byte_ne (c n : UInt8) (h : c ≠ n) : ((c.toNat : Int) == (n.toNat : Int)) = false := by
  have : c.toNat ≠ n.toNat := fun e => h (UInt8.toNat_inj.mp e)
  rw [beq_eq_false_iff_ne]
  omega
theorem byte_eq (c n : UInt8) (h : c = n) : ((c.toNat : Int) == (n.toNat : Int)) = true := by rw [h]; exact BEq.rfl

set_option maxRecDepth 100000 in
set_option maxHeartbeats 4000000 in
theorem rtok_short (l : List UInt8) (s : ByteArray) (hls : str l = s) (h : l.length ≤ 4096) (w : World) : Calls Tryd.prog 11 #[.string s] w (TokPost w (tokF (l.length + 1) 1 l [])) := by
  obtain ⟨R, hR⟩ : ∃ R, tokF (l.length + 1) 1 l [] = R := ⟨_, rfl⟩
  obtain ⟨i0, hi, hz0, hz1, hz2⟩ := info_parts info34
  have hsl : s.size = l.length := by rw [← hls]; exact str_size l
  have hsz : s.size ≤ 4096 := by omega
  have h0 := Lib.hid (show RTokRel w l R (.slice none 0 0) (.int .i64 1) (.bool false) (.int .i64 0) w from
    ⟨l.length + 1, 0, false, 1, [], rfl, by omega, rfl, rfl, by omega, by omega, by omega, by simp, by rw [tokC_false]; exact hR, World.ownsRow_nil _ _ _ _, Below.refl _ _⟩)
  rw [hR]
  have HLS := Lib.hid hls
  have HSL := Lib.hid hsl
  clear hR h hls hsl
  go_enter Tryd.func11, Tryd.ntmps11
  go_wp2_with fail
  go_loopw [5, 6, 7, 8] (fun v i cm j wr => RTokRel w l R v i cm j wr) (fun _ _ _ j _ => s.size - (intOf j).toNat)
  case atStart => exact h0.out
  case round =>
    obtain ⟨f, k, b, line, acc, rfl, hk, rfl, rfl, hf, hl1, hl2, hac, hR, hown, hbel⟩ := hrel
    obtain ⟨f, rfl⟩ : ∃ g, f = g + 1 := ⟨f - 1, by omega⟩
    have hsl := HSL.out
    by_cases hkl : k < l.length
    · have hks : k < s.size := by omega
      have hd : l.drop k = l[k] :: l.drop (k + 1) := List.drop_eq_getElem_cons hkl
      have hc : s[k] = l[k] := by have := HLS.out; subst this; rfl
      have hline : line ≤ 5000 := by omega
      have hks2 : k ≤ 5000 := by omega
      rw [hd] at hR
      have HO := Lib.hid hown
      have HE := Lib.hid hbel
      by_cases h10 : l[k] = 10
      · have t10 : ((s[k].toNat : Int) == 10) = true := by rw [hc]; exact byte_eq _ 10 h10
        rw [h10, tokC_line] at hR
        have hst := Lib.hid (show RTokRel w l R u5 (.int .i64 (line + 1)) (.bool false) (.int .i64 ((k : Int) + 1)) wr from
          ⟨f + 1, k + 1, false, line + 1, acc, by go_num, by omega, rfl, rfl, by omega, by omega, by omega, by omega, hR, HO.out, HE.out⟩)
        clear hR hown hbel hsl hd hc hf
        try clear h35
        try clear h9
        try clear h32
        clear h10 hkl
        go_wp2_with fail
        go_roundw
        case rel => exact hst.out
        case measure => simp [intOf]; omega
      · have t10 : ((s[k].toNat : Int) == 10) = false := by rw [hc]; exact byte_ne _ 10 h10
        cases b
        · by_cases h32 : l[k] = 32
          · have t32 : ((s[k].toNat : Int) == 32) = true := by rw [hc]; exact byte_eq _ 32 h32
            have t35 : ((s[k].toNat : Int) == 35) = false := by rw [hc]; exact byte_ne _ 35 (by rw [h32]; decide)
            rw [tokC_skip _ _ _ _ _ _ h10 (Or.inr (Or.inl h32)), show (false || l[k] == 35) = false by rw [h32]; decide] at hR
            have hst := Lib.hid (show RTokRel w l R u5 (.int .i64 (line)) (.bool false) (.int .i64 ((k : Int) + 1)) wr from
              ⟨f + 1, k + 1, false, line, acc, by go_num, by omega, rfl, rfl, by omega, by omega, by omega, by omega, hR, HO.out, HE.out⟩)
            clear hR hown hbel hsl hd hc hf
            try clear h35
            try clear h9
            try clear h32
            clear h10 hkl
            go_wp2_with fail
            go_roundw
            case rel => exact hst.out
            case measure => simp [intOf]; omega
          · have t32 : ((s[k].toNat : Int) == 32) = false := by rw [hc]; exact byte_ne _ 32 h32
            by_cases h9 : l[k] = 9
            · have t9 : ((s[k].toNat : Int) == 9) = true := by rw [hc]; exact byte_eq _ 9 h9
              have t35 : ((s[k].toNat : Int) == 35) = false := by rw [hc]; exact byte_ne _ 35 (by rw [h9]; decide)
              rw [tokC_skip _ _ _ _ _ _ h10 (Or.inr (Or.inr (Or.inl h9))), show (false || l[k] == 35) = false by rw [h9]; decide] at hR
              have hst := Lib.hid (show RTokRel w l R u5 (.int .i64 (line)) (.bool false) (.int .i64 ((k : Int) + 1)) wr from
                ⟨f + 1, k + 1, false, line, acc, by go_num, by omega, rfl, rfl, by omega, by omega, by omega, by omega, hR, HO.out, HE.out⟩)
              clear hR hown hbel hsl hd hc hf
              try clear h35
              try clear h9
              try clear h32
              clear h10 hkl
              go_wp2_with fail
              go_roundw
              case rel => exact hst.out
              case measure => simp [intOf]; omega
            · have t9 : ((s[k].toNat : Int) == 9) = false := by rw [hc]; exact byte_ne _ 9 h9
              by_cases h35 : l[k] = 35
              · have t35 : ((s[k].toNat : Int) == 35) = true := by rw [hc]; exact byte_eq _ 35 h35
                rw [tokC_skip _ _ _ _ _ _ h10 (Or.inr (Or.inr (Or.inr h35))), show (false || l[k] == 35) = true by rw [h35]; decide] at hR
                have hst := Lib.hid (show RTokRel w l R u5 (.int .i64 (line)) (.bool true) (.int .i64 ((k : Int) + 1)) wr from
                  ⟨f + 1, k + 1, true, line, acc, by go_num, by omega, rfl, rfl, by omega, by omega, by omega, by omega, hR, HO.out, HE.out⟩)
                clear hR hown hbel hsl hd hc hf
                try clear h35
                try clear h9
                try clear h32
                clear h10 hkl
                go_wp2_with fail
                go_roundw
                case rel => exact hst.out
                case measure => simp [intOf]; omega
              · have t35 : ((s[k].toNat : Int) == 35) = false := by rw [hc]; exact byte_ne _ 35 h35
                rw [tokC_tok _ _ _ _ _ h10 h32 h9 h35] at hR
                rw [← hd] at hR
                have hne : l.drop k ≠ [] := by rw [hd]; exact List.cons_ne_nil _ _
                have hN := Lib.hid (fun w => one_any (l.drop k) (by rw [List.length_drop]; omega) (by rw [List.length_drop]; omega) w)
                have hok := nextT_ok (l.drop k) hne
                have hx : s.extract k s.size = str (l.drop k) := by have := HLS.out; subst this; exact str_drop l k
                obtain ⟨⟨kd, tx, sz, er⟩, ht⟩ : ∃ t, nextT (l.drop k) = t := ⟨_, rfl⟩
                rw [ht] at hR hN hok
                unfold retV tokV at hN
                dsimp only at hR hN hok
                clear ht hd hne
                by_cases h0 : er = 0
                · subst h0
                  rw [if_pos rfl] at hR
                  obtain ⟨hok1, hok2, hok3⟩ := hok rfl
                  rw [List.drop_drop] at hR
                  rw [List.length_drop] at hok2 hok3
                  have hT : (str tx).size ≤ 4096 := by rw [str_size]; omega
                  have hst := Lib.hid (show ∀ v wr, wr.ownsRow w.heap.size 34 3 v (acc.length + 1) (cellsT acc ++ [.int .i64 kd, .int .i64 line, .string (str tx)]) → Below w.heap.size w wr → RTokRel w l R v (.int .i64 line) (.bool false) (.int .i64 ((k : Int) + sz)) wr from
                    fun v wr ho hb => ⟨f, k + sz, false, line, acc ++ [(kd, line, tx)], by go_num, by omega, rfl, rfl, by omega, by omega, by omega, by rw [List.length_append, List.length_singleton]; omega, hR, by rw [List.length_append, List.length_singleton, cellsT_snoc]; exact ho, hb⟩)
                  have hks3 : k + sz ≤ s.size := by omega
                  have hal : acc.length ≤ 4096 := by omega
                  have hzz := hbel.size
                  clear hR hbel hsl hc hf hok h10 h32 h9 h35 hkl
                  generalize str (l.drop k) = sB at *
                  generalize str tx = sT at *
                  generalize cellsT acc = xs at *
                  generalize acc.length = a at *
                  go_wp2_with fail
                  refine (hN.out _).mono ?_
                  rintro e w1 ⟨rfl, hbn⟩
                  have hbz := hbn.size
                  have hown1 := ownsRow_below hown hbn
                  go_wp2_with (at_builtin; go_must (refine wpList_append_own _ rfl _ _ 23 rfl w.heap.size 34 i0 (.agg #[.int .i64 0, .int .i64 0, .string ⟨#[]⟩]) 3 32 Tryd.underlying23 hi hz0 hz1 hz2 rfl (by decide) _ _ _ rfl ((hown1.alloc _).alloc _) ⟨w1.heap.size + 1, 0, none⟩ 1 1 [.int .i64 kd, .int .i64 line, .string sT] rfl rfl ?c1 ?c2 ?c3 ?c4 ?c5 ?_))
                  case c1 =>
                    intro j u hj
                    match j, hj with
                    | 0, hj => simp at hj; subst hj; simp [Addr.add]
                    | 1, hj => simp at hj; subst hj; simp [Addr.add]
                    | 2, hj => simp at hj; subst hj; simp [Addr.add]
                  case c2 => intro u hu; simp at hu; rcases hu with rfl | rfl | rfl <;> rfl
                  case c3 => unfold maxLen; omega
                  case c4 => omega
                  case c5 => simp; omega
                  intro v' w2 hown' hgrow _
                  have hE2 := Lib.hid (((((HE.out.trans (hbn.mono hzz)).alloc (by omega) _).alloc (by simp; omega) _).grown hgrow (by simp; omega) (fun k hk => (hown.lt k hk).1)))
                  have HO2 := Lib.hid hown'
                  clear hown' hgrow hown hown1
                  go_wp2_with fail
                  go_roundw
                  case rel => exact hst.out _ _ HO2.out hE2.out
                  case measure => simp [intOf]; omega
                · rw [if_neg h0] at hR
                  have HR1 := Lib.hid hR
                  have hb1 : (er != 0) = true := by simpa using h0
                  have hzz := hbel.size
                  clear hR hbel hsl hc hf hok h10 h32 h9 h35 h0 hown hkl
                  generalize str (l.drop k) = sB at *
                  generalize str tx = sT at *
                  go_wp2_with fail
                  refine (hN.out _).mono ?_
                  rintro e w1 ⟨rfl, hbn⟩
                  go_wp2_with fail
                  go_ret3
                  rw [← HR1.out]
                  exact ⟨_, rfl, World.ownsRow_nil _ _ _ _, (HE.out.trans (hbn.mono hzz)).alloc (by have := hbn.size; omega) _⟩
        · rw [tokC_skip _ _ _ _ _ _ h10 (Or.inl rfl), show (true || l[k] == 35) = true from rfl] at hR
          have hst := Lib.hid (show RTokRel w l R u5 (.int .i64 (line)) (.bool true) (.int .i64 ((k : Int) + 1)) wr from
            ⟨f + 1, k + 1, true, line, acc, by go_num, by omega, rfl, rfl, by omega, by omega, by omega, by omega, hR, HO.out, HE.out⟩)
          clear hR hown hbel hsl hd hc hf
          try clear h35
          try clear h9
          try clear h32
          clear h10 hkl
          go_wp2_with fail
          go_roundw
          case rel => exact hst.out
          case measure => simp [intOf]; omega
    · have hke : k = l.length := by omega
      have hks : s.size ≤ k := by omega
      rw [List.drop_of_length_le (by omega), tokC_nil] at hR
      have HR1 := Lib.hid hR
      have HO := Lib.hid hown
      have HE := Lib.hid hbel
      clear hR hown hbel hke hsl hkl
      go_wp2_with fail
      go_ret3
      rw [← HR1.out]
      exact ⟨_, rfl, HO.out, HE.out⟩
end Go.Proofs.YtpddneplkbdedaaDoor
