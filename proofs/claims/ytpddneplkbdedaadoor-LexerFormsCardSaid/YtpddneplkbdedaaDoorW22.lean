/- Walk: Tokenize. -/
import Derived.Test.YtpddneplkbdedaaDoorW21
import Derived.Deep.DeepMust
namespace Go.Proofs.YtpddneplkbdedaaDoor
open Go.RowKit
set_option linter.unusedVariables false
set_option linter.unusedSimpArgs false

theorem info34 : (Tryd.prog.info? 34).map (fun i => (i.zero, i.size, i.bytes)) = some (some (.agg #[.int .i64 0, .int .i64 0, .string ⟨#[]⟩]), 3, 32) := by kernel_rfl

theorem tok_long (s : ByteArray) (h : 4096 < s.size) (hz : s.size ≤ 9223372036854775807) (w : World) : Calls Tryd.prog 10 #[.string s] w (TokPost w ([], 0, 2)) := by
  go_enter Tryd.func10, Tryd.ntmps10
  go_wp2_with fail
  go_ret3
  exact ⟨_, rfl, World.ownsRow_nil _ _ _ _, Below.refl _ _⟩

/-- What a round keeps. -/
def TokRel (w : World) (R : TRes) (s v i : Value) (wr : World) : Prop :=
  ∃ (f : Nat) (m : List UInt8) (line : Int) (acc : List Tk), s = .string (str m) ∧ i = .int .i64 line ∧ m.length < f ∧ m.length ≤ 4096 ∧ 1 ≤ line ∧ line + m.length ≤ 4097 ∧ acc.length + m.length ≤ 4096 ∧ tokF f line m acc = R ∧
    wr.ownsRow w.heap.size 34 3 v acc.length (cellsT acc) ∧ Below w.heap.size w wr

set_option maxRecDepth 100000 in
set_option maxHeartbeats 1000000 in
theorem tok_short (l : List UInt8) (h : l.length ≤ 4096) (w : World) (hc : Ctx w) : Calls Tryd.prog 10 #[.string (str l)] w (TokPost w (tokF (l.length + 1) 1 l [])) := by
  obtain ⟨R, hR⟩ : ∃ R, tokF (l.length + 1) 1 l [] = R := ⟨_, rfl⟩
  obtain ⟨i0, hi, hz0, hz1, hz2⟩ := info_parts info34
  have hsz : (str l).size ≤ 4096 := by rw [str_size]; exact h
  have HC := Lib.hid hc
  have h0 := Lib.hid (show TokRel w R (.string (str l)) (.slice none 0 0) (.int .i64 1) w from
    ⟨l.length + 1, l, 1, [], rfl, rfl, by omega, h, by omega, by omega, by simpa using h, hR, World.ownsRow_nil _ _ _ _, Below.refl _ _⟩)
  rw [hR]
  clear hR hc h
  generalize str l = s at *
  clear l
  go_enter Tryd.func10, Tryd.ntmps10
  go_wp2_with fail
  go_loopw [0, 5, 6] (fun s v i wr => TokRel w R s v i wr) (fun s _ _ _ => szOf s)
  case atStart => exact h0.out
  case round =>
    obtain ⟨f, m, line, acc, rfl, rfl, hf, hm, hl1, hl2, hac, hR, hown, hbel⟩ := hrel
    obtain ⟨f, rfl⟩ : ∃ g, f = g + 1 := ⟨f - 1, by omega⟩
    have hs1 := skip_le m false
    have hb := Lib.hid (blanks_any m (str m) rfl (by rw [str_size]; omega))
    have hx1 : (str m).extract 0 (skip false m) = str (m.take (skip false m)) := str_take _ _
    have hx2 : (str m).extract (skip false m) (str m).size = str (m.drop (skip false m)) := str_drop _ _
    have hcn := Lib.hid (fun w => Tryd.strings_Count_one (str (m.take (skip false m))) 10 w)
    have hcl := count_le m (skip false m) 10
    have hcw : Lib.countByte (str (m.take (skip false m))).data.toList 10 = Lib.countByte (m.take (skip false m)) 10 := by rw [str_data]
    rw [hcw] at hcn
    clear hcw
    have hsB : (str (m.drop (skip false m))).size + skip false m = m.length := by rw [str_size, List.length_drop]; omega
    have hsm : (str m).size = m.length := str_size m
    have hm1 : (str m).size ≤ 4096 := by omega
    have hn1 : skip false m ≤ (str m).size := by omega
    have HSB := Lib.hid hsB
    have HSM := Lib.hid hsm
    clear hsB hsm
    obtain ⟨n, hn⟩ : ∃ n, skip false m = n := ⟨_, rfl⟩
    obtain ⟨c, hcc⟩ : ∃ c, Lib.countByte (m.take n) 10 = c := ⟨_, rfl⟩
    rw [hn] at hs1 hb hx1 hx2 hcn hcl HSB hn1
    rw [hcc] at hcn hcl
    have hst : tokF (f + 1) line m acc = (if m.drop n = [] then (acc, 0, 0) else if (nextT (m.drop n)).2.2.2 = 0 then tokF f (line + (c : Int)) ((m.drop n).drop (nextT (m.drop n)).2.2.1) (acc ++ [((nextT (m.drop n)).1, line + (c : Int), (nextT (m.drop n)).2.1)]) else ([], line + (c : Int), (nextT (m.drop n)).2.2.2)) := by
      rw [tokF, hn, hcc]
    rw [hst] at hR
    clear hst hcc hn
    have hc0 : (0 : Int) ≤ (c : Int) := by omega
    have hcb : (c : Int) ≤ 4096 := by omega
    have hlb : line ≤ 5000 := by omega
    by_cases he : m.drop n = []
    · rw [if_pos he] at hR
      have hR1 : R = (acc, 0, 0) := hR.symm
      have hB0 : (str (m.drop n)).toList = [] := by rw [ByteArray.toList_eq, str_data, he]
      have hB1 : (str (m.drop n)).toList.isEmpty = true := by rw [hB0]; rfl
      have HR1 := Lib.hid hR1
      have HO := Lib.hid hown
      have HE := Lib.hid hbel
      clear hR hR1 he hown hbel hac hm
      generalize str (m.drop n) = sB at *
      generalize str (m.take n) = sA at *
      generalize str m = sM at *
      go_wp2_with fail
      refine (hb.out _).mono ?_
      rintro e w1 ⟨rfl, rfl⟩
      go_wp2_with fail
      refine (hcn.out _).mono ?_
      rintro e w1 ⟨rfl, rfl⟩
      go_wp2_with fail
      go_ret3
      rw [HR1.out]
      exact ⟨_, rfl, HO.out, HE.out⟩
    · rw [if_neg he] at hR
      have hN := Lib.hid (fun w (hw : Ctx w) => next_any (m.drop n) (by have := List.length_pos_iff.2 he; omega) (by rw [List.length_drop]; omega) w hw)
      have hok := nextT_ok (m.drop n) he
      have hB0 : ¬ (str (m.drop n)).toList = [] := by rw [ByteArray.toList_eq, str_data]; exact he
      have hB1 : (str (m.drop n)).toList.isEmpty = false := by rw [ByteArray.toList_eq, str_data]; simpa using he
      obtain ⟨⟨k, tx, sz, er⟩, ht⟩ : ∃ t, nextT (m.drop n) = t := ⟨_, rfl⟩
      rw [ht] at hR hN hok
      unfold retV tokV at hN
      dsimp only at hR hN hok
      clear ht
      have hCw := Lib.hid (HC.out.below hbel)
      by_cases h0 : er = 0
      · subst h0
        rw [if_pos rfl] at hR
        obtain ⟨hok1, hok2, hok3⟩ := hok rfl
        have hsz1 : sz ≤ (str (m.drop n)).size := by rw [str_size]; exact hok2
        have hx3 : (str (m.drop n)).extract sz (str (m.drop n)).size = str ((m.drop n).drop sz) := str_drop _ _
        have hBs : (str (m.drop n)).size ≤ 4096 := by rw [str_size, List.length_drop]; omega
        have hT : (str tx).size ≤ 4096 := by rw [str_size]; rw [List.length_drop] at hok3; omega
        have hM2 : ((m.drop n).drop sz).length + 1 ≤ m.length := by rw [List.length_drop]; rw [List.length_drop] at hok2 ⊢; omega
        have hM3 : ((m.drop n).drop sz).length + n + sz = m.length := by rw [List.length_drop]; rw [List.length_drop] at hok2 ⊢; omega
        have hst2 := Lib.hid (show ∀ v wr, wr.ownsRow w.heap.size 34 3 v (acc.length + 1) (cellsT acc ++ [.int .i64 k, .int .i64 (line + c), .string (str tx)]) → Below w.heap.size w wr → TokRel w R (.string (str ((m.drop n).drop sz))) v (.int .i64 (line + c)) wr from
          fun v wr ho hb => ⟨f, (m.drop n).drop sz, line + c, acc ++ [(k, line + c, tx)], rfl, rfl, by omega, by omega, by omega, by omega, by rw [List.length_append, List.length_singleton]; omega, hR, by rw [List.length_append, List.length_singleton, cellsT_snoc]; exact ho, hb⟩)
        have HM2 := Lib.hid hM2
        have hm4 : (str ((m.drop n).drop sz)).size < (str m).size := by rw [str_size, str_size]; omega
        have hz := hbel.size
        have HE := Lib.hid hbel
        have hal : acc.length ≤ 4096 := by omega
        clear hR he hbel hm hM2 hM3 hok3 hok hok2
        generalize str ((m.drop n).drop sz) = sC at *
        generalize str (m.drop n) = sB at *
        generalize str (m.take n) = sA at *
        generalize str m = sM at *
        generalize str tx = sT at *
        generalize cellsT acc = xs at *
        generalize acc.length = a at *
        go_wp2_with fail
        refine (hb.out _).mono ?_
        rintro e w1 ⟨rfl, rfl⟩
        go_wp2_with fail
        refine (hcn.out _).mono ?_
        rintro e w1 ⟨rfl, rfl⟩
        go_wp2_with fail
        refine (hN.out _ hCw.out).mono ?_
        rintro e w1 ⟨rfl, hbn⟩
        have hbz := hbn.size
        have hown1 := ownsRow_below hown hbn
        go_wp2_with (at_builtin; go_must (refine wpList_append_own _ rfl _ _ 23 rfl w.heap.size 34 i0 (.agg #[.int .i64 0, .int .i64 0, .string ⟨#[]⟩]) 3 32 Tryd.underlying23 hi hz0 hz1 hz2 rfl (by decide) _ _ _ rfl ((hown1.alloc _).alloc _) ⟨w1.heap.size + 1, 0, none⟩ 1 1 [.int .i64 k, .int .i64 (line + c), .string sT] rfl rfl ?c1 ?c2 ?c3 ?c4 ?c5 ?_))
        case c1 =>
          intro j u hj
          match j, hj with
          | 0, hj => simp at hj; subst hj; simp [Addr.add]
          | 1, hj => simp at hj; subst hj; simp [Addr.add]
          | 2, hj => simp at hj; subst hj; simp [Addr.add]
        case c2 => intro u hu; simp at hu; rcases hu with rfl | rfl | rfl <;> rfl
        case c3 => unfold maxLen; omega
        case c4 => omega
        case c5 => simp; omega
        intro v' w2 hown' hgrow _
        have hE2 := Lib.hid (((((HE.out.trans (hbn.mono hz)).alloc (by omega) _).alloc (by simp; omega) _).grown hgrow (by simp; omega) (fun k hk => (hown.lt k hk).1)))
        have HO2 := Lib.hid hown'
        clear hown' hgrow hown hown1
        go_wp2_with fail
        go_roundw
        case rel => exact hst2.out _ _ HO2.out hE2.out
        case measure => simp [szOf]; omega
      · rw [if_neg h0] at hR
        have hR1 : R = ([], line + (c : Int), er) := hR.symm
        have hb1 : (er != 0) = true := by simpa using h0
        have HR1 := Lib.hid hR1
        have HO := Lib.hid hown
        have HE := Lib.hid hbel
        have hz := hbel.size
        clear hR hR1 he hown hbel hac hm h0 hok
        generalize str (m.drop n) = sB at *
        generalize str (m.take n) = sA at *
        generalize str m = sM at *
        generalize str tx = sT at *
        go_wp2_with fail
        refine (hb.out _).mono ?_
        rintro e w1 ⟨rfl, rfl⟩
        go_wp2_with fail
        refine (hcn.out _).mono ?_
        rintro e w1 ⟨rfl, rfl⟩
        go_wp2_with fail
        refine (hN.out _ hCw.out).mono ?_
        rintro e w1 ⟨rfl, hbn⟩
        go_wp2_with fail
        go_ret3
        rw [HR1.out]
        exact ⟨_, rfl, World.ownsRow_nil _ _ _ _, (HE.out.trans (hbn.mono hz)).alloc (by have := hbn.size; omega) _⟩
end Go.Proofs.YtpddneplkbdedaaDoor
