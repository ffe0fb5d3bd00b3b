/- Join at every slice; Tokenize at every text; Walk: alive. -/
import Derived.Test.YtpddneplkbdedaaDoorW30
namespace Go.Proofs.YtpddneplkbdedaaDoor
open Go.RowKit
set_option linter.unusedVariables false
set_option linter.unusedSimpArgs false

set_option maxRecDepth 100000 in
theorem join_nil (ao : Option Addr) (ca : Nat) (w : World) (hc : Ctx w) : Calls Tryd.prog 16 #[.slice ao 0 ca] w (JPost w ([], 0)) := by
  go_enter Tryd.func16, Tryd.ntmps16
  go_wp2_with fail
  refine wp_loop_rounds 1 ?_
  rw [rounds_succ]
  go_wp2_with fail
  refine wp_loop_rounds 1 ?_
  rw [rounds_succ]
  go_wp2_with fail
  refine (bstr_l _ _ [] _ (fresh_IB w)).mono ?_
  rintro e w1 ⟨rfl, hb1⟩
  go_wp2_with fail
  go_ret2
  exact ⟨rfl, ((Below.refl _ _).alloc (Nat.le_refl _) _).trans hb1⟩
set_option maxRecDepth 100000 in
theorem rjoin_nil (ao : Option Addr) (ca : Nat) (w : World) : Calls Tryd.prog 17 #[.slice ao 0 ca] w (JPost w ([], 0)) := by
  go_enter Tryd.func17, Tryd.ntmps17
  go_wp2_with fail
  refine wp_loop_rounds 1 ?_
  rw [rounds_succ]
  go_wp2_with fail
  refine wp_loop_rounds 1 ?_
  rw [rounds_succ]
  go_wp2_with fail
  go_ret2
  exact ⟨rfl, Below.refl _ _⟩

def Fits (ts : List Tk) : Prop := ts.length ≤ 1000000 ∧ ∀ i (h : i < ts.length), ts[i].2.2.length ≤ 100000 ∧ ts[i].2.1 ≤ 9223372036854775807
theorem join_any (v : Value) (ts : List Tk) (hf : Fits ts) (w : World) (hc : Ctx w) (h : TokSl w v ts) : Calls Tryd.prog 16 #[v] w (JPost w (joinL ts)) := by
  obtain ⟨ao, ca, rfl, rfl | ⟨a, rfl, ha⟩⟩ := h
  · exact join_nil ao ca w hc
  · exact join_at a _ ca ts rfl hf.1 hf.2 w hc ha
theorem rjoin_any (v : Value) (ts : List Tk) (hf : Fits ts) (w : World) (h : TokSl w v ts) : Calls Tryd.prog 17 #[v] w (JPost w (joinL ts)) := by
  obtain ⟨ao, ca, rfl, rfl | ⟨a, rfl, ha⟩⟩ := h
  · exact rjoin_nil ao ca w
  · exact rjoin_at a _ ca ts rfl hf.1 hf.2 w ha

theorem tok_any (l : List UInt8) (hl : l.length ≤ 1000000) (w : World) (hc : Ctx w) : Calls Tryd.prog 10 #[.string (str l)] w (TokPost w (tokL l)) := by
  unfold tokL
  by_cases h : 4096 < l.length
  · rw [if_pos h]; exact tok_long (str l) (by rw [str_size]; exact h) (by rw [str_size]; omega) w
  · rw [if_neg h]; exact tok_short l (by omega) w hc
theorem rtok_any (l : List UInt8) (hl : l.length ≤ 1000000) (w : World) : Calls Tryd.prog 11 #[.string (str l)] w (TokPost w (tokL l)) := by
  unfold tokL
  by_cases h : 4096 < l.length
  · rw [if_pos h]; exact rtok_long (str l) (by rw [str_size]; exact h) (by rw [str_size]; omega) w
  · rw [if_neg h]; exact rtok_short l (str l) rfl (by omega) w

theorem sl_of_owns {w : World} {B : Nat} {v : Value} {ts : List Tk} (h : w.ownsRow B 34 3 v ts.length (cellsT ts)) : TokSl w v ts := by
  rcases h.2 with ⟨hv, h0⟩ | ⟨g, cap, cur, hv, _, hg, _, _, hcs, htk⟩
  · rw [hv]
    have : ts = [] := List.length_eq_zero_iff.1 h0
    exact ⟨none, 0, by rw [h0], Or.inl this⟩
  · rw [hv]
    refine ⟨some ⟨g, 0, none⟩, cap, rfl, Or.inr ⟨_, rfl, ?_⟩⟩
    rw [hv] at h
    intro i hi
    have key : ∀ (ts : List Tk) (i : Nat) (hi : i < ts.length), (cellsT ts)[i * 3]? = some (.int .i64 ts[i].1) ∧ (cellsT ts)[i * 3 + 1]? = some (.int .i64 ts[i].2.1) ∧ (cellsT ts)[i * 3 + 2]? = some (.string (str ts[i].2.2)) := by
      intro ts
      induction ts with
      | nil => intro i hi; simp at hi
      | cons t ts ih =>
        intro i hi
        have hc : cellsT (t :: ts) = .int .i64 t.1 :: .int .i64 t.2.1 :: .string (str t.2.2) :: cellsT ts := rfl
        cases i with
        | zero => rw [hc]; exact ⟨rfl, rfl, rfl⟩
        | succ i =>
          have := ih i (by simpa using hi)
          rw [hc, show (i + 1) * 3 = i * 3 + 3 by omega]
          simp only [List.getElem?_cons_succ, List.getElem_cons_succ]
          exact this
    obtain ⟨k0, k1, k2⟩ := key ts i hi
    have ha : (⟨g, 0, none⟩ : Addr).add (i * 3) = ⟨g, i * 3, none⟩ := by
      unfold Addr.add
      split
      · rename_i h0; rw [h0]
      · simp
    have hc := fun j hj => h.cellAt j hj
    rw [ha]
    refine ⟨?_, ?_, ?_⟩
    · rw [hc (i * 3) (by omega)]; exact k0
    · show w.cell? ⟨g, i * 3 + 1, none⟩ = _
      rw [hc (i * 3 + 1) (by omega)]; exact k1
    · show w.cell? ⟨g, i * 3 + 2, none⟩ = _
      rw [hc (i * 3 + 2) (by omega)]; exact k2

def aliveT : List UInt8 := [108, 101, 116, 32, 110, 32, 61, 32, 53, 59, 32, 35, 32, 102, 105, 118, 101, 10, 34, 97, 32, 98, 34]
def aliveTs : List Tk := [(5, 1, [108, 101, 116]), (1, 1, [110]), (4, 1, [61]), (2, 1, [53]), (4, 1, [59]), (3, 2, [97, 32, 98])]
theorem alive_tok : tokL aliveT = (aliveTs, 0, 0) := by decide +kernel
theorem alive_tok2 : tokL [10, 49, 50, 97] = ([], 2, 5) := by decide +kernel
theorem alive_join : joinL aliveTs = ([108, 101, 116, 32, 110, 32, 61, 32, 53, 32, 59, 10, 34, 97, 32, 98, 34], 0) := by decide +kernel
theorem alive_word : isWord [115, 116, 111, 112] = true ∧ isWord [110] = false := by decide +kernel

set_option maxRecDepth 100000 in
theorem alive_any (w : World) (hc : Ctx w) : KB 9 #[] (.bool true) w := by
  have H1 := Lib.hid (fun w (hw : Ctx w) => tok_any aliveT (by decide) w hw)
  have HC := Lib.hid hc
  clear hc
  unfold KB
  go_enter Tryd.func9, Tryd.ntmps9
  go_wp2_with fail
  refine (H1.out _ HC.out).mono ?_
  rw [alive_tok]
  rintro e w1 ⟨v, rfl, hown, hb1⟩
  have hs1 := Lib.hid (sl_of_owns hown)
  obtain ⟨g, cap, cur, rfl, hrest⟩ : ∃ g cap cur, v = .slice (some ⟨g, 0, none⟩) 6 cap ∧ w.heap.size ≤ g ∧ w1.heap[g]? = some (.cells cur 34 (0, 0)) ∧ 6 ≤ cap ∧ cap ≤ maxLen ∧ cur.size = cap * 3 ∧ cur.toList.take (6 * 3) = cellsT aliveTs := by
    rcases hown.2 with ⟨_, h0⟩ | h
    · exact absurd h0 (by decide)
    · exact h
  clear hrest
  have hcc := fun j hj => hown.cellAt j hj
  have c0 : w1.cell? ⟨g, 0, none⟩ = some (.int .i64 5) := hcc 0 (by decide)
  have c3 : w1.cell? ⟨g, 3, none⟩ = some (.int .i64 1) := hcc 3 (by decide)
  have c4 : w1.cell? ⟨g, 4, none⟩ = some (.int .i64 1) := hcc 4 (by decide)
  have c5 : w1.cell? ⟨g, 5, none⟩ = some (.string ⟨#[110]⟩) := hcc 5 (by decide)
  have c15 : w1.cell? ⟨g, 15, none⟩ = some (.int .i64 3) := hcc 15 (by decide)
  have c16 : w1.cell? ⟨g, 16, none⟩ = some (.int .i64 2) := hcc 16 (by decide)
  have c17 : w1.cell? ⟨g, 17, none⟩ = some (.string ⟨#[97, 32, 98]⟩) := hcc 17 (by decide)
  clear hcc hown
  go_wp2_with fail
  have hf : Fits aliveTs := by
    refine ⟨by decide, fun i hi => ?_⟩
    have : ∀ t ∈ aliveTs, t.2.2.length ≤ 100000 ∧ t.2.1 ≤ 9223372036854775807 := by decide
    exact this _ (List.getElem_mem _)
  have hC1 := Lib.hid (HC.out.below hb1)
  refine (join_any _ aliveTs hf w1 hC1.out hs1.out).mono ?_
  rw [alive_join]
  rintro e w2 ⟨rfl, hb2⟩
  have hC2 := Lib.hid (hC1.out.below hb2)
  have HB1 := Lib.hid (hb1.trans (hb2.mono hb1.size))
  have hz2 := HB1.out.size
  clear c0 c3 c4 c5 c15 c16 c17 hf hb1 hb2
  go_wp2_with fail
  refine (tok_any [10, 49, 50, 97] (by decide) w2 hC2.out).mono ?_
  rw [alive_tok2]
  rintro e w3 ⟨v3, rfl, hown3, hb3⟩
  have hC3 := Lib.hid (hC2.out.below hb3)
  have HB3 := Lib.hid (HB1.out.trans (hb3.mono hz2))
  have hz3 := HB3.out.size
  clear hown3 hb3
  go_wp2_with fail
  have W1 := word_any [115, 116, 111, 112] w3 hC3.out.1
  rw [alive_word.1] at W1
  refine W1.mono ?_
  rintro e w4 ⟨rfl, hb4⟩
  have hC4 := Lib.hid (hC3.out.below hb4)
  have HB4 := Lib.hid (HB3.out.trans (hb4.mono hz3))
  have hz4 := HB4.out.size
  clear hb4
  go_wp2_with fail
  have W2 := word_any [110] w4 hC4.out.1
  rw [alive_word.2] at W2
  refine W2.mono ?_
  rintro e w5 ⟨rfl, hb5⟩
  go_wp2_with fail
  go_ret
  exact ⟨rfl, HB4.out.trans (hb5.mono hz4)⟩
end Go.Proofs.YtpddneplkbdedaaDoor
