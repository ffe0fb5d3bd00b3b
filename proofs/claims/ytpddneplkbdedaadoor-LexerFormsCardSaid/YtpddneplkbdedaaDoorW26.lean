/- valid told by lists; Walks: the Builder. -/
import Derived.Test.YtpddneplkbdedaaDoorW25
import Derived.Lib.Builder
import Derived.Lib.AppendStr
import Derived.Lib.OthersKept
import Derived.Laws.Externs
namespace Go.Proofs.YtpddneplkbdedaaDoor
open Go.RowKit
set_option linter.unusedVariables false
set_option linter.unusedSimpArgs false

theorem nextT_sz (l : List UInt8) : (nextT l).2.2.1 ≤ l.length := by
  by_cases h1 : l = []
  · subst h1; decide
  · by_cases h : (nextT l).2.2.2 = 0
    · exact (nextT_ok l h1 h).2.1
    · cases l with
      | nil => exact absurd rfl h1
      | cons c r =>
        have hpl := tw_len isPt (c :: r)
        unfold nextT at h ⊢
        dsimp only at h ⊢
        by_cases h2 : isLc c = true
        · rw [if_pos h2] at h ⊢
          by_cases h3 : isWord ((c :: r).takeWhile isPt) = true
          · rw [if_pos h3] at h; exact absurd rfl h
          · rw [if_neg h3] at h ⊢
            by_cases h4 : 12 < ((c :: r).takeWhile isPt).length
            · rw [if_pos h4]; simp
            · rw [if_neg h4] at h; exact absurd rfl h
        · rw [if_neg h2] at h ⊢
          by_cases h3 : isDg c = true
          · rw [if_pos h3]; exact hpl
          · rw [if_neg h3] at h ⊢
            by_cases h4 : c = 34
            · rw [if_pos h4] at h ⊢
              by_cases h5 : r[(r.takeWhile isPr).length]? = some 34
              · rw [if_pos h5] at h; exact absurd rfl h
              · rw [if_neg h5]; simp
            · rw [if_neg h4] at h ⊢
              by_cases h5 : firstPre marksL (c :: r) = []
              · rw [if_pos h5]; simp
              · rw [if_neg h5] at h; exact absurd rfl h

theorem valid_any (k line : Int) (tx : List UInt8) (hl : tx.length ≤ 100000) (w : World) (hc : Ctx w) : KB 27 #[.agg #[.int .i64 k, .int .i64 line, .string (str tx)]] (.bool (validT k tx)) w := by
  have hbe : ∀ x y : List UInt8, ((str x).toList == (str y).toList) = (x == y) := fun x y => by rw [ByteArray.toList_eq, ByteArray.toList_eq, str_data, str_data]
  have ht : (str tx).toList = tx := by rw [ByteArray.toList_eq, str_data]
  unfold validT
  by_cases h3 : k = 3
  · subst h3
    rw [if_pos rfl]
    refine valid_str line (str tx) _ _ (pre_print tx (by omega)) ?_ w
    rw [hbe]
    by_cases ha : tx.all isPr = true
    · rw [ha, all_take _ _ ha]; exact BEq.rfl
    · have hf : tx.all isPr = false := by simpa using ha
      rw [hf, beq_eq_false_iff_ne]
      intro e
      have h2 : (tx.takeWhile isPr).all isPr = true := List.all_takeWhile
      rw [e] at h2
      exact ha h2
  · rw [if_neg h3]
    by_cases hk : k = 1 ∨ k = 2 ∨ k = 4 ∨ k = 5
    · rw [if_pos hk]
      by_cases he : tx = []
      · rw [if_pos he]
        exact valid_empty k line (str tx) hk (by rw [ht]; exact he) (by rw [ht, he]; rfl) w
      · rw [if_neg he]
        have hN := fun w hw => next_any tx (by have := List.length_pos_iff.2 he; omega) hl w hw
        have hnb := nextT_sz tx
        obtain ⟨⟨k', t, n, er⟩, hx⟩ : ∃ t, nextT tx = t := ⟨_, rfl⟩
        rw [hx] at hN hnb ⊢
        unfold retV tokV at hN
        dsimp only at hN hnb ⊢
        have hn : n ≤ 1000000 := by omega
        have hsz : (str tx).size ≤ 1000000 := by rw [str_size]; omega
        rw [show ((er == 0 && n == tx.length && k' == k && t == tx) = (er == 0 && n == (str tx).size && k' == k && (str t).toList == (str tx).toList)) by rw [hbe, str_size]]
        by_cases h0 : er = 0
        · refine valid_next k line k' (str tx) (str t) n er _ hk (by rw [ht]; exact he) (by rw [ht]; simpa using he) hsz hn hN ?_ w hc
          have b0 : (er == 0) = true := by simpa using h0
          rw [b0]
          by_cases h1 : n = (str tx).size
          · have b1 : (n == (str tx).size) = true := by simpa using h1
            have b1' : ((n : Int) == ((str tx).size : Int)) = true := by rw [beq_iff_eq]; omega
            rw [b1, b1']
            cases (k' == k)
            · exact Or.inr (Or.inr (Or.inl ⟨rfl, rfl, rfl, rfl, rfl⟩))
            · exact Or.inr (Or.inr (Or.inr ⟨rfl, rfl, rfl, rfl, rfl⟩))
          · have b1 : (n == (str tx).size) = false := by simpa using h1
            have b1' : ((n : Int) == ((str tx).size : Int)) = false := by rw [beq_eq_false_iff_ne]; omega
            rw [b1, b1']
            exact Or.inr (Or.inl ⟨rfl, rfl, rfl, rfl⟩)
        · have b0 : (er == 0) = false := by simpa using h0
          rw [b0]
          exact valid_next k line k' (str tx) (str t) n er _ hk (by rw [ht]; exact he) (by rw [ht]; simpa using he) hsz hn hN (Or.inl ⟨b0, rfl⟩) w hc
    · rw [if_neg hk]
      have key : ∀ n : Int, k ≠ n → (k == n) = false := fun n h => by simpa using h
      exact valid_no k line (str tx) (key 3 h3) (key 1 fun e => hk (Or.inl e)) (key 2 fun e => hk (Or.inr (Or.inl e))) (key 4 fun e => hk (Or.inr (Or.inr (Or.inl e)))) (key 5 fun e => hk (Or.inr (Or.inr (Or.inr e)))) w

theorem ownsRow_kind {w : World} {B e size n : Nat} {v : Value} {xs : List Value} (h : w.ownsRow B e size v n xs) : ∀ g, v.ownBlock = some g → ∃ c fz, w.heap[g]? = some (.cells c e fz) := by
  intro g hg
  rcases h.2 with ⟨rfl, _⟩ | ⟨g', cap, cur, rfl, _, hgg, _⟩
  · simp [Value.ownBlock] at hg
  · simp [Value.ownBlock] at hg
    subst hg
    exact ⟨cur, _, hgg⟩

theorem infoB : (Tryd.prog.info? 5).map (fun i => (i.zero, i.size, i.bytes)) = some (some (.int .u8 0), 1, 1) := by kernel_rfl
theorem info45 : (Tryd.prog.info? 45).map (·.size) = some 2 := by kernel_rfl
theorem lies45 : liesAt Tryd.prog Tryd.prog.depth 45 (2 / Tryd.prog.cellsOf 45) 0 45 1 = true := by kernel_rfl

set_option maxRecDepth 100000 in
theorem copy_used (b : Nat) (w : World) (h0 : w.cell? ⟨b, 0, none⟩ = some (.pointer (some ⟨b, 0, none⟩))) :
    Calls Tryd.prog 54 #[.pointer (some ⟨b, 0, none⟩)] w fun e w' => e = .returned (.tuple #[]) ∧ w' = w := by
  obtain ⟨j, hj, _⟩ := Option.map_eq_some_iff.1 info45
  go_enter Tryd.func54, Tryd.ntmps54
  go_wp2
  rw [Lib.run_neq_ptr_same w _ Tryd.underlying42 hj]
  go_wp2
  go_end0
  exact ⟨rfl, rfl⟩
set_option maxRecDepth 100000 in
theorem copy_fresh (b : Nat) (w : World) (h0 : w.cell? ⟨b, 0, none⟩ = some (.pointer none)) (hsh : w.shape? b = some (45, 2)) (hfz : w.frozen? ⟨b, 0, none⟩ = false) :
    Calls Tryd.prog 54 #[.pointer (some ⟨b, 0, none⟩)] w fun e w' => e = .returned (.tuple #[]) ∧ w' = w.setCell ⟨b, 0, none⟩ (.pointer (some ⟨b, 0, none⟩)) := by
  obtain ⟨j, hj, hjs⟩ := Option.map_eq_some_iff.1 info45
  go_enter Tryd.func54, Tryd.ntmps54
  go_wp2
  rw [Lib.run_to_unsafe w ⟨b, 0, none⟩ Tryd.underlying42 Tryd.underlying73 hj (by rw [hjs]; decide) hsh (Nat.zero_lt_succ 1)]
  simp only [Result.andThen]
  rw [Oper.upon_value]
  go_wp2
  rw [run_callFunc_extern Tryd.func62 (by kernel_rfl) (by kernel_rfl) (by kernel_rfl) (e := Extern.AbiNoEscape.same) (by kernel_rfl)]
  rw [Lib.run_noEscape]
  simp only [Result.andThen]
  rw [Oper.upon_value]
  go_wp2
  rw [Lib.run_from_unsafe w ⟨b, 0, none⟩ Tryd.underlying73 Tryd.underlying42 hj hsh lies45]
  simp only [Result.andThen]
  rw [Oper.upon_value]
  go_wp2
  go_end0
  exact ⟨rfl, rfl⟩
theorem copy_any (B b : Nat) (bs : List Value) (w : World) (h : Lib.IsBuilder 45 5 B b bs w) :
    Calls Tryd.prog 54 #[.pointer (some ⟨b, 0, none⟩)] w fun e w' => e = .returned (.tuple #[]) ∧ (Lib.BuilderAt 45 5 B b (.pointer (some ⟨b, 0, none⟩)) bs w' ∧ Below B w w' ∧ Lib.OthersKept 5 (some b) w w') := by
  rcases h with h | h
  · refine (copy_fresh b w h.cell0 h.shape h.frozen0).mono ?_
    rintro e w' ⟨rfl, rfl⟩
    exact ⟨rfl, h.used _, (Below.refl B w).setCell (p := ⟨b, 0, none⟩) h.1 _, (Lib.OthersKept.refl _ _ _).setCell ⟨b, 0, none⟩ rfl _⟩
  · refine (copy_used b w h.cell0).mono ?_
    rintro e w' ⟨rfl, rfl⟩
    exact ⟨rfl, h, Below.refl B _, Lib.OthersKept.refl _ _ _⟩

set_option maxHeartbeats 2000000 in
set_option maxRecDepth 100000 in
theorem wbyte_any (B b : Nat) (bs : List Value) (c : Int) (w : World) (h : Lib.IsBuilder 45 5 B b bs w) (hlen : bs.length + 1 ≤ 140737488355328) (hBw : B ≤ w.heap.size) :
    Calls Tryd.prog 30 #[.pointer (some ⟨b, 0, none⟩), .int .u8 c] w fun e w' => e = .returned .nilIface ∧ (Lib.BuilderAt 45 5 B b (.pointer (some ⟨b, 0, none⟩)) (bs ++ [.int .u8 c]) w' ∧ Below B w w' ∧ Lib.OthersKept 5 (some b) w w') := by
  obtain ⟨i0, hi, hz0, hz1, hz2⟩ := info_parts infoB
  go_enter Tryd.func30, Tryd.ntmps30
  go_wp2_with fail
  refine (copy_any B b bs _ h).mono ?_
  rintro e w1 ⟨rfl, h1, hb1, hk1⟩
  obtain ⟨hB, v, hbk, hown, hne⟩ := h1
  have c0 : w1.cell? ⟨b, 0, none⟩ = some (.pointer (some ⟨b, 0, none⟩)) := by rw [Lib.cell_of_heap hbk]; rfl
  have c1 : w1.cell? ⟨b, 1, none⟩ = some v := by rw [Lib.cell_of_heap hbk]; rfl
  have hsz := hb1.size
  go_wp2_with (at_builtin; go_must (refine wpList_append_own _ rfl _ _ 43 rfl B 5 i0 (.int .u8 0) 1 1 Tryd.underlying43 hi hz0 hz1 hz2 rfl (by decide) _ _ _ rfl (hown.alloc _) ⟨w1.heap.size, 0, none⟩ 1 1 [.int .u8 c] rfl rfl ?c1 ?c2 ?c3 ?c4 ?c5 ?_))
  case c1 =>
    intro j u hj
    match j, hj with
    | 0, hj => simp at hj; subst hj; simp [Addr.add]
  case c2 => intro u hu; simp at hu; subst hu; rfl
  case c3 => unfold maxLen; omega
  case c4 => omega
  case c5 => simp; omega
  intro v' w2 hown' hgrow _
  have hlt : b < w1.heap.size := by
    rcases Nat.lt_or_ge b w1.heap.size with h' | h'
    · exact h'
    · simp [Array.getElem?_eq_none h'] at hbk
  have hb2 : w2.heap[b]? = some (.cells #[.pointer (some ⟨b, 0, none⟩), v] 45 (0, 0)) := by
    rw [hgrow.block b (by simp; omega) (fun e => hne e.symm), Lib.alloc_old w1 _ b hlt]
    exact hbk
  have d0 : w2.cell? ⟨b, 0, none⟩ = some (.pointer (some ⟨b, 0, none⟩)) := by rw [Lib.cell_of_heap hb2]; rfl
  have d1 : w2.cell? ⟨b, 1, none⟩ = some v := by rw [Lib.cell_of_heap hb2]; rfl
  have f1 : w2.frozen? ⟨b, 1, none⟩ = false := Lib.frozen_of_heap hb2 1
  obtain ⟨g, cap, rfl⟩ : ∃ g cap, v' = .slice (some ⟨g, 0, none⟩) (bs.length + 1) cap := by
    rcases hown'.2 with ⟨_, h0⟩ | ⟨g, cap, cur, hv, _⟩
    · omega
    · exact ⟨g, cap, hv⟩
  go_wp2
  go_ret
  refine ⟨rfl, ?_, ?_, ((hk1.alloc _).grown hgrow (ownsRow_kind (hown.alloc _))).setCell ⟨b, 1, none⟩ rfl _⟩
  · exact Lib.BuilderAt.put (T := 45) (e := 5) hB hb2 (bs' := bs ++ [.int .u8 c]) (by simpa using hown') (by decide)
  · exact ((hb1.alloc (by omega) _).grown hgrow (by simp; omega) (fun k hk => (hown.lt k hk).1)).setCell (p := ⟨b, 1, none⟩) hB _

set_option maxHeartbeats 2000000 in
set_option maxRecDepth 100000 in
theorem wstring_any (B b : Nat) (bs : List Value) (s : ByteArray) (w : World) (h : Lib.IsBuilder 45 5 B b bs w) (hlen : bs.length + s.size ≤ 140737488355328) (hBw : B ≤ w.heap.size) :
    Calls Tryd.prog 28 #[.pointer (some ⟨b, 0, none⟩), .string s] w fun e w' => e = .returned (.tuple #[.int .i64 s.size, .nilIface]) ∧ (Lib.BuilderAt 45 5 B b (.pointer (some ⟨b, 0, none⟩)) (bs ++ Lib.strCells s) w' ∧ Below B w w' ∧ Lib.OthersKept 5 (some b) w w') := by
  obtain ⟨i0, hi, hz0, hz1, hz2⟩ := info_parts infoB
  go_enter Tryd.func28, Tryd.ntmps28
  go_wp2_with fail
  refine (copy_any B b bs _ h).mono ?_
  rintro e w1 ⟨rfl, h1, hb1, hk1⟩
  obtain ⟨hB, v, hbk, hown, hne⟩ := h1
  have c0 : w1.cell? ⟨b, 0, none⟩ = some (.pointer (some ⟨b, 0, none⟩)) := by rw [Lib.cell_of_heap hbk]; rfl
  have c1 : w1.cell? ⟨b, 1, none⟩ = some v := by rw [Lib.cell_of_heap hbk]; rfl
  have hsz := hb1.size
  go_wp2_with (at_builtin; go_must (refine Lib.wpList_append_own_string _ rfl _ _ 43 9 rfl B 5 i0 Tryd.underlying43 Tryd.underlying9 hi hz0 hz1 hz2 _ _ _ rfl hown s rfl ?c3 ?c4 ?c5 ?_))
  case c3 => unfold maxLen; omega
  case c4 => omega
  case c5 => omega
  intro v' w2 hown' hgrow _
  have hlt : b < w1.heap.size := by
    rcases Nat.lt_or_ge b w1.heap.size with h' | h'
    · exact h'
    · simp [Array.getElem?_eq_none h'] at hbk
  have hb2 : w2.heap[b]? = some (.cells #[.pointer (some ⟨b, 0, none⟩), v] 45 (0, 0)) := by
    rw [hgrow.block b hlt (fun e => hne e.symm)]
    exact hbk
  have d0 : w2.cell? ⟨b, 0, none⟩ = some (.pointer (some ⟨b, 0, none⟩)) := by rw [Lib.cell_of_heap hb2]; rfl
  have d1 : w2.cell? ⟨b, 1, none⟩ = some v := by rw [Lib.cell_of_heap hb2]; rfl
  have f1 : w2.frozen? ⟨b, 1, none⟩ = false := Lib.frozen_of_heap hb2 1
  obtain ⟨ao, n', cap, rfl⟩ : ∃ ao n' cap, v' = .slice ao n' cap := by
    rcases hown'.2 with ⟨hv, _⟩ | ⟨g, cap, cur, hv, _⟩
    · exact ⟨_, _, _, hv⟩
    · exact ⟨_, _, _, hv⟩
  go_wp2
  go_ret2
  refine ⟨rfl, ?_, ?_, (hk1.grown hgrow (ownsRow_kind hown)).setCell ⟨b, 1, none⟩ rfl _⟩
  · exact Lib.BuilderAt.put (T := 45) (e := 5) hB hb2 (bs' := bs ++ Lib.strCells s) (by simpa [Lib.strCells_length] using hown') (by decide)
  · exact (hb1.grown hgrow (by omega) (fun k hk => (hown.lt k hk).1)).setCell (p := ⟨b, 1, none⟩) hB _

/-- A builder of the call's own that holds a text. -/
def IB (B b : Nat) (l : List UInt8) (w : World) : Prop := Lib.IsBuilder 45 5 B b (Lib.byteCells l) w ∧ B ≤ w.heap.size
def Keeps (B b : Nat) (w w' : World) : Prop := Below B w w' ∧ Lib.OthersKept 5 (some b) w w'
theorem IB.below {B b : Nat} {l : List UInt8} {w w' : World} (h : IB B b l w) (hb : Below w.heap.size w w') : IB B b l w' := by
  refine ⟨?_, by have := h.2; have := hb.size; omega⟩
  have key : ∀ p, Lib.BuilderAt 45 5 B b p (Lib.byteCells l) w → Lib.BuilderAt 45 5 B b p (Lib.byteCells l) w' := fun p hp => by
    obtain ⟨hB, v, hbk, hown, hne⟩ := hp
    have hlt : b < w.heap.size := by
      rcases Nat.lt_or_ge b w.heap.size with h' | h'
      · exact h'
      · simp [Array.getElem?_eq_none h'] at hbk
    exact ⟨hB, v, by rw [hb.block b hlt]; exact hbk, ownsRow_below hown hb, hne⟩
  rcases h.1 with h1 | h1
  · exact Or.inl (key _ h1)
  · exact Or.inr (key _ h1)
theorem wb_l (B b : Nat) (l : List UInt8) (c : UInt8) (w : World) (h : IB B b l w) (hl : l.length ≤ 1000000) :
    Calls Tryd.prog 30 #[.pointer (some ⟨b, 0, none⟩), .int .u8 (c.toNat : Int)] w fun e w' => e = .returned .nilIface ∧ IB B b (l ++ [c]) w' ∧ Keeps B b w w' := by
  refine (wbyte_any B b (Lib.byteCells l) c.toNat w h.1 (by rw [Lib.byteCells_length]; omega) h.2).mono ?_
  rintro e w' ⟨rfl, h1, h2, h3⟩
  refine ⟨rfl, ⟨Or.inr ?_, by have := h.2; have := h2.size; omega⟩, h2, h3⟩
  rw [Lib.byteCells_append]
  exact h1
theorem ws_l (B b : Nat) (l s : List UInt8) (w : World) (h : IB B b l w) (hl : l.length ≤ 1000000) (hs : s.length ≤ 1000000) :
    Calls Tryd.prog 28 #[.pointer (some ⟨b, 0, none⟩), .string (str s)] w fun e w' => e = .returned (.tuple #[.int .i64 s.length, .nilIface]) ∧ IB B b (l ++ s) w' ∧ Keeps B b w w' := by
  refine (wstring_any B b (Lib.byteCells l) (str s) w h.1 (by rw [Lib.byteCells_length, str_size]; omega) h.2).mono ?_
  rintro e w' ⟨rfl, h1, h2, h3⟩
  refine ⟨by rw [str_size], ⟨Or.inr ?_, by have := h.2; have := h2.size; omega⟩, h2, h3⟩
  rw [Lib.byteCells_append]
  exact h1
theorem len_l (B b : Nat) (l : List UInt8) (w : World) (h : IB B b l w) :
    Calls Tryd.prog 31 #[.pointer (some ⟨b, 0, none⟩)] w fun e w' => e = .returned (.int .i64 l.length) ∧ w = w' := by
  refine (Tryd.Builder_Len B b (Lib.byteCells l) w h.1).mono ?_
  rintro e w' ⟨rfl, rfl⟩
  exact ⟨by rw [Lib.byteCells_length], rfl⟩
theorem bstr_l (B b : Nat) (l : List UInt8) (w : World) (h : IB B b l w) :
    Calls Tryd.prog 32 #[.pointer (some ⟨b, 0, none⟩)] w fun e w' => e = .returned (.string (str l)) ∧ Below B w w' :=
  Tryd.Builder_String_any B b l w h.1 h.2
theorem repeat_one (n : Nat) : Lib.repeatL [10] n = List.replicate n 10 := by
  induction n with
  | zero => rfl
  | succ n ih => rw [Lib.repeatL, ih]; rfl
theorem rep_l (n : Nat) (hn : n ≤ 1000000) (w : World) :
    Calls Tryd.prog 29 #[.string ⟨#[10]⟩, .int .i64 (n : Int)] w fun e w' => e = .returned (.string (str (List.replicate n 10))) ∧ Below w.heap.size w w' := by
  refine (Tryd.strings_Repeat ⟨#[10]⟩ n w (by omega) (by show 1 * n ≤ _; omega)).mono ?_
  rintro e w' ⟨rfl, hb⟩
  exact ⟨by rw [← repeat_one], hb⟩
theorem fresh_IB (w : World) : IB w.heap.size w.heap.size [] (w.alloc (.cells #[.pointer none, .slice none 0 0] 45)) :=
  ⟨Lib.fresh_isBuilder 45 5 w, by rw [tok_size]; omega⟩
end Go.Proofs.YtpddneplkbdedaaDoor
