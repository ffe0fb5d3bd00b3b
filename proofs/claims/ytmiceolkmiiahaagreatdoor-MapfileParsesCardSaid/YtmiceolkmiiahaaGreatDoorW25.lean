/- Walks: the reader's words. -/
import Derived.Test.YtmiceolkmiiahaaGreatDoorW24
namespace Go.Proofs.YtmiceolkmiiahaaGreatDoor
open Go.RowKit
set_option linter.unusedVariables false
set_option linter.unusedSimpArgs false
set_option maxRecDepth 100000
set_option maxHeartbeats 8000000

abbrev strsO (ps : List (List UInt8)) : Obj := .cells (ps.map fun p => Value.string (str p)).toArray 9
theorem split_run (s : List UInt8) (hs : s.length ≤ 1000000) (w : World) (hc : Ctx w) :
    Calls Tryz.prog 65 #[.string (str s), .string ⟨#[32]⟩] w fun e w' => e = .returned (.slice (some ⟨w.heap.size, 0, none⟩) (sp 32 s).length (sp 32 s).length) ∧ w' = w.alloc (strsO (sp 32 s)) := by
  obtain ⟨m, hm⟩ := hc.ml
  refine (Tryz.strings_Split (str s) ⟨#[32]⟩ m w (by rw [str_size]; omega) hm (by decide)).mono ?_
  rintro e w' ⟨rfl, rfl⟩
  have e1 : (⟨#[32]⟩ : ByteArray).data.toList = [32] := rfl
  have h1 := Lib.splitB_data ⟨#[32]⟩ 0 (Lib.countB (str s) ⟨#[32]⟩) (str s)
  have h2 : Lib.countB (str s) ⟨#[32]⟩ = Lib.count s [32] := by show Lib.count _ _ = _; rw [str_data, e1]
  rw [str_data, h2, split_sp] at h1
  have h3 : (Lib.splitB ⟨#[32]⟩ 0 (Lib.countB (str s) ⟨#[32]⟩) (str s)).map Value.string = (sp 32 s).map fun p => Value.string (str p) := by
    rw [← h1, h2, List.map_map]
    apply List.map_congr_left
    intro x _
    show Value.string x = Value.string (str x.data.toList)
    rw [str_of]
  have h4 : Lib.countB (str s) ⟨#[32]⟩ + 1 = (sp 32 s).length := by
    rw [← Lib.splitB_all ⟨#[32]⟩ (by decide) 0 _ (str s) rfl, ← h1, List.length_map, h2]
  rw [h4, h3]
  exact ⟨rfl, rfl⟩

theorem mk_row {by' sz : Nat} (t el : Nat) (z : Value) (ht : Tryz.prog.underlying t = some (.slice el)) (hi : (Tryz.prog.info? el).map (fun i => (i.bytes, i.size, i.zero)) = some (by', sz, some z)) (n : Nat) (hb : by' * n ≤ 281474976710656) (hn : n ≤ 1000000) (w : World) :
    (Instr.makeSlice t (.int .i64 (n : Int)) (.int .i64 (n : Int))).run Tryz.prog w = .ok (.slice (some ⟨w.heap.size, 0, none⟩) n n) (w.alloc (.cells (madeCells z.cells (n * sz)) el)) := by
  obtain ⟨i, h1, h2⟩ := Option.map_eq_some_iff.1 hi
  injection h2 with h2 h3
  injection h3 with h3 h4
  have hbb : (i.bytes : Int) * (n : Int) ≤ 281474976710656 := by
    rw [h2]
    have : ((by' * n : Nat) : Int) ≤ 281474976710656 := by omega
    rwa [Int.natCast_mul] at this
  have := run_make (P := Tryz.prog) w t el i z ht h1 h4 .i64 .i64 n n (by omega) (Int.le_refl _) hbb (by omega)
  rw [Int.toNat_natCast, h3] at this
  exact this
theorem mk_strs (n : Nat) (hn : n ≤ 1000) (w : World) : (Instr.makeSlice 68 (.int .i64 (n : Int)) (.int .i64 (n : Int))).run Tryz.prog w = .ok (.slice (some ⟨w.heap.size, 0, none⟩) n n) (w.alloc (.cells (madeCells (Value.cells (.string ByteArray.empty)) (n * 1)) 9)) :=
  mk_row (by' := 16) (sz := 1) 68 9 _ (by kernel_rfl) (by kernel_rfl) n (by omega) (by omega) w
theorem words_ok (g : Nat) (R l first : List UInt8) (rest : List (List UInt8)) (n : Nat) (L : List (List UInt8)) (a : Nat) (hR : R.length ≤ 100000) (ha : a ≤ 1000000) (h : nxt (sp 10 R) = some (l, L)) (hl : l.length ≤ 100000)
    (hsp : sp 32 l = first :: rest) (hn : rest.length = n) (hn1 : 1 ≤ n) (hn2 : n ≤ 1000) (w : World) (ho : Own w g g) (hr : w.heap[g]? = some (rdO R a 0)) :
    Calls Tryz.prog 37 #[rdP g, .string (str first), .int .i64 (n : Int)] w fun en w' => (∃ b, en = .returned (.slice (some ⟨b, 1, none⟩) n n) ∧ w'.heap[b]? = some (strsO (first :: rest)) ∧ w.heap.size ≤ b) ∧ (∃ R', R'.length < R.length ∧ sp 10 R' = L ∧ w'.heap[g]? = some (rdO R' (a + 1) 0)) ∧ Fr g g w w' := by
  have HN := Lib.hid (next_ok g R l L a hR ha h w ho hr)
  have HS := Lib.hid (split_run l (by omega))
  have HO := Lib.hid ho
  rw [hsp] at HS
  have HGL := Lib.hid (heap_lt hr)
  have hq : ((str first).toList == (str first).toList) = true := by simp
  have hlen : (first :: rest).length = n + 1 := by simp [hn]
  rw [hlen] at HS
  have HQ : ∀ w : World, ((w.alloc (strsO (first :: rest))).cell? ⟨w.heap.size, 0, none⟩ = some (.string (str first))) := fun w => by
    rw [Lib.cell_of_heap (tok_new w _)]; rfl
  clear h ho hr hsp hlen
  generalize str first = F at *
  go_enter Tryz.func37, Tryz.ntmps37
  go_wp2_with fail
  refine HN.out.mono ?_
  rintro e w1 ⟨rfl, ⟨R', hR', hs', hw1⟩, hf1⟩
  have HF1 := Lib.hid hf1; have HW1 := Lib.hid hw1
  clear hf1 hw1
  go_wp2_with fail
  refine (HS.out w1 (HO.out.fr HF1.out).ctx).mono ?_
  rintro e w2 ⟨rfl, rfl⟩
  have hg2 : (w1.alloc (strsO (first :: rest))).heap[g]? = some (rdO R' (a + 1) 0) := by rw [Below.heap_alloc _ _ _ (heap_lt HW1.out)]; exact HW1.out
  obtain ⟨⟨c0, c1, c2⟩, _⟩ := cells3 hg2
  have HG2 := Lib.hid hg2
  have c3 := HQ w1
  have HB := Lib.hid (tok_new w1 (strsO (first :: rest)))
  have HE := Lib.hid (HF1.out.alloc (strsO (first :: rest)))
  have hz := HF1.out.size
  clear hg2 HQ
  generalize w1.alloc (strsO (first :: rest)) = w2 at *
  generalize w1.heap.size = b at *
  go_wp2_with fail
  go_ret
  exact ⟨⟨b, rfl, HB.out, by omega⟩, ⟨R', hR', hs', HG2.out⟩, HE.out⟩
theorem words_bad (g : Nat) (R l first : List UInt8) (n : Nat) (L : List (List UInt8)) (a : Nat) (hR : R.length ≤ 100000) (ha : a ≤ 1000000) (h : nxt (sp 10 R) = some (l, L)) (hl : l.length ≤ 100000)
    (hsp : ∀ rest, sp 32 l = first :: rest → rest.length ≠ n) (hn2 : n ≤ 1000) (w : World) (ho : Own w g g) (hr : w.heap[g]? = some (rdO R a 0)) :
    Calls Tryz.prog 37 #[rdP g, .string (str first), .int .i64 (n : Int)] w fun en w' => (∃ v, en = .returned v) ∧ (∃ R', w'.heap[g]? = some (rdO R' (a + 1) 5)) ∧ Fr g g w w' := by
  have HN := Lib.hid (next_ok g R l L a hR ha h w ho hr)
  have HS := Lib.hid (split_run l (by omega))
  have hmk := fun w => mk_strs n hn2 w
  generalize madeCells (Value.cells (.string ByteArray.empty)) (n * 1) = X at hmk
  have HO := Lib.hid ho
  have HF := Lib.hid (fun R => fail_any g R (a + 1) 0 5)
  rw [if_pos rfl] at HF
  obtain ⟨f, rest, hfr⟩ : ∃ f rest, sp 32 l = f :: rest := by
    cases hx : sp 32 l with
    | nil => exact absurd hx (sp_ne 32 l)
    | cons f rest => exact ⟨f, rest, rfl⟩
  rw [hfr] at HS hsp
  have hrl : rest.length ≤ 100000 := by have := sp_len 32 l; rw [hfr] at this; simp at this; omega
  obtain ⟨k, hk⟩ : ∃ k, (f :: rest).length = k := ⟨_, rfl⟩
  have hk1 : 1 ≤ k := by rw [← hk]; simp
  have hk2 : k ≤ 100001 := by rw [← hk]; simp; exact hrl
  rw [hk] at HS
  have HQ : ∀ w : World, ((w.alloc (strsO (f :: rest))).cell? ⟨w.heap.size, 0, none⟩ = some (.string (str f))) := fun w => by
    rw [Lib.cell_of_heap (tok_new w _)]; rfl
  by_cases hff : f = first
  · subst hff
    have hne := hsp rest rfl
    have hkn : ((k : Int) != (n : Int) + 1) = true := by
      rw [bne_iff_ne]; simp at hk; omega
    have hq : ((str f).toList == (str f).toList) = true := by simp
    clear h ho hr hsp hfr hne hk
    go_enter Tryz.func37, Tryz.ntmps37
    go_wp2_with fail
    refine HN.out.mono ?_
    rintro e w1 ⟨rfl, ⟨R', hR', hs', hw1⟩, hf1⟩
    have HF1 := Lib.hid hf1; have HW1 := Lib.hid hw1
    clear hf1 hw1
    go_wp2_with fail
    refine (HS.out w1 (HO.out.fr HF1.out).ctx).mono ?_
    rintro e w2 ⟨rfl, rfl⟩
    have hg2 : (w1.alloc (strsO (f :: rest))).heap[g]? = some (rdO R' (a + 1) 0) := by rw [Below.heap_alloc _ _ _ (heap_lt HW1.out)]; exact HW1.out
    obtain ⟨⟨c0, c1, c2⟩, _⟩ := cells3 hg2
    have HG2 := Lib.hid hg2
    have c3 := HQ w1
    have HE := Lib.hid (HF1.out.alloc (strsO (f :: rest)))
    clear hg2 HQ
    generalize w1.alloc (strsO (f :: rest)) = w2 at *
    generalize w1.heap.size = b at *
    generalize str f = F at *
    go_wp2_with fail
    refine (HF.out R' w2 HG2.out).mono ?_
    rintro e w3 ⟨rfl, hb3, hf3⟩
    go_wp2_with fail
    go_ret
    exact ⟨⟨_, rfl⟩, ⟨R', by first | exact hb3 | (rw [Below.heap_alloc _ _ _ (heap_lt hb3)]; exact hb3)⟩, by first | exact HE.out.trans hf3 | exact (HE.out.trans hf3).alloc _⟩
  · have hq : ((str f).toList == (str first).toList) = false := ne_beq _ _ fun e => hff (str_inj e)
    clear h ho hr hsp hfr hk hff
    go_enter Tryz.func37, Tryz.ntmps37
    go_wp2_with fail
    refine HN.out.mono ?_
    rintro e w1 ⟨rfl, ⟨R', hR', hs', hw1⟩, hf1⟩
    have HF1 := Lib.hid hf1; have HW1 := Lib.hid hw1
    clear hf1 hw1
    go_wp2_with fail
    refine (HS.out w1 (HO.out.fr HF1.out).ctx).mono ?_
    rintro e w2 ⟨rfl, rfl⟩
    have hg2 : (w1.alloc (strsO (f :: rest))).heap[g]? = some (rdO R' (a + 1) 0) := by rw [Below.heap_alloc _ _ _ (heap_lt HW1.out)]; exact HW1.out
    obtain ⟨⟨c0, c1, c2⟩, _⟩ := cells3 hg2
    have HG2 := Lib.hid hg2
    have c3 := HQ w1
    have HE := Lib.hid (HF1.out.alloc (strsO (f :: rest)))
    clear hg2 HQ
    generalize w1.alloc (strsO (f :: rest)) = w2 at *
    generalize w1.heap.size = b at *
    generalize str f = F at *
    generalize str first = F2 at *
    go_wp2_with fail
    refine (HF.out R' w2 HG2.out).mono ?_
    rintro e w3 ⟨rfl, hb3, hf3⟩
    go_wp2_with fail
    go_ret
    exact ⟨⟨_, rfl⟩, ⟨R', by first | exact hb3 | (rw [Below.heap_alloc _ _ _ (heap_lt hb3)]; exact hb3)⟩, by first | exact HE.out.trans hf3 | exact (HE.out.trans hf3).alloc _⟩
theorem words_end (g : Nat) (R first : List UInt8) (n : Nat) (a : Nat) (hR : R.length ≤ 100000) (ha : a ≤ 1000000) (h : nxt (sp 10 R) = none) (hn2 : n ≤ 1000) (w : World) (ho : Own w g g) (hr : w.heap[g]? = some (rdO R a 0)) :
    Calls Tryz.prog 37 #[rdP g, .string (str first), .int .i64 (n : Int)] w fun en w' => (∃ v, en = .returned v) ∧ (∃ R', w'.heap[g]? = some (rdO R' (a + 1) 4)) ∧ Fr g g w w' := by
  have HN := Lib.hid (next_end g R a hR ha h w ho hr)
  have HS := Lib.hid (split_run [] (by simp))
  have hmk := fun w => mk_strs n hn2 w
  generalize madeCells (Value.cells (.string ByteArray.empty)) (n * 1) = X at hmk
  have HO := Lib.hid ho
  have HF := Lib.hid (fail_any g R (a + 1) 4 5)
  rw [if_neg (by decide)] at HF
  have e1 : sp 32 [] = [[]] := rfl
  rw [e1] at HS
  clear h ho hr e1
  generalize str first = F2 at *
  go_enter Tryz.func37, Tryz.ntmps37
  go_wp2_with fail
  refine HN.out.mono ?_
  rintro e w1 ⟨rfl, hw1, hf1⟩
  have HF1 := Lib.hid hf1; have HW1 := Lib.hid hw1
  clear hf1 hw1
  go_wp2_with fail
  refine (HS.out w1 (HO.out.fr HF1.out).ctx).mono ?_
  rintro e w2 ⟨rfl, rfl⟩
  have hg2 : (w1.alloc (strsO [[]])).heap[g]? = some (rdO R (a + 1) 4) := by rw [Below.heap_alloc _ _ _ (heap_lt HW1.out)]; exact HW1.out
  obtain ⟨⟨c0, c1, c2⟩, _⟩ := cells3 hg2
  have HG2 := Lib.hid hg2
  have HE := Lib.hid (HF1.out.alloc (strsO [[]]))
  clear hg2
  generalize w1.alloc (strsO [[]]) = w2 at *
  go_wp2_with fail
  refine (HF.out w2 HG2.out).mono ?_
  rintro e w3 ⟨rfl, hb3, hf3⟩
  go_wp2_with fail
  go_ret
  exact ⟨⟨_, rfl⟩, ⟨R, by first | exact hb3 | (rw [Below.heap_alloc _ _ _ (heap_lt hb3)]; exact hb3)⟩, by first | exact HE.out.trans hf3 | exact (HE.out.trans hf3).alloc _⟩
end Go.Proofs.YtmiceolkmiiahaaGreatDoor
