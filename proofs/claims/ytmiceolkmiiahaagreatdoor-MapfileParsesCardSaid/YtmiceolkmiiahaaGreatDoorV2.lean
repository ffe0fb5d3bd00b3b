/- Walks: the reference's first line and the line of a start. Walks: the reference's line of a start. -/
import Derived.Test.YtmiceolkmiiahaaGreatDoorV1
import Derived.Deep.RegionHeld3
import Derived.BigRegion
namespace Go.Proofs.YtmiceolkmiiahaaGreatDoor
open Go.RowKit
set_option linter.unusedVariables false
set_option linter.unusedSimpArgs false
set_option maxRecDepth 100000
set_option maxHeartbeats 8000000

theorem made_cells (n : Nat) : (madeCells (Value.cells (.agg #[.int .i64 0, .int .i64 0, .int .i64 0])) (n * 3)).toList = cellsOf Cel.l (List.replicate n zc) := by
  have hz : Value.cells (.agg #[.int .i64 0, .int .i64 0, .int .i64 0]) = #[.int .i64 0, .int .i64 0, .int .i64 0] := rfl
  have h0 : ∀ i, i < 3 → (#[Value.int .i64 0, .int .i64 0, .int .i64 0])[i]! = .int .i64 0 := by
    intro i hi
    match i, hi with
    | 0, _ => rfl
    | 1, _ => rfl
    | 2, _ => rfl
  have h1 : (madeCells (Value.cells (.agg #[.int .i64 0, .int .i64 0, .int .i64 0])) (n * 3)).toList = List.replicate (n * 3) (.int .i64 0) := by
    unfold madeCells
    rw [hz, Array.toList_map, Array.toList_range]
    apply List.ext_getElem (by simp)
    intro i hi hi2
    rw [List.getElem_map, List.getElem_replicate]
    exact h0 _ (Nat.mod_lt _ (by decide))
  rw [h1]
  clear h1
  induction n with
  | zero => rfl
  | succ n ih =>
    rw [List.replicate_succ, show cellsOf Cel.l (zc :: List.replicate n zc) = Cel.l zc ++ cellsOf Cel.l (List.replicate n zc) from rfl, ← ih, Nat.succ_mul, Nat.add_comm, ← List.replicate_append_replicate]
    rfl
theorem mk_cels (n : Nat) (hn : n ≤ 100000) (w : World) : (Instr.makeSlice 22 (.int .i64 (n : Int)) (.int .i64 (n : Int))).run Tryz.prog w = .ok (.slice (some ⟨w.heap.size, 0, none⟩) n n) (w.alloc (.cells (madeCells (Value.cells (.agg #[.int .i64 0, .int .i64 0, .int .i64 0])) (n * 3)) 41)) :=
  mk_row (by' := 24) (sz := 3) 22 41 _ (by kernel_rfl) (by kernel_rfl) n (by omega) (by omega) w
/-- The pieces that were made, one by one. -/
theorem parts4 {B : Nat} {ao : Option Addr} {cap : Nat} {w : World} {a b c d : List UInt8} (h : w.ownsRow B 9 1 (.slice ao 4 cap) 4 (strVs [a, b, c, d])) : ∃ q, ao = some ⟨q, 0, none⟩ ∧ B ≤ q ∧ q < w.heap.size ∧
    w.cell? ⟨q, 0, none⟩ = some (.string (str a)) ∧ w.cell? ⟨q, 1, none⟩ = some (.string (str b)) ∧ w.cell? ⟨q, 2, none⟩ = some (.string (str c)) ∧ w.cell? ⟨q, 3, none⟩ = some (.string (str d)) := by
  obtain ⟨q, cp, hv, h1, h2⟩ := h.form (by omega)
  injection hv with i1 i2 i3
  subst i1 i3
  exact ⟨q, rfl, h1, h2, h.cellAt 0 (by omega), h.cellAt 1 (by omega), h.cellAt 2 (by omega), h.cellAt 3 (by omega)⟩
theorem parts3 {B : Nat} {ao : Option Addr} {cap : Nat} {w : World} {a b c : List UInt8} (h : w.ownsRow B 9 1 (.slice ao 3 cap) 3 (strVs [a, b, c])) : ∃ q, ao = some ⟨q, 0, none⟩ ∧ B ≤ q ∧ q < w.heap.size ∧
    w.cell? ⟨q, 0, none⟩ = some (.string (str a)) ∧ w.cell? ⟨q, 1, none⟩ = some (.string (str b)) ∧ w.cell? ⟨q, 2, none⟩ = some (.string (str c)) := by
  obtain ⟨q, cp, hv, h1, h2⟩ := h.form (by omega)
  injection hv with i1 i2 i3
  subst i1 i3
  exact ⟨q, rfl, h1, h2, h.cellAt 0 (by omega), h.cellAt 1 (by omega), h.cellAt 2 (by omega)⟩
theorem four_or (L : List (List UInt8)) : L.length ≠ 4 ∨ ∃ a b c d, L = [a, b, c, d] := by
  match L with
  | [] | [_] | [_, _] | [_, _, _] => exact Or.inl (by simp)
  | [a, b, c, d] => exact Or.inr ⟨a, b, c, d, rfl⟩
  | _ :: _ :: _ :: _ :: _ :: _ => exact Or.inl (by simp)
theorem three_or (L : List (List UInt8)) : L.length ≠ 3 ∨ ∃ a b c, L = [a, b, c] := by
  match L with
  | [] | [_] | [_, _] => exact Or.inl (by simp)
  | [a, b, c] => exact Or.inr ⟨a, b, c, rfl⟩
  | _ :: _ :: _ :: _ :: _ => exact Or.inl (by simp)
def FirstRes (l : List UInt8) (w : World) (en : Ending) (w' : World) : Prop :=
  (match firstP l with
   | none => en = .returned (.tuple #[file0, .bool false])
   | some (b, W, H) => ∃ q N : Nat, en = .returned (.tuple #[fileV (str b) W H (.slice (some ⟨q, 0, none⟩) N N) (.slice none 0 0), .bool true]) ∧ N = W.toNat * H.toNat ∧ w'.ownsRow (w.heap.size + 1) 41 3 (.slice (some ⟨q, 0, none⟩) N N) N (cellsOf Cel.l (List.replicate N zc))) ∧ Below w.heap.size w w'
theorem first_bad {l : List UInt8} {w : World} {en : Ending} {w' : World} (h : firstP l = none) (h2 : en = .returned (.tuple #[file0, .bool false]) ∧ Below w.heap.size w w') : FirstRes l w en w' := by
  unfold FirstRes
  rw [h]
  exact h2
theorem firstP_none {l : List UInt8} (h : (sp 32 l).length ≠ 4) : firstP l = none := by
  unfold firstP
  match hx : sp 32 l with
  | [] | [_] | [_, _] | [_, _, _] => rfl
  | [a, b, c, d] => rw [hx] at h; exact absurd rfl h
  | _ :: _ :: _ :: _ :: _ :: _ => rfl
theorem firstP_four {l a b c d : List UInt8} (h : sp 32 l = [a, b, c, d]) : firstP l = if a = wMap ∧ nameB (str b) = true ∧ (1 ≤ numT c ∧ numT c ≤ 32) ∧ (1 ≤ numT d ∧ numT d ≤ 32) then some (b, numT c, numT d) else none := by
  unfold firstP
  rw [h]
theorem st5_size (w : World) (rb : Nat) (a b c d e : Value) : (st5 w rb a b c d e).heap.size = w.heap.size := by simp [st5, World.setCell]
theorem first_good {l b : List UInt8} {x y : Int} {w w2 : World} {N : Nat} {X : Array Value} {a0 b0 c0 d0 e0 : Value} (hf : firstP l = some (b, x, y)) (hN : N = x.toNat * y.toNat) (hz : N ≤ 100000)
    (hX : X.toList = cellsOf Cel.l (List.replicate N zc)) (hXs : X.size = N * 3) (hb : Below w.heap.size w w2) (hlt : w.heap.size < w2.heap.size) : FirstRes l w (.returned (.tuple #[fileV (str b) x y (.slice (some ⟨w2.heap.size, 0, none⟩) N N) (.slice none 0 0), .bool true])) ((st5 w2 w.heap.size a0 b0 c0 d0 e0).alloc (.cells X 41)).drew := by
  unfold FirstRes
  rw [hf]
  have ho := World.ownsRow_lit (base := w.heap.size + 1) (e := 41) (size := 3) (st5 w2 w.heap.size a0 b0 c0 d0 e0) X N (by rw [st5_size]; omega) (by unfold maxLen; omega) hXs
  rw [st5_size, hX] at ho
  exact ⟨⟨w2.heap.size, N, rfl, hN, ho.drew⟩, ((st5_below hb (Nat.le_refl _)).alloc (by rw [st5_size]; omega) _).drew⟩
theorem rfirst_any (l : List UInt8) (hz : l.length ≤ 100000) (w : World) : Calls Tryz.prog 42 #[.string (str l)] w (FirstRes l w) := by
  have HP := Lib.hid (fun w => rParts_any l hz 32 32 rfl w)
  obtain ⟨w1, hw1⟩ : ∃ w1, w.alloc (fO (str []) 0 0 (.slice none 0 0) (.slice none 0 0)) = w1 := ⟨_, rfl⟩
  have hb1 : Below w.heap.size w w1 := by rw [← hw1]; exact below_new _ _
  have hr1 : w1.heap[w.heap.size]? = some (fO (str []) 0 0 (.slice none 0 0) (.slice none 0 0)) := by rw [← hw1]; exact tok_new _ _
  have HB1 := Lib.hid hb1; have HR1 := Lib.hid hr1; have HW1 := Lib.hid hw1
  clear hb1 hr1 hw1
  rcases four_or (sp 32 l) with h4 | ⟨a, b, c, d, h4⟩
  · have hf := firstP_none h4
    suffices hsf : Calls Tryz.prog 42 #[.string (str l)] w (fun en w' => en = .returned (.tuple #[file0, .bool false]) ∧ Below w.heap.size w w') from hsf.mono fun en w' hh => first_bad hf hh
    generalize str l = S at *
    generalize strVs (sp 32 l) = V at *
    generalize (sp 32 l).length = m at *
    have e4 : ((m : Int) != 4) = true := by rw [bne_iff_ne]; omega
    clear hf h4
    go_enter Tryz.func42, Tryz.ntmps42
    go_wp2_with fail
    refine (HP.out _).mono ?_
    rw [HW1.out]
    rintro e w2 ⟨ao, cap, rfl, hown, hb2⟩
    have hR2 := block_below hb2 HR1.out
    obtain ⟨⟨t0, t1, t2, t3, t4⟩, ⟨y0, y1, y2, y3, y4⟩⟩ := cells5 hR2
    have hzv := heap_lt hR2
    have HB2 := Lib.hid (HB1.out.trans (hb2.mono HB1.out.size))
    clear hb2 hR2 hown HW1
    go_wp2_with fail
    exact bodyPost_ret (v := .tuple #[file0, .bool false]) (by simp [results, Tryz.results42, go_sem, file0, fileV, t0, t1, t2, t3, t4, y0, y1, y2, y3, y4, hzv]) rfl ⟨rfl, st5_below HB2.out (Nat.le_refl _)⟩
  · have hf4 := firstP_four h4
    have hlen : ∀ p ∈ sp 32 l, p.length ≤ 100000 := fun p hp => Nat.le_trans (sp_le 32 l p hp) hz
    rw [h4] at HP hlen
    have hN := rName_any (str b) (by rw [str_size]; have := hlen b (by simp); omega)
    have hX := rnumber_any c (hlen c (by simp))
    have hY := rnumber_any d (hlen d (by simp))
    have HN := Lib.hid hN; have HX := Lib.hid hX; have HY := Lib.hid hY
    have hP4 := Lib.hid (fun (w2 : World) (ao : Option Addr) (cap : Nat) (h : w2.ownsRow w1.heap.size 9 1 (.slice ao 4 cap) 4 (strVs [a, b, c, d])) => parts4 h)
    have HP4 := Lib.hid (show Calls Tryz.prog 41 #[.string (str l), .int .u8 32] w1 (fun en w2 => ∃ q cap, en = .returned (.slice (some ⟨q, 0, none⟩) 4 cap) ∧ w1.heap.size ≤ q ∧ Below w1.heap.size w1 w2 ∧ w2.cell? ⟨q, 0, none⟩ = some (.string (str a)) ∧ w2.cell? ⟨q, 1, none⟩ = some (.string (str b)) ∧ w2.cell? ⟨q, 2, none⟩ = some (.string (str c)) ∧ w2.cell? ⟨q, 3, none⟩ = some (.string (str d))) from (HP.out w1).mono (by
      rintro en w2 ⟨ao, cap, rfl, hown, hb2⟩
      obtain ⟨q, rfl, h1, _, h3⟩ := hP4.out w2 ao cap hown
      exact ⟨q, cap, rfl, h1, hb2, h3⟩))
    clear hN hX hY hP4 HP hlen h4
    unfold KC at HN HX HY
    obtain ⟨x, hx⟩ : ∃ x, numT c = x := ⟨_, rfl⟩
    obtain ⟨y, hy⟩ : ∃ y, numT d = y := ⟨_, rfl⟩
    rw [hx] at HX hf4
    rw [hy] at HY hf4
    generalize str c = C at *
    generalize str d = D at *
    clear hx hy
    by_cases ha : a = wMap
    · subst ha
      have hq : ((str wMap).toList == [109, 97, 112]) = true := by rw [str_list]; rfl
      generalize str wMap = A at *
      cases hn : nameB (str b) with
      | false =>
        have hf : firstP l = none := by rw [hf4, if_neg (fun h => by rw [hn] at h; cases h.2.1)]
        suffices hsf : Calls Tryz.prog 42 #[.string (str l)] w (fun en w' => en = .returned (.tuple #[file0, .bool false]) ∧ Below w.heap.size w w') from hsf.mono fun en w' hh => first_bad hf hh
        rw [hn] at HN
        generalize str l = S at *
        generalize str b = B at *
        clear hf hf4 hn
        go_enter Tryz.func42, Tryz.ntmps42
        go_wp2_with fail
        rw [HW1.out]
        refine HP4.out.mono ?_
        rintro e w2 ⟨q, cap, rfl, hq1, hb2, k0, k1, k2, k3⟩
        have hR2 := block_below hb2 HR1.out
        obtain ⟨⟨t0, t1, t2, t3, t4⟩, ⟨y0, y1, y2, y3, y4⟩⟩ := cells5 hR2
        have hzv := heap_lt hR2
        have HB2 := Lib.hid (HB1.out.trans (hb2.mono HB1.out.size))
        clear hb2 hR2 HW1
        go_wp2_with fail
        refine (HN.out _).mono ?_
        rintro e w3 ⟨rfl, rfl⟩
        go_wp2_with fail
        exact bodyPost_ret (v := .tuple #[file0, .bool false]) (by simp [results, Tryz.results42, go_sem, file0, fileV, t0, t1, t2, t3, t4, y0, y1, y2, y3, y4, hzv]) rfl ⟨rfl, st5_below HB2.out (Nat.le_refl _)⟩
      | true =>
        rw [hn] at HN
        by_cases hok : (1 ≤ x ∧ x ≤ 32) ∧ (1 ≤ y ∧ y ≤ 32)
        · have hf : firstP l = some (b, x, y) := by rw [hf4, if_pos ⟨rfl, hn, hok⟩]
          obtain ⟨⟨o1, o2⟩, o3, o4⟩ := hok
          obtain ⟨N, hNe⟩ : ∃ N, x.toNat * y.toNat = N := ⟨_, rfl⟩
          have hNle : N ≤ 32 * 32 := by rw [← hNe]; exact Nat.mul_le_mul (by omega) (by omega)
          have hxy : x * y = (N : Int) := by
            rw [← hNe, Int.natCast_mul, Int.toNat_of_nonneg (by omega), Int.toNat_of_nonneg (by omega)]
          have hw : IntKind.i64.wrap (x * y) = (N : Int) := by rw [hxy, IntKind.wrap_i64]; omega
          have hmk := fun w => mk_cels N (by omega) w
          have HXL := Lib.hid (made_cells N)
          have HXS := Lib.hid (size_madeCells (Value.cells (.agg #[.int .i64 0, .int .i64 0, .int .i64 0])) (N * 3))
          generalize madeCells (Value.cells (.agg #[.int .i64 0, .int .i64 0, .int .i64 0])) (N * 3) = X at *
          have HF := Lib.hid hf; have HNE := Lib.hid hNe.symm
          have hz11 : w1.heap.size = w.heap.size + 1 := by rw [← HW1.out, tok_size]
          have hg1 : ¬ x < 1 := by omega
          have hg2 : ¬ 32 < x := by omega
          have hg3 : ¬ y < 1 := by omega
          have hg4 : ¬ 32 < y := by omega
          have HFG := Lib.hid (fun (w2 : World) (a0 b0 c0 d0 e0 : Value) => first_good (w := w) (w2 := w2) (a0 := a0) (b0 := b0) (c0 := c0) (d0 := d0) (e0 := e0) hf hNe.symm (by omega) HXL.out HXS.out)
          clear hf hf4 hn hNe hxy
          generalize FirstRes l w = FR at *
          generalize str l = S at *
          generalize str b = B at *
          go_enter Tryz.func42, Tryz.ntmps42
          go_wp2_with fail
          rw [HW1.out]
          refine HP4.out.mono ?_
          rintro e w2 ⟨q, cap, rfl, hq1, hb2, k0, k1, k2, k3⟩
          have hR2 := block_below hb2 HR1.out
          obtain ⟨⟨t0, t1, t2, t3, t4⟩, ⟨y0, y1, y2, y3, y4⟩⟩ := cells5 hR2
          have hzv := heap_lt hR2
          have hzq : q < w2.heap.size := cell_lt k1
          have hqn1 : ¬ w.heap.size = q := by omega
          have hqn2 : ¬ q = w.heap.size := by omega
          have hk1a : ∀ o, (w2.alloc o).cell? ⟨q, 1, none⟩ = some (.string B) := fun o => cell_below (below_new _ _) k1
          have HB2 := Lib.hid (HB1.out.trans (hb2.mono HB1.out.size))
          clear hb2 hR2 HW1
          go_wp2_with fail
          refine (HN.out _).mono ?_
          rintro e w3 ⟨rfl, rfl⟩
          go_wp2_with fail
          refine (HX.out _).mono ?_
          rintro e w3 ⟨rfl, rfl⟩
          go_wp2_with fail
          refine (HY.out _).mono ?_
          rintro e w3 ⟨rfl, rfl⟩
          go_wp2_with fail
          have z4 : (w2.alloc (.cells X 41)).heap[w.heap.size]? = w2.heap[w.heap.size]? := Below.heap_alloc _ _ _ hzv
          go_region_held3 (fun w' => w'.cell? ⟨q, 1, none⟩ = some (.string B)) (first | (with_reducible assumption) | go_keep) (first | fail)
          go_wp2_with fail
          exact bodyPost_ret (v := .tuple #[fileV B x y (.slice (some ⟨w2.heap.size, 0, none⟩) N N) (.slice none 0 0), .bool true]) (by simp [results, Tryz.results42, go_sem, fileV, t0, t1, t2, t3, t4, y0, y1, y2, y3, y4, hzv, hqn1, hqn2]) rfl (HFG.out w2 _ _ _ _ _ HB2.out hzv)
        · have hf : firstP l = none := by rw [hf4, if_neg (fun h => hok h.2.2)]
          have hcs : x < 1 ∨ (¬ x < 1 ∧ 32 < x) ∨ (¬ x < 1 ∧ ¬ 32 < x ∧ y < 1) ∨ (¬ x < 1 ∧ ¬ 32 < x ∧ ¬ y < 1 ∧ 32 < y) := by omega
          suffices hsf : Calls Tryz.prog 42 #[.string (str l)] w (fun en w' => en = .returned (.tuple #[file0, .bool false]) ∧ Below w.heap.size w w') from hsf.mono fun en w' hh => first_bad hf hh
          generalize str l = S at *
          generalize str b = B at *
          clear hf hf4 hn hok
          rcases hcs with g1 | ⟨g1, g2⟩ | ⟨g1, g2, g3⟩ | ⟨g1, g2, g3, g4⟩
          all_goals
            go_enter Tryz.func42, Tryz.ntmps42
            go_wp2_with fail
            rw [HW1.out]
            refine HP4.out.mono ?_
            rintro e w2 ⟨q, cap, rfl, hq1, hb2, k0, k1, k2, k3⟩
            have hR2 := block_below hb2 HR1.out
            obtain ⟨⟨t0, t1, t2, t3, t4⟩, ⟨y0, y1, y2, y3, y4⟩⟩ := cells5 hR2
            have hzv := heap_lt hR2
            have HB2 := Lib.hid (HB1.out.trans (hb2.mono HB1.out.size))
            clear hb2 hR2 HW1
            go_wp2_with fail
            refine (HN.out _).mono ?_
            rintro e w3 ⟨rfl, rfl⟩
            go_wp2_with fail
            refine (HX.out _).mono ?_
            rintro e w3 ⟨rfl, rfl⟩
            go_wp2_with fail
            refine (HY.out _).mono ?_
            rintro e w3 ⟨rfl, rfl⟩
            go_wp2_with fail
            exact bodyPost_ret (v := .tuple #[file0, .bool false]) (by simp [results, Tryz.results42, go_sem, file0, fileV, t0, t1, t2, t3, t4, y0, y1, y2, y3, y4, hzv]) rfl ⟨rfl, st5_below HB2.out (Nat.le_refl _)⟩
    · have hf : firstP l = none := by rw [hf4, if_neg (fun h => ha h.1)]
      have hq : ((str a).toList == [109, 97, 112]) = false := by rw [str_list, beq_eq_false_iff_ne]; exact ha
      suffices hsf : Calls Tryz.prog 42 #[.string (str l)] w (fun en w' => en = .returned (.tuple #[file0, .bool false]) ∧ Below w.heap.size w w') from hsf.mono fun en w' hh => first_bad hf hh
      generalize str l = S at *
      generalize str b = B at *
      generalize str a = A at *
      clear hf hf4 ha
      go_enter Tryz.func42, Tryz.ntmps42
      go_wp2_with fail
      rw [HW1.out]
      refine HP4.out.mono ?_
      rintro e w2 ⟨q, cap, rfl, hq1, hb2, k0, k1, k2, k3⟩
      have hR2 := block_below hb2 HR1.out
      obtain ⟨⟨t0, t1, t2, t3, t4⟩, ⟨y0, y1, y2, y3, y4⟩⟩ := cells5 hR2
      have hzv := heap_lt hR2
      have HB2 := Lib.hid (HB1.out.trans (hb2.mono HB1.out.size))
      clear hb2 hR2 HW1
      go_wp2_with fail
      exact bodyPost_ret (v := .tuple #[file0, .bool false]) (by simp [results, Tryz.results42, go_sem, file0, fileV, t0, t1, t2, t3, t4, y0, y1, y2, y3, y4, hzv]) rfl ⟨rfl, st5_below HB2.out (Nat.le_refl _)⟩
set_option linter.unusedVariables false
set_option linter.unusedSimpArgs false
set_option maxRecDepth 100000
set_option maxHeartbeats 8000000

def StartRes (l : List UInt8) (w : World) (en : Ending) (w' : World) : Prop := (∃ (x y : Int) (b : Bool), en = .returned (.tuple #[.agg #[.int .i64 x, .int .i64 y], .bool b]) ∧ startP l = if b then some ⟨x, y⟩ else none) ∧ Below w.heap.size w w'
theorem startP_none {l : List UInt8} (h : (sp 32 l).length ≠ 3) : startP l = none := by
  unfold startP
  match hx : sp 32 l with
  | [] | [_] | [_, _] => rfl
  | [a, b, c] => rw [hx] at h; exact absurd rfl h
  | _ :: _ :: _ :: _ :: _ => rfl
theorem startP_three {l a b c : List UInt8} (h : sp 32 l = [a, b, c]) : startP l = if a = wStart ∧ (0 ≤ numT b ∧ numT b < 32) ∧ (0 ≤ numT c ∧ numT c < 32) then some ⟨numT b, numT c⟩ else none := by
  unfold startP
  rw [h]
abbrev st2c (w : World) (rb : Nat) (a b : Value) : World := (w.setCell ⟨rb, 0, none⟩ a).setCell ⟨rb, 1, none⟩ b
theorem st2_below {w wv : World} {B rb : Nat} {a b : Value} (h : Below B w wv) (hB : B ≤ rb) : Below B w (st2c wv rb a b) := (h.setCell hB _).setCell hB _
theorem start_bad {l : List UInt8} {w : World} {en : Ending} {w' : World} (h : startP l = none) (h2 : en = .returned (.tuple #[.agg #[.int .i64 0, .int .i64 0], .bool false]) ∧ Below w.heap.size w w') : StartRes l w en w' := ⟨⟨0, 0, false, h2.1, h⟩, h2.2⟩
theorem rstart_any (l : List UInt8) (hz : l.length ≤ 100000) (w : World) : Calls Tryz.prog 45 #[.string (str l)] w (StartRes l w) := by
  have HP := Lib.hid (fun w => rParts_any l hz 32 32 rfl w)
  obtain ⟨w1, hw1⟩ : ∃ w1, w.alloc (.cells #[.int .i64 0, .int .i64 0] 55) = w1 := ⟨_, rfl⟩
  have hb1 : Below w.heap.size w w1 := by rw [← hw1]; exact below_new _ _
  have hr1 : w1.heap[w.heap.size]? = some (.cells #[.int .i64 0, .int .i64 0] 55) := by rw [← hw1]; exact tok_new _ _
  have HB1 := Lib.hid hb1; have HR1 := Lib.hid hr1; have HW1 := Lib.hid hw1
  clear hb1 hr1 hw1
  rcases three_or (sp 32 l) with h4 | ⟨a, b, c, h4⟩
  · have hf := startP_none h4
    suffices hsf : Calls Tryz.prog 45 #[.string (str l)] w (fun en w' => en = .returned (.tuple #[.agg #[.int .i64 0, .int .i64 0], .bool false]) ∧ Below w.heap.size w w') from hsf.mono fun en w' hh => start_bad hf hh
    generalize str l = S at *
    generalize strVs (sp 32 l) = V at *
    generalize (sp 32 l).length = m at *
    have e4 : ((m : Int) != 3) = true := by rw [bne_iff_ne]; omega
    clear hf h4
    go_enter Tryz.func45, Tryz.ntmps45
    go_wp2_with fail
    refine (HP.out _).mono ?_
    rw [HW1.out]
    rintro e w2 ⟨ao, cap, rfl, hown, hb2⟩
    have hR2 := block_below hb2 HR1.out
    obtain ⟨⟨t0, t1⟩, ⟨y0, y1⟩⟩ := cells2 hR2
    have hzv := heap_lt hR2
    have HB2 := Lib.hid (HB1.out.trans (hb2.mono HB1.out.size))
    clear hb2 hR2 hown HW1
    go_wp2_with fail
    exact bodyPost_ret (v := .tuple #[.agg #[.int .i64 0, .int .i64 0], .bool false]) (by simp [results, Tryz.results45, go_sem, t0, t1, y0, y1, hzv]) rfl ⟨rfl, st2_below HB2.out (Nat.le_refl _)⟩
  · have hf4 := startP_three h4
    have hlen : ∀ p ∈ sp 32 l, p.length ≤ 100000 := fun p hp => Nat.le_trans (sp_le 32 l p hp) hz
    rw [h4] at HP hlen
    have HX := Lib.hid (rnumber_any b (hlen b (by simp)))
    have HY := Lib.hid (rnumber_any c (hlen c (by simp)))
    have hP3 := Lib.hid (fun (w2 : World) (ao : Option Addr) (cap : Nat) (h : w2.ownsRow w1.heap.size 9 1 (.slice ao 3 cap) 3 (strVs [a, b, c])) => parts3 h)
    have HP3 := Lib.hid (show Calls Tryz.prog 41 #[.string (str l), .int .u8 32] w1 (fun en w2 => ∃ q cap, en = .returned (.slice (some ⟨q, 0, none⟩) 3 cap) ∧ w1.heap.size ≤ q ∧ Below w1.heap.size w1 w2 ∧ w2.cell? ⟨q, 0, none⟩ = some (.string (str a)) ∧ w2.cell? ⟨q, 1, none⟩ = some (.string (str b)) ∧ w2.cell? ⟨q, 2, none⟩ = some (.string (str c))) from (HP.out w1).mono (by
      rintro en w2 ⟨ao, cap, rfl, hown, hb2⟩
      obtain ⟨q, rfl, h1, _, h3⟩ := hP3.out w2 ao cap hown
      exact ⟨q, cap, rfl, h1, hb2, h3⟩))
    clear hP3 HP hlen h4
    by_cases ha : a = wStart
    · subst ha
      have hq : ((str wStart).toList == [115, 116, 97, 114, 116]) = true := by rw [str_list]; rfl
      generalize str wStart = A at *
      obtain ⟨x, hx⟩ : ∃ x, numT b = x := ⟨_, rfl⟩
      obtain ⟨y, hy⟩ : ∃ y, numT c = y := ⟨_, rfl⟩
      rw [hx] at HX hf4
      rw [hy] at HY hf4
      have hz11 : w1.heap.size = w.heap.size + 1 := by rw [← HW1.out, tok_size]
      have hcs : (Hid (¬ ((0 ≤ x ∧ x < 32) ∧ (0 ≤ y ∧ y < 32))) ∧ decide (0 ≤ x) = false) ∨ (Hid (¬ ((0 ≤ x ∧ x < 32) ∧ (0 ≤ y ∧ y < 32))) ∧ decide (0 ≤ x) = true ∧ decide (x < 32) = false) ∨ (Hid (¬ ((0 ≤ x ∧ x < 32) ∧ (0 ≤ y ∧ y < 32))) ∧ decide (0 ≤ x) = true ∧ decide (x < 32) = true ∧ decide (0 ≤ y) = false) ∨ (Hid (¬ ((0 ≤ x ∧ x < 32) ∧ (0 ≤ y ∧ y < 32))) ∧ decide (0 ≤ x) = true ∧ decide (x < 32) = true ∧ decide (0 ≤ y) = true ∧ decide (y < 32) = false) ∨ (Hid ((0 ≤ x ∧ x < 32) ∧ (0 ≤ y ∧ y < 32)) ∧ decide (0 ≤ x) = true ∧ decide (x < 32) = true ∧ decide (0 ≤ y) = true ∧ decide (y < 32) = true) := by
        have hh : ∀ p : Prop, Hid p ↔ p := fun p => ⟨fun h => h.out, fun h => Lib.hid h⟩
        simp only [decide_eq_true_eq, decide_eq_false_iff_not, hh]
        omega
      have HF := Lib.hid (show ∀ bb : Bool, (bb = true ↔ (0 ≤ x ∧ x < 32) ∧ (0 ≤ y ∧ y < 32)) → startP l = if bb then some ⟨x, y⟩ else none by
        intro bb hbb
        rw [hf4]
        cases bb with
        | true => rw [if_pos ⟨rfl, hbb.1 rfl⟩, if_pos rfl]
        | false => rw [if_neg (fun h => by have := hbb.2 h.2; cases this)]; rfl)
      have HG := Lib.hid (fun (bb : Bool) (h : bb = true ↔ (0 ≤ x ∧ x < 32) ∧ (0 ≤ y ∧ y < 32)) (w' : World) (hb : Below w.heap.size w w') => show StartRes l w (.returned (.tuple #[.agg #[.int .i64 x, .int .i64 y], .bool bb])) w' from ⟨⟨x, y, bb, rfl, HF.out bb h⟩, hb⟩)
      generalize StartRes l w = FR at *
      generalize str l = S at *
      generalize str b = B at *
      generalize str c = C at *
      clear hf4 hx hy
      go_enter Tryz.func45, Tryz.ntmps45
      go_wp2_with fail
      rw [HW1.out]
      refine HP3.out.mono ?_
      rintro e w2 ⟨q, cap, rfl, hq1, hb2, k0, k1, k2⟩
      have hR2 := block_below hb2 HR1.out
      obtain ⟨⟨t0, t1⟩, ⟨y0, y1⟩⟩ := cells2 hR2
      have hzv := heap_lt hR2
      have HR2 := Lib.hid hR2
      have hzq : q < w2.heap.size := cell_lt k1
      have HB2 := Lib.hid (HB1.out.trans (hb2.mono HB1.out.size))
      clear hb2 hR2 HW1
      go_wp2_with fail
      go_region_held3 (fun w' => w'.cell? ⟨q, 1, none⟩ = some (.string B) ∧ w'.cell? ⟨q, 2, none⟩ = some (.string C)) (refine ⟨?_, ?_⟩ <;> first | (with_reducible assumption) | go_keep) (first | (go_at_call 71; with_reducible refine (HX.out.still _).mono ?_; rintro e w' ⟨rfl, rfl⟩) | (go_at_call 71; with_reducible refine (HY.out.still _).mono ?_; rintro e w' ⟨rfl, rfl⟩))
      all_goals
        clear t0 t1 y0 y1 k0 k1 k2 HX HY hq
        obtain ⟨w3, hw3⟩ : ∃ w3, (w2.alloc (.cells #[.int .i64 x, .int .i64 y] 55)).drew = w3 := ⟨_, rfl⟩
        have n3 : w3.heap[w2.heap.size]? = some (.cells #[.int .i64 x, .int .i64 y] 55) := by rw [← hw3]; exact tok_new _ _
        have r3 : w3.heap[w.heap.size]? = some (.cells #[.int .i64 0, .int .i64 0] 55) := by rw [← hw3]; exact (Below.heap_alloc _ _ _ hzv).trans HR2.out
        have HB3 := Lib.hid (show Below w.heap.size w w3 by rw [← hw3]; exact (HB2.out.alloc (by omega) _).drew)
        rw [hw3]
        obtain ⟨⟨c0, c1⟩, _⟩ := cells2 n3
        obtain ⟨⟨t0, t1⟩, ⟨y0, y1⟩⟩ := cells2 r3
        have hz3 := heap_lt r3
        have hne1 : ¬ w2.heap.size = w.heap.size := by omega
        have hne2 : ¬ w.heap.size = w2.heap.size := by omega
        clear hw3 n3 r3 HB2 HR2
        go_wp2_with fail
        rcases hcs with ⟨hn, g1⟩ | ⟨hn, g1, g2⟩ | ⟨hn, g1, g2, g3⟩ | ⟨hn, g1, g2, g3, g4⟩ | ⟨hn, g1, g2, g3, g4⟩
        all_goals
          go_region
          all_goals go_wp2_with fail
          all_goals first
            | exact bodyPost_ret (v := .tuple #[.agg #[.int .i64 x, .int .i64 y], .bool false]) (by simp [results, Tryz.results45, go_sem, t0, t1, y0, y1, hz3]) rfl (HG.out false ⟨fun h => (by cases h), fun h => absurd h hn.out⟩ _ (by first | exact st2_below HB3.out (Nat.le_refl _) | exact (st2_below HB3.out (Nat.le_refl _)).drew | exact st2_below HB3.out.drew (Nat.le_refl _)))
            | exact bodyPost_ret (v := .tuple #[.agg #[.int .i64 x, .int .i64 y], .bool true]) (by simp [results, Tryz.results45, go_sem, t0, t1, y0, y1, hz3]) rfl (HG.out true ⟨fun _ => hn.out, fun _ => rfl⟩ _ (by first | exact st2_below HB3.out (Nat.le_refl _) | exact (st2_below HB3.out (Nat.le_refl _)).drew | exact st2_below HB3.out.drew (Nat.le_refl _)))
    · have hf : startP l = none := by rw [hf4, if_neg (fun h => ha h.1)]
      have hq : ((str a).toList == [115, 116, 97, 114, 116]) = false := by rw [str_list, beq_eq_false_iff_ne]; exact ha
      suffices hsf : Calls Tryz.prog 45 #[.string (str l)] w (fun en w' => en = .returned (.tuple #[.agg #[.int .i64 0, .int .i64 0], .bool false]) ∧ Below w.heap.size w w') from hsf.mono fun en w' hh => start_bad hf hh
      generalize str l = S at *
      generalize str b = B at *
      generalize str c = C at *
      generalize str a = A at *
      clear hf hf4 ha HX HY
      go_enter Tryz.func45, Tryz.ntmps45
      go_wp2_with fail
      rw [HW1.out]
      refine HP3.out.mono ?_
      rintro e w2 ⟨q, cap, rfl, hq1, hb2, k0, k1, k2⟩
      have hR2 := block_below hb2 HR1.out
      obtain ⟨⟨t0, t1⟩, ⟨y0, y1⟩⟩ := cells2 hR2
      have hzv := heap_lt hR2
      have HB2 := Lib.hid (HB1.out.trans (hb2.mono HB1.out.size))
      clear hb2 hR2 HW1
      go_wp2_with fail
      exact bodyPost_ret (v := .tuple #[.agg #[.int .i64 0, .int .i64 0], .bool false]) (by simp [results, Tryz.results45, go_sem, t0, t1, y0, y1, hzv]) rfl ⟨rfl, st2_below HB2.out (Nat.le_refl _)⟩
end Go.Proofs.YtmiceolkmiiahaaGreatDoor
