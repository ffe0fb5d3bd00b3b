/- Walks: Start, the program's side. -/
import Derived.Test.YtcicbijpiffbkaaW14
import Derived.Test.YtcicbijpiffbkaaW16
import Derived.Test.YtcicbijpiffbkaaP6
import Derived.BigRegion
namespace Go.Proofs.Ytcicbijpiffbkaa
open Go.RowKit
set_option linter.unusedVariables false
set_option linter.unusedSimpArgs false
set_option maxRecDepth 100000
set_option maxHeartbeats 1500000

abbrev nilS : Value := .slice none 0 0
abbrev task0 : Value := taskV 0 0 0 nilS nilS
theorem mk_longs (n : Nat) (hn : n ≤ 1000000) (w : World) : (Instr.makeSlice 26 (.int .i64 (n : Int)) (.int .i64 (n : Int))).run Try.prog w = .ok (.slice (some ⟨w.heap.size, 0, none⟩) n n) (w.alloc (.cells (madeCells (Value.cells (.int .i64 0)) (n * 1)) 2)) := by
  have hi : (Try.prog.info? 2).map (fun i => (i.bytes, i.size, i.zero)) = some (8, 1, some (.int .i64 0)) := by kernel_rfl
  obtain ⟨i, h1, h2⟩ := Option.map_eq_some_iff.1 hi
  injection h2 with h2 h3
  injection h3 with h3 h4
  have hbb : (i.bytes : Int) * (n : Int) ≤ 281474976710656 := by
    rw [h2]
    omega
  have := run_make (P := Try.prog) w 26 2 i (.int .i64 0) (by kernel_rfl) h1 h4 .i64 .i64 n n (by omega) (Int.le_refl _) hbb (by omega)
  rw [Int.toNat_natCast, h3] at this
  exact this
theorem made_longs (n : Nat) : (madeCells (Value.cells (.int .i64 0)) (n * 1)).toList = cellsOf intL (List.replicate n 0) := by
  have hz : Value.cells (.int .i64 0) = #[.int .i64 0] := rfl
  have h1 : (madeCells (Value.cells (.int .i64 0)) (n * 1)).toList = List.replicate (n * 1) (.int .i64 0) := by
    unfold madeCells
    rw [hz, Array.toList_map, Array.toList_range]
    apply List.ext_getElem (by simp)
    intro i hi hi2
    rw [List.getElem_map, List.getElem_replicate]
    have : i % 1 = 0 := Nat.mod_one i
    simp [this]
  rw [h1, Nat.mul_one]
  clear h1
  induction n with
  | zero => rfl
  | succ n ih => rw [List.replicate_succ, List.replicate_succ, ih]; rfl
theorem made_sl {w : World} {q n : Nat} {X : Array Value} (hX : X.toList = cellsOf intL (List.replicate n 0)) (h : w.heap[q]? = some (.cells X 2)) : IntSl w (.slice (some ⟨q, 0, none⟩) n n) (List.replicate n 0) := by
  refine ⟨some ⟨q, 0, none⟩, n, by rw [List.length_replicate], Or.inr ⟨_, rfl, fun i hi j hj => ?_⟩⟩
  rw [add_add0, ← cellsOf_get intL_len _ i hi j hj, ← hX, Lib.cell_of_heap h]
  simp
/-- What Start hands back. -/
def StartRes (es : List Ent) (is : List Ins) (s : List UInt8) (w : World) (en : Ending) (w' : World) : Prop :=
  Below w.heap.size w w' ∧ ((codeE es is ≠ 0 ∧ en = .returned (.tuple #[task0, .int .i64 20])) ∨ (codeE es is = 0 ∧ firstI (isN s) es = -1 ∧ en = .returned (.tuple #[task0, .int .i64 8])) ∨
    (codeE es is = 0 ∧ ∃ (k : Nat) (h : k < es.length) (q : Nat), firstI (isN s) es = (k : Int) ∧ en = .returned (.tuple #[taskV 1 es[k].at' 0 (.slice (some ⟨q, 0, none⟩) es[k].sl.toNat es[k].sl.toNat) nilS, .int .i64 0]) ∧ IntSl w' (.slice (some ⟨q, 0, none⟩) es[k].sl.toNat es[k].sl.toNat) (List.replicate es[k].sl.toNat 0)))
theorem blk5f {w : World} {g t : Nat} {a b c d e : Value} (h : w.heap[g]? = some (.cells #[a, b, c, d, e] t)) : (w.cell? ⟨g, 0, none⟩ = some a ∧ w.cell? ⟨g, 1, none⟩ = some b ∧ w.cell? ⟨g, 2, none⟩ = some c ∧ w.cell? ⟨g, 3, none⟩ = some d ∧ w.cell? ⟨g, 4, none⟩ = some e) ∧ (w.frozen? ⟨g, 0, none⟩ = false ∧ w.frozen? ⟨g, 1, none⟩ = false ∧ w.frozen? ⟨g, 2, none⟩ = false ∧ w.frozen? ⟨g, 3, none⟩ = false ∧ w.frozen? ⟨g, 4, none⟩ = false) :=
  ⟨blk5 h, by rw [Lib.frozen_of_heap h], by rw [Lib.frozen_of_heap h], by rw [Lib.frozen_of_heap h], by rw [Lib.frozen_of_heap h], by rw [Lib.frozen_of_heap h]⟩
abbrev st5 (w : World) (rb : Nat) (a b c d e : Value) : World := ((((w.setCell ⟨rb, 0, none⟩ a).setCell ⟨rb, 1, none⟩ b).setCell ⟨rb, 2, none⟩ c).setCell ⟨rb, 3, none⟩ d).setCell ⟨rb, 4, none⟩ e
theorem st5_below {w wv : World} {B rb : Nat} {a b c d e : Value} (h : Below B w wv) (hB : B ≤ rb) : Below B w (st5 wv rb a b c d e) := ((((h.setCell hB _).setCell hB _).setCell hB _).setCell hB _).setCell hB _
theorem st5_ne {w : World} {rb g : Nat} {a b c d e : Value} (hg : g ≠ rb) : (st5 w rb a b c d e).heap[g]? = w.heap[g]? := by
  unfold st5
  rw [Below.heap_setCell _ _ _ _ hg, Below.heap_setCell _ _ _ _ hg, Below.heap_setCell _ _ _ _ hg, Below.heap_setCell _ _ _ _ hg, Below.heap_setCell _ _ _ _ hg]
theorem st5_size (w : World) (rb : Nat) (a b c d e : Value) : (st5 w rb a b c d e).heap.size = w.heap.size := by simp [st5, World.setCell]
theorem start_bad {es : List Ent} {is : List Ins} {s : List UInt8} {w wv : World} {rb : Nat} {a b c d e : Value} (h : codeE es is ≠ 0) (hb : Below w.heap.size w wv) (hr : w.heap.size ≤ rb) : StartRes es is s w (.returned (.tuple #[task0, .int .i64 20])) (st5 wv rb a b c d e) := ⟨st5_below hb hr, Or.inl ⟨h, rfl⟩⟩
theorem start_no {es : List Ent} {is : List Ins} {s : List UInt8} {w wv : World} {rb : Nat} {a b c d e : Value} (h : codeE es is = 0) (h2 : firstI (isN s) es = -1) (hb : Below w.heap.size w wv) (hr : w.heap.size ≤ rb) : StartRes es is s w (.returned (.tuple #[task0, .int .i64 8])) (st5 wv rb a b c d e) := ⟨st5_below hb hr, Or.inr (Or.inl ⟨h, h2, rfl⟩)⟩
theorem start_yes {es : List Ent} {is : List Ins} {s : List UInt8} {w wv : World} {rb N k : Nat} {a b c d e : Value} {X : Array Value} {ea : Int} (h : codeE es is = 0) (hk : k < es.length) (h2 : firstI (isN s) es = (k : Int)) (hea : es[k].at' = ea) (hN : es[k].sl = (N : Int)) (hX : X.toList = cellsOf intL (List.replicate N 0)) (hb : Below w.heap.size w wv) (hr : w.heap.size ≤ rb) (hrb : rb < wv.heap.size) :
    StartRes es is s w (.returned (.tuple #[taskV 1 ea 0 (.slice (some ⟨wv.heap.size, 0, none⟩) N N) nilS, .int .i64 0])) ((st5 wv rb a b c d e).alloc (.cells X 2)) := by
  refine ⟨(st5_below hb hr).alloc (by rw [st5_size]; exact hb.size) _, Or.inr (Or.inr ⟨h, k, hk, wv.heap.size, h2, ?_, ?_⟩)⟩
  · rw [hea, hN]; rfl
  · rw [hN]
    refine made_sl hX ?_
    have h := tok_new (st5 wv rb a b c d e) (.cells X 2)
    rw [st5_size] at h
    exact h
theorem StartRes.drew {es : List Ent} {is : List Ins} {s : List UInt8} {w w' : World} {en : Ending} (h : StartRes es is s w en w') : StartRes es is s w en w'.drew := ⟨h.1.drew, h.2⟩
theorem Start_any (ao bo : Option Addr) (c d : Nat) (n m : Nat) (es : List Ent) (is : List Ins) (s : List UInt8) (hn : es.length = n) (hm : is.length = m) (hz : n ≤ 1000000) (hm2 : m ≤ 1000000) (hnc : n ≤ c) (hmd : m ≤ d) (hE : OkE es) (hI : OkI is)
    (w : World) (he : es = [] ∨ ∃ a, ao = some a ∧ EntAt w a es) (hi : is = [] ∨ ∃ a, bo = some a ∧ InsAt w a is) : Calls Try.prog 9 #[codeV (.slice ao n c) (.slice bo m d), .string (str s)] w (StartRes es is s w) := by
  have HEN := Lib.hid hn; have HEA := Lib.hid he
  have HCV := Lib.hid (fun w' (hb : Below w.heap.size w w') => cValidate_any ao bo c d n m es is hn hm hz hm2 hnc hmd hE hI w' (he.imp id fun ⟨a, e, y⟩ => ⟨a, e, y.below Ent.l_len hb⟩) (hi.imp id fun ⟨a, e, y⟩ => ⟨a, e, y.below Ins.l_len hb⟩))
  have HQ := Lib.hid (fun x : Ent => show ((str x.n).toList == (str s).toList) = isN s x from str_beq _ _)
  obtain ⟨R, hR⟩ : ∃ R, codeE es is = R := ⟨_, rfl⟩
  rw [hR] at HCV
  have HR := Lib.hid hR
  have HNB := Lib.hid (show R = 0 → ∀ i (hi : i < es.length), numB es m i hi = true from fun h => by rw [← hm]; exact (code_ok (hR.trans h)).2.2.2.2.1)
  clear he hi hn hm hR
  obtain ⟨FR, hFR⟩ : ∃ F, StartRes es is s w = F := ⟨_, rfl⟩
  rw [hFR]
  have HFR := Lib.hid hFR
  clear hFR
  unfold KB codeV at HCV
  unfold codeV
  obtain ⟨w2, hw2⟩ : ∃ w2, (w.alloc (.cells #[.slice ao n c, .slice bo m d] 25)).alloc (.cells #[.int .i64 0, .int .i64 0, .int .i64 0, .slice none 0 0, .slice none 0 0] 28) = w2 := ⟨_, rfl⟩
  have HB2 := Lib.hid (show Below w.heap.size w w2 by rw [← hw2]; exact (below_new _ _).alloc (by simp) _)
  have HX2 := Lib.hid (show w2.heap[w.heap.size]? = some (.cells #[.slice ao n c, .slice bo m d] 25) by rw [← hw2, Below.heap_alloc _ _ _ (by simp)]; exact tok_new _ _)
  have HY2 := Lib.hid (show w2.heap[w.heap.size + 1]? = some (.cells #[.int .i64 0, .int .i64 0, .int .i64 0, .slice none 0 0, .slice none 0 0] 28) by
    have h := tok_new (w.alloc (.cells #[.slice ao n c, .slice bo m d] 25)) (.cells #[.int .i64 0, .int .i64 0, .int .i64 0, .slice none 0 0, .slice none 0 0] 28)
    rw [tok_size, hw2] at h
    exact h)
  have HZ2 := Lib.hid (show w2.heap.size = w.heap.size + 2 by rw [← hw2, tok_size, tok_size])
  have HW2 := Lib.hid hw2
  clear hw2
  generalize str s = S at *
  go_enter Try.func9, Try.ntmps9
  go_upto_region 1 with fail
  rw [HW2.out]
  clear HW2
  obtain ⟨m0, m1⟩ := cells2 HX2.out
  go_wp2_with fail
  refine (HCV.out w2 HB2.out).mono ?_
  rintro e w3 ⟨rfl, hb3⟩
  have HB3 := Lib.hid (HB2.out.trans (hb3.mono HB2.out.size))
  have HX3 := Lib.hid (block_below hb3 HX2.out)
  have HY3 := Lib.hid (block_below hb3 HY2.out)
  have HZ3 := Lib.hid (show w.heap.size + 2 ≤ w3.heap.size by have := HZ2.out; have := hb3.size; omega)
  clear hb3 m0 m1
  by_cases hR0 : R = 0
  rotate_left
  · have HX := Lib.hid (show ∀ wv a b c d e, Below w.heap.size w wv → FR (.returned (.tuple #[task0, .int .i64 20])) (st5 wv (w.heap.size + 1) a b c d e) from fun wv a b c d e h => by rw [← HFR.out]; exact start_bad (by rw [HR.out]; exact hR0) h (by omega))
    have z1 : (R != 0) = true := by rw [bne_iff_ne]; exact hR0
    obtain ⟨⟨y0, y1, y2, y3, y4⟩, q0, q1, q2, q3, q4⟩ := blk5f HY3.out
    have hzv := heap_lt HY3.out
    clear hR0
    go_wp2_with fail
    exact bodyPost_ret (v := .tuple #[task0, .int .i64 20]) (by simp [results, Try.results9, go_sem, y0, y1, y2, y3, y4, q0, q1, q2, q3, q4, hzv]) rfl (HX.out _ _ _ _ _ _ HB3.out)
  subst hR0
  replace HNB := Lib.hid (HNB.out rfl)
  obtain ⟨m0, m1⟩ := cells2 HX3.out
  go_wp2_with fail
  clear m0 m1
  go_loopw [15] (fun v wr => ∃ k : Nat, k ≤ n ∧ v = .int .i64 (k : Int) ∧ Below (w.heap.size + 2) w3 wr ∧ Hid (∀ j (hj : j < es.length), j < k → isN s es[j] = false)) (fun v _ => n - (intOf v).toNat)
  case atStart => exact ⟨0, by omega, rfl, Below.refl _ _, Lib.hid (fun _ _ h => absurd h (by omega))⟩
  case round =>
    obtain ⟨k, hk, rfl, hbel, hall⟩ := hrel
    have HBE := Lib.hid hbel
    have HBW := Lib.hid (HB3.out.trans (hbel.mono (by omega)))
    have HXR := Lib.hid (below_keeps HX3.out (by omega) hbel)
    have HYR := Lib.hid (below_keeps HY3.out (by omega) hbel)
    have HZR := Lib.hid (show w.heap.size + 2 ≤ wr.heap.size by have := HZ3.out; have := hbel.size; omega)
    clear hbel
    by_cases hkn : k < n
    · have hkl : k < es.length := by have := HEN.out; omega
      obtain ⟨a, rfl, hat⟩ : ∃ a, ao = some a ∧ EntAt w a es := HEA.out.resolve_left (fun h => by rw [h] at hkl; simp at hkl)
      obtain ⟨c0, c1, c2⟩ := entAt (hat.below Ent.l_len HBW.out) k hkl
      have hq := HQ.out es[k]
      obtain ⟨B, hB⟩ : ∃ B, isN s es[k] = B := ⟨_, rfl⟩
      rw [hB] at hq
      have HBB := Lib.hid hB
      have hnb := (num_iff hkl).1 (HNB.out k hkl)
      obtain ⟨ea, hea⟩ : ∃ z, es[k].at' = z := ⟨_, rfl⟩
      obtain ⟨N, hel⟩ : ∃ N : Nat, es[k].sl = (N : Int) := ⟨es[k].sl.toNat, by omega⟩
      have hN1 : N ≤ 32 := by omega
      rw [hea] at c1
      rw [hel] at c2
      generalize str es[k].n = T at *
      have e1 : (0 : Int) ≤ ((k : Int)) := by omega
      have e2 : (k : Int) < (n : Int) := by omega
      have hmeas : n - (k + 1) < n - k := by omega
      have HEA2 := Lib.hid hea; have HEL2 := Lib.hid hel
      clear hB hat hnb hea hel
      go_upto_region 6 with fail
      obtain ⟨w4, hw4⟩ : ∃ w4, wr.alloc (.cells #[.string T, .int .i64 ea, .int .i64 (N : Int)] 68) = w4 := ⟨_, rfl⟩
      have HE4 := Lib.hid (show w4.heap[wr.heap.size]? = some (.cells #[.string T, .int .i64 ea, .int .i64 (N : Int)] 68) by rw [← hw4]; exact tok_new _ _)
      have HBB4 := Lib.hid (show Below wr.heap.size wr w4 by rw [← hw4]; exact below_new _ _)
      have HB4 := Lib.hid (HBE.out.trans (HBB4.out.mono HZR.out))
      have HW4 := Lib.hid (HBW.out.trans (HBB4.out.mono (by have := HZR.out; omega)))
      have HY4 := Lib.hid (block_below HBB4.out HYR.out)
      rw [hw4]
      clear hw4 c0 c1 c2
      obtain ⟨c0, c1, c2⟩ := blk3 HE4.out
      cases B
      · have hn2 : Hid (∀ j (hj : j < es.length), j < k + 1 → isN s es[j] = false) := Lib.hid fun j hj hjk => by
          by_cases hjk' : j < k
          · exact hall.out j hj hjk'
          · obtain rfl : j = k := by omega
            exact HBB.out
        clear hall
        go_wp2_with fail
        go_roundw
        case rel => exact ⟨k + 1, by omega, by go_num, HB4.out, hn2⟩
        case measure => simp [intOf]; omega
      · have HX := Lib.hid (show ∀ X a b c d e, X.toList = cellsOf intL (List.replicate N 0) → FR (.returned (.tuple #[taskV 1 ea 0 (.slice (some ⟨w4.heap.size, 0, none⟩) N N) nilS, .int .i64 0])) ((st5 w4 (w.heap.size + 1) a b c d e).alloc (.cells X 2)).drew from fun X a b c d e hX => by
          rw [← HFR.out]
          exact (start_yes HR.out hkl (firstI_at _ _ k hkl HBB.out hall.out) HEA2.out HEL2.out hX HW4.out (by omega) (by have := heap_lt HY4.out; omega)).drew)
        have hmk := fun w => mk_longs N (by omega) w
        have HXL := Lib.hid (made_longs N)
        generalize madeCells (Value.cells (.int .i64 0)) (N * 1) = X at *
        obtain ⟨⟨y0, y1, y2, y3, y4⟩, q0, q1, q2, q3, q4⟩ := blk5f HY4.out
        have hzv := heap_lt HY4.out
        have hze := heap_lt HE4.out
        have hzn1 : ¬ w.heap.size + 1 = wr.heap.size := by have := HZR.out; omega
        have hzn2 : ¬ wr.heap.size = w.heap.size + 1 := by have := HZR.out; omega
        have hk1a : ∀ o, (w4.alloc o).cell? ⟨wr.heap.size, 1, none⟩ = some (.int .i64 ea) := fun o => cell_below (below_new _ _) c1
        have hk2a : ∀ o, (w4.alloc o).cell? ⟨wr.heap.size, 2, none⟩ = some (.int .i64 (N : Int)) := fun o => cell_below (below_new _ _) c2
        clear hall
        go_wp2_with fail
        have z4 : (w4.alloc (.cells X 2)).heap[w.heap.size + 1]? = w4.heap[w.heap.size + 1]? := Below.heap_alloc _ _ _ hzv
        go_region
        go_wp2_with fail
        exact bodyPost_ret (v := .tuple #[taskV 1 ea 0 (.slice (some ⟨w4.heap.size, 0, none⟩) N N) nilS, .int .i64 0]) (by simp [results, Try.results9, go_sem, y0, y1, y2, y3, y4, q0, q1, q2, q3, q4, hzv, hzn1, hzn2]) rfl (HX.out _ _ _ _ _ _ HXL.out)
    · have HX := Lib.hid (show ∀ wv a b c d e, Below w.heap.size w wv → FR (.returned (.tuple #[task0, .int .i64 8])) (st5 wv (w.heap.size + 1) a b c d e) from fun wv a b c d e h => by
        rw [← HFR.out]
        exact start_no HR.out (firstI_no _ _ fun j hj => hall.out j hj (by have := HEN.out; omega)) h (by omega))
      obtain ⟨⟨y0, y1, y2, y3, y4⟩, q0, q1, q2, q3, q4⟩ := blk5f HYR.out
      have hzv := heap_lt HYR.out
      clear hall
      go_wp2_with fail
      exact bodyPost_ret (v := .tuple #[task0, .int .i64 8]) (by simp [results, Try.results9, go_sem, y0, y1, y2, y3, y4, q0, q1, q2, q3, q4, hzv]) rfl (HX.out _ _ _ _ _ _ HBW.out)
end Go.Proofs.Ytcicbijpiffbkaa
