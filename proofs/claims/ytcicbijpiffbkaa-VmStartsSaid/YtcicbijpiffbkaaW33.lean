/- Walks: Start, the reference's side. -/
import Derived.Test.YtcicbijpiffbkaaW15
import Derived.Test.YtcicbijpiffbkaaW19
namespace Go.Proofs.Ytcicbijpiffbkaa
open Go.RowKit
set_option linter.unusedVariables false
set_option linter.unusedSimpArgs false
set_option maxRecDepth 100000
set_option maxHeartbeats 1500000

theorem rStart_any (ao bo : Option Addr) (c d : Nat) (n m : Nat) (es : List Ent) (is : List Ins) (s : List UInt8) (hn : es.length = n) (hm : is.length = m) (hz : n ≤ 1000000) (hm2 : m ≤ 1000000) (hE : OkE es) (hI : OkI is)
    (w : World) (he : es = [] ∨ ∃ a, ao = some a ∧ EntAt w a es) (hi : is = [] ∨ ∃ a, bo = some a ∧ InsAt w a is) : Calls Try.prog 10 #[codeV (.slice ao n c) (.slice bo m d), .string (str s)] w (StartRes es is s w) := by
  have HEN := Lib.hid hn; have HEA := Lib.hid he
  have HCV := Lib.hid (fun w' (hb : Below w.heap.size w w') => rcValidate_any ao bo c d n m es is hn hm hz hm2 hE hI w' (he.imp id fun ⟨a, e, y⟩ => ⟨a, e, y.below Ent.l_len hb⟩) (hi.imp id fun ⟨a, e, y⟩ => ⟨a, e, y.below Ins.l_len hb⟩))
  have HQ := Lib.hid (fun x : Ent => show ((str x.n).toList == (str s).toList) = isN s x from str_beq _ _)
  obtain ⟨R, hR⟩ : ∃ R, codeE es is = R := ⟨_, rfl⟩
  rw [hR] at HCV
  have HR := Lib.hid hR
  have HNB := Lib.hid (show R = 0 → ∀ i (hi : i < es.length), numB es m i hi = true from fun h => by rw [← hm]; exact (code_ok (hR.trans h)).2.2.2.2.1)
  clear he hi hn hm hR
  obtain ⟨FR, hFR⟩ : ∃ F, StartRes es is s w = F := ⟨_, rfl⟩
  rw [hFR]
  have HFR := Lib.hid hFR
  clear hFR
  unfold KB codeV at HCV
  unfold codeV
  obtain ⟨w2, hw2⟩ : ∃ w2, (w.alloc (.cells #[.slice ao n c, .slice bo m d] 25)).alloc (.cells #[.int .i64 0, .int .i64 0, .int .i64 0, .slice none 0 0, .slice none 0 0] 28) = w2 := ⟨_, rfl⟩
  have HB2 := Lib.hid (show Below w.heap.size w w2 by rw [← hw2]; exact (below_new _ _).alloc (by simp) _)
  have HX2 := Lib.hid (show w2.heap[w.heap.size]? = some (.cells #[.slice ao n c, .slice bo m d] 25) by rw [← hw2, Below.heap_alloc _ _ _ (by simp)]; exact tok_new _ _)
  have HY2 := Lib.hid (show w2.heap[w.heap.size + 1]? = some (.cells #[.int .i64 0, .int .i64 0, .int .i64 0, .slice none 0 0, .slice none 0 0] 28) by
    have h := tok_new (w.alloc (.cells #[.slice ao n c, .slice bo m d] 25)) (.cells #[.int .i64 0, .int .i64 0, .int .i64 0, .slice none 0 0, .slice none 0 0] 28)
    rw [tok_size, hw2] at h
    exact h)
  have HZ2 := Lib.hid (show w2.heap.size = w.heap.size + 2 by rw [← hw2, tok_size, tok_size])
  have HW2 := Lib.hid hw2
  clear hw2
  generalize str s = S at *
  go_enter Try.func10, Try.ntmps10
  go_upto_region 1 with fail
  rw [HW2.out]
  clear HW2
  obtain ⟨m0, m1⟩ := cells2 HX2.out
  go_wp2_with fail
  refine (HCV.out w2 HB2.out).mono ?_
  rintro e w3 ⟨rfl, hb3⟩
  have HB3 := Lib.hid (HB2.out.trans (hb3.mono HB2.out.size))
  have HX3 := Lib.hid (block_below hb3 HX2.out)
  have HY3 := Lib.hid (block_below hb3 HY2.out)
  have HZ3 := Lib.hid (show w.heap.size + 2 ≤ w3.heap.size by have := HZ2.out; have := hb3.size; omega)
  clear hb3 m0 m1
  by_cases hR0 : R = 0
  rotate_left
  · have HX := Lib.hid (show ∀ wv a b c d e, Below w.heap.size w wv → FR (.returned (.tuple #[task0, .int .i64 20])) (st5 wv (w.heap.size + 1) a b c d e) from fun wv a b c d e h => by rw [← HFR.out]; exact start_bad (by rw [HR.out]; exact hR0) h (by omega))
    have z1 : (R != 0) = true := by rw [bne_iff_ne]; exact hR0
    obtain ⟨⟨y0, y1, y2, y3, y4⟩, q0, q1, q2, q3, q4⟩ := blk5f HY3.out
    have hzv := heap_lt HY3.out
    clear hR0
    go_wp2_with fail
    exact bodyPost_ret (v := .tuple #[task0, .int .i64 20]) (by simp [results, Try.results10, go_sem, y0, y1, y2, y3, y4, q0, q1, q2, q3, q4, hzv]) rfl (HX.out _ _ _ _ _ _ HB3.out)
  subst hR0
  replace HNB := Lib.hid (HNB.out rfl)
  obtain ⟨m0, m1⟩ := cells2 HX3.out
  go_wp2_with fail
  clear m0 m1
  go_loopw [6] (fun v wr => ∃ k : Nat, k ≤ n ∧ v = .int .i64 (k : Int) ∧ Below (w.heap.size + 2) w3 wr ∧ Hid (∀ j (hj : j < es.length), j < k → isN s es[j] = false)) (fun v _ => n - (intOf v).toNat)
  case atStart => exact ⟨0, by omega, rfl, Below.refl _ _, Lib.hid (fun _ _ h => absurd h (by omega))⟩
  case round =>
    obtain ⟨k, hk, rfl, hbel, hall⟩ := hrel
    have HBE := Lib.hid hbel
    have HBW := Lib.hid (HB3.out.trans (hbel.mono (by omega)))
    have HXR := Lib.hid (below_keeps HX3.out (by omega) hbel)
    have HYR := Lib.hid (below_keeps HY3.out (by omega) hbel)
    have HZR := Lib.hid (show w.heap.size + 2 ≤ wr.heap.size by have := HZ3.out; have := hbel.size; omega)
    clear hbel
    by_cases hkn : k < n
    · have hkl : k < es.length := by have := HEN.out; omega
      obtain ⟨a, rfl, hat⟩ : ∃ a, ao = some a ∧ EntAt w a es := HEA.out.resolve_left (fun h => by rw [h] at hkl; simp at hkl)
      obtain ⟨c0, c1, c2⟩ := entAt (hat.below Ent.l_len HBW.out) k hkl
      have hq := HQ.out es[k]
      obtain ⟨B, hB⟩ : ∃ B, isN s es[k] = B := ⟨_, rfl⟩
      rw [hB] at hq
      have HBB := Lib.hid hB
      have hnb := (num_iff hkl).1 (HNB.out k hkl)
      obtain ⟨ea, hea⟩ : ∃ z, es[k].at' = z := ⟨_, rfl⟩
      obtain ⟨N, hel⟩ : ∃ N : Nat, es[k].sl = (N : Int) := ⟨es[k].sl.toNat, by omega⟩
      have hN1 : N ≤ 32 := by omega
      rw [hea] at c1
      rw [hel] at c2
      generalize str es[k].n = T at *
      have e1 : (0 : Int) ≤ ((k : Int)) := by omega
      have e2 : (k : Int) < (n : Int) := by omega
      have hmeas : n - (k + 1) < n - k := by omega
      have HEA2 := Lib.hid hea; have HEL2 := Lib.hid hel
      clear hB hat hnb hea hel
      obtain ⟨m0, m1⟩ := cells2 HXR.out
      cases B
      · have hn2 : Hid (∀ j (hj : j < es.length), j < k + 1 → isN s es[j] = false) := Lib.hid fun j hj hjk => by
          by_cases hjk' : j < k
          · exact hall.out j hj hjk'
          · obtain rfl : j = k := by omega
            exact HBB.out
        clear hall
        go_wp2_with fail
        go_roundw
        case rel => exact ⟨k + 1, by omega, by go_num, HBE.out, hn2⟩
        case measure => simp [intOf]; omega
      · have HX := Lib.hid (show ∀ X a b c d e, X.toList = cellsOf intL (List.replicate N 0) → FR (.returned (.tuple #[taskV 1 ea 0 (.slice (some ⟨wr.heap.size, 0, none⟩) N N) nilS, .int .i64 0])) ((st5 wr (w.heap.size + 1) a b c d e).alloc (.cells X 2)).drew from fun X a b c d e hX => by
          rw [← HFR.out]
          exact (start_yes HR.out hkl (firstI_at _ _ k hkl HBB.out hall.out) HEA2.out HEL2.out hX HBW.out (by omega) (by have := heap_lt HYR.out; omega)).drew)
        have hmk := fun w => mk_longs N (by omega) w
        have HXL := Lib.hid (made_longs N)
        generalize madeCells (Value.cells (.int .i64 0)) (N * 1) = X at *
        obtain ⟨⟨y0, y1, y2, y3, y4⟩, q0, q1, q2, q3, q4⟩ := blk5f HYR.out
        have hzv := heap_lt HYR.out
        have hk1a : ∀ o, (wr.alloc o).cell? ⟨(a.add (k * 3)).block, (a.add (k * 3)).off + 1, none⟩ = some (.int .i64 ea) := fun o => cell_below (below_new _ _) c1
        have hk2a : ∀ o, (wr.alloc o).cell? ⟨(a.add (k * 3)).block, (a.add (k * 3)).off + 2, none⟩ = some (.int .i64 (N : Int)) := fun o => cell_below (below_new _ _) c2
        have hk3a : ∀ o, (wr.alloc o).cell? ⟨w.heap.size, 0, none⟩ = some (.slice (some a) n c) := fun o => cell_below (below_new _ _) m0
        clear hall
        go_wp2_with fail
        have z4 : (wr.alloc (.cells X 2)).heap[w.heap.size + 1]? = wr.heap[w.heap.size + 1]? := Below.heap_alloc _ _ _ hzv
        go_region
        go_wp2_with fail
        exact bodyPost_ret (v := .tuple #[taskV 1 ea 0 (.slice (some ⟨wr.heap.size, 0, none⟩) N N) nilS, .int .i64 0]) (by simp [results, Try.results10, go_sem, y0, y1, y2, y3, y4, q0, q1, q2, q3, q4, hzv]) rfl (HX.out _ _ _ _ _ _ HXL.out)
    · have HX := Lib.hid (show ∀ wv a b c d e, Below w.heap.size w wv → FR (.returned (.tuple #[task0, .int .i64 8])) (st5 wv (w.heap.size + 1) a b c d e) from fun wv a b c d e h => by
        rw [← HFR.out]
        exact start_no HR.out (firstI_no _ _ fun j hj => hall.out j hj (by have := HEN.out; omega)) h (by omega))
      obtain ⟨⟨y0, y1, y2, y3, y4⟩, q0, q1, q2, q3, q4⟩ := blk5f HYR.out
      have hzv := heap_lt HYR.out
      obtain ⟨m0, m1⟩ := cells2 HXR.out
      clear hall
      go_wp2_with fail
      exact bodyPost_ret (v := .tuple #[task0, .int .i64 8]) (by simp [results, Try.results10, go_sem, y0, y1, y2, y3, y4, q0, q1, q2, q3, q4, hzv]) rfl (HX.out _ _ _ _ _ _ HBW.out)
end Go.Proofs.Ytcicbijpiffbkaa
