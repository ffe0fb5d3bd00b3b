/- Walks: the segments of a code. -/
import Derived.Test.YtcicbijpiffbkaaK2
import Derived.Test.YtcicbijpiffbkaaP3
namespace Go.Proofs.Ytcicbijpiffbkaa
open Go.RowKit
set_option linter.unusedVariables false
set_option linter.unusedSimpArgs false
set_option maxRecDepth 100000
set_option maxHeartbeats 8000000

abbrev seg0 : Value := .agg #[.slice none 0 0, .slice none 0 0, .int .i64 0, .int .i64 0, .int .i64 0]
theorem seg_info : ∃ i0, Try.prog.info? 109 = some i0 ∧ i0.zero = some seg0 ∧ i0.size = 5 ∧ i0.bytes = 72 := by
  have hi : (Try.prog.info? 109).map (fun i => (i.bytes, i.size, i.zero)) = some (72, 5, some seg0) := by kernel_rfl
  obtain ⟨i, h1, h2⟩ := Option.map_eq_some_iff.1 hi
  injection h2 with h2 h3
  injection h3 with h3 h4
  exact ⟨i, h1, h4, h3, h2⟩
theorem one_seg (ao bo : Option Addr) (n c m d : Nat) (es : List Ent) (i : Nat) : ∀ u ∈ segC (.slice ao n c) (.slice bo m d) es m i, u.oneCell' = true := by
  intro u hu
  unfold segC at hu
  simp at hu
  rcases hu with rfl | rfl | rfl | rfl | rfl <;> rfl
/-- What segments hands back. -/
def SegsRes (ev iv : Value) (es : List Ent) (is : List Ins) (w : World) (en : Ending) (w' : World) : Prop :=
  (if segsOk es is = true then ∃ ao cap, en = .returned (.tuple #[.slice ao es.length cap, .bool true]) ∧ SlIs 5 (segC ev iv es is.length) w' (.slice ao es.length cap) (List.range es.length)
   else en = .returned (.tuple #[.slice none 0 0, .bool false])) ∧ Below w.heap.size w w'
theorem segs_bad {ev iv : Value} {es : List Ent} {is : List Ins} {w : World} {en : Ending} {w' : World} (h : segsOk es is = false) (h1 : en = .returned (.tuple #[.slice none 0 0, .bool false])) (h2 : Below w.heap.size w w') : SegsRes ev iv es is w en w' := by
  unfold SegsRes
  rw [h, if_neg (by simp)]
  exact ⟨h1, h2⟩
theorem segs_good {ev iv : Value} {es : List Ent} {is : List Ins} {w : World} {w' : World} {B : Nat} {ao : Option Addr} {cap n : Nat} (hn : es.length = n) (h : segsOk es is = true) (ho : w'.ownsRow B 109 5 (.slice ao n cap) n (cellsOf (segC ev iv es is.length) (List.range n))) (h2 : Below w.heap.size w w') :
    SegsRes ev iv es is w (.returned (.tuple #[.slice ao n cap, .bool true])) w' := by
  subst hn
  unfold SegsRes
  rw [h, if_pos rfl]
  exact ⟨⟨ao, cap, rfl, sl_of_owns (segC_len ev iv es is.length) (by rw [List.length_range]; exact ho)⟩, h2⟩
/-- The loop at entry k. -/
def RG (B : Nat) (w1 : World) (ev iv : Value) (es : List Ent) (is : List Ins) (m : Nat) (lv xv : Value) (wr : World) : Prop :=
  ∃ (k : Nat) (ao : Option Addr) (cap : Nat), lv = .slice ao k cap ∧ xv = .int .i64 (k : Int) ∧ k ≤ es.length ∧ wr.ownsRow B 109 5 (.slice ao k cap) k (cellsOf (segC ev iv es m) (List.range k)) ∧ Below B w1 wr ∧ Hid (∀ i (h : i < es.length), i < k → segOk es is i h = true)
theorem rg_next {B : Nat} {w1 : World} {ev iv : Value} {es : List Ent} {is : List Ins} {m : Nat} {wr : World} {k g cap : Nat} (hk : k < es.length) (ho : wr.ownsRow B 109 5 (.slice (some ⟨g, 0, none⟩) (k + 1) cap) (k + 1) (cellsOf (segC ev iv es m) (List.range k) ++ segC ev iv es m k)) (hb : Below B w1 wr)
    (ha : ∀ i (h : i < es.length), i < k → segOk es is i h = true) (h2 : segOk es is k hk = true) : RG B w1 ev iv es is m (.slice (some ⟨g, 0, none⟩) (k + 1) cap) (.int .i64 ((k + 1 : Nat) : Int)) wr :=
  ⟨k + 1, _, cap, rfl, rfl, hk, by rw [List.range_succ, cellsOf_snoc]; exact ho, hb, Lib.hid fun j hj hjk => by
    by_cases h : j < k
    · exact ha j hj h
    · obtain rfl : j = k := by omega
      exact h2⟩
theorem segments_any (ao : Option Addr) (a : Addr) (c d : Nat) (n m : Nat) (es : List Ent) (is : List Ins) (hn : es.length = n) (hm : is.length = m) (hz : n ≤ 1000000) (hm1 : 1 ≤ m) (hm2 : m ≤ 1000000)
    (w : World) (he : es = [] ∨ ∃ a, ao = some a ∧ EntAt w a es) (hi : InsAt w a is) :
    Calls Try.prog 46 #[codeV (.slice ao n c) (.slice (some a) m d)] w (SegsRes (.slice ao n c) (.slice (some a) m d) es is w) := by
  obtain ⟨i1, ji, j0, j1, j2⟩ := seg_info
  have HEN := Lib.hid hn; have HIN := Lib.hid hm; have HEA := Lib.hid he; have HIA := Lib.hid hi
  have HO1 := Lib.hid (one_seg ao (some a) n c m d es)
  unfold codeV
  obtain ⟨w1, hw1⟩ : ∃ w1, w.alloc (.cells #[.slice ao n c, .slice (some a) m d] 25) = w1 := ⟨_, rfl⟩
  have HB1 := Lib.hid (show Below w.heap.size w w1 by rw [← hw1]; exact below_new _ _)
  have HM1 := Lib.hid (show w1.heap[w.heap.size]? = some (.cells #[.slice ao n c, .slice (some a) m d] 25) by rw [← hw1]; exact tok_new _ _)
  have HZ1 := Lib.hid (show w1.heap.size = w.heap.size + 1 by rw [← hw1]; exact tok_size _ _)
  have HW1 := Lib.hid hw1
  clear hw1 hn hm he hi
  go_enter Try.func46, Try.ntmps46
  go_upto_region 1 with fail
  rw [HW1.out]
  clear HW1
  obtain ⟨m0, m1⟩ := cells2 HM1.out
  go_wp2_with fail
  have hst := Lib.hid (show RG (w.heap.size + 1) w1 (.slice ao n c) (.slice (some a) m d) es is m (.slice none 0 0) (.int .i64 0) w1 from ⟨0, none, 0, rfl, rfl, Nat.zero_le _, World.ownsRow_nil _ _ _ _, Below.refl _ _, Lib.hid (fun j _ h => absurd h (by omega))⟩)
  clear m0 m1
  go_loopw [4, 11] (fun lv xv wr => RG (w.heap.size + 1) w1 (.slice ao n c) (.slice (some a) m d) es is m lv xv wr) (fun _ xv _ => n - (intOf xv).toNat)
  case atStart => exact hst.out
  case round =>
    clear hst
    obtain ⟨k, bo, cap, rfl, rfl, hk, hown, hbel, hall⟩ := hrel
    have hzr := hbel.size
    have HOW := Lib.hid hown; have HBE := Lib.hid hbel
    have HBW := Lib.hid (HB1.out.trans (hbel.mono (by omega)))
    have HMR := Lib.hid (below_keeps HM1.out (by omega) hbel)
    have HZR := Lib.hid (show w.heap.size + 1 ≤ wr.heap.size by have := HZ1.out; omega)
    clear hown hbel hzr
    obtain ⟨m0, m1⟩ := cells2 HMR.out
    by_cases hkn : k < n
    · have hkl : k < es.length := by have := HEN.out; omega
      obtain ⟨b, rfl, hat⟩ : ∃ b, ao = some b ∧ EntAt w b es := HEA.out.resolve_left (fun h => by rw [h] at hkl; simp at hkl)
      obtain ⟨c0, c1, c2⟩ := entAt (hat.below Ent.l_len HBW.out) k hkl
      have HNXT := Lib.hid (show ∀ (h : k + 1 < es.length), wr.cell? ⟨(b.add ((k + 1) * 3)).block, (b.add ((k + 1) * 3)).off + 1, none⟩ = some (.int .i64 es[k + 1].at') from fun h => (entAt (hat.below Ent.l_len HBW.out) (k + 1) h).2.1)
      obtain ⟨t, ht⟩ : ∃ t, toI es is.length k = t := ⟨_, rfl⟩
      have HT1 := Lib.hid (show ∀ h : k + 1 < es.length, es[k + 1].at' = t from fun h => by rw [← ht]; unfold toI; rw [dif_pos h])
      have HT2 := Lib.hid (show ¬ k + 1 < es.length → t = (m : Int) from fun h => by rw [← ht]; unfold toI; rw [dif_neg h, HIN.out])
      have hmI : is.length = m := HIN.out
      have hsg := segOk_iff (es := es) (is := is) hkl
      have hsc : segC (.slice (some b) n c) (.slice (some a) m d) es m k = [.slice (some b) n c, .slice (some a) m d, .int .i64 es[k].at', .int .i64 t, .int .i64 es[k].sl] := by unfold segC; rw [entD_at hkl, ← hmI, ht]
      rw [ht, hmI] at hsg
      obtain ⟨x, hxx⟩ : ∃ x, es[k] = x := ⟨_, rfl⟩
      rw [hxx] at c0 c1 c2 hsg hsc
      obtain ⟨en, ea, el⟩ := x
      dsimp only at c0 c1 c2 hsg hsc
      have HLC := Lib.hid (show ∀ lo, is[t.toNat - 1]?.map Ins.op = some lo → wr.cell? (a.add ((t.toNat - 1) * 4)) = some (.int .i64 lo) from fun lo h => by
        rw [Option.map_eq_some_iff] at h
        obtain ⟨x, h1, h2⟩ := h
        obtain ⟨h3, h4⟩ := List.getElem?_eq_some_iff.1 h1
        have := (insAt (HIA.out.below Ins.l_len HBW.out) (t.toNat - 1) h3).1
        rw [h4, h2] at this
        exact this)
      have HLE := Lib.hid (show t.toNat - 1 < m → ∃ lo, is[t.toNat - 1]?.map Ins.op = some lo from fun h => ⟨_, by rw [List.getElem?_eq_getElem (by omega)]; rfl⟩)
      have HBAD := Lib.hid (show segOk es is k hkl = false → segsOk es is = false from fun h => by
        unfold segsOk
        rw [decide_eq_false_iff_not]
        intro h2
        rw [h2 k hkl] at h; cases h)
      have e1 : (0 : Int) ≤ (k : Int) := by omega
      have e2 : (k : Int) < (n : Int) := by omega
      generalize str en = S at c0
      clear ht hmI hxx hat
      have HKN := Lib.hid (show k + 1 < es.length ↔ k + 1 < n by rw [HEN.out])
      go_upto_region 5 with fail
      obtain ⟨w2, hw2⟩ : ∃ w2, wr.alloc (.cells #[.string S, .int .i64 ea, .int .i64 el] 68) = w2 := ⟨_, rfl⟩
      have HE2 := Lib.hid (show w2.heap[wr.heap.size]? = some (.cells #[.string S, .int .i64 ea, .int .i64 el] 68) by rw [← hw2]; exact tok_new _ _)
      have HBB2 := Lib.hid (show Below wr.heap.size wr w2 by rw [← hw2]; exact below_new _ _)
      have HB2 := Lib.hid (HBE.out.trans (HBB2.out.mono HZR.out))
      have HO2 := Lib.hid (show w2.ownsRow (w.heap.size + 1) 109 5 (.slice bo k cap) k (cellsOf (segC (.slice (some b) n c) (.slice (some a) m d) es m) (List.range k)) by rw [← hw2]; exact HOW.out.alloc _)
      have HZ2 := Lib.hid (show w.heap.size + 1 ≤ w2.heap.size from Nat.le_trans HZR.out HBB2.out.size)
      have HM2 := Lib.hid (block_below HBB2.out HMR.out)
      have HW2 := Lib.hid (HBW.out.trans (HBB2.out.mono (by have := HZR.out; omega)))
      rw [hw2]
      clear hw2 c0 c1 c2 m0 m1
      obtain ⟨m0, m1⟩ := cells2 HM2.out
      obtain ⟨c0, c1, c2⟩ := blk3 HE2.out
      have HGOOD := Lib.hid hsg.2
      have HBADN := Lib.hid (show ¬ (((k = 0 → ea = 0) ∧ 0 ≤ ea ∧ ea < t ∧ t ≤ ↑m ∧ 0 ≤ el ∧ el ≤ 32) ∧ is[t.toNat - 1]?.map Ins.op = some 11) → segsOk es is = false from fun h => HBAD.out (by rw [← Bool.not_eq_true]; exact fun e => h (hsg.1 e)))
      have HONE := Lib.hid (HO1.out k)
      have HSC := Lib.hid hsc
      have HSEG := Lib.hid (show ∀ (w4 : World) (g cap2 : Nat), segOk es is k hkl = true → w4.ownsRow (w.heap.size + 1) 109 5 (.slice (some ⟨g, 0, none⟩) (k + 1) cap2) (k + 1) (cellsOf (segC (.slice (some b) n c) (.slice (some a) m d) es m) (List.range k) ++ [.slice (some b) n c, .slice (some a) m d, .int .i64 ea, .int .i64 t, .int .i64 el]) → Below (w.heap.size + 1) w1 w4 →
          RG (w.heap.size + 1) w1 (.slice (some b) n c) (.slice (some a) m d) es is m (.slice (some ⟨g, 0, none⟩) (k + 1) cap2) (.int .i64 ((k + 1 : Nat) : Int)) w4 from
        fun w4 g cap2 hok ho hb => rg_next hkl (by rw [hsc]; exact ho) hb hall.out hok)
      clear hsc hsg HBAD hall HO1
      by_cases hlt : k + 1 < n
      · have hcn := cell_below HBB2.out (HNXT.out (HKN.out.2 hlt))
        rw [HT1.out (HKN.out.2 hlt)] at hcn
        have e3 : (k : Int) + 1 < (n : Int) := by omega
        clear HNXT HT1 HT2 HKN
        go_upto_region 8 with fail
        by_cases hk0 : k = 0
        · have z1 : ((k : Int) == 0) = true := by rw [beq_iff_eq]; omega
          by_cases z2 : ea = 0
          rotate_left
          · have z3 : (ea != 0) = true := by rw [bne_iff_ne]; exact z2
            have HR := Lib.hid (HBADN.out (fun h => z2 (h.1.1 hk0)))
            clear HGOOD HBADN HSEG hk0 z2
            go_wp2_with fail
            go_ret2
            exact segs_bad HR.out rfl HW2.out
          subst z2
          by_cases h3 : t ≤ (0 : Int)
          · have HR := Lib.hid (HBADN.out (fun h => by have := h.1.2.2.1; omega))
            clear HGOOD HBADN HSEG
            go_wp2_with fail
            go_ret2
            exact segs_bad HR.out rfl HW2.out
          by_cases h4 : (m : Int) < t
          · have HR := Lib.hid (HBADN.out (fun h => by have := h.1.2.2.2.1; omega))
            clear HGOOD HBADN HSEG
            go_wp2_with fail
            go_ret2
            exact segs_bad HR.out rfl HW2.out
          by_cases h5 : el < 0
          · have HR := Lib.hid (HBADN.out (fun h => by have := h.1.2.2.2.2.1; omega))
            clear HGOOD HBADN HSEG
            go_wp2_with fail
            go_ret2
            exact segs_bad HR.out rfl HW2.out
          by_cases h6 : 32 < el
          · have HR := Lib.hid (HBADN.out (fun h => by have := h.1.2.2.2.2.2; omega))
            clear HGOOD HBADN HSEG
            go_wp2_with fail
            go_ret2
            exact segs_bad HR.out rfl HW2.out
          obtain ⟨lo, hlo⟩ := HLE.out (by omega)
          have hlc := cell_below HBB2.out (HLC.out lo hlo)
          have g1 : (0 : Int) ≤ t - 1 := by omega
          have g2 : t - 1 < (m : Int) := by omega
          by_cases h7 : lo = 11
          rotate_left
          · have z7 : (lo != 11) = true := by rw [bne_iff_ne]; exact h7
            have HR := Lib.hid (HBADN.out (fun h => h7 (by have e := h.2; rw [hlo] at e; injection e)))
            clear HGOOD HBADN HSEG hlo h7
            go_wp2_with fail
            go_ret2
            exact segs_bad HR.out rfl HW2.out
          subst h7
          have HOK := Lib.hid (HGOOD.out ⟨⟨fun e => by omega, by omega, by omega, by omega, by omega, by omega⟩, hlo⟩)
          have hmeas : n - (k + 1) < n - k := by omega
          clear HGOOD HBADN hlo hk0
          rw [HSC.out] at HONE
          go_wp2_with (at_builtin; go_must (refine wpList_append_lies _ rfl _ _ 105 rfl (w.heap.size + 1) 109 i1 seg0 5 72 Try.underlying105 ji j0 j1 j2 rfl (by decide) _ _ _ rfl (HO2.out.alloc _) ⟨w2.heap.size, 0, none⟩ 1 1 [.slice (some b) n c, .slice (some a) m d, .int .i64 (0 : Int), .int .i64 t, .int .i64 el] rfl rfl (World.news_of_block (heap_alloc_new _ _)) HONE.out (by omega) (by unfold maxLen; omega) (by omega) (by have := HZ2.out; first | omega | (simp; omega)) _ rfl ?_))
          intro g cap2 w4 hown4 hgrow hat hlt
          have HREL := Lib.hid (HSEG.out w4 g cap2 HOK.out hown4 ((HB2.out.alloc HZ2.out _).grown hgrow (by have := HZ2.out; simp; omega) (fun j hj => (HO2.out.lt j hj).1)))
          clear hown4 hgrow hat hlt HSEG
          go_wp2_with fail
          go_roundw
          case rel => exact HREL.out
          case measure => simp [intOf]; omega
        · have z1 : ((k : Int) == 0) = false := by rw [beq_eq_false_iff_ne]; omega
          by_cases z2 : ea < 0
          · have HR := Lib.hid (HBADN.out (fun h => by have := h.1.2.1; omega))
            clear HGOOD HBADN HSEG
            go_wp2_with fail
            go_ret2
            exact segs_bad HR.out rfl HW2.out
          by_cases h3 : t ≤ ea
          · have HR := Lib.hid (HBADN.out (fun h => by have := h.1.2.2.1; omega))
            clear HGOOD HBADN HSEG
            go_wp2_with fail
            go_ret2
            exact segs_bad HR.out rfl HW2.out
          by_cases h4 : (m : Int) < t
          · have HR := Lib.hid (HBADN.out (fun h => by have := h.1.2.2.2.1; omega))
            clear HGOOD HBADN HSEG
            go_wp2_with fail
            go_ret2
            exact segs_bad HR.out rfl HW2.out
          by_cases h5 : el < 0
          · have HR := Lib.hid (HBADN.out (fun h => by have := h.1.2.2.2.2.1; omega))
            clear HGOOD HBADN HSEG
            go_wp2_with fail
            go_ret2
            exact segs_bad HR.out rfl HW2.out
          by_cases h6 : 32 < el
          · have HR := Lib.hid (HBADN.out (fun h => by have := h.1.2.2.2.2.2; omega))
            clear HGOOD HBADN HSEG
            go_wp2_with fail
            go_ret2
            exact segs_bad HR.out rfl HW2.out
          obtain ⟨lo, hlo⟩ := HLE.out (by omega)
          have hlc := cell_below HBB2.out (HLC.out lo hlo)
          have g1 : (0 : Int) ≤ t - 1 := by omega
          have g2 : t - 1 < (m : Int) := by omega
          by_cases h7 : lo = 11
          rotate_left
          · have z7 : (lo != 11) = true := by rw [bne_iff_ne]; exact h7
            have HR := Lib.hid (HBADN.out (fun h => h7 (by have e := h.2; rw [hlo] at e; injection e)))
            clear HGOOD HBADN HSEG hlo h7
            go_wp2_with fail
            go_ret2
            exact segs_bad HR.out rfl HW2.out
          subst h7
          have HOK := Lib.hid (HGOOD.out ⟨⟨fun e => by omega, by omega, by omega, by omega, by omega, by omega⟩, hlo⟩)
          have hmeas : n - (k + 1) < n - k := by omega
          clear HGOOD HBADN hlo
          rw [HSC.out] at HONE
          go_wp2_with (at_builtin; go_must (refine wpList_append_lies _ rfl _ _ 105 rfl (w.heap.size + 1) 109 i1 seg0 5 72 Try.underlying105 ji j0 j1 j2 rfl (by decide) _ _ _ rfl (HO2.out.alloc _) ⟨w2.heap.size, 0, none⟩ 1 1 [.slice (some b) n c, .slice (some a) m d, .int .i64 ea, .int .i64 t, .int .i64 el] rfl rfl (World.news_of_block (heap_alloc_new _ _)) HONE.out (by omega) (by unfold maxLen; omega) (by omega) (by have := HZ2.out; first | omega | (simp; omega)) _ rfl ?_))
          intro g cap2 w4 hown4 hgrow hat hlt
          have HREL := Lib.hid (HSEG.out w4 g cap2 HOK.out hown4 ((HB2.out.alloc HZ2.out _).grown hgrow (by have := HZ2.out; simp; omega) (fun j hj => (HO2.out.lt j hj).1)))
          clear hown4 hgrow hat hlt HSEG
          go_wp2_with fail
          go_roundw
          case rel => exact HREL.out
          case measure => simp [intOf]; omega
      · obtain rfl : t = (m : Int) := HT2.out (fun h => hlt (HKN.out.1 h))
        have e3 : ¬ (k : Int) + 1 < (n : Int) := by omega
        clear HNXT HT1 HT2 HKN
        go_upto_region 8 with fail
        by_cases hk0 : k = 0
        · have z1 : ((k : Int) == 0) = true := by rw [beq_iff_eq]; omega
          by_cases z2 : ea = 0
          rotate_left
          · have z3 : (ea != 0) = true := by rw [bne_iff_ne]; exact z2
            have HR := Lib.hid (HBADN.out (fun h => z2 (h.1.1 hk0)))
            clear HGOOD HBADN HSEG hk0 z2
            go_wp2_with fail
            go_ret2
            exact segs_bad HR.out rfl HW2.out
          subst z2
          have h3 : ¬ (m : Int) ≤ (0 : Int) := by omega
          have h4 : ¬ (m : Int) < (m : Int) := by omega
          by_cases h5 : el < 0
          · have HR := Lib.hid (HBADN.out (fun h => by have := h.1.2.2.2.2.1; omega))
            clear HGOOD HBADN HSEG
            go_wp2_with fail
            go_ret2
            exact segs_bad HR.out rfl HW2.out
          by_cases h6 : 32 < el
          · have HR := Lib.hid (HBADN.out (fun h => by have := h.1.2.2.2.2.2; omega))
            clear HGOOD HBADN HSEG
            go_wp2_with fail
            go_ret2
            exact segs_bad HR.out rfl HW2.out
          obtain ⟨lo, hlo⟩ := HLE.out (by omega)
          have hlc := cell_below HBB2.out (HLC.out lo hlo)
          rw [show ((m : Int)).toNat - 1 = m - 1 by omega] at hlc
          have g1 : (1 : Int) ≤ (m : Int) := by omega
          have g2 : (0 : Int) ≤ ((m - 1 : Nat) : Int) := by omega
          have g3 : ((m - 1 : Nat) : Int) < (m : Int) := by omega
          have g4 : ((m - 1 : Nat) : Int) = (m : Int) - 1 := by omega
          by_cases h7 : lo = 11
          rotate_left
          · have z7 : (lo != 11) = true := by rw [bne_iff_ne]; exact h7
            have HR := Lib.hid (HBADN.out (fun h => h7 (by have e := h.2; rw [hlo] at e; injection e)))
            clear HGOOD HBADN HSEG hlo h7
            go_wp2_with fail
            go_ret2
            exact segs_bad HR.out rfl HW2.out
          subst h7
          have HOK := Lib.hid (HGOOD.out ⟨⟨fun e => by omega, by omega, by omega, by omega, by omega, by omega⟩, hlo⟩)
          have hmeas : n - (k + 1) < n - k := by omega
          clear HGOOD HBADN hlo hk0
          rw [HSC.out] at HONE
          go_wp2_with (at_builtin; go_must (refine wpList_append_lies _ rfl _ _ 105 rfl (w.heap.size + 1) 109 i1 seg0 5 72 Try.underlying105 ji j0 j1 j2 rfl (by decide) _ _ _ rfl (HO2.out.alloc _) ⟨w2.heap.size, 0, none⟩ 1 1 [.slice (some b) n c, .slice (some a) m d, .int .i64 (0 : Int), .int .i64 (m : Int), .int .i64 el] rfl rfl (World.news_of_block (heap_alloc_new _ _)) HONE.out (by omega) (by unfold maxLen; omega) (by omega) (by have := HZ2.out; first | omega | (simp; omega)) _ rfl ?_))
          intro g cap2 w4 hown4 hgrow hat hlt
          have HREL := Lib.hid (HSEG.out w4 g cap2 HOK.out hown4 ((HB2.out.alloc HZ2.out _).grown hgrow (by have := HZ2.out; simp; omega) (fun j hj => (HO2.out.lt j hj).1)))
          clear hown4 hgrow hat hlt HSEG
          go_wp2_with fail
          go_roundw
          case rel => exact HREL.out
          case measure => simp [intOf]; omega
        · have z1 : ((k : Int) == 0) = false := by rw [beq_eq_false_iff_ne]; omega
          by_cases z2 : ea < 0
          · have HR := Lib.hid (HBADN.out (fun h => by have := h.1.2.1; omega))
            clear HGOOD HBADN HSEG
            go_wp2_with fail
            go_ret2
            exact segs_bad HR.out rfl HW2.out
          by_cases h3 : (m : Int) ≤ ea
          · have HR := Lib.hid (HBADN.out (fun h => by have := h.1.2.2.1; omega))
            clear HGOOD HBADN HSEG
            go_wp2_with fail
            go_ret2
            exact segs_bad HR.out rfl HW2.out
          have h4 : ¬ (m : Int) < (m : Int) := by omega
          by_cases h5 : el < 0
          · have HR := Lib.hid (HBADN.out (fun h => by have := h.1.2.2.2.2.1; omega))
            clear HGOOD HBADN HSEG
            go_wp2_with fail
            go_ret2
            exact segs_bad HR.out rfl HW2.out
          by_cases h6 : 32 < el
          · have HR := Lib.hid (HBADN.out (fun h => by have := h.1.2.2.2.2.2; omega))
            clear HGOOD HBADN HSEG
            go_wp2_with fail
            go_ret2
            exact segs_bad HR.out rfl HW2.out
          obtain ⟨lo, hlo⟩ := HLE.out (by omega)
          have hlc := cell_below HBB2.out (HLC.out lo hlo)
          rw [show ((m : Int)).toNat - 1 = m - 1 by omega] at hlc
          have g1 : (1 : Int) ≤ (m : Int) := by omega
          have g2 : (0 : Int) ≤ ((m - 1 : Nat) : Int) := by omega
          have g3 : ((m - 1 : Nat) : Int) < (m : Int) := by omega
          have g4 : ((m - 1 : Nat) : Int) = (m : Int) - 1 := by omega
          by_cases h7 : lo = 11
          rotate_left
          · have z7 : (lo != 11) = true := by rw [bne_iff_ne]; exact h7
            have HR := Lib.hid (HBADN.out (fun h => h7 (by have e := h.2; rw [hlo] at e; injection e)))
            clear HGOOD HBADN HSEG hlo h7
            go_wp2_with fail
            go_ret2
            exact segs_bad HR.out rfl HW2.out
          subst h7
          have HOK := Lib.hid (HGOOD.out ⟨⟨fun e => by omega, by omega, by omega, by omega, by omega, by omega⟩, hlo⟩)
          have hmeas : n - (k + 1) < n - k := by omega
          clear HGOOD HBADN hlo
          rw [HSC.out] at HONE
          go_wp2_with (at_builtin; go_must (refine wpList_append_lies _ rfl _ _ 105 rfl (w.heap.size + 1) 109 i1 seg0 5 72 Try.underlying105 ji j0 j1 j2 rfl (by decide) _ _ _ rfl (HO2.out.alloc _) ⟨w2.heap.size, 0, none⟩ 1 1 [.slice (some b) n c, .slice (some a) m d, .int .i64 ea, .int .i64 (m : Int), .int .i64 el] rfl rfl (World.news_of_block (heap_alloc_new _ _)) HONE.out (by omega) (by unfold maxLen; omega) (by omega) (by have := HZ2.out; first | omega | (simp; omega)) _ rfl ?_))
          intro g cap2 w4 hown4 hgrow hat hlt
          have HREL := Lib.hid (HSEG.out w4 g cap2 HOK.out hown4 ((HB2.out.alloc HZ2.out _).grown hgrow (by have := HZ2.out; simp; omega) (fun j hj => (HO2.out.lt j hj).1)))
          clear hown4 hgrow hat hlt HSEG
          go_wp2_with fail
          go_roundw
          case rel => exact HREL.out
          case measure => simp [intOf]; omega
    · have HOK := Lib.hid (show segsOk es is = true by
        unfold segsOk
        rw [decide_eq_true_iff]
        exact fun i hi => hall.out i hi (by have := HEN.out; omega))
      obtain rfl : k = n := by have := HEN.out; omega
      go_wp2_with fail
      go_ret2
      exact segs_good HEN.out HOK.out (by rw [HIN.out]; exact HOW.out) HBW.out
end Go.Proofs.Ytcicbijpiffbkaa
