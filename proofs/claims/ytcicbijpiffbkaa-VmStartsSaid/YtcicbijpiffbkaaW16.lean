/- Walks: are two tasks equal, both sides. -/
import Derived.Test.YtcicbijpiffbkaaK2
import Derived.BigQuiet
namespace Go.Proofs.Ytcicbijpiffbkaa
open Go.RowKit
set_option linter.unusedVariables false
set_option linter.unusedSimpArgs false
set_option maxRecDepth 100000
set_option maxHeartbeats 8000000

def intL (x : Int) : List Value := [.int .i64 x]
theorem intL_len (x : Int) : (intL x).length = 1 := rfl
abbrev IntAt (w : World) (a : Addr) (xs : List Int) : Prop := SlAt 1 intL w a xs
abbrev IntSl (w : World) (v : Value) (xs : List Int) : Prop := SlIs 1 intL w v xs
theorem IntSl.below {w w' : World} {v : Value} {xs : List Int} (h : IntSl w v xs) (hb : Below w.heap.size w w') : IntSl w' v xs := SlIs.below intL_len h hb
theorem intAt {w : World} {a : Addr} {xs : List Int} (h : IntAt w a xs) (i : Nat) (hi : i < xs.length) : w.cell? (a.add i) = some (.int .i64 xs[i]) := by
  have := h i hi 0 (by decide)
  rw [Nat.mul_one] at this
  exact this
theorem EqualI_any (va vb : Value) (us vs : List Int) (hz : us.length ≤ 1000000) (hz2 : vs.length ≤ 1000000) (w : World) (ha : IntSl w va us) (hb : IntSl w vb vs) : KB 34 #[va, vb] (.bool (us == vs)) w := by
  obtain ⟨ao, c, rfl, ha⟩ := ha
  obtain ⟨bo, d, rfl, hb⟩ := hb
  have HA := Lib.hid ha; have HB := Lib.hid hb
  obtain ⟨r, hr⟩ : ∃ r, (us == vs) = r := ⟨_, rfl⟩
  rw [hr]
  have HR := Lib.hid hr
  obtain ⟨n, hn⟩ : ∃ n, us.length = n := ⟨_, rfl⟩
  obtain ⟨m, hm⟩ : ∃ m, vs.length = m := ⟨_, rfl⟩
  rw [hn] at hz
  rw [hm] at hz2
  have HN := Lib.hid hn; have HM := Lib.hid hm
  rw [hn, hm]
  clear ha hb hr hn hm
  unfold KB
  by_cases hnm : n = m
  rotate_left
  · have hrF : r = false := by rw [← HR.out, beq_eq_false_iff_ne]; intro e; exact hnm (by rw [← HN.out, ← HM.out, e])
    have HRF := Lib.hid hrF
    have e1 : ((n : Int) != (m : Int)) = true := by rw [bne_iff_ne]; omega
    clear hrF hnm
    go_enter Try.func34, Try.ntmps34
    go_wp2_with fail
    go_ret
    exact ⟨by rw [HRF.out]; rfl, Below.refl _ _⟩
  subst hnm
  go_enter Try.func34, Try.ntmps34
  go_wp2_with fail
  go_loopw [13] (fun v wr => ∃ k : Nat, k ≤ n ∧ v = .int .i64 (k : Int) ∧ Below w.heap.size w wr ∧ Hid (∀ j : Nat, j < k → us[j]? = vs[j]?)) (fun v _ => n - (intOf v).toNat)
  case atStart => exact ⟨0, by omega, rfl, Below.refl _ _, Lib.hid (fun j h => absurd h (by omega))⟩
  case round =>
    obtain ⟨k, hk, rfl, hbel, hall⟩ := hrel
    have HE := Lib.hid hbel
    by_cases hkn : k < n
    · have hka : k < us.length := by have := HN.out; omega
      have hkb : k < vs.length := by have := HM.out; omega
      obtain ⟨a, rfl, ha⟩ := HA.out.resolve_left (fun e => by rw [e] at hka; simp at hka)
      obtain ⟨b, rfl, hb⟩ := HB.out.resolve_left (fun e => by rw [e] at hkb; simp at hkb)
      have p0 := intAt (ha.below intL_len hbel) k hka
      have q0 := intAt (hb.below intL_len hbel) k hkb
      obtain ⟨x, hx⟩ : ∃ t, us[k] = t := ⟨_, rfl⟩
      obtain ⟨y, hy⟩ : ∃ t, vs[k] = t := ⟨_, rfl⟩
      rw [hx] at p0
      rw [hy] at q0
      have e1 : (0 : Int) ≤ ((k : Int)) := by omega
      have e2 : (k : Int) < (n : Int) := by omega
      by_cases heq : x = y
      · have HNX := Lib.hid (show ∀ j : Nat, j < k + 1 → us[j]? = vs[j]? from fun j hj => by
          by_cases hjk : j < k
          · exact hall.out j hjk
          · obtain rfl : j = k := by omega
            rw [List.getElem?_eq_getElem hka, List.getElem?_eq_getElem hkb, hx, hy, heq])
        subst heq
        have b1 : (x != x) = false := by simp
        clear ha hb hx hy hbel
        go_wp2_with fail
        go_quiet (fail)
        go_wp2_with fail
        go_roundw
        case rel => exact ⟨k + 1, by omega, by go_num, by first | exact HE.out | exact HE.out.drew | exact below_dN HE.out _, HNX⟩
        case measure => simp [intOf]; omega
      · have hrF : r = false := by rw [← HR.out, beq_eq_false_iff_ne]; intro e; subst e; exact heq (by rw [← hx, ← hy])
        have HRF := Lib.hid hrF
        have b1 : (x != y) = true := by rw [bne_iff_ne]; exact heq
        clear ha hb hx hy hbel hrF heq
        go_wp2_with fail
        go_quiet (fail)
        go_wp2_with fail
        go_ret
        exact ⟨by rw [HRF.out]; rfl, by first | exact HE.out | exact HE.out.drew | exact below_dN HE.out _⟩
    · have heq : us = vs := List.ext_getElem? fun j => by
        by_cases hj : j < k
        · exact hall.out j hj
        · rw [List.getElem?_eq_none (by have := HN.out; omega), List.getElem?_eq_none (by have := HM.out; omega)]
      have hrT : r = true := by rw [← HR.out, beq_iff_eq]; exact heq
      have HRT := Lib.hid hrT
      have e2 : ¬ (k : Int) < (n : Int) := by omega
      clear heq hrT hbel
      go_wp2_with fail
      go_ret
      exact ⟨by rw [HRT.out]; rfl, by first | exact HE.out | exact HE.out.drew | exact below_dN HE.out _⟩
theorem longs_any (va vb : Value) (us vs : List Int) (hz : us.length ≤ 1000000) (hz2 : vs.length ≤ 1000000) (w : World) (ha : IntSl w va us) (hb : IntSl w vb vs) : KB 23 #[va, vb] (.bool (us == vs)) w := by
  obtain ⟨ao, c, rfl, ha⟩ := ha
  obtain ⟨bo, d, rfl, hb⟩ := hb
  have HA := Lib.hid ha; have HB := Lib.hid hb
  obtain ⟨r, hr⟩ : ∃ r, (us == vs) = r := ⟨_, rfl⟩
  rw [hr]
  have HR := Lib.hid hr
  obtain ⟨n, hn⟩ : ∃ n, us.length = n := ⟨_, rfl⟩
  obtain ⟨m, hm⟩ : ∃ m, vs.length = m := ⟨_, rfl⟩
  rw [hn] at hz
  rw [hm] at hz2
  have HN := Lib.hid hn; have HM := Lib.hid hm
  rw [hn, hm]
  clear ha hb hr hn hm
  unfold KB
  by_cases hnm : n = m
  rotate_left
  · have hrF : r = false := by rw [← HR.out, beq_eq_false_iff_ne]; intro e; exact hnm (by rw [← HN.out, ← HM.out, e])
    have HRF := Lib.hid hrF
    have e1 : ((n : Int) != (m : Int)) = true := by rw [bne_iff_ne]; omega
    clear hrF hnm
    go_enter Try.func23, Try.ntmps23
    go_wp2_with fail
    go_ret
    exact ⟨by rw [HRF.out]; rfl, Below.refl _ _⟩
  subst hnm
  go_enter Try.func23, Try.ntmps23
  go_wp2_with fail
  go_loopw [5] (fun v wr => ∃ k : Nat, k ≤ n ∧ v = .int .i64 (k : Int) ∧ Below w.heap.size w wr ∧ Hid (∀ j : Nat, j < k → us[j]? = vs[j]?)) (fun v _ => n - (intOf v).toNat)
  case atStart => exact ⟨0, by omega, rfl, Below.refl _ _, Lib.hid (fun j h => absurd h (by omega))⟩
  case round =>
    obtain ⟨k, hk, rfl, hbel, hall⟩ := hrel
    have HE := Lib.hid hbel
    by_cases hkn : k < n
    · have hka : k < us.length := by have := HN.out; omega
      have hkb : k < vs.length := by have := HM.out; omega
      obtain ⟨a, rfl, ha⟩ := HA.out.resolve_left (fun e => by rw [e] at hka; simp at hka)
      obtain ⟨b, rfl, hb⟩ := HB.out.resolve_left (fun e => by rw [e] at hkb; simp at hkb)
      have p0 := intAt (ha.below intL_len hbel) k hka
      have q0 := intAt (hb.below intL_len hbel) k hkb
      obtain ⟨x, hx⟩ : ∃ t, us[k] = t := ⟨_, rfl⟩
      obtain ⟨y, hy⟩ : ∃ t, vs[k] = t := ⟨_, rfl⟩
      rw [hx] at p0
      rw [hy] at q0
      have e1 : (0 : Int) ≤ ((k : Int)) := by omega
      have e2 : (k : Int) < (n : Int) := by omega
      by_cases heq : x = y
      · have HNX := Lib.hid (show ∀ j : Nat, j < k + 1 → us[j]? = vs[j]? from fun j hj => by
          by_cases hjk : j < k
          · exact hall.out j hjk
          · obtain rfl : j = k := by omega
            rw [List.getElem?_eq_getElem hka, List.getElem?_eq_getElem hkb, hx, hy, heq])
        subst heq
        have b1 : (x != x) = false := by simp
        clear ha hb hx hy hbel
        go_wp2_with fail
        go_quiet (fail)
        go_wp2_with fail
        go_roundw
        case rel => exact ⟨k + 1, by omega, by go_num, by first | exact HE.out | exact HE.out.drew | exact below_dN HE.out _, HNX⟩
        case measure => simp [intOf]; omega
      · have hrF : r = false := by rw [← HR.out, beq_eq_false_iff_ne]; intro e; subst e; exact heq (by rw [← hx, ← hy])
        have HRF := Lib.hid hrF
        have b1 : (x != y) = true := by rw [bne_iff_ne]; exact heq
        clear ha hb hx hy hbel hrF heq
        go_wp2_with fail
        go_quiet (fail)
        go_wp2_with fail
        go_ret
        exact ⟨by rw [HRF.out]; rfl, by first | exact HE.out | exact HE.out.drew | exact below_dN HE.out _⟩
    · have heq : us = vs := List.ext_getElem? fun j => by
        by_cases hj : j < k
        · exact hall.out j hj
        · rw [List.getElem?_eq_none (by have := HN.out; omega), List.getElem?_eq_none (by have := HM.out; omega)]
      have hrT : r = true := by rw [← HR.out, beq_iff_eq]; exact heq
      have HRT := Lib.hid hrT
      have e2 : ¬ (k : Int) < (n : Int) := by omega
      clear heq hrT hbel
      go_wp2_with fail
      go_ret
      exact ⟨by rw [HRT.out]; rfl, by first | exact HE.out | exact HE.out.drew | exact below_dN HE.out _⟩
abbrev taskV (st at' wt : Int) (sl sk : Value) : Value := .agg #[.int .i64 st, .int .i64 at', .int .i64 wt, sl, sk]
abbrev taskO (st at' wt : Int) (sl sk : Value) : Obj := .cells #[.int .i64 st, .int .i64 at', .int .i64 wt, sl, sk] 28
def sameB (s1 a1 w1 : Int) (sl1 sk1 : List Int) (s2 a2 w2 : Int) (sl2 sk2 : List Int) : Bool := (s1 == s2) && ((a1 == a2) && ((w1 == w2) && ((sl1 == sl2) && (sk1 == sk2))))
theorem Same_any (s1 a1 t1 s2 a2 t2 : Int) (v1 k1 v2 k2 : Value) (sl1 sk1 sl2 sk2 : List Int) (h1 : sl1.length ≤ 1000000) (h2 : sk1.length ≤ 1000000) (h3 : sl2.length ≤ 1000000) (h4 : sk2.length ≤ 1000000)
    (w : World) (g1 : IntSl w v1 sl1) (g2 : IntSl w k1 sk1) (g3 : IntSl w v2 sl2) (g4 : IntSl w k2 sk2) : KB 18 #[taskV s1 a1 t1 v1 k1, taskV s2 a2 t2 v2 k2] (.bool (sameB s1 a1 t1 sl1 sk1 s2 a2 t2 sl2 sk2)) w := by
  have HP := Lib.hid (fun w' (hb : Below w.heap.size w w') => EqualI_any v1 v2 sl1 sl2 h1 h3 w' (g1.below hb) (g3.below hb))
  have HQ := Lib.hid (fun w' (hb : Below w.heap.size w w') => EqualI_any k1 k2 sk1 sk2 h2 h4 w' (g2.below hb) (g4.below hb))
  clear h1 h2 h3 h4
  obtain ⟨w2, hw2⟩ : ∃ w2, (w.alloc (taskO s1 a1 t1 v1 k1)).alloc (taskO s2 a2 t2 v2 k2) = w2 := ⟨_, rfl⟩
  have HB2 := Lib.hid (show Below w.heap.size w w2 by rw [← hw2]; exact (below_new _ _).alloc (by simp) _)
  have HX2 := Lib.hid (show w2.heap[w.heap.size]? = some (taskO s1 a1 t1 v1 k1) by rw [← hw2, Below.heap_alloc _ _ _ (by simp)]; exact tok_new _ _)
  have HY2 := Lib.hid (show w2.heap[w.heap.size + 1]? = some (taskO s2 a2 t2 v2 k2) by
    have h := tok_new (w.alloc (taskO s1 a1 t1 v1 k1)) (taskO s2 a2 t2 v2 k2)
    rw [tok_size, hw2] at h
    exact h)
  have HW2 := Lib.hid hw2
  clear hw2 g1 g2 g3 g4
  unfold sameB
  obtain ⟨b1, c1⟩ : ∃ b, (s1 == s2) = b := ⟨_, rfl⟩
  obtain ⟨b2, c2⟩ : ∃ b, (a1 == a2) = b := ⟨_, rfl⟩
  obtain ⟨b3, c3⟩ : ∃ b, (t1 == t2) = b := ⟨_, rfl⟩
  obtain ⟨b4, c4⟩ : ∃ b, (sl1 == sl2) = b := ⟨_, rfl⟩
  obtain ⟨b5, c5⟩ : ∃ b, (sk1 == sk2) = b := ⟨_, rfl⟩
  rw [c4] at HP
  rw [c5] at HQ
  rw [c1, c2, c3, c4, c5]
  clear c4 c5
  unfold KB at HP HQ ⊢
  go_enter Try.func18, Try.ntmps18
  go_upto_region 1 with fail
  rw [HW2.out]
  clear HW2
  obtain ⟨x0, x1, x2, x3, x4⟩ := blk5 HX2.out
  obtain ⟨y0, y1, y2, y3, y4⟩ := blk5 HY2.out
  cases b1
  · go_wp2_with fail
    go_ret
    exact ⟨rfl, HB2.out⟩
  cases b2
  · go_wp2_with fail
    go_ret
    exact ⟨rfl, HB2.out⟩
  cases b3
  · go_wp2_with fail
    go_ret
    exact ⟨rfl, HB2.out⟩
  go_wp2_with fail
  refine (HP.out _ HB2.out).mono ?_
  rintro e w3 ⟨rfl, hb3⟩
  have HB3 := Lib.hid (HB2.out.trans (hb3.mono HB2.out.size))
  have HX3 := Lib.hid (block_below hb3 HX2.out)
  have HY3 := Lib.hid (block_below hb3 HY2.out)
  clear hb3 x0 x1 x2 x3 x4 y0 y1 y2 y3 y4
  obtain ⟨x0, x1, x2, x3, x4⟩ := blk5 HX3.out
  obtain ⟨y0, y1, y2, y3, y4⟩ := blk5 HY3.out
  cases b4
  · go_wp2_with fail
    go_ret
    exact ⟨rfl, HB3.out⟩
  go_wp2_with fail
  refine (HQ.out _ HB3.out).mono ?_
  rintro e w4 ⟨rfl, hb4⟩
  have HB4 := Lib.hid (HB3.out.trans (hb4.mono HB3.out.size))
  clear hb4
  go_wp2_with fail
  go_ret
  exact ⟨rfl, HB4.out⟩
theorem rSame_any (s1 a1 t1 s2 a2 t2 : Int) (v1 k1 v2 k2 : Value) (sl1 sk1 sl2 sk2 : List Int) (h1 : sl1.length ≤ 1000000) (h2 : sk1.length ≤ 1000000) (h3 : sl2.length ≤ 1000000) (h4 : sk2.length ≤ 1000000)
    (w : World) (g1 : IntSl w v1 sl1) (g2 : IntSl w k1 sk1) (g3 : IntSl w v2 sl2) (g4 : IntSl w k2 sk2) : KB 11 #[taskV s1 a1 t1 v1 k1, taskV s2 a2 t2 v2 k2] (.bool (sameB s1 a1 t1 sl1 sk1 s2 a2 t2 sl2 sk2)) w := by
  have HP := Lib.hid (fun w' (hb : Below w.heap.size w w') => longs_any v1 v2 sl1 sl2 h1 h3 w' (g1.below hb) (g3.below hb))
  have HQ := Lib.hid (fun w' (hb : Below w.heap.size w w') => longs_any k1 k2 sk1 sk2 h2 h4 w' (g2.below hb) (g4.below hb))
  clear h1 h2 h3 h4
  obtain ⟨w2, hw2⟩ : ∃ w2, (w.alloc (taskO s1 a1 t1 v1 k1)).alloc (taskO s2 a2 t2 v2 k2) = w2 := ⟨_, rfl⟩
  have HB2 := Lib.hid (show Below w.heap.size w w2 by rw [← hw2]; exact (below_new _ _).alloc (by simp) _)
  have HX2 := Lib.hid (show w2.heap[w.heap.size]? = some (taskO s1 a1 t1 v1 k1) by rw [← hw2, Below.heap_alloc _ _ _ (by simp)]; exact tok_new _ _)
  have HY2 := Lib.hid (show w2.heap[w.heap.size + 1]? = some (taskO s2 a2 t2 v2 k2) by
    have h := tok_new (w.alloc (taskO s1 a1 t1 v1 k1)) (taskO s2 a2 t2 v2 k2)
    rw [tok_size, hw2] at h
    exact h)
  have HW2 := Lib.hid hw2
  clear hw2 g1 g2 g3 g4
  unfold sameB
  obtain ⟨b1, c1⟩ : ∃ b, (s1 == s2) = b := ⟨_, rfl⟩
  obtain ⟨b2, c2⟩ : ∃ b, (a1 == a2) = b := ⟨_, rfl⟩
  obtain ⟨b3, c3⟩ : ∃ b, (t1 == t2) = b := ⟨_, rfl⟩
  obtain ⟨b4, c4⟩ : ∃ b, (sl1 == sl2) = b := ⟨_, rfl⟩
  obtain ⟨b5, c5⟩ : ∃ b, (sk1 == sk2) = b := ⟨_, rfl⟩
  rw [c4] at HP
  rw [c5] at HQ
  rw [c1, c2, c3, c4, c5]
  clear c4 c5
  unfold KB at HP HQ ⊢
  go_enter Try.func11, Try.ntmps11
  go_upto_region 1 with fail
  rw [HW2.out]
  clear HW2
  obtain ⟨x0, x1, x2, x3, x4⟩ := blk5 HX2.out
  obtain ⟨y0, y1, y2, y3, y4⟩ := blk5 HY2.out
  cases b1
  · go_wp2_with fail
    go_ret
    exact ⟨rfl, HB2.out⟩
  cases b2
  · go_wp2_with fail
    go_ret
    exact ⟨rfl, HB2.out⟩
  cases b3
  · go_wp2_with fail
    go_ret
    exact ⟨rfl, HB2.out⟩
  go_wp2_with fail
  refine (HP.out _ HB2.out).mono ?_
  rintro e w3 ⟨rfl, hb3⟩
  have HB3 := Lib.hid (HB2.out.trans (hb3.mono HB2.out.size))
  have HX3 := Lib.hid (block_below hb3 HX2.out)
  have HY3 := Lib.hid (block_below hb3 HY2.out)
  clear hb3 x0 x1 x2 x3 x4 y0 y1 y2 y3 y4
  obtain ⟨x0, x1, x2, x3, x4⟩ := blk5 HX3.out
  obtain ⟨y0, y1, y2, y3, y4⟩ := blk5 HY3.out
  cases b4
  · go_wp2_with fail
    go_ret
    exact ⟨rfl, HB3.out⟩
  go_wp2_with fail
  refine (HQ.out _ HB3.out).mono ?_
  rintro e w4 ⟨rfl, hb4⟩
  have HB4 := Lib.hid (HB3.out.trans (hb4.mono HB3.out.size))
  clear hb4
  go_wp2_with fail
  go_ret
  exact ⟨rfl, HB4.out⟩
end Go.Proofs.Ytcicbijpiffbkaa
