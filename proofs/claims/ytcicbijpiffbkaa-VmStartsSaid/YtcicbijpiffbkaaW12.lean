/- Walks: the depths of a segment, the program's side. -/
import Derived.Test.YtcicbijpiffbkaaK2
namespace Go.Proofs.Ytcicbijpiffbkaa
open Go.RowKit Go.Maps
set_option linter.unusedVariables false
set_option linter.unusedSimpArgs false
set_option maxRecDepth 100000
set_option maxHeartbeats 8000000

/-- The first loop at instruction q, the k-th of the segment. -/
def RB1 (B : Nat) (w1 : World) (L : List Ins) (f t : Nat) (dv iv : Value) (wr : World) : Prop :=
  ∃ (q k : Nat) (D : Int), dv = .int .i64 D ∧ iv = .int .i64 (q : Int) ∧ Hid (q = f + k) ∧ f ≤ q ∧ q ≤ t ∧ k ≤ 1000000 ∧ 0 ≤ D ∧ D ≤ 32 ∧ Hid (dep L k = D) ∧
    wr.ownsMap Try.prog 3 (plainElem Try.prog 3) B k (DM L f k) ∧ Below B w1 wr ∧ Hid (∀ j (hj : j < L.length), j < k → stepB (dep L j) L[j] = true)
theorem rb1_next {B : Nat} {w1 : World} {L : List Ins} {es : List Ent} {sl : Int} {f t : Nat} {wr : World} {q k : Nat} {D D0 : Int} (hL : L.length = t - f) (hq : q = f + k) (hqt : q < t) (ht : t ≤ 1000000) (hk : k < L.length)
    (hf : ∀ k (hk : k < L.length), formB es sl f t L[k] = true)
    (hD0 : dep L k = D0) (hD : D0 + (putN L[k] - takeN L[k]) = D) (ho : wr.ownsMap Try.prog 3 (plainElem Try.prog 3) B (k + 1) ((DM L f k).put (.int .i64 (q : Int)) (.lit (.int .i64 D0)))) (hb : Below B w1 wr)
    (ha : ∀ j (hj : j < L.length), j < k → stepB (dep L j) L[j] = true) (h2 : stepB (dep L k) L[k] = true) :
    RB1 B w1 L f t (.int .i64 D) (.int .i64 ((q + 1 : Nat) : Int)) wr := by
  have hall : ∀ j (hj : j < L.length), j < k + 1 → stepB (dep L j) L[j] = true := fun j hj hjk => by
    by_cases h : j < k
    · exact ha j hj h
    · obtain rfl : j = k := by omega
      exact h2
  have hd := dep_le (k + 1) (by omega) (fun j hj hjk => ⟨hf j hj, hall j hj hjk⟩)
  have he : dep L (k + 1) = D := by rw [dep_s hk, hD0]; exact hD
  rw [he] at hd
  subst hq
  rw [← hD0] at ho
  exact ⟨f + k + 1, k + 1, D, rfl, rfl, Lib.hid (by omega), by omega, by omega, by omega, hd.1, hd.2, Lib.hid he, ho, hb, Lib.hid hall⟩

/-- The second loop. -/
def RB2 (B : Nat) (w1 : World) (L : List Ins) (f t : Nat) (iv : Value) (wr : World) : Prop :=
  ∃ (q k : Nat), iv = .int .i64 (q : Int) ∧ Hid (q = f + k) ∧ f ≤ q ∧ q ≤ t ∧ 
    wr.ownsMap Try.prog 3 (plainElem Try.prog 3) B L.length (DM L f L.length) ∧ Below B w1 wr ∧ Hid (∀ j (hj : j < L.length), j < k → jmpB L[j].op = true → dep L (L[j].a - f).toNat = 0)
theorem rb2_next {B : Nat} {w1 : World} {L : List Ins} {f t : Nat} {wr : World} {q k : Nat} (hq : q = f + k) (hqt : q < t) (hk : k < L.length) (ho : wr.ownsMap Try.prog 3 (plainElem Try.prog 3) B L.length (DM L f L.length)) (hb : Below B w1 wr)
    (ha : ∀ j (hj : j < L.length), j < k → jmpB L[j].op = true → dep L (L[j].a - f).toNat = 0) (h2 : jmpB L[k].op = true → dep L (L[k].a - f).toNat = 0) :
    RB2 B w1 L f t (.int .i64 ((q + 1 : Nat) : Int)) wr :=
  ⟨q + 1, k + 1, rfl, Lib.hid (by omega), by omega, by omega, ho, hb, Lib.hid fun j hj hjk => by
    by_cases h : j < k
    · exact ha j hj h
    · obtain rfl : j = k := by omega
      exact h2⟩

theorem balanced_any (ev : Value) (a : Addr) (d : Nat) (m : Nat) (es : List Ent) (is : List Ins) (sl : Int) (f t : Nat) (hm : is.length = m) (hm2 : m ≤ 1000000) (hft : f < t) (htm : t ≤ m)
    (hI : ∀ x ∈ is, I64 x.a) (hfo : ∀ k (h : k < (segL is f t).length), formB es sl f t (segL is f t)[k] = true) (w : World) (hi : InsAt w a is) :
    KB 50 #[.agg #[ev, .slice (some a) m d, .int .i64 f, .int .i64 t, .int .i64 sl]] (.bool (balB (segL is f t) f)) w := by
  obtain ⟨R, hR⟩ : ∃ R, balB (segL is f t) f = R := ⟨_, rfl⟩
  rw [hR]
  obtain ⟨L, hL⟩ : ∃ L, segL is f t = L := ⟨_, rfl⟩
  have hlen : L.length = t - f := by rw [← hL]; exact segL_len (by omega) (by omega)
  have HL := Lib.hid hlen
  have HG := Lib.hid (show ∀ k (h : f + k < is.length) (hk : k < L.length), L[k] = is[f + k] by subst hL; exact fun k h hk => segL_get h hk)
  have HF := Lib.hid (show ∀ k (h : k < L.length), formB es sl f t L[k] = true by subst hL; exact hfo)
  rw [hL] at hR
  have HS := Lib.hid (show ∀ k (h : k < L.length), stepB (dep L k) L[k] = false → R = false by rw [← hR]; exact fun k h h2 => bal_step h h2)
  have HJ := Lib.hid (show ∀ k (h : k < L.length), jmpB L[k].op = true → dep L (L[k].a - f).toNat ≠ 0 → R = false by rw [← hR]; exact fun k h h2 h3 => bal_jmp h h2 h3)
  have HE := Lib.hid (show (∀ k (h : k < L.length), stepB (dep L k) L[k] = true) → (∀ k (h : k < L.length), jmpB L[k].op = true → dep L (L[k].a - f).toNat = 0) → R = true by
    rw [← hR]
    exact fun h h2 => bal_all h h2)
  have HI := Lib.hid hI
  have HIN := Lib.hid hm
  have HIA := Lib.hid hi
  have hmm := @run_makeMap Try.prog
  clear hR hL hlen hi hI hfo
  unfold KB at *
  obtain ⟨w1, hw1⟩ : ∃ w1, w.alloc (.cells #[ev, .slice (some a) m d, .int .i64 f, .int .i64 t, .int .i64 sl] 109) = w1 := ⟨_, rfl⟩
  have HB1 := Lib.hid (show Below w.heap.size w w1 by rw [← hw1]; exact below_new _ _)
  have HM1 := Lib.hid (show w1.heap[w.heap.size]? = some (.cells #[ev, .slice (some a) m d, .int .i64 f, .int .i64 t, .int .i64 sl] 109) by rw [← hw1]; exact tok_new _ _)
  have HZ1 := Lib.hid (show w1.heap.size = w.heap.size + 1 by rw [← hw1]; exact tok_size _ _)
  have HW1 := Lib.hid hw1
  clear hw1 hm
  go_enter Try.func50, Try.ntmps50
  go_upto_region 1 with fail
  rw [HW1.out]
  clear HW1
  obtain ⟨b0, b1, b2, b3, b4⟩ := blk5 HM1.out
  go_upto_region 3 with fail
  obtain ⟨w2, hw2⟩ : ∃ w2, w1.alloc (.map #[] 0) = w2 := ⟨_, rfl⟩
  have HB2 := Lib.hid (show Below w1.heap.size w1 w2 by rw [← hw2]; exact below_new _ _)
  have HO2 := Lib.hid (show w2.ownsMap Try.prog 3 (plainElem (H := Unit) Try.prog 3) w1.heap.size 0 (.map []) by rw [← hw2]; exact World.ownsMap_made _ _ _ _)
  rw [hw2]
  have HM2 := Lib.hid (block_below HB2.out HM1.out)
  have HBW := Lib.hid (HB1.out.trans (HB2.out.mono (by have := HZ1.out; omega)))
  obtain ⟨B, hB⟩ : ∃ B, w1.heap.size = B := ⟨_, rfl⟩
  rw [hB] at HB2 HO2 HZ1 ⊢
  have HZ2 := Lib.hid (show B ≤ w2.heap.size by rw [← hB]; exact HB2.out.size)
  clear hB hw2 b0 b1 b2 b3 b4 HB1 HB2 HM1 hmm
  obtain ⟨b0, b1, b2, b3, b4⟩ := blk5 HM2.out
  go_wp2_with fail
  have hst := Lib.hid (show RB1 B w2 L f t (.int .i64 0) (.int .i64 (f : Int)) w2 from ⟨f, 0, 0, rfl, rfl, Lib.hid rfl, Nat.le_refl _, by omega, by omega, by omega, by omega, Lib.hid (dep_0 L), HO2.out, Below.refl _ _, Lib.hid (fun j _ h => absurd h (by omega))⟩)
  clear HO2 b0 b1 b2 b3 b4
  go_loopw [3, 5] (fun dv iv wr => RB1 B w2 L f t dv iv wr) (fun _ iv _ => t - (intOf iv).toNat)
  case atStart => exact hst.out
  case round =>
    clear hst
    obtain ⟨q, k, D, rfl, rfl, hq, hfq, hqt, hk6, hD0, hD32, hD, hown, hbel, hall⟩ := hrel
    have hzr := hbel.size
    have HOW := Lib.hid hown; have HBE := Lib.hid hbel
    have HWR := Lib.hid (HBW.out.trans (hbel.mono (by have := HZ1.out; omega)))
    have HMR := Lib.hid (below_keeps HM2.out (by have := HZ1.out; omega) hbel)
    have HZR := Lib.hid (show w.heap.size + 1 ≤ wr.heap.size by have := HZ1.out; have := HZ2.out; omega)
    clear hown hbel hzr
    obtain ⟨b0, b1, b2, b3, b4⟩ := blk5 HMR.out
    by_cases hqn : q < t
    · have hkl : k < L.length := by have := HL.out; have := hq.out; omega
      have hki : q < is.length := by have := HIN.out; omega
      obtain ⟨c0, c1, c2, c3⟩ := insAt (HIA.out.below Ins.l_len HWR.out) q hki
      have hx : L[k] = is[q] := by
        have e := HG.out k (by have := hq.out; have := HIN.out; omega) hkl
        have e2 := hq.out
        subst e2
        exact e
      have hmem : I64 is[q].a := HI.out _ (List.getElem_mem _)
      obtain ⟨x, hxx⟩ : ∃ x, is[q] = x := ⟨_, rfl⟩
      rw [hxx] at c0 c1 c2 c3 hx hmem
      have HX := Lib.hid hx
      obtain ⟨op, xa, xn, s⟩ := x
      dsimp only at c0 c1 c2 c3 hmem
      have HC := Lib.hid (fun w' => ceffect_any ⟨op, xa, xn, s⟩ w')
      unfold KB Ins.v at HC
      dsimp only at HC
      have htk := take_le (HF.out k hkl)
      have hpk := putN_le L[k]
      obtain ⟨T, hT⟩ : ∃ T, takeN ⟨op, xa, xn, s⟩ = T := ⟨_, rfl⟩
      obtain ⟨P, hP⟩ : ∃ P, putN ⟨op, xa, xn, s⟩ = P := ⟨_, rfl⟩
      have hT2 : takeN L[k] = T := by rw [hx]; exact hT
      have hP2 : putN L[k] = P := by rw [hx]; exact hP
      have hO2 : L[k].op = op := by rw [hx]
      rw [hT, hP] at HC
      rw [hT2] at htk
      rw [hP2] at hpk
      have HBAD := Lib.hid (show ¬ (T ≤ D ∧ D + (P - T) ≤ 32 ∧ (stmB op = true → D + (P - T) = 0)) → R = false from fun h => HS.out k hkl (by
        rw [← Bool.not_eq_true, step_iff, hD.out, hT2, hP2, hO2]; exact h))
      have HNX := Lib.hid (show ∀ wr' : World, T ≤ D ∧ D + (P - T) ≤ 32 ∧ (stmB op = true → D + (P - T) = 0) → wr'.ownsMap Try.prog 3 (plainElem (H := Unit) Try.prog 3) B (k + 1) ((DM L f k).put (.int .i64 (q : Int)) (.lit (.int .i64 D))) → Below B w2 wr' → RB1 B w2 L f t (.int .i64 (D + (P - T))) (.int .i64 ((q + 1 : Nat) : Int)) wr' from
        fun wr' hst ho hb => rb1_next HL.out hq.out hqn (by omega) hkl HF.out hD.out (by rw [hP2, hT2]) ho hb hall.out (by rw [step_iff, hD.out, hT2, hP2, hO2]; exact hst))
      have HTP := Lib.hid (show op = 5 ∨ op = 10 ∨ op = 11 → T = 0 ∧ P = 0 by
        rintro (h | h | h) <;> subst h <;> exact ⟨by rw [← hT]; simp [takeN], by rw [← hP]; simp [putN]⟩)
      have hops := form_ops (HF.out k hkl)
      rw [hO2] at hops
      have HOP := Lib.hid hops
      have e1 : (0 : Int) ≤ (q : Int) := by omega
      have e2 : (q : Int) < (t : Int) := by omega
      have e3 : (q : Int) < (m : Int) := by omega
      have hq64 : I64 (q : Int) := ⟨by omega, by omega⟩
      have hD64 : I64 D := ⟨by omega, by omega⟩
      clear hops hxx hx hT hP hT2 hP2 hO2 HF HS HJ HE hall
      generalize str s = S at *
      obtain ⟨t0, t1⟩ := htk
      obtain ⟨p0, p1⟩ := hpk
      go_upto_region 7 with fail
      obtain ⟨w3, hw3⟩ : ∃ w3, wr.alloc (.cells #[.int .i64 op, .int .i64 xa, .int .i64 xn, .string S] 71) = w3 := ⟨_, rfl⟩
      have HI3 := Lib.hid (show w3.heap[wr.heap.size]? = some (.cells #[.int .i64 op, .int .i64 xa, .int .i64 xn, .string S] 71) by rw [← hw3]; exact tok_new _ _)
      have HB3 := Lib.hid (show Below B w2 w3 by rw [← hw3]; exact HBE.out.alloc (Nat.le_trans HZ2.out HBE.out.size) _)
      have HO3 := Lib.hid (show w3.ownsMap Try.prog 3 (plainElem (H := Unit) Try.prog 3) B k (DM L f k) by rw [← hw3]; exact HOW.out.alloc _)
      have HNE := Lib.hid (show wr.heap.size ≠ B by have := HOW.out.lt; omega)
      have HZ3 := Lib.hid (show B ≤ w3.heap.size from Nat.le_trans HZ2.out HB3.out.size)
      rw [hw3]
      clear hw3 c0 c1 c2 c3 b0 b1 b2 b3 b4
      go_upto_region 8 with (at_mapUpdate; refine wpList_mapUpdate_own _ rfl _ _ _ 153 rfl 3 3 ikey Try.underlying153 _ B k _ rfl HO3.out (by unfold maxLen; omega) _ _ _ rfl rfl (keyOf_int_mk Try.underlying3 (wf64 hq64)) _ [] (plainElem_int Try.underlying3 (wf64 hD64)) ?_)
      intro w4 hown4 hgrow4
      have HO4 := Lib.hid hown4
      have HB4 := Lib.hid (HB3.out.grown hgrow4 HZ3.out (fun j hj => by cases hj; exact Nat.le_refl _))
      have HI4 := Lib.hid (grown_keeps HI3.out hgrow4 HNE.out)
      clear hown4 hgrow4 HO3 HB3 HI3 HBE HOW
      obtain ⟨i0, i1, i2, i3⟩ := blk4 HI4.out
      go_wp2_with fail
      refine (HC.out _).mono ?_
      rintro e w5 ⟨rfl, hb5⟩
      have HO5 := Lib.hid (ownsMap_below HO4.out hb5)
      have HB5 := Lib.hid (HB4.out.trans (hb5.mono (Nat.le_trans HZ2.out HB4.out.size)))
      have HI5 := Lib.hid (block_below hb5 HI4.out)
      have HZ5 := Lib.hid (show B ≤ w5.heap.size from Nat.le_trans HZ2.out HB5.out.size)
      clear hb5 HO4 HB4 HI4 i0 i1 i2 i3 HC
      have HW5 := Lib.hid (HBW.out.trans (HB5.out.mono (by have := HZ1.out; omega)))
      by_cases h1 : D < T
      · have HR := Lib.hid (HBAD.out (fun h => by omega))
        go_wp2_with fail
        go_ret
        exact ⟨by rw [HR.out]; rfl, HW5.out⟩
      by_cases h2 : 32 < D - T + P
      · have HR := Lib.hid (HBAD.out (fun h => by omega))
        go_wp2_with fail
        go_ret
        exact ⟨by rw [HR.out]; rfl, HW5.out⟩
      obtain ⟨i0, i1, i2, i3⟩ := blk4 HI5.out
      go_upto_region 13 with fail
      have hmeas : t - (q + 1) < t - q := by omega
      have hc : (op = 3 ∨ op = 6 ∨ op = 9 ∨ op = 8) ∨ (op = 5 ∨ op = 10 ∨ op = 11) ∨ ((op == 3) = false ∧ (op == 6) = false ∧ (op == 9) = false ∧ (op == 8) = false ∧ (op == 5) = false ∧ (op == 10) = false ∧ (op == 11) = false ∧ stmB op = false) := by
        have h := HOP.out
        by_cases g : op = 3 ∨ op = 6 ∨ op = 9 ∨ op = 8 ∨ op = 5 ∨ op = 10 ∨ op = 11
        · omega
        · refine Or.inr (Or.inr ⟨?_, ?_, ?_, ?_, ?_, ?_, ?_, ?_⟩) <;> first | (rw [beq_eq_false_iff_ne]; omega) | skip
          have : op = 1 ∨ op = 2 ∨ op = 4 ∨ op = 7 := by omega
          rcases this with rfl | rfl | rfl | rfl <;> rfl
      clear HOP
      rcases hc with hc | hc | ⟨n1, n2, n3, n4, n5, n6, n7, hs⟩
      · have hst : stmB op = true := by rcases hc with rfl | rfl | rfl | rfl <;> rfl
        by_cases hz : D + (P - T) = 0
        · have HREL := Lib.hid (HNX.out w5 ⟨by omega, by omega, fun _ => hz⟩ HO5.out HB5.out)
          clear HNX HBAD hst
          rcases hc with rfl | rfl | rfl | rfl
          all_goals
            go_wp2_with fail
            go_roundw
            case rel => exact HREL.out
            case measure => simp [intOf]; omega
        · have HR := Lib.hid (HBAD.out (fun h => hz (h.2.2 hst)))
          clear HNX HBAD hst
          rcases hc with rfl | rfl | rfl | rfl
          all_goals
            go_wp2_with fail
            go_ret
            exact ⟨by rw [HR.out]; rfl, HW5.out⟩
      · have hst : stmB op = true := by rcases hc with rfl | rfl | rfl <;> rfl
        obtain ⟨rfl, rfl⟩ := HTP.out hc
        by_cases hz : D = 0
        · subst hz
          have HREL := Lib.hid (HNX.out w5 ⟨by omega, by omega, fun _ => by omega⟩ HO5.out HB5.out)
          clear HNX HBAD hst HTP
          rcases hc with rfl | rfl | rfl
          all_goals
            go_wp2_with (at_lookup; refine wpList_lookup_own_int _ rfl _ _ 153 rfl 3 3 .i64 ikey Try.underlying153 Try.underlying3 (izero _) B (k + 1) _ rfl HO5.out _ _ rfl (keyOf_int_mk Try.underlying3 (wf64 hq64)) ?_; intro c hat hwc; obtain rfl := put_look (DM_map L f k) hat; clear hat hwc)
            go_roundw
            case rel => exact HREL.out
            case measure => simp [intOf]; omega
        · have HR := Lib.hid (HBAD.out (fun h => hz (by have := h.2.2 hst; omega)))
          clear HNX HBAD hst HTP
          rcases hc with rfl | rfl | rfl
          all_goals
            go_wp2_with (at_lookup; refine wpList_lookup_own_int _ rfl _ _ 153 rfl 3 3 .i64 ikey Try.underlying153 Try.underlying3 (izero _) B (k + 1) _ rfl HO5.out _ _ rfl (keyOf_int_mk Try.underlying3 (wf64 hq64)) ?_; intro c hat hwc; obtain rfl := put_look (DM_map L f k) hat; clear hat hwc)
            go_ret
            exact ⟨by rw [HR.out]; rfl, HW5.out⟩
      · have HREL := Lib.hid (HNX.out w5 ⟨by omega, by omega, fun h => by rw [hs] at h; cases h⟩ HO5.out HB5.out)
        clear HNX HBAD HTP
        go_wp2_with fail
        go_roundw
        case rel => exact HREL.out
        case measure => simp [intOf]; omega
    · obtain rfl : q = t := by omega
      obtain rfl : k = L.length := by have := HL.out; have := hq.out; omega
      have hfin := Lib.hid (show ∀ j (hj : j < L.length), stepB (dep L j) L[j] = true from fun j hj => hall.out j hj hj)
      have HO := Lib.hid (show wr.ownsMap Try.prog 3 (plainElem (H := Unit) Try.prog 3) B L.length (DM L f L.length) from HOW.out)
      have HLE := Lib.hid HL.out
      have HJ2 := Lib.hid (show R = true ∨ ¬ ∀ k (h : k < L.length), jmpB L[k].op = true → dep L (L[k].a - f).toNat = 0 from by
        by_cases h : ∀ k (h : k < L.length), jmpB L[k].op = true → dep L (L[k].a - f).toNat = 0
        · exact Or.inl (HE.out hfin.out h)
        · exact Or.inr h)
      have hmm := HL.out
      have hll : L.length ≤ 1000000 := by omega
      have hft2 : f < q := hft
      clear hmm HOW HS hall hD hq HJ2
      go_wp2_with fail
      have hst2 := Lib.hid (show RB2 B w2 L f q (.int .i64 (f : Int)) wr from ⟨f, 0, rfl, Lib.hid rfl, Nat.le_refl _, by omega, HO.out, HBE.out, Lib.hid (fun j _ h => absurd h (by omega))⟩)
      clear HO HBE HWR HMR HZR b0 b1 b2 b3 b4
      go_loopw [9] (fun iv wr => RB2 B w2 L f q iv wr) (fun iv _ => q - (intOf iv).toNat)
      case atStart => exact hst2.out
      case round =>
        clear hst2
        obtain ⟨p, k, rfl, hp, hfp, hpq, hown, hbel, hall⟩ := hrel
        have hzr := hbel.size
        have HOW := Lib.hid hown; have HBE := Lib.hid hbel
        have HWR := Lib.hid (HBW.out.trans (hbel.mono (by have := HZ1.out; omega)))
        have HMR := Lib.hid (below_keeps HM2.out (by have := HZ1.out; omega) hbel)
        clear hown hbel hzr
        rename World => wr
        obtain ⟨b0, b1, b2, b3, b4⟩ := blk5 HMR.out
        by_cases hpn : p < q
        · have hkl : k < L.length := by have := HL.out; have := hp.out; omega
          have hki : p < is.length := by have := HIN.out; omega
          obtain ⟨c0, c1, c2, c3⟩ := insAt (HIA.out.below Ins.l_len HWR.out) p hki
          have hx : L[k] = is[p] := by
            have e := HG.out k (by have := hp.out; have := HIN.out; omega) hkl
            have e2 := hp.out
            subst e2
            exact e
          have hmem : I64 is[p].a := HI.out _ (List.getElem_mem _)
          obtain ⟨x, hxx⟩ : ∃ x, is[p] = x := ⟨_, rfl⟩
          rw [hxx] at c0 c1 c2 c3 hx hmem
          obtain ⟨op, xa, xn, s⟩ := x
          dsimp only at c0 c1 c2 c3 hmem
          have hO2 : L[k].op = op := by rw [hx]
          have hA2 : L[k].a = xa := by rw [hx]
          have HFJ := Lib.hid (show jmpB op = true → (f : Int) ≤ xa ∧ xa < (q : Int) from fun h => by
            have := form_j (HF.out k hkl) (by rw [hO2]; exact h)
            rw [hA2] at this
            exact this)
          have HBAD := Lib.hid (show jmpB op = true → dep L (xa - f).toNat ≠ 0 → R = false from fun h h2 => HJ.out k hkl (by rw [hO2]; exact h) (by rw [hA2]; exact h2))
          have HNX := Lib.hid (show ∀ wr' : World, (jmpB op = true → dep L (xa - f).toNat = 0) → wr'.ownsMap Try.prog 3 (plainElem (H := Unit) Try.prog 3) B L.length (DM L f L.length) → Below B w2 wr' → RB2 B w2 L f q (.int .i64 ((p + 1 : Nat) : Int)) wr' from
            fun wr' h ho hb => rb2_next hp.out hpn hkl ho hb hall.out (by rw [hO2, hA2]; exact h))
          have e1 : (0 : Int) ≤ (p : Int) := by omega
          have e2 : (p : Int) < (q : Int) := by omega
          have e3 : (p : Int) < (m : Int) := by omega
          generalize str s = S at c3
          have hmeas : q - (p + 1) < q - p := by omega
          have hLL := HL.out
          clear hxx hx hO2 hA2 HF HJ hall
          go_upto_region 28 with fail
          obtain ⟨w3, hw3⟩ : ∃ w3, wr.alloc (.cells #[.int .i64 op, .int .i64 xa, .int .i64 xn, .string S] 71) = w3 := ⟨_, rfl⟩
          have HI3 := Lib.hid (show w3.heap[wr.heap.size]? = some (.cells #[.int .i64 op, .int .i64 xa, .int .i64 xn, .string S] 71) by rw [← hw3]; exact tok_new _ _)
          have HB3 := Lib.hid (show Below B w2 w3 by rw [← hw3]; exact HBE.out.alloc (Nat.le_trans HZ2.out HBE.out.size) _)
          have HO3 := Lib.hid (show w3.ownsMap Try.prog 3 (plainElem (H := Unit) Try.prog 3) B L.length (DM L f L.length) by rw [← hw3]; exact HOW.out.alloc _)
          rw [hw3]
          have HW3 := Lib.hid (HBW.out.trans (HB3.out.mono (by have := HZ1.out; omega)))
          clear hw3 c0 c1 c2 c3 b0 b1 b2 b3 b4
          obtain ⟨i0, i1, i2, i3⟩ := blk4 HI3.out
          have hc : (op = 5 ∨ op = 6) ∨ ((op == 5) = false ∧ (op == 6) = false) := by
            simp only [beq_eq_false_iff_ne]; omega
          rcases hc with hc | ⟨n1, n2⟩
          · have hj : jmpB op = true := by rcases hc with rfl | rfl <;> rfl
            obtain ⟨f1, f2⟩ := HFJ.out hj
            obtain ⟨c, hrun, hat, hwc⟩ := HO3.out.lookup_int ikey Try.underlying153 Try.underlying3 (izero _) (keyOf_int_mk Try.underlying3 (wf64 hmem))
            have hcE := DM_look hat (xa - f).toNat (by omega) (by omega) rfl
            rw [hcE] at hrun
            clear hat hwc hcE
            by_cases hz : dep L (xa - f).toNat = 0
            · have HREL := Lib.hid (HNX.out w3 (fun _ => hz) HO3.out HB3.out)
              rw [hz] at hrun
              clear HNX HBAD hz hLL hj
              rcases hc with rfl | rfl
              all_goals
                go_wp2_with fail
                go_roundw
                case rel => exact HREL.out
                case measure => simp [intOf]; omega
            · have HR := Lib.hid (HBAD.out hj hz)
              generalize dep L (xa - f).toNat = E at *
              clear HNX HBAD hLL hj
              rcases hc with rfl | rfl
              all_goals
                go_wp2_with fail
                go_ret
                exact ⟨by rw [HR.out]; rfl, HW3.out⟩
          · have HREL := Lib.hid (HNX.out w3 (fun h => by unfold jmpB at h; rw [n1, n2] at h; cases h) HO3.out HB3.out)
            clear HNX HBAD HFJ hLL
            go_wp2_with fail
            go_roundw
            case rel => exact HREL.out
            case measure => simp [intOf]; omega
        · have HR := Lib.hid (show R = true from HE.out hfin.out (fun j hj h => hall.out j hj (by have := HL.out; have := hp.out; omega) h))
          go_wp2_with fail
          go_ret
          exact ⟨by rw [HR.out]; rfl, HWR.out⟩
    
end Go.Proofs.Ytcicbijpiffbkaa
