/- Walks: the reference's segment. -/
import Derived.Test.YtcicbijpiffbkaaW8
import Derived.Test.YtcicbijpiffbkaaK2
namespace Go.Proofs.Ytcicbijpiffbkaa
open Go.RowKit
set_option linter.unusedVariables false
set_option linter.unusedSimpArgs false
set_option maxRecDepth 100000
set_option maxHeartbeats 8000000

/-- The first loop of a segment at instruction q, the k-th. -/
def RS1 (B : Nat) (w1 : World) (L : List Ins) (es : List Ent) (sl : Int) (f t : Nat) (dv bv iv : Value) (wr : World) : Prop :=
  ∃ (q k : Nat) (ao : Option Addr) (cap : Nat) (D : Int), dv = .int .i64 D ∧ bv = .slice ao k cap ∧ iv = .int .i64 (q : Int) ∧ Hid (q = f + k) ∧ f ≤ q ∧ q ≤ t ∧ k ≤ 1000000 ∧ 0 ≤ D ∧ D ≤ 32 ∧ Hid (dep L k = D) ∧
    wr.ownsRow B 3 1 (.slice ao k cap) k (depVs L k) ∧ Below B w1 wr ∧ Hid (∀ j (hj : j < L.length), j < k → formB es sl f t L[j] = true ∧ stepB (dep L j) L[j] = true)
theorem rs1_next {B : Nat} {w1 : World} {L : List Ins} {es : List Ent} {sl : Int} {f t : Nat} {wr : World} {q k g cap : Nat} {D : Int} (hL : L.length = t - f) (hq : q = f + k) (hqt : q < t) (ht : t ≤ 1000000) (hk : k < L.length)
    (hD : dep L k + (putN L[k] - takeN L[k]) = D) (ho : wr.ownsRow B 3 1 (.slice (some ⟨g, 0, none⟩) (k + 1) cap) (k + 1) (depVs L k ++ [.int .i64 (dep L k)])) (hb : Below B w1 wr)
    (ha : ∀ j (hj : j < L.length), j < k → formB es sl f t L[j] = true ∧ stepB (dep L j) L[j] = true) (h1 : formB es sl f t L[k] = true) (h2 : stepB (dep L k) L[k] = true) :
    RS1 B w1 L es sl f t (.int .i64 D) (.slice (some ⟨g, 0, none⟩) (k + 1) cap) (.int .i64 ((q + 1 : Nat) : Int)) wr := by
  have hall : ∀ j (hj : j < L.length), j < k + 1 → formB es sl f t L[j] = true ∧ stepB (dep L j) L[j] = true := fun j hj hjk => by
    by_cases h : j < k
    · exact ha j hj h
    · obtain rfl : j = k := by omega
      exact ⟨h1, h2⟩
  have hd := dep_le (k + 1) (by omega) hall
  have he : dep L (k + 1) = D := by rw [dep_s hk]; exact hD
  rw [he] at hd
  rw [← depVs_s] at ho
  exact ⟨q + 1, k + 1, _, cap, D, rfl, rfl, rfl, Lib.hid (by omega), by omega, by omega, by omega, hd.1, hd.2, Lib.hid he, ho, hb, Lib.hid hall⟩

/-- The second loop. -/
def RS2 (B : Nat) (w1 : World) (L : List Ins) (f t g cap : Nat) (iv : Value) (wr : World) : Prop :=
  ∃ (q k : Nat), iv = .int .i64 (q : Int) ∧ Hid (q = f + k) ∧ f ≤ q ∧ q ≤ t ∧ wr.ownsRow B 3 1 (.slice (some ⟨g, 0, none⟩) L.length cap) L.length (depVs L L.length) ∧ Below B w1 wr ∧ Hid (∀ j (hj : j < L.length), j < k → jmpB L[j].op = true → dep L (L[j].a - f).toNat = 0)
theorem rs2_next {B : Nat} {w1 : World} {L : List Ins} {f t g cap : Nat} {wr : World} {q k : Nat} (hq : q = f + k) (hqt : q < t) (hk : k < L.length) (ho : wr.ownsRow B 3 1 (.slice (some ⟨g, 0, none⟩) L.length cap) L.length (depVs L L.length)) (hb : Below B w1 wr)
    (ha : ∀ j (hj : j < L.length), j < k → jmpB L[j].op = true → dep L (L[j].a - f).toNat = 0) (h2 : jmpB L[k].op = true → dep L (L[k].a - f).toNat = 0) :
    RS2 B w1 L f t g cap (.int .i64 ((q + 1 : Nat) : Int)) wr :=
  ⟨q + 1, k + 1, rfl, Lib.hid (by omega), by omega, by omega, ho, hb, Lib.hid fun j hj hjk => by
    by_cases h : j < k
    · exact ha j hj h
    · obtain rfl : j = k := by omega
      exact h2⟩
theorem rsegment_any (ao : Option Addr) (a : Addr) (c d : Nat) (n m : Nat) (es : List Ent) (is : List Ins) (sl : Int) (f t : Nat) (hn : es.length = n) (hm : is.length = m) (hz : n ≤ 1000000) (hm2 : m ≤ 1000000) (hft : f < t) (htm : t ≤ m)
    (hI : ∀ x ∈ is, I64 x.a ∧ x.s.length ≤ 140737488355328) (w : World) (he : es = [] ∨ ∃ a, ao = some a ∧ EntAt w a es) (hi : InsAt w a is) :
    KB 33 #[codeV (.slice ao n c) (.slice (some a) m d), .int .i64 sl, .int .i64 f, .int .i64 t] (.bool (segB es is sl f t)) w := by
  obtain ⟨R, hR⟩ : ∃ R, segB es is sl f t = R := ⟨_, rfl⟩
  rw [hR]
  obtain ⟨L, hL⟩ : ∃ L, segL is f t = L := ⟨_, rfl⟩
  have hlen : L.length = t - f := by rw [← hL]; exact segL_len (by omega) (by omega)
  have HL := Lib.hid hlen
  have HG := Lib.hid (show ∀ k (h : f + k < is.length) (hk : k < L.length), L[k] = is[f + k] by subst hL; exact fun k h hk => segL_get h hk)
  have HF := Lib.hid (show ∀ k (h : k < L.length), formB es sl f t L[k] = false → R = false by rw [← hR]; subst hL; exact fun k h h2 => seg_form h h2)
  have HS := Lib.hid (show ∀ k (h : k < L.length), stepB (dep L k) L[k] = false → R = false by rw [← hR]; subst hL; exact fun k h h2 => seg_bal (bal_step h h2))
  have HJ := Lib.hid (show ∀ k (h : k < L.length), jmpB L[k].op = true → dep L (L[k].a - f).toNat ≠ 0 → R = false by rw [← hR]; subst hL; exact fun k h h2 h3 => seg_bal (bal_jmp h h2 h3))
  obtain ⟨lop, hlop⟩ : ∃ z, (is[t - 1]'(by omega)).op = z := ⟨_, rfl⟩
  have HLC := Lib.hid (show w.cell? (a.add ((t - 1) * 4)) = some (.int .i64 lop) by rw [← hlop]; exact (insAt hi (t - 1) (by omega)).1)
  have HE := Lib.hid (show (∀ k (h : k < L.length), formB es sl f t L[k] = true ∧ stepB (dep L k) L[k] = true) → (∀ k (h : k < L.length), jmpB L[k].op = true → dep L (L[k].a - f).toNat = 0) → R = (lop == 11) by
    rw [← hR, ← hlop]; subst hL
    exact fun h h2 => seg_last (fun k hk => (h k hk).1) (bal_all (fun k hk => (h k hk).2) h2) (by omega))
  have HI := Lib.hid hI
  have HEN := Lib.hid hn; have HIN := Lib.hid hm
  have HFO := Lib.hid (fun x (hx : x ∈ is) w' (hb : Below w.heap.size w w') => rform_any ao (some a) n c m d es f t sl x (hI x hx).1 (hI x hx).2 hn hz w' (he.imp id fun ⟨a, e, y⟩ => ⟨a, e, y.below Ent.l_len hb⟩))
  obtain ⟨i1, ji, j0, j1, j2⟩ := int_info
  have HIA := Lib.hid hi
  clear hR hL hlen he hi hI hlop
  unfold KB codeV at *
  obtain ⟨w1, hw1⟩ : ∃ w1, w.alloc (.cells #[.slice ao n c, .slice (some a) m d] 25) = w1 := ⟨_, rfl⟩
  have HB1 := Lib.hid (show Below w.heap.size w w1 by rw [← hw1]; exact below_new _ _)
  have HM1 := Lib.hid (show w1.heap[w.heap.size]? = some (.cells #[.slice ao n c, .slice (some a) m d] 25) by rw [← hw1]; exact tok_new _ _)
  have HZ1 := Lib.hid (show w1.heap.size = w.heap.size + 1 by rw [← hw1]; exact tok_size _ _)
  have HW1 := Lib.hid hw1
  clear hw1 hn hm
  go_enter Try.func33, Try.ntmps33
  go_upto_region 1 with fail
  rw [HW1.out]
  clear HW1
  go_wp2_with fail
  have hst := Lib.hid (show RS1 (w.heap.size + 1) w1 L es sl f t (.int .i64 0) (.slice none 0 0) (.int .i64 (f : Int)) w1 from ⟨f, 0, none, 0, 0, rfl, rfl, rfl, Lib.hid rfl, Nat.le_refl _, by omega, by omega, by omega, by omega, Lib.hid (dep_0 L), World.ownsRow_nil _ _ _ _, Below.refl _ _, Lib.hid (fun j _ h => absurd h (by omega))⟩)
  go_loopw [9, 10, 11] (fun dv bv iv wr => RS1 (w.heap.size + 1) w1 L es sl f t dv bv iv wr) (fun _ _ iv _ => t - (intOf iv).toNat)
  case atStart => exact hst.out
  case round =>
    clear hst
    obtain ⟨q, k, bo, cap, D, rfl, rfl, rfl, hq, hfq, hqt, hk6, hD0, hD32, hD, hown, hbel, hall⟩ := hrel
    have hzr := hbel.size
    have HOW := Lib.hid hown; have HBE := Lib.hid hbel
    have HBW := Lib.hid (HB1.out.trans (hbel.mono (by omega)))
    have HMR := Lib.hid (below_keeps HM1.out (by omega) hbel)
    have HZR := Lib.hid (show w.heap.size + 1 ≤ wr.heap.size by have := HZ1.out; omega)
    clear hown hbel hzr
    obtain ⟨m0, m1⟩ := cells2 HMR.out
    by_cases hqn : q < t
    · have hkl : k < L.length := by have := HL.out; have := hq.out; omega
      have hki : q < is.length := by have := HIN.out; omega
      obtain ⟨c0, c1, c2, c3⟩ := insAt (HIA.out.below Ins.l_len HBW.out) q hki
      have hx : L[k] = is[q] := by
        have e := HG.out k (by have := hq.out; omega) hkl
        have e2 := hq.out
        subst e2
        exact e
      have hmem : is[q] ∈ is := List.getElem_mem _
      obtain ⟨x, hxx⟩ : ∃ x, is[q] = x := ⟨_, rfl⟩
      rw [hxx] at c0 c1 c2 c3 hx hmem
      obtain ⟨op, xa, xn, s⟩ := x
      dsimp only at c0 c1 c2 c3
      have hIx := HI.out _ hmem
      have HFX := Lib.hid (HFO.out _ hmem)
      obtain ⟨F, hF⟩ : ∃ F, formB es sl f t ⟨op, xa, xn, s⟩ = F := ⟨_, rfl⟩
      rw [hF] at HFX
      have HFF := Lib.hid (show F = false → R = false from fun h => HF.out k hkl (by rw [hx, hF]; exact h))
      have HFG := Lib.hid (show F = true → formB es sl f t L[k] = true from fun h => by rw [hx, hF]; exact h)
      have HX := Lib.hid hx
      have HC := Lib.hid (fun (h : F = true) w' => reffect_any ⟨op, xa, xn, s⟩ hIx.1 (fun h7 => form_q (HFG.out h) (by rw [hx]; exact h7) |> fun e => by rw [hx] at e; exact e) (fun h8 => form_d (HFG.out h) (by rw [hx]; exact h8) |> fun e => by rw [hx] at e; exact e) w')
      unfold KB Ins.v at HC
      unfold Ins.v at HFX
      dsimp only at HC HFX
      obtain ⟨T, hT⟩ : ∃ T, takeN ⟨op, xa, xn, s⟩ = T := ⟨_, rfl⟩
      obtain ⟨P, hP⟩ : ∃ P, putN ⟨op, xa, xn, s⟩ = P := ⟨_, rfl⟩
      have hT2 : takeN L[k] = T := by rw [hx]; exact hT
      have hP2 : putN L[k] = P := by rw [hx]; exact hP
      have hO2 : L[k].op = op := by rw [hx]
      rw [hT, hP] at HC
      have HTK := Lib.hid (show F = true → 0 ≤ T ∧ T ≤ 3 ∧ 0 ≤ P ∧ P ≤ 1 from fun h => by
        have a := take_le (HFG.out h); have b := putN_le L[k]
        rw [hT2] at a; rw [hP2] at b
        exact ⟨a.1, a.2, b.1, b.2⟩)
      obtain ⟨Z, hZ⟩ : ∃ Z, stmB op = Z := ⟨_, rfl⟩
      have HRS := Lib.hid (rstatement_any op)
      rw [hZ] at HRS
      unfold KC at HRS
      have HBAD := Lib.hid (show ¬ (T ≤ D ∧ D + (P - T) ≤ 32 ∧ (Z = true → D + (P - T) = 0)) → R = false from fun h => HS.out k hkl (by
        rw [← Bool.not_eq_true, step_iff, hD.out, hT2, hP2, hO2, hZ]; exact h))
      have HNX := Lib.hid (show ∀ (wr' : World) (g cap : Nat), F = true → T ≤ D ∧ D + (P - T) ≤ 32 ∧ (Z = true → D + (P - T) = 0) → wr'.ownsRow (w.heap.size + 1) 3 1 (.slice (some ⟨g, 0, none⟩) (k + 1) cap) (k + 1) (depVs L k ++ [.int .i64 D]) → Below (w.heap.size + 1) w1 wr' →
          RS1 (w.heap.size + 1) w1 L es sl f t (.int .i64 (D - T + P)) (.slice (some ⟨g, 0, none⟩) (k + 1) cap) (.int .i64 ((q + 1 : Nat) : Int)) wr' from
        fun wr' g cap hf hst ho hb => rs1_next HL.out hq.out hqn (by omega) hkl (by rw [hP2, hT2, hD.out]; omega) (by rw [hD.out]; exact ho) hb hall.out (HFG.out hf) (by rw [step_iff, hD.out, hT2, hP2, hO2, hZ]; exact hst))
      have e1 : (0 : Int) ≤ (q : Int) := by omega
      have e2 : (q : Int) < (t : Int) := by omega
      have e3 : (q : Int) < (m : Int) := by omega
      have hmeas : t - (q + 1) < t - q := by omega
      clear hxx hx hT hP hT2 hP2 hO2 HF HS HJ HE hall hF hZ HFO HI hmem hIx HFG HX
      generalize str s = S at *
      go_upto_region 7 with fail
      obtain ⟨w2, hw2⟩ : ∃ w2, wr.alloc (.cells #[.int .i64 op, .int .i64 xa, .int .i64 xn, .string S] 71) = w2 := ⟨_, rfl⟩
      have HI2 := Lib.hid (show w2.heap[wr.heap.size]? = some (.cells #[.int .i64 op, .int .i64 xa, .int .i64 xn, .string S] 71) by rw [← hw2]; exact tok_new _ _)
      have HBB2 := Lib.hid (show Below wr.heap.size wr w2 by rw [← hw2]; exact below_new _ _)
      have HB2 := Lib.hid (HBE.out.trans (HBB2.out.mono HZR.out))
      have HO2 := Lib.hid (show w2.ownsRow (w.heap.size + 1) 3 1 (.slice bo k cap) k (depVs L k) by rw [← hw2]; exact HOW.out.alloc _)
      have HZ2 := Lib.hid (show w.heap.size + 1 ≤ w2.heap.size from Nat.le_trans HZR.out HBB2.out.size)
      have HM2 := Lib.hid (block_below HBB2.out HMR.out)
      rw [hw2]
      clear hw2 c0 c1 c2 c3 m0 m1
      obtain ⟨m0, m1⟩ := cells2 HM2.out
      obtain ⟨i0, i1, i2, i3⟩ := blk4 HI2.out
      go_wp2_with fail
      refine (HFX.out w2 (HBW.out.trans (HBB2.out.mono (by have := HZR.out; omega)))).mono ?_
      rintro e w3 ⟨rfl, hb3⟩
      have HB3 := Lib.hid (HB2.out.trans (hb3.mono HZ2.out))
      have HI3 := Lib.hid (block_below hb3 HI2.out)
      have HO3 := Lib.hid (ownsRow_below HO2.out hb3)
      have HZ3 := Lib.hid (show w.heap.size + 1 ≤ w3.heap.size from Nat.le_trans HZ2.out hb3.size)
      have HW3 := Lib.hid (HB1.out.trans (HB3.out.mono (by omega)))
      clear hb3 HB2 HI2 HO2 HZ2 HM2 m0 m1 i0 i1 i2 i3 HFX HBB2 HBE
      cases F
      · have HR := Lib.hid (HFF.out rfl)
        clear HC HTK HNX HBAD HFF
        go_wp2_with fail
        go_ret
        exact ⟨by rw [HR.out]; rfl, HW3.out⟩
      have HNE := Lib.hid (show (Value.slice bo k cap).ownBlock ≠ some wr.heap.size from fun e => by have := (HOW.out.lt _ e).2; omega)
      obtain ⟨t0, t1, p0, p1⟩ := HTK.out rfl
      replace HC := Lib.hid (HC.out rfl)
      replace HNX := Lib.hid (fun wr' g cap => HNX.out wr' g cap rfl)
      clear HTK HFF HOW
      go_upto_region 10 with (at_builtin; go_must (refine wpList_append_lies _ rfl _ _ 58 rfl (w.heap.size + 1) 3 i1 (.int .i64 0) 1 8 Try.underlying58 ji j0 j1 j2 rfl (by decide) _ _ _ rfl (HO3.out.alloc _) ⟨w3.heap.size, 0, none⟩ 1 1 [.int .i64 D] rfl rfl (World.news_of_block (heap_alloc_new _ _)) (one_int D) (by omega) (by unfold maxLen; omega) (by omega) (by have := HZ3.out; first | omega | (simp; omega)) _ rfl ?_))
      intro g cap2 w4 hown4 hgrow hat hlt
      have HO4 := Lib.hid hown4
      have HB4 := Lib.hid ((HB3.out.alloc HZ3.out _).grown hgrow (by have := HZ3.out; simp; omega) (fun j hj => (HO3.out.lt j hj).1))
      have HI4 := Lib.hid (grown_keeps2 (alloc_keeps HI3.out _) hgrow HNE.out)
      have HZ4 := Lib.hid (show w.heap.size + 1 ≤ w4.heap.size from Nat.le_trans (by have := HZ1.out; omega) HB4.out.size)
      clear hown4 hgrow hat hlt HO3 HB3 HI3 HZ3 HW3 HNE
      obtain ⟨k0, k1, k2, k3⟩ := blk4 HI4.out
      go_upto_region 11 with fail
      refine (HC.out w4).mono ?_
      rintro e w5 ⟨rfl, hb5⟩
      have HB5 := Lib.hid (HB4.out.trans (hb5.mono HZ4.out))
      have HI5 := Lib.hid (block_below hb5 HI4.out)
      have HO5 := Lib.hid (ownsRow_below HO4.out hb5)
      have HW5 := Lib.hid (HB1.out.trans (HB5.out.mono (by omega)))
      clear hb5 HB4 HI4 HO4 HZ4 HC k0 k1 k2 k3
      by_cases h1 : D < T
      · have HR := Lib.hid (HBAD.out (fun h => by omega))
        clear HNX HBAD HRS
        go_wp2_with fail
        go_ret
        exact ⟨by rw [HR.out]; rfl, HW5.out⟩
      obtain ⟨k0, k1, k2, k3⟩ := blk4 HI5.out
      by_cases h2 : 32 < D - T + P
      · have HR := Lib.hid (HBAD.out (fun h => by omega))
        clear HNX HBAD
        go_wp2_with fail
        go_ret
        exact ⟨by rw [HR.out]; rfl, HW5.out⟩
      have hc : (Z = true ∧ D - T + P ≠ 0) ∨ (Z = true ∧ D - T + P = 0) ∨ Z = false := by
        cases Z
        · exact Or.inr (Or.inr rfl)
        · by_cases h : D - T + P = 0
          · exact Or.inr (Or.inl ⟨rfl, h⟩)
          · exact Or.inl ⟨rfl, h⟩
      rcases hc with ⟨rfl, hz⟩ | ⟨rfl, hz⟩ | rfl
      · have HR := Lib.hid (HBAD.out (fun h => hz (by have := h.2.2 rfl; omega)))
        have hz2 : (D - T + P != 0) = true := by rw [bne_iff_ne]; exact hz
        clear HNX HBAD hz
        go_wp2_with fail
        refine (HRS.out _).mono ?_
        rintro e w6 ⟨rfl, rfl⟩
        go_wp2_with fail
        go_ret
        exact ⟨by rw [HR.out]; rfl, HW5.out⟩
      · have HREL := Lib.hid (HNX.out w5 g cap2 ⟨by omega, by omega, fun _ => by omega⟩ HO5.out HB5.out)
        rw [hz] at HREL
        clear HNX HBAD
        go_wp2_with fail
        refine (HRS.out _).mono ?_
        rintro e w6 ⟨rfl, rfl⟩
        go_wp2_with fail
        go_roundw
        case rel => exact HREL.out
        case measure => simp [intOf]; omega
      · have HREL := Lib.hid (HNX.out w5 g cap2 ⟨by omega, by omega, fun h => by cases h⟩ HO5.out HB5.out)
        clear HNX HBAD
        go_wp2_with fail
        refine (HRS.out _).mono ?_
        rintro e w6 ⟨rfl, rfl⟩
        go_wp2_with fail
        go_roundw
        case rel => exact HREL.out
        case measure => simp [intOf]; omega
    · obtain rfl : q = t := by omega
      obtain rfl : k = L.length := by have := HL.out; have := hq.out; omega
      have hfin := Lib.hid (show ∀ j (hj : j < L.length), formB es sl f q L[j] = true ∧ stepB (dep L j) L[j] = true from fun j hj => hall.out j hj hj)
      obtain ⟨g, cap', hv, hg0, hg1⟩ := HOW.out.form (by have := HL.out; omega)
      injection hv with hv1 hv2 hv3
      subst hv1
      have HLE := Lib.hid HL.out
      replace HE := Lib.hid (HE.out hfin.out)
      clear hD hq HS hall HFO HF hv3
      go_wp2_with fail
      have hst2 := Lib.hid (show RS2 (w.heap.size + 1) wr L f q g cap (.int .i64 (f : Int)) wr from ⟨f, 0, rfl, Lib.hid rfl, Nat.le_refl _, by omega, HOW.out, Below.refl _ _, Lib.hid (fun j _ h => absurd h (by omega))⟩)
      have HBE1 := HBE
      clear HOW HBE m0 m1
      go_loopw [15] (fun iv wr2 => RS2 (w.heap.size + 1) wr L f q g cap iv wr2) (fun iv _ => q - (intOf iv).toNat)
      case atStart => exact hst2.out
      case round =>
        clear hst2
        obtain ⟨p, k, rfl, hp, hfp, hpq, hown, hbel, hall⟩ := hrel
        have hzr := hbel.size
        have HOW := Lib.hid hown
        have HBX := Lib.hid (hbel.trans (Below.refl _ wr))
        have HWR := Lib.hid (HBW.out.trans (hbel.mono (by omega)))
        have HMS := Lib.hid (below_keeps HMR.out (by omega) hbel)
        have HZS := Lib.hid (Nat.le_trans HZR.out hzr)
        clear hown hbel hzr
        obtain ⟨m0, m1⟩ := cells2 HMS.out
        by_cases hpn : p < q
        · have hkl : k < L.length := by have := HL.out; have := hp.out; omega
          have hki : p < is.length := by have := HIN.out; omega
          obtain ⟨c0, c1, c2, c3⟩ := insAt (HIA.out.below Ins.l_len HWR.out) p hki
          have hx : L[k] = is[p] := by
            have e := HG.out k (by have := hp.out; have := HIN.out; omega) hkl
            have e2 := hp.out
            subst e2
            exact e
          obtain ⟨x, hxx⟩ : ∃ x, is[p] = x := ⟨_, rfl⟩
          rw [hxx] at c0 c1 c2 c3 hx
          obtain ⟨op, xa, xn, s⟩ := x
          dsimp only at c0 c1 c2 c3
          have hO2 : L[k].op = op := by rw [hx]
          have hA2 : L[k].a = xa := by rw [hx]
          have HFJ := Lib.hid (show jmpB op = true → (f : Int) ≤ xa ∧ xa < (q : Int) from fun h => by
            have := form_j (hfin.out k hkl).1 (by rw [hO2]; exact h)
            rw [hA2] at this
            exact this)
          have HBAD := Lib.hid (show jmpB op = true → dep L (xa - f).toNat ≠ 0 → R = false from fun h h2 => HJ.out k hkl (by rw [hO2]; exact h) (by rw [hA2]; exact h2))
          have HNX := Lib.hid (show ∀ wr' : World, (jmpB op = true → dep L (xa - f).toNat = 0) → wr'.ownsRow (w.heap.size + 1) 3 1 (.slice (some ⟨g, 0, none⟩) L.length cap) L.length (depVs L L.length) → Below (w.heap.size + 1) wr wr' → RS2 (w.heap.size + 1) _ L f q g cap (.int .i64 ((p + 1 : Nat) : Int)) wr' from
            fun wr' h ho hb => rs2_next hp.out hpn hkl ho (HBX.out.trans hb) hall.out (by rw [hO2, hA2]; exact h))
          have e1 : (0 : Int) ≤ (p : Int) := by omega
          have e2 : (p : Int) < (q : Int) := by omega
          have e3 : (p : Int) < (m : Int) := by omega
          generalize str s = S at c3
          have hmeas : q - (p + 1) < q - p := by omega
          have hLL := HL.out
          clear hxx hx hO2 hA2 HJ hall
          go_upto_region 20 with fail
          obtain ⟨w3, hw3⟩ : ∃ w3, wr.alloc (.cells #[.int .i64 op, .int .i64 xa, .int .i64 xn, .string S] 71) = w3 := ⟨_, rfl⟩
          have HI3 := Lib.hid (show w3.heap[wr.heap.size]? = some (.cells #[.int .i64 op, .int .i64 xa, .int .i64 xn, .string S] 71) by rw [← hw3]; exact tok_new _ _)
          have HB3 := Lib.hid (show Below (w.heap.size + 1) wr w3 by rw [← hw3]; exact (Below.refl _ _).alloc HZS.out _)
          have HO3 := Lib.hid (show w3.ownsRow (w.heap.size + 1) 3 1 (.slice (some ⟨g, 0, none⟩) L.length cap) L.length (depVs L L.length) by rw [← hw3]; exact HOW.out.alloc _)
          rw [hw3]
          have HW3 := Lib.hid (HWR.out.trans (HB3.out.mono (by omega)))
          clear hw3 c0 c1 c2 c3 m0 m1
          obtain ⟨i0, i1', i2, i3⟩ := blk4 HI3.out
          have hc : (op = 5 ∨ op = 6) ∨ ((op == 5) = false ∧ (op == 6) = false) := by
            simp only [beq_eq_false_iff_ne]; omega
          rcases hc with hc | ⟨n1, n2⟩
          · have hj : jmpB op = true := by rcases hc with rfl | rfl <;> rfl
            obtain ⟨f1, f2⟩ := HFJ.out hj
            obtain ⟨j, rfl⟩ : ∃ j : Nat, xa = (f : Int) + j := ⟨(xa - f).toNat, by omega⟩
            have hjl : j < L.length := by omega
            have hje : ((f : Int) + (j : Int) - f).toNat = j := by omega
            have hcl : w3.cell? ⟨g, j, none⟩ = some (.int .i64 (dep L j)) := by
              rw [← depVs_get (L := L) hjl]
              exact HO3.out.cellAt j (by omega)
            have g1 : (0 : Int) ≤ (j : Int) := by omega
            have g2 : (j : Int) < (L.length : Int) := by omega
            rw [hje] at HBAD HNX
            by_cases hz : dep L j = 0
            · have HREL := Lib.hid (HNX.out w3 (fun _ => hz) HO3.out HB3.out)
              rw [hz] at hcl
              clear HNX HBAD hz hLL hj
              rcases hc with rfl | rfl
              all_goals
                go_wp2_with fail
                go_roundw
                case rel => exact HREL.out
                case measure => simp [intOf]; omega
            · have HR := Lib.hid (HBAD.out hj hz)
              generalize dep L j = E at *
              clear HNX HBAD hLL hj
              rcases hc with rfl | rfl
              all_goals
                go_wp2_with fail
                go_ret
                exact ⟨by rw [HR.out]; rfl, HW3.out⟩
          · have HREL := Lib.hid (HNX.out w3 (fun h => by unfold jmpB at h; rw [n1, n2] at h; cases h) HO3.out HB3.out)
            clear HNX HBAD HFJ hLL
            go_wp2_with fail
            go_roundw
            case rel => exact HREL.out
            case measure => simp [intOf]; omega
        · have HR := Lib.hid (HE.out (fun j hj h => hall.out j hj (by have := HL.out; have := hp.out; omega) h))
          have hlc := HLC.out
          replace hlc := cell_below HWR.out hlc
          have g1 : (1 : Int) ≤ (q : Int) := by omega
          have g2 : (0 : Int) ≤ ((q - 1 : Nat) : Int) := by omega
          have g3 : ((q - 1 : Nat) : Int) < (m : Int) := by omega
          have g4 : ((q - 1 : Nat) : Int) = (q : Int) - 1 := by omega
          go_wp2_with fail
          go_ret
          exact ⟨by rw [HR.out]; rfl, HWR.out⟩
end Go.Proofs.Ytcicbijpiffbkaa
