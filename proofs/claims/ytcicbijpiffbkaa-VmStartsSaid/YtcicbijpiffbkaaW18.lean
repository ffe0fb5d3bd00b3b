/- Walks: the entry of an instruction, the reference's side. -/
import Derived.Test.YtcicbijpiffbkaaW17
import Derived.Test.YtcicbijpiffbkaaP6
namespace Go.Proofs.Ytcicbijpiffbkaa
open Go.RowKit
set_option linter.unusedVariables false
set_option linter.unusedSimpArgs false
set_option maxRecDepth 100000
set_option maxHeartbeats 8000000

abbrev entO (x : Ent) : Obj := .cells #[.string (str x.n), .int .i64 x.at', .int .i64 x.sl] 68
abbrev codeO (ev iv : Value) : Obj := .cells #[ev, iv] 25
theorem blk3f {w : World} {g t : Nat} {a b c : Value} (h : w.heap[g]? = some (.cells #[a, b, c] t)) : (w.cell? ⟨g, 0, none⟩ = some a ∧ w.cell? ⟨g, 1, none⟩ = some b ∧ w.cell? ⟨g, 2, none⟩ = some c) ∧ (w.frozen? ⟨g, 0, none⟩ = false ∧ w.frozen? ⟨g, 1, none⟩ = false ∧ w.frozen? ⟨g, 2, none⟩ = false) :=
  ⟨blk3 h, by rw [Lib.frozen_of_heap h], by rw [Lib.frozen_of_heap h], by rw [Lib.frozen_of_heap h]⟩
abbrev st3 (w : World) (rb : Nat) (a b c : Value) : World := ((w.setCell ⟨rb, 0, none⟩ a).setCell ⟨rb, 1, none⟩ b).setCell ⟨rb, 2, none⟩ c
theorem st3_below {w wv : World} {B rb : Nat} {a b c : Value} (h : Below B w wv) (hB : B ≤ rb) : Below B w (st3 wv rb a b c) := ((h.setCell hB _).setCell hB _).setCell hB _
theorem st3_at {w : World} {rb : Nat} {a b c a' b' c' : Value} {t : Nat} (h : w.heap[rb]? = some (.cells #[a', b', c'] t)) : (st3 w rb a b c).heap[rb]? = some (.cells #[a, b, c] t) := by
  have h1 := heap_setCell_same _ rb 0 _ t a h
  have h2 := heap_setCell_same _ rb 1 _ t b h1
  have h3 := heap_setCell_same _ rb 2 _ t c h2
  exact h3
theorem st3_ne {w : World} {rb g : Nat} {a b c : Value} (hg : g ≠ rb) : (st3 w rb a b c).heap[g]? = w.heap[g]? := by
  unfold st3
  rw [Below.heap_setCell _ _ _ _ hg, Below.heap_setCell _ _ _ _ hg, Below.heap_setCell _ _ _ _ hg]
theorem st3_size (w : World) (rb : Nat) (a b c : Value) : (st3 w rb a b c).heap.size = w.heap.size := by simp [st3, World.setCell]
/-- The worlds of entry's loop: the code, the result, the entry so far. -/
def RE (w : World) (ev iv : Value) (x : Ent) (wr : World) : Prop :=
  wr.heap[w.heap.size]? = some (codeO ev iv) ∧ wr.heap[w.heap.size + 1]? = some (entO ent0) ∧ wr.heap[w.heap.size + 2]? = some (entO x) ∧ Below w.heap.size w wr
theorem re_next {w wr : World} {ev iv : Value} {x y : Ent} (h : RE w ev iv x wr) : RE w ev iv y (st3 wr (w.heap.size + 2) (.string (str y.n)) (.int .i64 y.at') (.int .i64 y.sl)) := by
  obtain ⟨h1, h2, h3, h4⟩ := h
  exact ⟨by rw [st3_ne (by omega)]; exact h1, by rw [st3_ne (by omega)]; exact h2, st3_at h3, st3_below h4 (by omega)⟩
theorem re_start (w : World) (ev iv : Value) : RE w ev iv ent0 (((w.alloc (codeO ev iv)).alloc (entO ent0)).alloc (entO ent0)) := by
  have h1 : (w.alloc (codeO ev iv)).heap[w.heap.size]? = some (codeO ev iv) := tok_new _ _
  have h2 : ((w.alloc (codeO ev iv)).alloc (entO ent0)).heap[w.heap.size + 1]? = some (entO ent0) := by
    have h := tok_new (w.alloc (codeO ev iv)) (entO ent0)
    rw [tok_size] at h
    exact h
  refine ⟨alloc_keeps (alloc_keeps h1 _) _, alloc_keeps h2 _, ?_, ((below_new _ _).alloc (by simp) _).alloc (by simp; omega) _⟩
  have h := tok_new ((w.alloc (codeO ev iv)).alloc (entO ent0)) (entO ent0)
  rw [tok_size, tok_size] at h
  exact h
theorem rentry39_any (ao : Option Addr) (iv : Value) (c n : Nat) (es : List Ent) (t : Int) (hn : es.length = n) (hz : n ≤ 1000000) (w : World) (he : es = [] ∨ ∃ a, ao = some a ∧ EntAt w a es) :
    KB 25 #[codeV (.slice ao n c) iv, .int .i64 t] (entA es t).v w := by
  have HEA := Lib.hid he; have HEN := Lib.hid hn
  have HRA := Lib.hid (show entP es t n = entA es t by rw [← hn, entP_all])
  obtain ⟨⟨rn, ra, rl⟩, hR⟩ : ∃ R, entA es t = R := ⟨_, rfl⟩
  rw [hR] at HRA ⊢
  clear he hn hR
  unfold KB codeV Ent.v
  dsimp only
  obtain ⟨w3, hw3⟩ : ∃ w3, (((w.alloc (.cells #[.slice ao n c, iv] 25)).alloc (.cells #[.string ⟨#[]⟩, .int .i64 0, .int .i64 0] 68)).alloc (.cells #[.string ⟨#[]⟩, .int .i64 0, .int .i64 0] 68)) = w3 := ⟨_, rfl⟩
  have HRE := Lib.hid (show RE w (.slice ao n c) iv (entP es t 0) w3 by rw [← hw3]; exact re_start w _ _)
  have HW3 := Lib.hid hw3
  clear hw3
  go_enter Try.func25, Try.ntmps25
  go_upto_region 2 with fail
  rw [HW3.out]
  clear HW3
  go_wp2_with fail
  go_loopw [6] (fun v wr => ∃ k : Nat, k ≤ n ∧ v = .int .i64 (k : Int) ∧ RE w (.slice ao n c) iv (entP es t k) wr) (fun v _ => n - (intOf v).toNat)
  case atStart => exact ⟨0, by omega, rfl, HRE.out⟩
  case round =>
    clear HRE
    obtain ⟨k, hk, rfl, hre⟩ := hrel
    have HRE := Lib.hid hre
    have HE := Lib.hid hre.2.2.2
    obtain ⟨m0, m1⟩ := cells2 hre.1
    clear hre
    by_cases hkn : k < n
    · have hkl : k < es.length := by have := HEN.out; omega
      obtain ⟨a, rfl, hat⟩ : ∃ a, ao = some a ∧ EntAt w a es := HEA.out.resolve_left (fun h => by rw [h] at hkl; simp at hkl)
      obtain ⟨c0, c1, c2⟩ := entAt (hat.below Ent.l_len HE.out) k hkl
      have hps := entP_s (a := t) hkl
      obtain ⟨⟨en, ea, el⟩, hx⟩ : ∃ x, es[k] = x := ⟨_, rfl⟩
      rw [hx] at c0 c1 c2 hps
      dsimp only at c0 c1 c2 hps
      have e1 : (0 : Int) ≤ ((k : Int)) := by omega
      have e2 : (k : Int) < (n : Int) := by omega
      have hmeas : n - (k + 1) < n - k := by omega
      obtain ⟨⟨y0, y1, y2⟩, z0, z1, z2⟩ := blk3f HRE.out.2.2.1
      have hzs := heap_lt HRE.out.2.2.1
      clear hx hat
      by_cases hle : ea ≤ t
      · rw [if_pos hle] at hps
        have HN := Lib.hid (show RE w (.slice (some a) n c) iv (entP es t (k + 1)) (st3 wr (w.heap.size + 2) (.string (str en)) (.int .i64 ea) (.int .i64 el)) by rw [hps]; exact re_next HRE.out)
        clear hps
        generalize str en = S at *
        go_wp2_with fail
        go_roundw
        case rel => exact ⟨k + 1, by omega, by go_num, HN.out⟩
        case measure => simp [intOf]; omega
      · rw [if_neg hle] at hps
        have HN := Lib.hid (show RE w (.slice (some a) n c) iv (entP es t (k + 1)) wr by rw [hps]; exact HRE.out)
        clear hps
        generalize str en = S at *
        go_wp2_with fail
        go_roundw
        case rel => exact ⟨k + 1, by omega, by go_num, HN.out⟩
        case measure => simp [intOf]; omega
    · obtain rfl : k = n := by omega
      have hre := HRE.out
      rw [HRA.out] at hre
      obtain ⟨⟨y0, y1, y2⟩, z0, z1, z2⟩ := blk3f hre.2.2.1
      obtain ⟨⟨r0, r1, r2⟩, s0, s1, s2⟩ := blk3f hre.2.1
      have hzs := heap_lt hre.2.2.1
      have e2 : ¬ (k : Int) < (k : Int) := by omega
      have hzr := heap_lt hre.2.1
      clear hre
      go_wp2_with fail
      exact bodyPost_ret (v := .agg #[.string (str rn), .int .i64 ra, .int .i64 rl]) (by simp [results, Try.results25, go_sem, r0, r1, r2, s0, s1, s2, hzr]) rfl ⟨rfl, st3_below HE.out (by omega)⟩
theorem field_at (S : ByteArray) (f l : Int) (w : World) : (Instr.field 68 (.agg #[.string S, .int .i64 f, .int .i64 l]) 1).run Try.prog w = .ok (.int .i64 f) w := by kernel_rfl
theorem field_sl (S : ByteArray) (f l : Int) (w : World) : (Instr.field 68 (.agg #[.string S, .int .i64 f, .int .i64 l]) 2).run Try.prog w = .ok (.int .i64 l) w := by kernel_rfl
theorem Depth_any (ao : Option Addr) (a : Addr) (c d n m f t : Nat) (es : List Ent) (is : List Ins) (hn : es.length = n) (hm : is.length = m) (hz : n ≤ 1000000) (hz2 : m ≤ 1000000) (hf : (entA es t).at' = (f : Int)) (hft : f ≤ t) (htm : t ≤ m) (w : World) (he : es = [] ∨ ∃ a, ao = some a ∧ EntAt w a es) (hi : InsAt w a is) :
    KB 26 #[codeV (.slice ao n c) (.slice (some a) m d), .int .i64 t] (.int .i64 (sumD (segL is f t))) w := by
  have HIA := Lib.hid hi; have HIN := Lib.hid hm
  have HEN := Lib.hid (fun w' (hb : Below w.heap.size w w') => rentry39_any ao (.slice (some a) m d) c n es t hn hz w' (he.imp id fun ⟨a, e, y⟩ => ⟨a, e, y.below Ent.l_len hb⟩))
  obtain ⟨⟨rn, ra, rl⟩, hR⟩ : ∃ R, entA es t = R := ⟨_, rfl⟩
  rw [hR] at HEN hf
  dsimp only at hf
  subst hf
  have HCH := Lib.hid reffect39_any
  have hfe := field_at
  clear hn hm he hi hR
  unfold KB codeV Ent.v at HEN
  unfold KB codeV
  dsimp only at HEN
  generalize str rn = S at *
  obtain ⟨w1, hw1⟩ : ∃ w1, w.alloc (.cells #[.slice ao n c, .slice (some a) m d] 25) = w1 := ⟨_, rfl⟩
  have HB1 := Lib.hid (show Below w.heap.size w w1 by rw [← hw1]; exact below_new _ _)
  have HM1 := Lib.hid (show w1.heap[w.heap.size]? = some (.cells #[.slice ao n c, .slice (some a) m d] 25) by rw [← hw1]; exact tok_new _ _)
  have HZ1 := Lib.hid (show w1.heap.size = w.heap.size + 1 by rw [← hw1]; exact tok_size _ _)
  have HW1 := Lib.hid hw1
  clear hw1
  go_enter Try.func26, Try.ntmps26
  go_upto_region 1 with fail
  rw [HW1.out]
  clear HW1
  obtain ⟨m0, m1⟩ := cells2 HM1.out
  go_wp2_with fail
  refine (HEN.out w1 HB1.out).mono ?_
  rintro e w2 ⟨rfl, hb2⟩
  have HB2 := Lib.hid (hb2.mono (show w.heap.size + 1 ≤ w1.heap.size by have := HZ1.out; omega))
  clear hb2 m0 m1
  go_wp2_with fail
  go_loopw [5, 6] (fun dv iv wr => ∃ (q : Nat) (D : Int), f ≤ q ∧ q ≤ t ∧ dv = .int .i64 D ∧ iv = .int .i64 (q : Int) ∧ -3000000 ≤ D ∧ D ≤ 3000000 ∧ Below (w.heap.size + 1) w1 wr ∧ Hid (sumD (segL is f q) = D)) (fun _ iv _ => t - (intOf iv).toNat)
  case atStart => exact ⟨f, 0, Nat.le_refl _, hft, rfl, rfl, by omega, by omega, HB2.out, Lib.hid (dep_start is f)⟩
  case round =>
    clear HB2
    obtain ⟨q, D, hfq, hqt, rfl, rfl, hD1, hD2, hbel, hD⟩ := hrel
    have HBE := Lib.hid hbel
    have HBW := Lib.hid (HB1.out.trans (hbel.mono (by omega)))
    have HMR := Lib.hid (below_keeps HM1.out (by omega) hbel)
    have HZR := Lib.hid (show w.heap.size + 1 ≤ wr.heap.size by have := HZ1.out; have := hbel.size; omega)
    clear hbel
    obtain ⟨m0, m1⟩ := cells2 HMR.out
    by_cases hqn : q < t
    · have hql : q < is.length := by have := HIN.out; omega
      obtain ⟨c0, c1, c2, c3⟩ := insAt (HIA.out.below Ins.l_len HBW.out) q hql
      have hds := dep_step hfq hql
      have hsl := sumD_le (segL is f (q + 1))
      have hll := segL_len (is := is) (show f ≤ q + 1 by omega) (by omega)
      have hdl := delta_le is[q]
      obtain ⟨x, hx⟩ : ∃ x, is[q] = x := ⟨_, rfl⟩
      rw [hx] at c0 c1 c2 c3 hds hdl
      have HC := Lib.hid (HCH.out x)
      obtain ⟨G, hG⟩ : ∃ G, delta x = G := ⟨_, rfl⟩
      rw [hG] at hds hdl HC
      rw [hD.out] at hds
      obtain ⟨d1, d2⟩ := hdl
      have HDS := Lib.hid (show sumD (segL is f (q + 1)) = D + G ∧ -3000000 ≤ D + G ∧ D + G ≤ 3000000 from ⟨hds, by omega, by omega⟩)
      obtain ⟨op, xa, xn, s⟩ := x
      dsimp only at c0 c1 c2 c3
      unfold KB Ins.v at HC
      dsimp only at HC
      generalize str s = SS at *
      have e1 : (0 : Int) ≤ (q : Int) := by omega
      have e2 : (q : Int) < (t : Int) := by omega
      have e3 : (q : Int) < (m : Int) := by omega
      have hmeas : t - (q + 1) < t - q := by omega
      clear hx hds hsl hll hG
      go_wp2_with fail
      refine (HC.out _).mono ?_
      rintro e w3 ⟨rfl, hb3⟩
      have HB3 := Lib.hid (HBE.out.trans (hb3.mono HZR.out))
      clear hb3 m0 m1 c0 c1 c2 c3
      go_wp2_with fail
      go_roundw
      case rel => exact ⟨q + 1, D + G, by omega, by omega, rfl, by go_num, HDS.out.2.1, HDS.out.2.2, HB3.out, Lib.hid HDS.out.1⟩
      case measure => simp [intOf]; omega
    · obtain rfl : q = t := by omega
      have e2 : ¬ (q : Int) < (q : Int) := by omega
      have HD := hD
      clear hD
      go_wp2_with fail
      go_ret
      exact ⟨by rw [HD.out]; rfl, HBW.out⟩
end Go.Proofs.Ytcicbijpiffbkaa
