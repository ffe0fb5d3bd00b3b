/- Walks: the reference's rows. Walks: the reference's rows, of heights. -/
import Derived.Test.YtmiceolkmiiahaaGreatDoorV2
import Derived.Deep.CutRange
import Derived.Deep.Cut
import Derived.BigQuiet
namespace Go.Proofs.YtmiceolkmiiahaaGreatDoor
open Go.RowKit
set_option linter.unusedVariables false
set_option linter.unusedSimpArgs false
set_option maxRecDepth 100000
set_option maxHeartbeats 8000000

def RowRes (B q N c : Nat) (cs' : List Cel) (ok : Bool) (w : World) (en : Ending) (w' : World) : Prop :=
  en = .returned (.bool ok) ∧ (ok = true → w'.ownsRow B 41 3 (.slice (some ⟨q, 0, none⟩) N c) N (cellsOf Cel.l cs')) ∧ Fr q q w w'
theorem all_takeP {p : UInt8 → Bool} {l : List UInt8} {k : Nat} (hk : k < l.length) (h1 : (l.take k).all p = true) (h2 : p l[k] = true) : (l.take (k + 1)).all p = true := by
  rw [List.take_succ_eq_append_getElem hk, List.all_append, h1]
  simp [h2]
theorem all_no {p : UInt8 → Bool} {l : List UInt8} {k : Nat} (hk : k < l.length) (h2 : p l[k] = false) : l.all p = false := by
  rw [List.all_eq_false]
  exact ⟨l[k], List.getElem_mem hk, by rw [h2]; simp⟩
theorem row_k {w : World} {B q N c b i k : Nat} {cs : List Cel} {l : List UInt8} (hk : k < l.length) (hi : b + k = i) (hil : i < cs.length) (hcl : cs.length = N) (ho : w.ownsRow B 41 3 (.slice (some ⟨q, 0, none⟩) N c) N (cellsOf Cel.l (kset cs b (l.take k)))) (p : Addr) (hp : p = ⟨q, i * 3, none⟩) :
    (w.setCell p (.int .i64 (kindI l[k]))).ownsRow B 41 3 (.slice (some ⟨q, 0, none⟩) N c) N (cellsOf Cel.l (kset cs b (l.take (k + 1)))) := by
  subst hp
  have h1 := (ho.stored (i * 3 + 0) (.int .i64 (kindI l[k]))).1
  have hil' : i < (kset cs b (l.take k)).length := by rw [kset_len]; exact hil
  rw [cells_set _ i _ (List.getElem?_eq_getElem hil') 0 (by omega) _ ⟨kindI l[k], (kset cs b (l.take k))[i].h, (kset cs b (l.take k))[i].a⟩ rfl] at h1
  have h2 := kset_snoc (l.take k) l[k] cs b
  rw [← List.take_succ_eq_append_getElem hk, List.length_take, Nat.min_eq_left (by omega), hi, List.getElem?_eq_getElem hil'] at h2
  rw [h2]
  exact h1
theorem row_h {w : World} {B q N c b i k : Nat} {cs : List Cel} {l : List UInt8} (hk : k < l.length) (hi : b + k = i) (hil : i < cs.length) (hcl : cs.length = N) (ho : w.ownsRow B 41 3 (.slice (some ⟨q, 0, none⟩) N c) N (cellsOf Cel.l (hset cs b (l.take k)))) (p : Addr) (hp : p.block = q ∧ p.off = i * 3) :
    (w.setCell ⟨p.block, p.off + 1, none⟩ (.int .i64 (highI l[k]))).ownsRow B 41 3 (.slice (some ⟨q, 0, none⟩) N c) N (cellsOf Cel.l (hset cs b (l.take (k + 1)))) := by
  rw [hp.1, hp.2]
  have h1 := (ho.stored (i * 3 + 1) (.int .i64 (highI l[k]))).1
  have hil' : i < (hset cs b (l.take k)).length := by rw [hset_len]; exact hil
  rw [cells_set _ i _ (List.getElem?_eq_getElem hil') 1 (by omega) _ ⟨(hset cs b (l.take k))[i].k, highI l[k], (hset cs b (l.take k))[i].a⟩ rfl] at h1
  have h2 := hset_snoc (l.take k) l[k] cs b
  rw [← List.take_succ_eq_append_getElem hk, List.length_take, Nat.min_eq_left (by omega), hi, List.getElem?_eq_getElem hil'] at h2
  rw [h2]
  exact h1
theorem idx0 {i N : Nat} (h : i < N) : i * 3 < N * 3 := by omega
theorem cell0_of {w : World} {B q N c i : Nat} {cs : List Cel} (ho : w.ownsRow B 41 3 (.slice (some ⟨q, 0, none⟩) N c) N (cellsOf Cel.l cs)) (hi : i < cs.length) (h : i * 3 < N * 3) : w.cell? ⟨q, i * 3, none⟩ = some (.int .i64 (cs[i]).k) := by
  have h1 := ho.cellAt (i * 3 + 0) h
  rw [cells_at hi 0 (by decide)] at h1
  exact h1
theorem cell1_of {w : World} {B q N c i : Nat} {cs : List Cel} (ho : w.ownsRow B 41 3 (.slice (some ⟨q, 0, none⟩) N c) N (cellsOf Cel.l cs)) (hi : i < cs.length) (h : i * 3 + 1 < N * 3) : w.cell? ⟨q, i * 3 + 1, none⟩ = some (.int .i64 (cs[i]).h) := by
  have h1 := ho.cellAt (i * 3 + 1) h
  rw [cells_at hi 1 (by decide)] at h1
  exact h1
theorem kindI_range (c : UInt8) : 0 ≤ kindI c ∧ kindI c ≤ 5 := by
  unfold kindI
  repeat' split
  all_goals omega
theorem kindv_yes {ch : UInt8} {v : Int} (hv : kindI ch - 1 = v) (h : isKind ch = true) : ¬ v < 0 ∧ IntKind.i64.wrap (kindI ch) = kindI ch ∧ wrap64 (kindI ch) = kindI ch ∧ v + 1 = kindI ch := by
  have h1 : kindI ch ≠ 0 := by unfold isKind at h; simpa using h
  have h2 := kindI_range ch
  exact ⟨by omega, by rw [IntKind.wrap_i64]; omega, by unfold wrap64; omega, by omega⟩
theorem kindv_no {ch : UInt8} {v : Int} (hv : kindI ch - 1 = v) (h : isKind ch = false) : v < 0 := by
  have h1 : kindI ch = 0 := by unfold isKind at h; simpa using h
  omega
theorem rrow_kinds (W H : Int) (W1 : 1 ≤ W) (W2 : W ≤ 32) (H1 : 1 ≤ H) (H2 : H ≤ 32) (q N c B : Nat) (hB : B ≤ q) (cs : List Cel) (hcl : cs.length = N) (hN : N = W.toNat * H.toNat) (k : Nat) (hk : (k : Int) < H) (l : List UInt8) (hz : l.length ≤ 100000) (w : World)
    (ho : w.ownsRow B 41 3 (.slice (some ⟨q, 0, none⟩) N c) N (cellsOf Cel.l cs)) :
    Calls Tryz.prog 43 #[mapV W H (.slice (some ⟨q, 0, none⟩) N c), .int .i64 (k : Int), .string (str l)] w (RowRes B q N c (kset cs (k * W.toNat) l) (decide ((l.length : Int) = W) && l.all isKind) w) := by
  have hNp : 0 < N := by
    have h : 1 * 1 ≤ W.toNat * H.toNat := Nat.mul_le_mul (by omega) (by omega)
    omega
  have HFK := Lib.hid (fun (ch : UInt8) w => show Calls Tryz.prog 72 #[.string ⟨#[46, 126, 35, 84, 42]⟩, .int .u8 (ch.toNat : Int)] w (fun e w' => e = .returned (.int .i64 (kindI ch - 1)) ∧ w = w') from by rw [← find_kind]; exact rfind_any [46, 126, 35, 84, 42] (by decide) ch _ rfl w)
  have hqw : q < w.heap.size := (ho.lt q rfl).2
  obtain ⟨a0, ha0⟩ : ∃ a : Addr, (⟨q, 0, none⟩ : Addr) = a := ⟨_, rfl⟩
  have HA0 := Lib.hid ha0
  have HO := Lib.hid ho; have HCL := Lib.hid hcl; have HNN := Lib.hid hN
  clear ho hcl hN
  obtain ⟨S, hS⟩ : ∃ S, str l = S := ⟨_, rfl⟩
  have HSz := Lib.hid (show S.size = l.length by rw [← hS, str_size])
  have HSg := Lib.hid (show ∀ k (h1 : k < S.size) (h2 : k < l.length), S[k] = l[k] by subst hS; exact fun k h1 h2 => str_at l k h1 h2)
  obtain ⟨w1, hw1⟩ : ∃ w1, w.alloc (.cells #[.int .i64 W, .int .i64 H, .slice (some a0) N c] 24) = w1 := ⟨_, rfl⟩
  have HF1 := Lib.hid (show Fr q q w w1 by rw [← hw1]; exact Fr.of (below_new _ _) (Nat.le_refl _))
  have HM1 := Lib.hid (show w1.heap[w.heap.size]? = some (.cells #[.int .i64 W, .int .i64 H, .slice (some a0) N c] 24) by rw [← hw1]; exact tok_new _ _)
  have HO1 := Lib.hid (show w1.ownsRow B 41 3 (.slice (some ⟨q, 0, none⟩) N c) N (cellsOf Cel.l cs) by rw [← hw1]; exact HO.out.alloc _)
  have HW1 := Lib.hid hw1
  rw [hS, ha0]
  clear hS hw1 ha0
  unfold mapV
  by_cases hlen : (l.length : Int) = W
  · have hres : ∀ b : Bool, l.all isKind = b → (decide ((l.length : Int) = W) && l.all isKind) = b := fun b hb => by rw [hb, decide_eq_true hlen]; rfl
    have HRS := Lib.hid hres
    obtain ⟨ok, hok⟩ : ∃ ok, (decide ((l.length : Int) = W) && l.all isKind) = ok := ⟨_, rfl⟩
    rw [hok]
    have HOK := Lib.hid hok
    have hsW : (S.size : Int) = W := by rw [HSz.out]; exact hlen
    have hcond : ((S.size : Int) != W) = false := by rw [hsW]; simp
    clear hres hok hlen
    have HSW := Lib.hid hsW
    clear hsW
    go_enter Tryz.func43, Tryz.ntmps43
    go_upto_region 1 with fail
    rw [HW1.out]
    clear HW1
    obtain ⟨⟨m0, m1, m2⟩, _⟩ := cells3 HM1.out
    go_wp2_with fail
    clear m0 m1 m2 hcond
    go_loopw [7] (fun v wr => ∃ x : Nat, x ≤ S.size ∧ v = .int .i64 (x : Int) ∧ Fr q q w1 wr ∧ wr.ownsRow B 41 3 (.slice (some ⟨q, 0, none⟩) N c) N (cellsOf Cel.l (kset cs (k * W.toNat) (l.take x))) ∧ Hid ((l.take x).all isKind = true)) (fun v _ => S.size - (intOf v).toNat)
    case atStart => exact ⟨0, by omega, rfl, Fr.refl _ _ _, HO1.out, Lib.hid rfl⟩
    case round =>
      obtain ⟨x, hx, rfl, hfr, hown, hall⟩ := hrel
      have HFR := Lib.hid hfr; have HOW := Lib.hid hown
      obtain ⟨⟨m0, m1, m2⟩, _⟩ := cells3 (hfr.at (i := w.heap.size) (by omega) (by omega) HM1.out)
      by_cases hxs : x < S.size
      · have hxl : x < l.length := by have := HSz.out; omega
        have HSX := Lib.hid (HSg.out x hxs hxl)
        have e1 : (0 : Int) ≤ (x : Int) := by omega
        have e2 : (x : Int) < W := by have := HSW.out; omega
        have e3 : (x : Int) < (S.size : Int) := by omega
        obtain ⟨b, i, hb, hyb, hi', hil, hwb, hwi, hwb2, hwi2, hbi⟩ := row_idx k x W H cs.length W1 W2 H1 H2 (by rw [HCL.out]; exact HNN.out) hk e2
        have HBE := Lib.hid hb
        have hilN : i < N := by rw [← HCL.out]; exact hil
        have e4 : (0 : Int) ≤ (i : Int) := Int.natCast_nonneg _
        have e5 : (i : Int) < (N : Int) := Int.ofNat_lt.2 hilN
        rw [hb] at hown
        have hilen : i < (kset cs b (l.take x)).length := by rw [kset_len]; exact hil
        obtain ⟨hv0, hcell⟩ : ∃ v, wr.cell? ⟨q, i * 3, none⟩ = some (.int .i64 v) := ⟨(kset cs b (l.take x))[i].k, cell0_of hown hilen (idx0 hilN)⟩
        have hfroz := hown.frozenAt (i * 3)
        have hadd : a0.add (i * 3) = ⟨q, i * 3, none⟩ := by rw [← HA0.out, add0]
        have HAD := Lib.hid hadd
        rw [← hadd] at hcell hfroz
        obtain ⟨ch, hch⟩ : ∃ ch, S[x] = ch := ⟨_, rfl⟩
        have HCH := Lib.hid (hch.symm.trans HSX.out)
        obtain ⟨v, hv⟩ : ∃ v, kindI ch - 1 = v := ⟨_, rfl⟩
        have HFV := Lib.hid (HFK.out ch)
        rw [hv] at HFV
        have HIL := Lib.hid hil
        have HI := Lib.hid hi'
        by_cases hkd : isKind ch = true
        · obtain ⟨hnv, hst, hst3, hst2⟩ := kindv_yes hv hkd
          have hqn : ¬ (a0.add (i * 3)).block = w.heap.size := by rw [hadd]; exact Nat.ne_of_lt hqw
          have HN1 := Lib.hid (row_k hxl hi' hil HCL.out hown (a0.add (i * 3)) hadd)
          rw [← HCH.out, ← hb] at HN1
          have HFN := Lib.hid (hfr.setg (a0.add (i * 3)) (Or.inl (by rw [hadd])) (.int .i64 (kindI ch)))
          have HALL := Lib.hid (all_takeP hxl hall.out (by rw [← HCH.out]; exact hkd))
          clear hown hfr hall hb hadd hkd hil hi' hilen hv
          go_wp2_with fail
          refine (HFV.out _).mono ?_
          rintro e w2 ⟨rfl, rfl⟩
          go_upto_region 5 with fail
          clear hyb hwb hwi hwb2 hwi2 hbi e4 e5 hst hst2 hst3 hnv hcell hfroz m0 m1 m2 hch hqn
          go_wp2_with fail
          go_roundw
          case rel => exact ⟨x + 1, by omega, by go_num, HFN.out, HN1.out, HALL⟩
          case measure => simp [intOf]; omega
        · replace hkd : isKind ch = false := by simpa using hkd
          have hnv := kindv_no hv hkd
          have hok : ok = false := by rw [← HOK.out]; exact HRS.out false (all_no hxl (by rw [← HCH.out]; exact hkd))
          have HKF := Lib.hid hok
          clear hown hfr hall hb hadd hkd hil hi' hilen hv hok
          go_wp2_with fail
          refine (HFV.out _).mono ?_
          rintro e w2 ⟨rfl, rfl⟩
          go_wp2_with fail
          go_ret
          exact ⟨by rw [HKF.out]; rfl, fun h => (by rw [HKF.out] at h; cases h), HF1.out.trans HFR.out⟩
      · have e2 : ¬ (x : Int) < W := by have := HSW.out; omega
        have hok : ok = true := by
          rw [← HOK.out]
          refine HRS.out true ?_
          have h := hall.out
          rw [List.take_of_length_le (by have := HSz.out; omega)] at h
          exact h
        have HKT := Lib.hid hok
        rw [List.take_of_length_le (by have := HSz.out; omega)] at hown
        have HOX := Lib.hid hown
        clear hown hfr hall hok
        go_wp2_with fail
        go_ret
        exact ⟨by rw [HKT.out]; rfl, fun _ => HOX.out, HF1.out.trans HFR.out⟩
  · have hok : (decide ((l.length : Int) = W) && l.all isKind) = false := by rw [decide_eq_false hlen]; rfl
    rw [hok]
    have hcond : ((S.size : Int) != W) = true := by rw [bne_iff_ne]; have := HSz.out; omega
    clear hok hlen
    go_enter Tryz.func43, Tryz.ntmps43
    go_upto_region 1 with fail
    rw [HW1.out]
    clear HW1
    obtain ⟨⟨m0, m1, m2⟩, _⟩ := cells3 HM1.out
    go_wp2_with fail
    go_ret
    exact ⟨rfl, fun h => (by cases h), HF1.out⟩
set_option linter.unusedVariables false
set_option linter.unusedSimpArgs false
set_option maxRecDepth 100000
set_option maxHeartbeats 8000000

theorem high_yes {ch : UInt8} (h : isHigh ch = true) : ¬ highI ch < 0 := by
  unfold isHigh at h
  simp only [Bool.and_eq_true, decide_eq_true_eq] at h
  unfold highI
  omega
theorem rrow_high (W H : Int) (W1 : 1 ≤ W) (W2 : W ≤ 32) (H1 : 1 ≤ H) (H2 : H ≤ 32) (q N c B : Nat) (hB : B ≤ q) (cs : List Cel) (hcl : cs.length = N) (hN : N = W.toNat * H.toNat) (k y : Nat) (hy : (k : Int) = H + (y : Int)) (hk : (y : Int) < H) (l : List UInt8) (hz : l.length ≤ 100000) (w : World)
    (ho : w.ownsRow B 41 3 (.slice (some ⟨q, 0, none⟩) N c) N (cellsOf Cel.l cs)) :
    Calls Tryz.prog 43 #[mapV W H (.slice (some ⟨q, 0, none⟩) N c), .int .i64 (k : Int), .string (str l)] w (RowRes B q N c (hset cs (y * W.toNat) l) (decide ((l.length : Int) = W) && l.all isHigh) w) := by
  have hNp : 0 < N := by
    have h : 1 * 1 ≤ W.toNat * H.toNat := Nat.mul_le_mul (by omega) (by omega)
    omega
  have HFK := Lib.hid (fun (ch : UInt8) => show KC 72 #[.string ⟨#[48, 49, 50, 51]⟩, .int .u8 (ch.toNat : Int)] (.int .i64 (if isHigh ch = true then highI ch else -1)) from by rw [← find_high]; exact rfind_any [48, 49, 50, 51] (by decide) ch _ rfl)
  have hkH : ¬ (k : Int) < H := by omega
  have hsub : IntKind.i64.wrap ((k : Int) - H) = (y : Int) := by rw [IntKind.wrap_i64]; omega
  have HY := Lib.hid hy
  clear hy
  have hqw : q < w.heap.size := (ho.lt q rfl).2
  obtain ⟨a0, ha0⟩ : ∃ a : Addr, (⟨q, 0, none⟩ : Addr) = a := ⟨_, rfl⟩
  have HA0 := Lib.hid ha0
  have HO := Lib.hid ho; have HCL := Lib.hid hcl; have HNN := Lib.hid hN
  clear ho hcl hN
  obtain ⟨S, hS⟩ : ∃ S, str l = S := ⟨_, rfl⟩
  have HSz := Lib.hid (show S.size = l.length by rw [← hS, str_size])
  have HSg := Lib.hid (show ∀ k (h1 : k < S.size) (h2 : k < l.length), S[k] = l[k] by subst hS; exact fun k h1 h2 => str_at l k h1 h2)
  obtain ⟨w1, hw1⟩ : ∃ w1, w.alloc (.cells #[.int .i64 W, .int .i64 H, .slice (some a0) N c] 24) = w1 := ⟨_, rfl⟩
  have HF1 := Lib.hid (show Fr q q w w1 by rw [← hw1]; exact Fr.of (below_new _ _) (Nat.le_refl _))
  have HM1 := Lib.hid (show w1.heap[w.heap.size]? = some (.cells #[.int .i64 W, .int .i64 H, .slice (some a0) N c] 24) by rw [← hw1]; exact tok_new _ _)
  have HO1 := Lib.hid (show w1.ownsRow B 41 3 (.slice (some ⟨q, 0, none⟩) N c) N (cellsOf Cel.l cs) by rw [← hw1]; exact HO.out.alloc _)
  have HW1 := Lib.hid hw1
  rw [hS, ha0]
  clear hS hw1 ha0
  unfold mapV
  by_cases hlen : (l.length : Int) = W
  · have hres : ∀ b : Bool, l.all isHigh = b → (decide ((l.length : Int) = W) && l.all isHigh) = b := fun b hb => by rw [hb, decide_eq_true hlen]; rfl
    have HRS := Lib.hid hres
    obtain ⟨ok, hok⟩ : ∃ ok, (decide ((l.length : Int) = W) && l.all isHigh) = ok := ⟨_, rfl⟩
    rw [hok]
    have HOK := Lib.hid hok
    have hsW : (S.size : Int) = W := by rw [HSz.out]; exact hlen
    have hcond : ((S.size : Int) != W) = false := by rw [hsW]; simp
    clear hres hok hlen
    have HSW := Lib.hid hsW
    clear hsW
    go_enter Tryz.func43, Tryz.ntmps43
    go_upto_region 1 with fail
    rw [HW1.out]
    clear HW1
    obtain ⟨⟨m0, m1, m2⟩, _⟩ := cells3 HM1.out
    go_wp2_with fail
    clear m0 m1 m2 hcond
    go_loopw [7] (fun v wr => ∃ x : Nat, x ≤ S.size ∧ v = .int .i64 (x : Int) ∧ Fr q q w1 wr ∧ wr.ownsRow B 41 3 (.slice (some ⟨q, 0, none⟩) N c) N (cellsOf Cel.l (hset cs (y * W.toNat) (l.take x))) ∧ Hid ((l.take x).all isHigh = true)) (fun v _ => S.size - (intOf v).toNat)
    case atStart => exact ⟨0, by omega, rfl, Fr.refl _ _ _, HO1.out, Lib.hid rfl⟩
    case round =>
      obtain ⟨x, hx, rfl, hfr, hown, hall⟩ := hrel
      have HFR := Lib.hid hfr; have HOW := Lib.hid hown
      obtain ⟨⟨m0, m1, m2⟩, _⟩ := cells3 (hfr.at (i := w.heap.size) (by omega) (by omega) HM1.out)
      by_cases hxs : x < S.size
      · have hxl : x < l.length := by have := HSz.out; omega
        have HSX := Lib.hid (HSg.out x hxs hxl)
        have e1 : (0 : Int) ≤ (x : Int) := by omega
        have e2 : (x : Int) < W := by have := HSW.out; omega
        have e3 : (x : Int) < (S.size : Int) := by omega
        obtain ⟨b, i, hb, hyb, hi', hil, hwb, hwi, hwb2, hwi2, hbi⟩ := row_idx y x W H cs.length W1 W2 H1 H2 (by rw [HCL.out]; exact HNN.out) hk e2
        have HBE := Lib.hid hb
        have hilN : i < N := by rw [← HCL.out]; exact hil
        have e4 : (0 : Int) ≤ (i : Int) := Int.natCast_nonneg _
        have e5 : (i : Int) < (N : Int) := Int.ofNat_lt.2 hilN
        rw [hb] at hown
        have hilen : i < (hset cs b (l.take x)).length := by rw [hset_len]; exact hil
        obtain ⟨hv0, hcell⟩ : ∃ v, wr.cell? ⟨q, i * 3 + 1, none⟩ = some (.int .i64 v) := ⟨(hset cs b (l.take x))[i].h, cell1_of hown hilen (idx3 hilN)⟩
        have hfroz := hown.frozenAt (i * 3 + 1)
        have hadd : (a0.add (i * 3)).block = q ∧ (a0.add (i * 3)).off = i * 3 := by rw [← HA0.out, add0]; exact ⟨rfl, rfl⟩
        have HAD := Lib.hid hadd
        replace hcell : wr.cell? ⟨(a0.add (i * 3)).block, (a0.add (i * 3)).off + 1, none⟩ = some (.int .i64 hv0) := by rw [hadd.1, hadd.2]; exact hcell
        replace hfroz : wr.frozen? ⟨(a0.add (i * 3)).block, (a0.add (i * 3)).off + 1, none⟩ = false := by rw [hadd.1, hadd.2]; exact hfroz
        obtain ⟨ch, hch⟩ : ∃ ch, S[x] = ch := ⟨_, rfl⟩
        have HCH := Lib.hid (hch.symm.trans HSX.out)
        have HFV := Lib.hid (HFK.out ch)
        have HIL := Lib.hid hil
        have HI := Lib.hid hi'
        by_cases hkd : isHigh ch = true
        · have hnv := high_yes hkd
          rw [hkd, if_pos rfl] at HFV
          have hqn : ¬ (a0.add (i * 3)).block = w.heap.size := by rw [hadd.1]; exact Nat.ne_of_lt hqw
          have HN1 := Lib.hid (row_h hxl hi' hil HCL.out hown (a0.add (i * 3)) hadd)
          rw [← HCH.out, ← hb] at HN1
          have HFN := Lib.hid (hfr.setg ⟨(a0.add (i * 3)).block, (a0.add (i * 3)).off + 1, none⟩ (Or.inl hadd.1) (.int .i64 (highI ch)))
          have HALL := Lib.hid (all_takeP hxl hall.out (by rw [← HCH.out]; exact hkd))
          clear hown hfr hall hb hadd hkd hil hi' hilen
          generalize highI ch = v at *
          go_wp2_with fail
          go_quiet ((go_at_call 72; exact (HFV.out.quiet _ _)))
          go_upto_region 5 with fail
          clear hyb hwb hwi hwb2 hwi2 hbi e4 e5 hnv hcell hfroz m0 m1 m2 hch hqn
          go_wp2_with fail
          go_roundw
          case rel => exact ⟨x + 1, by omega, by go_num, by first | exact HFN.out | exact HFN.out.drew | exact HFN.out.dN _, HN1.out, HALL⟩
          case measure => simp [intOf]; omega
        · replace hkd : isHigh ch = false := by simpa using hkd
          rw [hkd] at HFV
          replace HFV := Lib.hid (show KC 72 #[.string ⟨#[48, 49, 50, 51]⟩, .int .u8 (ch.toNat : Int)] (.int .i64 (-1)) from HFV.out)
          have hok : ok = false := by rw [← HOK.out]; exact HRS.out false (all_no hxl (by rw [← HCH.out]; exact hkd))
          have HKF := Lib.hid hok
          clear hown hfr hall hb hadd hkd hil hi' hilen hok
          go_wp2_with fail
          go_quiet ((go_at_call 72; exact (HFV.out.quiet _ _)))
          go_wp2_with fail
          go_ret
          exact ⟨by rw [HKF.out]; rfl, fun h => (by rw [HKF.out] at h; cases h), HF1.out.trans (by first | exact HFR.out | exact HFR.out.drew | exact HFR.out.dN _)⟩
      · have e2 : ¬ (x : Int) < W := by have := HSW.out; omega
        have hok : ok = true := by
          rw [← HOK.out]
          refine HRS.out true ?_
          have h := hall.out
          rw [List.take_of_length_le (by have := HSz.out; omega)] at h
          exact h
        have HKT := Lib.hid hok
        rw [List.take_of_length_le (by have := HSz.out; omega)] at hown
        have HOX := Lib.hid hown
        clear hown hfr hall hok
        go_wp2_with fail
        go_ret
        exact ⟨by rw [HKT.out]; rfl, fun _ => HOX.out, HF1.out.trans HFR.out⟩
  · have hok : (decide ((l.length : Int) = W) && l.all isHigh) = false := by rw [decide_eq_false hlen]; rfl
    rw [hok]
    have hcond : ((S.size : Int) != W) = true := by rw [bne_iff_ne]; have := HSz.out; omega
    clear hok hlen
    go_enter Tryz.func43, Tryz.ntmps43
    go_upto_region 1 with fail
    rw [HW1.out]
    clear HW1
    obtain ⟨⟨m0, m1, m2⟩, _⟩ := cells3 HM1.out
    go_wp2_with fail
    go_ret
    exact ⟨rfl, fun h => (by cases h), HF1.out⟩
end Go.Proofs.YtmiceolkmiiahaaGreatDoor
