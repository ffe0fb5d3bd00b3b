/- Walks: Same. -/
import Derived.Test.YtpddneplkbdedaaDoorW23
import Derived.Laws.StructEq
namespace Go.Proofs.YtpddneplkbdedaaDoor
open Go.RowKit
set_option linter.unusedVariables false
set_option linter.unusedSimpArgs false

def TokAt (w : World) (a : Addr) (ts : List Tk) : Prop := ∀ i (h : i < ts.length), w.cell? (a.add (i * 3)) = some (.int .i64 ts[i].1) ∧ w.cell? ⟨(a.add (i * 3)).block, (a.add (i * 3)).off + 1, none⟩ = some (.int .i64 ts[i].2.1) ∧ w.cell? ⟨(a.add (i * 3)).block, (a.add (i * 3)).off + 2, none⟩ = some (.string (str ts[i].2.2))

set_option maxRecDepth 100000 in
theorem same_at (a b : Addr) (n ca cb : Nat) (ts us : List Tk) (hta : ts.length = n) (htb : us.length = n) (hn : n ≤ 1000000) (w : World) (ha : TokAt w a ts) (hb : TokAt w b us) :
    Calls Tryd.prog 12 #[.slice (some a) n ca, .slice (some b) n cb] w fun e w' => e = .returned (.bool (decide (ts = us))) ∧ Below w.heap.size w w' := by
  have HA := Lib.hid ha; have HB := Lib.hid hb; have H1 := Lib.hid hta; have H2 := Lib.hid htb
  clear ha hb hta htb
  go_enter Tryd.func12, Tryd.ntmps12
  go_wp2_with fail
  go_loopw [5] (fun v wr => ∃ k q : Nat, k ≤ n ∧ v = .int .i64 (k : Int) ∧ wr = w.drewN q ∧ Hid (ts.take k = us.take k)) (fun v _ => n - (intOf v).toNat)
  case atStart => exact ⟨0, 0, by omega, rfl, rfl, by simp [Hid]⟩
  case round =>
    obtain ⟨k, q, hk, rfl, rfl, hh⟩ := hrel
    by_cases hkn : k < n
    · have hk1 : k < ts.length := by have := H1.out; omega
      have hk2 : k < us.length := by have := H2.out; omega
      obtain ⟨c0, c1, c2⟩ := HA.out k hk1
      obtain ⟨d0, d1, d2⟩ := HB.out k hk2
      obtain ⟨⟨x0, x1, lx⟩, hx⟩ : ∃ z, ts[k] = z := ⟨_, rfl⟩
      obtain ⟨⟨y0, y1, ly⟩, hy⟩ : ∃ z, us[k] = z := ⟨_, rfl⟩
      rw [hx] at c0 c1 c2
      rw [hy] at d0 d1 d2
      dsimp only at c0 c1 c2 d0 d1 d2
      have e1 : (0 : Int) ≤ (k : Int) := by omega
      have e2 : (k : Int) < (n : Int) := by omega
      have HX := Lib.hid hx
      have HY := Lib.hid hy
      clear hx hy
      have hno : (x0, x1, lx) ≠ (y0, y1, ly) → ts ≠ us := fun h e => by
        subst e
        exact h (HX.out.symm.trans HY.out)
      have HNO := Lib.hid hno
      clear hno
      by_cases g0 : x0 = y0
      · subst g0
        by_cases g1 : x1 = y1
        · subst g1
          by_cases g2 : lx = ly
          · subst g2
            have t0 : (x0 == x0) = true := BEq.rfl
            have t1 : (x1 == x1) = true := BEq.rfl
            have t2 : ((str lx).toList == (str lx).toList) = true := BEq.rfl
            have hnx : Hid (ts.take (k + 1) = us.take (k + 1)) := by
              show _ = _
              rw [List.take_succ_eq_append_getElem hk1, List.take_succ_eq_append_getElem hk2, hh.out, HX.out, HY.out]
            generalize str lx = x2 at *
            go_wp2_with fail
            go_quiet (fail)
            go_wp2_with fail
            go_roundw
            case rel => exact ⟨k + 1, _, by omega, by go_num, rfl, hnx⟩
            case measure => simp [intOf]; omega
          · have t0 : (x0 == x0) = true := BEq.rfl
            have t1 : (x1 == x1) = true := BEq.rfl
            have t2 : ((str lx).toList == (str ly).toList) = false := ne_beq _ _ fun e => g2 (str_inj e)
            have hne : Hid (ts ≠ us) := HNO.out fun e => g2 (by injection e with _ e; injection e)
            clear g2
            generalize str lx = x2 at *
            generalize str ly = y2 at *
            go_wp2_with fail
            go_quiet (fail)
            go_wp2_with fail
            go_ret
            exact ⟨by rw [decide_eq_false hne.out]; rfl, below_dN (below_dN (Below.refl _ _) _) _⟩
        · have t0 : (x0 == x0) = true := BEq.rfl
          have t1 : (x1 == y1) = false := by simpa using g1
          have hne : Hid (ts ≠ us) := HNO.out fun e => g1 (by injection e with _ e; injection e)
          clear g1
          generalize str lx = x2 at *
          generalize str ly = y2 at *
          go_wp2_with fail
          go_quiet (fail)
          go_wp2_with fail
          go_ret
          exact ⟨by rw [decide_eq_false hne.out]; rfl, below_dN (below_dN (Below.refl _ _) _) _⟩
      · have t0 : (x0 == y0) = false := by simpa using g0
        have hne : Hid (ts ≠ us) := HNO.out fun e => g0 (by injection e)
        clear g0
        generalize str lx = x2 at *
        generalize str ly = y2 at *
        go_wp2_with fail
        go_quiet (fail)
        go_wp2_with fail
        go_ret
        exact ⟨by rw [decide_eq_false hne.out]; rfl, below_dN (below_dN (Below.refl _ _) _) _⟩
    · have heq : Hid (ts = us) := by
        have h := hh.out
        rw [List.take_of_length_le (by have := H1.out; omega), List.take_of_length_le (by have := H2.out; omega)] at h
        exact h
      go_wp2_with fail
      go_ret
      exact ⟨by rw [decide_eq_true heq.out]; rfl, below_dN (Below.refl _ _) _⟩

theorem same_nil (ao bo : Option Addr) (ca cb : Nat) (w : World) : Calls Tryd.prog 12 #[.slice ao 0 ca, .slice bo 0 cb] w fun e w' => e = .returned (.bool true) ∧ Below w.heap.size w w' := by
  go_enter Tryd.func12, Tryd.ntmps12
  go_wp2_with fail
  refine wp_loop_rounds 1 ?_
  rw [rounds_succ]
  go_wp2_with fail
  go_ret
  exact ⟨rfl, Below.refl _ _⟩
theorem same_len (ao bo : Option Addr) (n m ca cb : Nat) (hn : n ≤ 1000000) (hm : m ≤ 1000000) (h : ((n : Int) != (m : Int)) = true) (w : World) : Calls Tryd.prog 12 #[.slice ao n ca, .slice bo m cb] w fun e w' => e = .returned (.bool false) ∧ Below w.heap.size w w' := by
  go_enter Tryd.func12, Tryd.ntmps12
  go_wp2_with fail
  go_ret
  exact ⟨rfl, Below.refl _ _⟩

def TokSl (w : World) (v : Value) (ts : List Tk) : Prop := ∃ ao cap, v = .slice ao ts.length cap ∧ (ts = [] ∨ ∃ a, ao = some a ∧ TokAt w a ts)
theorem same_any (v v' : Value) (ts us : List Tk) (w : World) (h1 : TokSl w v ts) (h2 : TokSl w v' us) (b1 : ts.length ≤ 1000000) (b2 : us.length ≤ 1000000) :
    Calls Tryd.prog 12 #[v, v'] w fun e w' => e = .returned (.bool (decide (ts = us))) ∧ Below w.heap.size w w' := by
  obtain ⟨ao, ca, rfl, h1⟩ := h1
  obtain ⟨bo, cb, rfl, h2⟩ := h2
  by_cases hl : ts.length = us.length
  · rcases h1 with h1 | ⟨a, rfl, h1⟩
    · have h3 : us = [] := List.length_eq_zero_iff.1 (by rw [← hl, h1]; rfl)
      rw [h1, h3]
      exact same_nil _ _ _ _ w
    · rcases h2 with h2 | ⟨b, rfl, h2⟩
      · have h3 : ts = [] := List.length_eq_zero_iff.1 (by rw [hl, h2]; rfl)
        rw [h2, h3]
        exact same_nil _ _ _ _ w
      · rw [← hl]
        exact same_at a b ts.length ca cb ts us rfl hl.symm b1 w h1 h2
  · rw [decide_eq_false (fun e => hl (by rw [e]))]
    exact same_len _ _ _ _ _ _ b1 b2 (by rw [bne_iff_ne]; omega) w
end Go.Proofs.YtpddneplkbdedaaDoor
