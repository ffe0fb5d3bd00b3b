/- Walks: a position in a row of positions. -/
import Derived.Test.YtmiceolkmiiahaaGreatDoorW9
namespace Go.Proofs.YtmiceolkmiiahaaGreatDoor
open Go.RowKit
set_option linter.unusedVariables false
set_option linter.unusedSimpArgs false
set_option maxRecDepth 100000

def isP (p q : Po) : Bool := (p.x == q.x) && (p.y == q.y)
theorem isP_eq (p q : Po) : isP p q = decide (p = q) := by
  obtain ⟨a, b⟩ := p; obtain ⟨c, d⟩ := q
  unfold isP
  by_cases h1 : a = c <;> by_cases h2 : b = d <;> simp [h1, h2]
set_option maxHeartbeats 4000000 in
theorem IndexP_at (p : Po) (ao : Option Addr) (n ca : Nat) (ps : List Po) (hn : ps.length = n) (hz : n ≤ 1000000) (w : World) (ha : ps = [] ∨ ∃ a, ao = some a ∧ PoAt w a ps) : KB 61 #[.slice ao n ca, p.v] (.int .i64 (firstI (isP p) ps)) w := by
  have HA := Lib.hid ha; have HN := Lib.hid hn
  obtain ⟨r, hr⟩ : ∃ r, firstI (isP p) ps = r := ⟨_, rfl⟩
  rw [hr]
  have HR := Lib.hid hr
  clear ha hn hr
  obtain ⟨x, y⟩ := p
  unfold KB Po.v
  dsimp only
  go_enter Tryz.func61, Tryz.ntmps61
  go_wp2_with fail
  obtain ⟨w0, hw0⟩ : ∃ w0, w.alloc (.cells #[.int .i64 x, .int .i64 y] 55) = w0 := ⟨_, rfl⟩
  have hb0 : Below w.heap.size w w0 := by rw [← hw0]; exact below_new _ _
  have hz0 : w.heap.size < w0.heap.size := by rw [← hw0, tok_size]; omega
  obtain ⟨⟨d0, d1⟩, _⟩ := cells2 (show w0.heap[w.heap.size]? = some (.cells #[.int .i64 x, .int .i64 y] 55) by rw [← hw0]; exact tok_new _ _)
  rw [hw0]
  have HB0 := Lib.hid hb0
  clear hw0 hb0
  go_loopw [8] (fun v wr => ∃ k m : Nat, k ≤ n ∧ v = .int .i64 (k : Int) ∧ wr = w0.drewN m ∧ Hid (∀ j (hj : j < ps.length), j < k → isP ⟨x, y⟩ ps[j] = false)) (fun v _ => n - (intOf v).toNat)
  case atStart => exact ⟨0, 0, by omega, rfl, rfl, Lib.hid (fun _ _ h => absurd h (by omega))⟩
  case round =>
    obtain ⟨k, m, hk, rfl, rfl, hall⟩ := hrel
    by_cases hkn : k < n
    · have hkl : k < ps.length := by have := HN.out; omega
      obtain ⟨a, rfl, hat⟩ : ∃ a, ao = some a ∧ PoAt w a ps := HA.out.resolve_left (fun h => by rw [h] at hkl; simp at hkl)
      obtain ⟨c0, c1⟩ := poAt (hat.below Po.l_len HB0.out) k hkl
      obtain ⟨⟨qx, qy⟩, hx⟩ : ∃ t, ps[k] = t := ⟨_, rfl⟩
      rw [hx] at c0 c1
      dsimp only at c0 c1
      have HB : isP ⟨x, y⟩ ps[k] = ((x == qx) && (y == qy)) := by rw [hx]; rfl
      have e1 : (0 : Int) ≤ ((k : Int)) := by omega
      have e2 : (k : Int) < (n : Int) := by omega
      clear hat hx
      by_cases hB : isP ⟨x, y⟩ ps[k] = true
      · have hr : r = (k : Int) := by
          rw [← HR.out]
          exact firstI_at _ _ k hkl hB hall.out
        rw [HB, Bool.and_eq_true] at hB
        obtain ⟨b1, b2⟩ := hB
        have HRk := Lib.hid hr
        clear HB hr
        go_wp2_with fail
        go_quiet (fail)
        go_wp2_with fail
        go_ret
        exact ⟨by rw [HRk.out]; rfl, by repeat' (first | exact HB0.out | refine below_dN ?_ _ | refine Below.drew ?_)⟩
      · have hB : isP ⟨x, y⟩ ps[k] = false := by simpa using hB
        have hn2 : Hid (∀ j (hj : j < ps.length), j < k + 1 → isP ⟨x, y⟩ ps[j] = false) := Lib.hid fun j hj hjk => by
          by_cases hjk' : j < k
          · exact hall.out j hj hjk'
          · obtain rfl : j = k := by omega
            exact hB
        rw [HB] at hB
        clear HB hall
        cases b1 : (x == qx)
        · clear hB
          go_wp2_with fail
          go_quiet (fail)
          go_wp2_with fail
          go_roundw
          case rel => exact ⟨k + 1, _, by omega, by go_num, rfl, hn2⟩
          case measure => simp [intOf]; omega
        · rw [b1] at hB
          have b2 : (y == qy) = false := by simpa using hB
          clear hB
          go_wp2_with fail
          go_quiet (fail)
          go_wp2_with fail
          go_roundw
          case rel => exact ⟨k + 1, _, by omega, by go_num, rfl, hn2⟩
          case measure => simp [intOf]; omega
    · have hr : r = -1 := by
        rw [← HR.out]
        exact firstI_no _ _ fun j hj => hall.out j hj (by have := HN.out; omega)
      have HRk := Lib.hid hr
      clear hr
      go_wp2_with fail
      go_ret
      exact ⟨by rw [HRk.out]; rfl, below_dN HB0.out _⟩

theorem any_isP (p : Po) (ps : List Po) : ps.any (isP p) = ps.contains p := by
  induction ps with
  | nil => rfl
  | cons q ps ih =>
    rw [List.any_cons, ih, List.contains_cons, isP_eq]
    rfl
theorem ContainsP_any (p : Po) (v : Value) (ps : List Po) (w : World) (h : PoSl w v ps) (hz : ps.length ≤ 1000000) : KB 33 #[v, p.v] (.bool (ps.contains p)) w := by
  obtain ⟨ao, cap, rfl, h⟩ := h
  have H1 := Lib.hid (fun w h => IndexP_at p ao _ cap ps rfl hz w h)
  have HH := Lib.hid h
  clear h
  rw [← any_isP, ← firstI_pos]
  generalize firstI (isP p) ps = r at *
  generalize ps.length = n at *
  obtain ⟨x, y⟩ := p
  unfold KB at *
  unfold Po.v at *
  dsimp only at *
  go_enter Tryz.func33, Tryz.ntmps33
  go_wp2_with fail
  refine (H1.out _ (HH.out.imp id (fun ⟨a, ha, h⟩ => ⟨a, ha, h.below Po.l_len (below_new _ _)⟩))).mono ?_
  rintro e w1 ⟨rfl, hb⟩
  obtain ⟨n1, hb1, hz1⟩ := new_below hb
  go_wp2_with fail
  go_ret
  exact ⟨rfl, hb1⟩
end Go.Proofs.YtmiceolkmiiahaaGreatDoor
