/- Walks: the cell at a position. -/
import Derived.Test.YtmiceolkmiiahaaGreatDoorW6
namespace Go.Proofs.YtmiceolkmiiahaaGreatDoor
open Go.RowKit
set_option linter.unusedVariables false
set_option linter.unusedSimpArgs false
set_option maxRecDepth 100000

theorem Get_no (W H : Int) (ao : Option Addr) (n ca : Nat) (p : Po) (h : insB W H n p = false) (w : World) : KB 60 #[mapV W H (.slice ao n ca), p.v] (.tuple #[Cel.v ⟨0, 0, 0⟩, .bool false]) w := by
  have H1 := Lib.hid (inside_any W H ao n ca p)
  rw [h] at H1
  clear h
  obtain ⟨x, y⟩ := p
  unfold KB at *
  unfold mapV Po.v Cel.v at *
  dsimp only at *
  go_enter Tryz.func60, Tryz.ntmps60
  go_wp2_with fail
  refine (H1.out _).mono ?_
  rintro e w1 ⟨rfl, hb⟩
  obtain ⟨n1, n2, n3, hb1, hz1⟩ := three_below hb
  clear hb
  obtain ⟨⟨c0, c1, c2⟩, ⟨f0, f1, f2⟩⟩ := cells3 n3
  go_wp2_with fail
  exact bodyPost_ret (v := .tuple #[Cel.v ⟨0, 0, 0⟩, .bool false]) (by simp [results, Tryz.results60, go_sem, Cel.v, c0, c1, c2, f0, f1, f2, hz1]) rfl ⟨rfl, by repeat' (first | exact hb1 | refine below_dN ?_ _ | refine Below.drew ?_ | refine Below.setCell ?_ (by simp <;> omega) _ | refine Below.alloc ?_ (by simp) _)⟩

set_option maxHeartbeats 4000000 in
theorem Get_yes (W H : Int) (a : Addr) (n ca : Nat) (p : Po) (h : insB W H n p = true) (k : Nat) (hk : idxI W p = (k : Int)) (hkn : k < n) (hn : n ≤ 1000000) (q : Cel) (w : World)
    (hq : w.cell? (a.add (k * 3)) = some (.int .i64 q.k) ∧ w.cell? ⟨(a.add (k * 3)).block, (a.add (k * 3)).off + 1, none⟩ = some (.int .i64 q.h) ∧ w.cell? ⟨(a.add (k * 3)).block, (a.add (k * 3)).off + 2, none⟩ = some (.int .i64 q.a)) :
    KB 60 #[mapV W H (.slice (some a) n ca), p.v] (.tuple #[q.v, .bool true]) w := by
  have H1 := Lib.hid (inside_any W H (some a) n ca p)
  have H2 := Lib.hid (Index_any W p)
  rw [h] at H1
  rw [hk] at H2
  clear h hk
  obtain ⟨x, y⟩ := p
  obtain ⟨qk, qh, qa⟩ := q
  unfold KB at *
  unfold mapV Po.v Cel.v at *
  dsimp only at *
  obtain ⟨q0, q1, q2⟩ := hq
  have hl := cell_lt q0
  go_enter Tryz.func60, Tryz.ntmps60
  go_wp2_with fail
  refine (H1.out _).mono ?_
  rintro e w1 ⟨rfl, hb⟩
  obtain ⟨n1, n2, n3, hb1, hz1⟩ := three_below hb
  clear hb
  obtain ⟨⟨b0, b1, b2⟩, _⟩ := cells3 n1
  obtain ⟨⟨d0, d1⟩, _⟩ := cells2 n2
  obtain ⟨⟨c0, c1, c2⟩, ⟨f0, f1, f2⟩⟩ := cells3 n3
  have r0 := cell_below hb1 q0
  have r1 := cell_below hb1 q1
  have r2 := cell_below hb1 q2
  clear q0 q1 q2 n1 n2 n3
  have e1 : (0 : Int) ≤ ((k : Int)) := by omega
  have e2 : (k : Int) < (n : Int) := by omega
  have hne : ¬ (a.add (k * 3)).block = w.heap.size + 1 + 1 := by omega
  have hne' : ¬ w.heap.size + 1 + 1 = (a.add (k * 3)).block := by omega
  have hne3 : ¬ w.heap.size = w.heap.size + 1 + 1 := by omega
  have hne4 : ¬ w.heap.size + 1 = w.heap.size + 1 + 1 := by omega
  have hl1 : (a.add (k * 3)).block < w1.heap.size := by omega
  go_wp2_with fail
  go_region_held3 (fun w' => w1.heap.size ≤ w'.heap.size ∧ w'.cell? ⟨w.heap.size, 0, none⟩ = some (.int .i64 W) ∧ w'.cell? ⟨w.heap.size, 2, none⟩ = some (.slice (some a) n ca) ∧ w'.cell? ⟨w.heap.size + 1, 0, none⟩ = some (.int .i64 x) ∧ w'.cell? ⟨w.heap.size + 1, 1, none⟩ = some (.int .i64 y) ∧ w'.cell? (a.add (k * 3)) = some (.int .i64 qk) ∧ w'.cell? ⟨(a.add (k * 3)).block, (a.add (k * 3)).off + 1, none⟩ = some (.int .i64 qh) ∧ w'.cell? ⟨(a.add (k * 3)).block, (a.add (k * 3)).off + 2, none⟩ = some (.int .i64 qa))
    (first | (refine ⟨?_, ?_, ?_, ?_, ?_, ?_, ?_, ?_⟩ <;> first | go_keep | (rw [World.cell?_setCell_far _ _ _ _ (by simp <;> omega), World.cell?_setCell_far _ _ _ _ (by simp <;> omega), World.cell?_setCell_far _ _ _ _ (by simp <;> omega)]; simp [*]) | (have := hb2.size; simp at this; omega) | (rw [hb2.cell (by simp <;> omega)]; go_keep) | (rw [hb2.cell (by simp <;> omega)]; simp; assumption)))
    (first | (go_at_call 78; refine (H2.out _).mono ?_; rintro e w' ⟨rfl, hb2⟩; have g0 : w'.cell? ⟨w.heap.size + 1 + 1, 0, none⟩ = some (.int .i64 0) := (by rw [hb2.cell (by simp <;> omega)]; simpa using c0); have g1 : w'.cell? ⟨w.heap.size + 1 + 1, 1, none⟩ = some (.int .i64 0) := (by rw [hb2.cell (by simp <;> omega)]; simpa using c1); have g2 : w'.cell? ⟨w.heap.size + 1 + 1, 2, none⟩ = some (.int .i64 0) := (by rw [hb2.cell (by simp <;> omega)]; simpa using c2); have k0 : w'.frozen? ⟨w.heap.size + 1 + 1, 0, none⟩ = false := (by rw [hb2.frozen (by simp <;> omega)]; simpa using f0); have k1 : w'.frozen? ⟨w.heap.size + 1 + 1, 1, none⟩ = false := (by rw [hb2.frozen (by simp <;> omega)]; simpa using f1); have k2 : w'.frozen? ⟨w.heap.size + 1 + 1, 2, none⟩ = false := (by rw [hb2.frozen (by simp <;> omega)]; simpa using f2); have z2 : w.heap.size + 1 + 1 < w'.heap.size := (by have := hb2.size; simp at this; omega)))
  all_goals
    go_wp2_with fail
    exact bodyPost_ret (v := .tuple #[Cel.v ⟨qk, qh, qa⟩, .bool true]) (by simp [results, Tryz.results60, go_sem, Cel.v, g0, g1, g2, k0, k1, k2, z2]) rfl ⟨rfl, by repeat' (first | exact hb1.trans (hb2.mono (by simp <;> omega)) | exact (below_dN hb1 _).trans (hb2.mono (by simp <;> omega)) | exact hb1.drew.trans (hb2.mono (by simp <;> omega)) | exact (below_dN hb1.drew _).trans (hb2.mono (by simp <;> omega)) | refine below_dN ?_ _ | refine Below.drew ?_ | refine Below.setCell ?_ (by simp <;> omega) _)⟩
theorem r7Get_no (W H : Int) (ao : Option Addr) (n ca : Nat) (p : Po) (h : insB W H n p = false) (w : World) : KB 64 #[mapV W H (.slice ao n ca), p.v] (.tuple #[Cel.v ⟨0, 0, 0⟩, .bool false]) w := by
  have H1 := Lib.hid (r7Inside_any W H ao n ca p)
  rw [h] at H1
  clear h
  obtain ⟨x, y⟩ := p
  unfold KB at *
  unfold mapV Po.v Cel.v at *
  dsimp only at *
  go_enter Tryz.func64, Tryz.ntmps64
  go_wp2_with fail
  refine (H1.out _).mono ?_
  rintro e w1 ⟨rfl, hb⟩
  obtain ⟨n1, n2, n3, hb1, hz1⟩ := three_below hb
  clear hb
  obtain ⟨⟨c0, c1, c2⟩, ⟨f0, f1, f2⟩⟩ := cells3 n3
  go_wp2_with fail
  exact bodyPost_ret (v := .tuple #[Cel.v ⟨0, 0, 0⟩, .bool false]) (by simp [results, Tryz.results64, go_sem, Cel.v, c0, c1, c2, f0, f1, f2, hz1]) rfl ⟨rfl, by repeat' (first | exact hb1 | refine below_dN ?_ _ | refine Below.drew ?_ | refine Below.setCell ?_ (by simp <;> omega) _ | refine Below.alloc ?_ (by simp) _)⟩

set_option maxHeartbeats 4000000 in
theorem r7Get_yes (W H : Int) (a : Addr) (n ca : Nat) (p : Po) (h : insB W H n p = true) (k : Nat) (hk : idxI W p = (k : Int)) (hkn : k < n) (hn : n ≤ 1000000) (q : Cel) (w : World)
    (hq : w.cell? (a.add (k * 3)) = some (.int .i64 q.k) ∧ w.cell? ⟨(a.add (k * 3)).block, (a.add (k * 3)).off + 1, none⟩ = some (.int .i64 q.h) ∧ w.cell? ⟨(a.add (k * 3)).block, (a.add (k * 3)).off + 2, none⟩ = some (.int .i64 q.a)) :
    KB 64 #[mapV W H (.slice (some a) n ca), p.v] (.tuple #[q.v, .bool true]) w := by
  have H1 := Lib.hid (r7Inside_any W H (some a) n ca p)
  have H2 := Lib.hid (r6Index_any W p)
  rw [h] at H1
  rw [hk] at H2
  clear h hk
  obtain ⟨x, y⟩ := p
  obtain ⟨qk, qh, qa⟩ := q
  unfold KB at *
  unfold mapV Po.v Cel.v at *
  dsimp only at *
  obtain ⟨q0, q1, q2⟩ := hq
  have hl := cell_lt q0
  go_enter Tryz.func64, Tryz.ntmps64
  go_wp2_with fail
  refine (H1.out _).mono ?_
  rintro e w1 ⟨rfl, hb⟩
  obtain ⟨n1, n2, n3, hb1, hz1⟩ := three_below hb
  clear hb
  obtain ⟨⟨b0, b1, b2⟩, _⟩ := cells3 n1
  obtain ⟨⟨d0, d1⟩, _⟩ := cells2 n2
  obtain ⟨⟨c0, c1, c2⟩, ⟨f0, f1, f2⟩⟩ := cells3 n3
  have r0 := cell_below hb1 q0
  have r1 := cell_below hb1 q1
  have r2 := cell_below hb1 q2
  clear q0 q1 q2 n1 n2 n3
  have e1 : (0 : Int) ≤ ((k : Int)) := by omega
  have e2 : (k : Int) < (n : Int) := by omega
  have hne : ¬ (a.add (k * 3)).block = w.heap.size + 1 + 1 := by omega
  have hne' : ¬ w.heap.size + 1 + 1 = (a.add (k * 3)).block := by omega
  have hne3 : ¬ w.heap.size = w.heap.size + 1 + 1 := by omega
  have hne4 : ¬ w.heap.size + 1 = w.heap.size + 1 + 1 := by omega
  have hl1 : (a.add (k * 3)).block < w1.heap.size := by omega
  go_wp2_with fail
  go_region_held3 (fun w' => w1.heap.size ≤ w'.heap.size ∧ w'.cell? ⟨w.heap.size, 0, none⟩ = some (.int .i64 W) ∧ w'.cell? ⟨w.heap.size, 2, none⟩ = some (.slice (some a) n ca) ∧ w'.cell? ⟨w.heap.size + 1, 0, none⟩ = some (.int .i64 x) ∧ w'.cell? ⟨w.heap.size + 1, 1, none⟩ = some (.int .i64 y) ∧ w'.cell? (a.add (k * 3)) = some (.int .i64 qk) ∧ w'.cell? ⟨(a.add (k * 3)).block, (a.add (k * 3)).off + 1, none⟩ = some (.int .i64 qh) ∧ w'.cell? ⟨(a.add (k * 3)).block, (a.add (k * 3)).off + 2, none⟩ = some (.int .i64 qa))
    (first | (refine ⟨?_, ?_, ?_, ?_, ?_, ?_, ?_, ?_⟩ <;> first | go_keep | (rw [World.cell?_setCell_far _ _ _ _ (by simp <;> omega), World.cell?_setCell_far _ _ _ _ (by simp <;> omega), World.cell?_setCell_far _ _ _ _ (by simp <;> omega)]; simp [*]) | (have := hb2.size; simp at this; omega) | (rw [hb2.cell (by simp <;> omega)]; go_keep) | (rw [hb2.cell (by simp <;> omega)]; simp; assumption)))
    (first | (go_at_call 81; refine (H2.out _).mono ?_; rintro e w' ⟨rfl, hb2⟩; have g0 : w'.cell? ⟨w.heap.size + 1 + 1, 0, none⟩ = some (.int .i64 0) := (by rw [hb2.cell (by simp <;> omega)]; simpa using c0); have g1 : w'.cell? ⟨w.heap.size + 1 + 1, 1, none⟩ = some (.int .i64 0) := (by rw [hb2.cell (by simp <;> omega)]; simpa using c1); have g2 : w'.cell? ⟨w.heap.size + 1 + 1, 2, none⟩ = some (.int .i64 0) := (by rw [hb2.cell (by simp <;> omega)]; simpa using c2); have k0 : w'.frozen? ⟨w.heap.size + 1 + 1, 0, none⟩ = false := (by rw [hb2.frozen (by simp <;> omega)]; simpa using f0); have k1 : w'.frozen? ⟨w.heap.size + 1 + 1, 1, none⟩ = false := (by rw [hb2.frozen (by simp <;> omega)]; simpa using f1); have k2 : w'.frozen? ⟨w.heap.size + 1 + 1, 2, none⟩ = false := (by rw [hb2.frozen (by simp <;> omega)]; simpa using f2); have z2 : w.heap.size + 1 + 1 < w'.heap.size := (by have := hb2.size; simp at this; omega)))
  all_goals
    go_wp2_with fail
    exact bodyPost_ret (v := .tuple #[Cel.v ⟨qk, qh, qa⟩, .bool true]) (by simp [results, Tryz.results64, go_sem, Cel.v, g0, g1, g2, k0, k1, k2, z2]) rfl ⟨rfl, by repeat' (first | exact hb1.trans (hb2.mono (by simp <;> omega)) | exact (below_dN hb1 _).trans (hb2.mono (by simp <;> omega)) | exact hb1.drew.trans (hb2.mono (by simp <;> omega)) | exact (below_dN hb1.drew _).trans (hb2.mono (by simp <;> omega)) | refine below_dN ?_ _ | refine Below.drew ?_ | refine Below.setCell ?_ (by simp <;> omega) _)⟩
end Go.Proofs.YtmiceolkmiiahaaGreatDoor
