/- Walks: passable for feet. -/
import Derived.Test.YtmiceolkmiiahaaGreatDoorW8
namespace Go.Proofs.YtmiceolkmiiahaaGreatDoor
open Go.RowKit
set_option linter.unusedVariables false
set_option linter.unusedSimpArgs false
set_option maxRecDepth 100000

def passL : List Bool := [false, false, false, false, false, false, false, true, false, false, false, true, false, true, true, false, false, true, false, true, true, true, true, true]
def Pass (w : World) : Prop := w.var? Tryz.prog "skirmish/terrain.passable" = some (passL.map Value.bool).toArray
theorem Pass.below {w w' : World} (hb : Below w.heap.size w w') (h : Pass w) : Pass w' := var_below hb h
theorem gPass : Tryz.prog.globalNamed "skirmish/terrain.passable" = some 0 := by kernel_rfl
theorem Pass.cell {w : World} (h : Pass w) (i : Nat) (hi : i < 24) : w.cell? ⟨0, i, none⟩ = some (.bool passL[i]) := by
  rw [World.var?_cell gPass h i]
  have hl : passL.length = 24 := rfl
  simp [hl, hi]
  rfl
theorem Pass.cells {w : World} (h : Pass w) : w.cell? ⟨0, 7, none⟩ = some (.bool true) ∧ w.cell? ⟨0, 8, none⟩ = some (.bool false) ∧ w.cell? ⟨0, 9, none⟩ = some (.bool false) ∧ w.cell? ⟨0, 10, none⟩ = some (.bool false) ∧ w.cell? ⟨0, 11, none⟩ = some (.bool true) :=
  ⟨h.cell 7 (by decide), h.cell 8 (by decide), h.cell 9 (by decide), h.cell 10 (by decide), h.cell 11 (by decide)⟩

theorem Passable_no (W H : Int) (v : Value) (p : Po) (w : World) (h : ∀ w', Below w.heap.size w w' → KB 60 #[mapV W H v, p.v] (.tuple #[Cel.v ⟨0, 0, 0⟩, .bool false]) w') : KB 32 #[mapV W H v, .int .i64 1, p.v] (.bool false) w := by
  have H1 := Lib.hid h
  clear h
  obtain ⟨x, y⟩ := p
  unfold KB at *
  unfold mapV Po.v Cel.v at *
  dsimp only at *
  go_enter Tryz.func32, Tryz.ntmps32
  go_wp2_with fail
  refine (H1.out _ ((below_new _ _).trans ((below_new _ _).mono (by simp)))).mono ?_
  rintro e w1 ⟨rfl, hb⟩
  obtain ⟨n1, n2, hb1, hz1⟩ := two_below hb
  clear hb
  go_wp2_with fail
  go_ret
  exact ⟨rfl, hb1.alloc (by omega) _⟩
set_option maxHeartbeats 4000000 in
theorem Passable_yes (W H : Int) (v : Value) (p : Po) (k g a : Int) (hk : 1 ≤ k ∧ k ≤ 5) (w : World) (h : ∀ w', Below w.heap.size w w' → KB 60 #[mapV W H v, p.v] (.tuple #[Cel.v ⟨k, g, a⟩, .bool true]) w') (hp : Pass w) : KB 32 #[mapV W H v, .int .i64 1, p.v] (.bool (k == 1 || k == 5)) w := by
  have H1 := Lib.hid h
  have HP := Lib.hid hp
  clear h hp
  obtain ⟨x, y⟩ := p
  unfold KB at *
  unfold mapV Po.v Cel.v at *
  dsimp only at *
  obtain rfl | rfl | rfl | rfl | rfl : k = 1 ∨ k = 2 ∨ k = 3 ∨ k = 4 ∨ k = 5 := by omega
  all_goals
    clear hk
    go_enter Tryz.func32, Tryz.ntmps32
    go_wp2_with fail
    refine (H1.out _ ((below_new _ _).trans ((below_new _ _).mono (by simp)))).mono ?_
    rintro e w1 ⟨rfl, hb⟩
    obtain ⟨n1, n2, hb1, hz1⟩ := two_below hb
    obtain ⟨t7, t8, t9, t10, t11⟩ := (HP.out.below hb1).cells
    have hg := cell_lt t7
    have hg2 : ¬ 0 = w1.heap.size := Nat.ne_of_lt hg
    have hg3 : ¬ w1.heap.size = 0 := fun h => hg2 h.symm
    clear hb
    go_wp2_with fail
    go_quiet (fail)
    go_wp2_with fail
    go_ret
    exact ⟨rfl, by repeat' (first | exact hb1 | refine below_dN ?_ _ | refine Below.drew ?_ | refine Below.alloc ?_ (by omega) _)⟩

theorem mapB_cel {W H : Int} {cs : List Cel} (h : mapB W H cs = true) : ∀ c ∈ cs, celB c = true := by
  unfold mapB at h
  rw [Bool.and_eq_true] at h
  intro c hc
  have h2 := h.2
  rw [Bool.not_eq_true', List.any_eq_false] at h2
  have := h2 c hc
  unfold badC at this
  simpa using this
theorem celB_k {c : Cel} (h : celB c = true) : 1 ≤ c.k ∧ c.k ≤ 5 ∧ 0 ≤ c.h ∧ c.h ≤ 3 ∧ 0 ≤ c.a ∧ c.a ≤ 1000000 ∧ (0 < c.a ↔ richB c.k = true) := by
  unfold celB at h
  simp only [Bool.and_eq_true, decide_eq_true_eq, beq_iff_eq] at h
  obtain ⟨⟨⟨⟨⟨⟨h1, h2⟩, h3⟩, h4⟩, h5⟩, h6⟩, h7⟩ := h
  exact ⟨h1, h2, h3, h4, h5, h6, by rw [← h7]; simp⟩
theorem getC_mem {W H : Int} {cs : List Cel} {p : Po} {c : Cel} (h : getC W H cs p = some c) : c ∈ cs := by
  unfold getC at h
  split at h
  · exact List.mem_of_getElem? h
  · exact absurd h (by simp)
theorem Passable_any (W H : Int) (v : Value) (cs : List Cel) (p : Po) (w : World) (h : CelSl w v cs) (hz : cs.length ≤ 1000000) (hv : mapB W H cs = true) (hp : Pass w) :
    KB 32 #[mapV W H v, .int .i64 1, p.v] (.bool (passB W H cs p)) w := by
  have H := fun w' (hb : Below w.heap.size w w') => Get_any W H v cs p w' (h.below Cel.l_len hb) hz
  unfold passB
  cases hg : getC W _ cs p with
  | none => rw [hg] at H; exact Passable_no _ _ v p w H
  | some c =>
    rw [hg] at H
    obtain ⟨k, g, a⟩ := c
    have := celB_k (mapB_cel hv _ (getC_mem hg))
    exact Passable_yes _ _ v p k g a ⟨this.1, this.2.1⟩ w H hp

set_option maxHeartbeats 4000000 in
theorem r7Passable_no (W H : Int) (v : Value) (p : Po) (w : World) (h : ∀ w', Below w.heap.size w w' → KB 64 #[mapV W H v, p.v] (.tuple #[Cel.v ⟨0, 0, 0⟩, .bool false]) w') : KB 36 #[mapV W H v, .int .i64 1, p.v] (.bool false) w := by
  have H1 := Lib.hid h
  clear h
  obtain ⟨x, y⟩ := p
  unfold KB at *
  unfold mapV Po.v Cel.v at *
  dsimp only at *
  go_enter Tryz.func36, Tryz.ntmps36
  go_wp2_with fail
  refine (H1.out _ ((below_new _ _).trans ((below_new _ _).mono (by simp)))).mono ?_
  rintro e w1 ⟨rfl, hb⟩
  obtain ⟨n1, n2, hb1, hz1⟩ := two_below hb
  clear hb
  go_wp2_with fail
  go_ret
  exact ⟨rfl, hb1.alloc (by omega) _⟩
set_option maxHeartbeats 4000000 in
theorem r7Passable_yes (W H : Int) (v : Value) (p : Po) (k g a : Int) (w : World) (h : ∀ w', Below w.heap.size w w' → KB 64 #[mapV W H v, p.v] (.tuple #[Cel.v ⟨k, g, a⟩, .bool true]) w') : KB 36 #[mapV W H v, .int .i64 1, p.v] (.bool (k == 1 || k == 5)) w := by
  have H1 := Lib.hid h
  clear h
  obtain ⟨x, y⟩ := p
  unfold KB at *
  unfold mapV Po.v Cel.v at *
  dsimp only at *
  by_cases h1 : k = 1
  · subst h1
    go_enter Tryz.func36, Tryz.ntmps36
    go_wp2_with fail
    refine (H1.out _ ((below_new _ _).trans ((below_new _ _).mono (by simp)))).mono ?_
    rintro e w1 ⟨rfl, hb⟩
    obtain ⟨n1, n2, hb1, hz1⟩ := two_below hb
    clear hb
    go_wp2_with fail
    go_ret
    exact ⟨rfl, hb1.alloc (by omega) _⟩
  · go_enter Tryz.func36, Tryz.ntmps36
    go_wp2_with fail
    refine (H1.out _ ((below_new _ _).trans ((below_new _ _).mono (by simp)))).mono ?_
    rintro e w1 ⟨rfl, hb⟩
    obtain ⟨n1, n2, hb1, hz1⟩ := two_below hb
    clear hb
    go_wp2_with fail
    go_ret
    exact ⟨rfl, hb1.alloc (by omega) _⟩
theorem r7Passable_any (W H : Int) (v : Value) (cs : List Cel) (p : Po) (w : World) (h : CelSl w v cs) (hz : cs.length ≤ 1000000) :
    KB 36 #[mapV W H v, .int .i64 1, p.v] (.bool (passB W H cs p)) w := by
  have H := fun w' (hb : Below w.heap.size w w') => r7Get_any W H v cs p w' (h.below Cel.l_len hb) hz
  unfold passB
  cases hg : getC W _ cs p with
  | none => rw [hg] at H; exact r7Passable_no _ _ v p w H
  | some c =>
    rw [hg] at H
    obtain ⟨k, g, a⟩ := c
    exact r7Passable_yes _ _ v p k g a w H
end Go.Proofs.YtmiceolkmiiahaaGreatDoor
