/- Walks: the index of a position. -/
import Derived.Test.YtmiceolkmiiahaaGreatDoorW3
namespace Go.Proofs.YtmiceolkmiiahaaGreatDoor
open Go.RowKit
set_option linter.unusedVariables false
set_option linter.unusedSimpArgs false
set_option maxRecDepth 100000

theorem pos_any (p : Po) (w : World) : KB 88 #[p.v] (Po.v ⟨nearI p.x, nearI p.y⟩) w := by
  have H1 := Lib.hid near_any
  obtain ⟨x, y⟩ := p
  unfold KB Po.v
  dsimp only
  generalize hnx : nearI x = nx at *
  generalize hny : nearI y = ny at *
  have HX := Lib.hid (H1.out x); have HY := Lib.hid (H1.out y)
  rw [hnx] at HX; rw [hny] at HY
  clear H1 hnx hny
  go_enter Tryz.func88, Tryz.ntmps88
  go_wp2_with fail
  go_region_held3 (fun w' => w'.cell? ⟨w.heap.size, 0, none⟩ = some (.int .i64 x) ∧ w'.cell? ⟨w.heap.size, 1, none⟩ = some (.int .i64 y)) (go_keep) (first | (go_at_call 89; refine (HX.out.still _).mono ?_; rintro e w' ⟨rfl, rfl⟩) | (go_at_call 89; refine (HY.out.still _).mono ?_; rintro e w' ⟨rfl, rfl⟩))
  go_wp2_with fail
  exact bodyPost_ret (v := Po.v ⟨nx, ny⟩) (by simp [results, Tryz.results88, go_sem, Po.v]) rfl ⟨rfl, by repeat' (first | exact Below.refl _ _ | refine below_dN ?_ _ | refine Below.drew ?_ | refine Below.setCell ?_ (by simp) _ | refine Below.alloc ?_ (by simp) _)⟩
theorem r6pos_any (p : Po) (w : World) : KB 91 #[p.v] (Po.v ⟨nearI p.x, nearI p.y⟩) w := by
  have H1 := Lib.hid r6near_any
  obtain ⟨x, y⟩ := p
  unfold KB Po.v
  dsimp only
  generalize hnx : nearI x = nx at *
  generalize hny : nearI y = ny at *
  have HX := Lib.hid (H1.out x); have HY := Lib.hid (H1.out y)
  rw [hnx] at HX; rw [hny] at HY
  clear H1 hnx hny
  go_enter Tryz.func91, Tryz.ntmps91
  go_wp2_with fail
  go_region_held3 (fun w' => w'.cell? ⟨w.heap.size, 0, none⟩ = some (.int .i64 x) ∧ w'.cell? ⟨w.heap.size, 1, none⟩ = some (.int .i64 y)) (go_keep) (first | (go_at_call 92; refine (HX.out.still _).mono ?_; rintro e w' ⟨rfl, rfl⟩) | (go_at_call 92; refine (HY.out.still _).mono ?_; rintro e w' ⟨rfl, rfl⟩))
  go_wp2_with fail
  exact bodyPost_ret (v := Po.v ⟨nx, ny⟩) (by simp [results, Tryz.results91, go_sem, Po.v]) rfl ⟨rfl, by repeat' (first | exact Below.refl _ _ | refine below_dN ?_ _ | refine Below.drew ?_ | refine Below.setCell ?_ (by simp) _ | refine Below.alloc ?_ (by simp) _)⟩

def idxI (W : Int) (p : Po) : Int := nearI p.y * nearI W + nearI p.x
theorem Index_any (W : Int) (p : Po) (w : World) : KB 78 #[.int .i64 W, p.v] (.int .i64 (idxI W p)) w := by
  have H1 := Lib.hid (pos_any p)
  have H2 := Lib.hid (near_any W)
  have hm : wrap64 (nearI p.y * nearI W) = nearI p.y * nearI W ∧ wrap64 (nearI p.y * nearI W + nearI p.x) = idxI W p := by
    obtain ⟨a1, a2⟩ := nearI_in p.y
    obtain ⟨b1, b2⟩ := nearI_in W
    obtain ⟨c1, c2⟩ := nearI_in p.x
    have u : (nearI p.y * nearI W).natAbs ≤ 1048576 * 1048576 := by
      rw [Int.natAbs_mul]
      exact Nat.mul_le_mul (by omega) (by omega)
    unfold idxI wrap64
    constructor <;> omega
  obtain ⟨x, y⟩ := p
  unfold KB Po.v at *
  dsimp only at *
  generalize idxI W ⟨x, y⟩ = I at *
  generalize nearI x = nx at *
  generalize nearI y = ny at *
  generalize nearI W = nw at *
  obtain ⟨m1, m2⟩ := hm
  go_enter Tryz.func78, Tryz.ntmps78
  go_wp2_with fail
  refine (H1.out _).mono ?_
  rintro e w1 ⟨rfl, hb⟩
  obtain ⟨n1, hb1, hz1⟩ := new_below hb
  clear hb
  go_wp2_with fail
  go_quiet ((go_at_call 89; exact (H2.out.quiet _ _)))
  go_wp2_with fail
  go_ret
  exact ⟨by simp only [m1, m2]; rfl, by repeat' (first | exact hb1 | refine below_dN ?_ _ | refine Below.drew ?_ | refine Below.setCell ?_ (by simp; omega) _ | refine Below.alloc ?_ (by omega) _)⟩
theorem r6Index_any (W : Int) (p : Po) (w : World) : KB 81 #[.int .i64 W, p.v] (.int .i64 (idxI W p)) w := by
  have H1 := Lib.hid (r6pos_any p)
  have H2 := Lib.hid (r6near_any W)
  have hm : wrap64 (nearI p.y * nearI W) = nearI p.y * nearI W ∧ wrap64 (nearI p.y * nearI W + nearI p.x) = idxI W p := by
    obtain ⟨a1, a2⟩ := nearI_in p.y
    obtain ⟨b1, b2⟩ := nearI_in W
    obtain ⟨c1, c2⟩ := nearI_in p.x
    have u : (nearI p.y * nearI W).natAbs ≤ 1048576 * 1048576 := by
      rw [Int.natAbs_mul]
      exact Nat.mul_le_mul (by omega) (by omega)
    unfold idxI wrap64
    constructor <;> omega
  obtain ⟨x, y⟩ := p
  unfold KB Po.v at *
  dsimp only at *
  generalize idxI W ⟨x, y⟩ = I at *
  generalize nearI x = nx at *
  generalize nearI y = ny at *
  generalize nearI W = nw at *
  obtain ⟨m1, m2⟩ := hm
  go_enter Tryz.func81, Tryz.ntmps81
  go_wp2_with fail
  refine (H1.out _).mono ?_
  rintro e w1 ⟨rfl, hb⟩
  obtain ⟨n1, hb1, hz1⟩ := new_below hb
  clear hb
  go_wp2_with fail
  go_quiet ((go_at_call 92; exact (H2.out.quiet _ _)))
  go_wp2_with fail
  go_ret
  exact ⟨by simp only [m1, m2]; rfl, by repeat' (first | exact hb1 | refine below_dN ?_ _ | refine Below.drew ?_ | refine Below.setCell ?_ (by simp; omega) _ | refine Below.alloc ?_ (by omega) _)⟩

def atP (W i : Int) : Po := if W < 1 ∨ i < 0 then ⟨0, 0⟩ else ⟨i.tmod W, i.tdiv W⟩
theorem At_any (W i : Int) (hW : 1 ≤ W) (hi : 0 ≤ i) (hW2 : W ≤ 1000000) (hi2 : i ≤ 1000000) (w : World) : KB 24 #[.int .i64 W, .int .i64 i] (Po.v ⟨i.tmod W, i.tdiv W⟩) w := by
  unfold KB Po.v
  dsimp only
  have hz : W ≠ 0 := by omega
  have hd : IntKind.i64.wrap (i.tdiv W) = i.tdiv W := by
    have h1 : i.tdiv W = i / W := Int.tdiv_eq_ediv_of_nonneg hi
    have h2 : 0 ≤ i / W := Int.ediv_nonneg hi (by omega)
    have h3 : i / W ≤ i := Int.ediv_le_self _ hi
    rw [h1]
    rw [IntKind.wrap_i64]
    omega
  go_enter Tryz.func24, Tryz.ntmps24
  go_wp2_with fail
  go_region_held3 (fun w' => w'.heap.size = w.heap.size + 1) (go_keep) (first | fail)
  go_wp2_with fail
  exact bodyPost_ret (v := Po.v ⟨i.tmod W, i.tdiv W⟩) (by simp [results, Tryz.results24, go_sem, Po.v, hd]) rfl ⟨rfl, by repeat' (first | exact Below.refl _ _ | refine below_dN ?_ _ | refine Below.drew ?_ | refine Below.setCell ?_ (by simp) _ | refine Below.alloc ?_ (by simp) _)⟩
end Go.Proofs.YtmiceolkmiiahaaGreatDoor
