/- Walks: the reference's Turned and Mirror. -/
import Derived.Test.YtmiceolkmiiahaaDoorW42
import Derived.Deep.RegionHeld3
import Derived.Deep.AppendLies
namespace Go.Proofs.YtmiceolkmiiahaaDoor
open Go.RowKit
set_option linter.unusedVariables false
set_option linter.unusedSimpArgs false
set_option maxRecDepth 100000
set_option maxHeartbeats 8000000

theorem validT_many {n : List UInt8} {W H : Int} {cs : List Cel} {ps : List Po} (h1 : nameB (str n) = true) (h2 : mapB W H cs = true) (h3 : 6 < ps.length) : validT (str n) W H cs ps = 2 := by
  unfold validT
  simp [h1, h2]
  omega
theorem rev_of {cs : List Cel} {nc : Nat} (hn : cs.length = nc) (h : ∀ j : Nat, j < nc → cs[j]? = cs[nc - 1 - j]?) : cs.reverse = cs := by
  apply List.ext_getElem?
  intro i
  by_cases hi : i < nc
  · rw [List.getElem?_reverse (by omega), hn]
    exact (h i hi).symm
  · rw [List.getElem?_eq_none (by simp; omega), List.getElem?_eq_none (by omega)]
theorem rev_not {cs : List Cel} {nc k j : Nat} (hn : cs.length = nc) (hk : k < nc) (hj : nc - 1 - k = j) (h : cs[k]? ≠ cs[j]?) : cs.reverse ≠ cs := by
  intro e
  apply h
  have h1 : cs.reverse[k]? = cs[j]? := by rw [List.getElem?_reverse (by omega), hn, hj]
  rw [← h1, e]
theorem rTurned_any (W H : Int) (cv : Value) (p : Po) (w : World) : KB 12 #[mapV W H cv, p.v] (turnP W H p).v w := by
  obtain ⟨x, y⟩ := p
  unfold KB Po.v turnP mapV
  dsimp only
  go_enter Tryd.func12, Tryd.ntmps12
  go_wp2_with fail
  exact bodyPost_ret (v := Po.v ⟨wrap64 (wrap64 (W - 1) - x), wrap64 (wrap64 (H - 1) - y)⟩) (by simp [results, Tryd.results12, go_sem, Po.v]) rfl ⟨rfl, by repeat' (first | exact Below.refl _ _ | refine below_dN ?_ _ | refine Below.drew ?_ | refine Below.setCell ?_ (by first | omega | (simp <;> omega)) _ | refine Below.alloc ?_ (by first | omega | (simp <;> omega)) _)⟩
theorem rmirror_good {n : List UInt8} {W H : Int} {cs : List Cel} {ps : List Po} {w wv : World} {rb B' k cb : Nat} {cv : Value} {bo : Option Addr} {a b c d e : Value} (hE : mirE n W H cs ps = 0) (hc : CelSl w cv cs) (hpl : (ps ++ ps.map (turnP W H)).length = k) (h2 : wv.ownsRow B' 40 2 (.slice bo k cb) k (cellsOf Po.l (ps ++ ps.map (turnP W H)))) (hB' : rb < B') (hb : Below w.heap.size w wv) (hr : w.heap.size ≤ rb) :
    MRes n W H cs ps w (.returned (.tuple #[fileV (str n) W H cv (.slice bo k cb), .int .i64 0])) (st5 wv rb a b c d e) := by
  unfold MRes
  rw [if_pos hE]
  exact ⟨⟨_, _, rfl, hc.below (st5_below hb hr), posl_of (st5_row h2 hB') hpl, capOk_owns h2⟩, st5_below hb hr⟩
theorem set_far {w : World} {p q : Addr} {u v : Value} (h : w.cell? p = some v) (hlt : p.block < q.block) : (w.setCell q u).cell? p = some v := by
  rw [World.cell?_setCell_far _ _ _ _ (by simp <;> omega)]
  exact h
theorem one2 (a b : Int) : ∀ u ∈ [Value.int .i64 a, Value.int .i64 b], u.oneCell' = true := by
  intro u hu
  simp at hu
  rcases hu with rfl | rfl <;> rfl
end Go.Proofs.YtmiceolkmiiahaaDoor
