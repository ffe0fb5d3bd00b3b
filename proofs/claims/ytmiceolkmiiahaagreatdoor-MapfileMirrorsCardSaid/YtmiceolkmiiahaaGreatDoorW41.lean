/- Walks: slices.Reverse of cells (laid off the shelf). -/
import Derived.Test.YtmiceolkmiiahaaGreatDoorW40
import Derived.Shelf.SlicesQ.Reverse
namespace Go.Proofs.YtmiceolkmiiahaaGreatDoor
open Go.RowKit
set_option linter.unusedVariables false
set_option linter.unusedSimpArgs false
set_option maxRecDepth 100000

def rev_ren : Go.Shelf.Ren := ⟨fun | 35 => 48 | n => n, fun | 22 => 22 | 23 => 41 | 3 => 3 | 4 => 4 | 0 => 0 | n => n, fun | n => n⟩
theorem rev_laid : Go.Proofs.SlLaysE0.n35 Tryz.prog rev_ren := {
  mixed := by kernel_rfl
  f35 := ⟨Tryz.f48.name, by decide, Tryz.func48.trans (congrArg some (by kernel_rfl))⟩
  t0 := Tryz.underlying0
  a0 := Tryz.isAgg0
  z0 := Tryz.sizeOf0
  v0 := Tryz.zeroValue0
  t3 := Tryz.underlying3
  a3 := Tryz.isAgg3
  z3 := Tryz.sizeOf3
  v3 := Tryz.zeroValue3
  t4 := Tryz.underlying4
  a4 := Tryz.isAgg4
  z4 := Tryz.sizeOf4
  v4 := Tryz.zeroValue4
  t22 := Tryz.underlying22
  a22 := Tryz.isAgg22
  z22 := Tryz.sizeOf22
  v22 := Tryz.zeroValue22 }
instance : Inhabited Cel := ⟨⟨0, 0, 0⟩⟩
theorem flat_eq (cs : List Cel) : (Sort.flatK Cel.l 3 cs.toArray).toList = cellsOf Cel.l cs := by
  apply List.ext_getElem?
  intro t
  by_cases h : t < cs.length * 3
  · have h1 : t < (Sort.flatK Cel.l 3 cs.toArray).size := by rw [Sort.size_flatK]; simpa using h
    have hi : t / 3 < cs.length := by omega
    have h2 := Sort.get_flatK Cel.l 3 cs.toArray t (by simpa using h)
    rw [getElem!_pos _ t h1] at h2
    have h3 := cellsOf_get Cel.l_len cs (t / 3) hi (t % 3) (by omega)
    rw [show t / 3 * 3 + t % 3 = t by omega] at h3
    rw [h3, Array.getElem?_toList, Array.getElem?_eq_getElem h1, h2]
    have h4 : (cs.toArray)[t / 3]! = cs[t / 3] := by rw [getElem!_pos _ _ (by simpa using hi)]; simp
    rw [h4, getElem!_pos _ _ (by rw [Cel.l_len]; omega), List.getElem?_eq_getElem (by rw [Cel.l_len]; omega)]
  · rw [List.getElem?_eq_none (by rw [Array.length_toList, Sort.size_flatK]; simp; omega), List.getElem?_eq_none (by rw [cellsOf_len Cel.l_len]; omega)]
theorem rev_row {w : World} {B q n c : Nat} {cs : List Cel} (F : Array Value) (hF : F.size = n * 3) {xs : List Value} (o : w.ownsRow B 41 3 (.slice (some ⟨q, 0, none⟩) n c) n xs) (m : Nat) :
    (Sort.putRow id (Sort.ahead w m) q 0 F).ownsRow B 41 3 (.slice (some ⟨q, 0, none⟩) n c) n F.toList ∧ Fr q q w (Sort.putRow id (Sort.ahead w m) q 0 F) := by
  rcases o.2 with ⟨h1, _⟩ | ⟨g, cap, cur, h1, h2, h3, h4, h5, h6, h7⟩
  · cases h1
  · injection h1 with i1 i2 i3
    injection i1 with i1
    injection i1 with i1 _ _
    subst i1 i3
    have hb : (Sort.putRow id (Sort.ahead w m) q 0 F).heap[q]? = some (.cells (Sort.putCells id 0 F cur) 41 (0, 0)) := by
      show (w.heap.modify q _)[q]? = _
      rw [Array.getElem?_modify, if_pos rfl, h3]
      rfl
    refine ⟨⟨by rw [Array.length_toList, hF], Or.inr ⟨q, c, _, rfl, h2, hb, h4, h5, by unfold Sort.putCells; rw [Array.size_mapIdx]; exact h6, ?_⟩⟩, ⟨rfl, rfl, rfl, by show _ ≤ (w.heap.modify q _).size; simp, fun k hk h _ => ?_⟩⟩
    · apply List.ext_getElem?
      intro t
      unfold Sort.putCells
      rw [List.getElem?_take]
      have hcs : n * 3 ≤ cur.size := by rw [h6]; exact Nat.mul_le_mul_right _ h4
      by_cases ht : t < n * 3
      · rw [if_pos ht, Array.getElem?_toList, Array.getElem?_mapIdx, Array.getElem?_eq_getElem (by omega), Array.getElem?_toList, Array.getElem?_eq_getElem (by omega)]
        simp only [Option.map_some]
        rw [if_pos ⟨by omega, by omega⟩, getElem!_pos _ _ (by omega)]
        rfl
      · rw [if_neg ht, Array.getElem?_toList, Array.getElem?_eq_none (by omega)]
    · show (w.heap.modify q _)[k]? = _
      rw [Array.getElem?_modify, if_neg (by omega)]
theorem ReverseC_any (q n c B : Nat) (cs : List Cel) (hn : cs.length = n) (hz : n ≤ 1000000) (w : World) (o : w.ownsRow B 41 3 (.slice (some ⟨q, 0, none⟩) n c) n (cellsOf Cel.l cs)) :
    Calls Tryz.prog 48 #[.slice (some ⟨q, 0, none⟩) n c] w fun e w' => e = .returned (.tuple #[]) ∧ w'.ownsRow B 41 3 (.slice (some ⟨q, 0, none⟩) n c) n (cellsOf Cel.l cs.reverse) ∧ Fr q q w w' := by
  have hs : cs.toArray.size = n := by simpa using hn
  have hH : Sort.HoldsK Cel.l 3 w q 0 cs.toArray := fun j hj => by
    rw [Sort.size_flatK, hs] at hj
    rw [Nat.zero_add, o.cellAt j hj, ← flat_eq cs, Array.getElem?_toList, Array.getElem?_eq_getElem (by rw [Sort.size_flatK, hs]; exact hj), getElem!_pos _ _ (by rw [Sort.size_flatK, hs]; exact hj)]
    exact ⟨rfl, o.frozenAt j⟩
  have h := AnyQ.slices_Reverse rev_laid 3 Tryz.isAgg41 Tryz.sizeOf41 Cel.l (fun _ => rfl) (fun x v hv => by simp [Cel.l] at hv; rcases hv with rfl | rfl | rfl <;> rfl) q 0 c cs.toArray w hH (by omega)
  rw [hs] at h
  refine h.mono ?_
  rintro e w' ⟨he, m, rfl⟩
  have hr : cs.toArray.reverse = cs.reverse.toArray := by simp
  rw [hr]
  have := rev_row (cs := cs) (Sort.flatK Cel.l 3 cs.reverse.toArray) (by rw [Sort.size_flatK]; simp [hn]) o m
  rw [flat_eq] at this
  exact ⟨he, this.1, this.2⟩
end Go.Proofs.YtmiceolkmiiahaaGreatDoor
