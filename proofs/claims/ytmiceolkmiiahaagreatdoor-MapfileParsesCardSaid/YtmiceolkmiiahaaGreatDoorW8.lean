/- Walks: a position is passable. -/
import Derived.Test.YtmiceolkmiiahaaGreatDoorW7
namespace Go.Proofs.YtmiceolkmiiahaaGreatDoor
open Go.RowKit
set_option linter.unusedVariables false
set_option linter.unusedSimpArgs false
set_option maxRecDepth 100000

theorem ins_idx (W H : Int) (n : Nat) (p : Po) (h : insB W H n p = true) : 0 ≤ p.y * W + p.x ∧ idxI W p = ((p.y * W + p.x).toNat : Int) ∧ (p.y * W + p.x).toNat < n ∧ 1 ≤ W ∧ W ≤ 32 ∧ 1 ≤ H ∧ H ≤ 32 ∧ 0 ≤ p.x ∧ p.x < W ∧ 0 ≤ p.y ∧ p.y < H ∧ (n : Int) = W * H := by
  unfold insB fmB at h
  rw [Bool.and_eq_true, Bool.and_eq_true, beq_iff_eq] at h
  obtain ⟨⟨h1, h2⟩, h3⟩ := h
  obtain ⟨a1, a2, a3, a4⟩ := (gvB_iff W H).1 h1
  obtain ⟨b1, b2, b3, b4⟩ := (inB_iff W H p).1 h3
  have p0 : 0 ≤ p.y * W := Int.mul_nonneg b3 (by omega)
  have p1 : p.y * W ≤ (H - 1) * W := Int.mul_le_mul_of_nonneg_right (by omega) (by omega)
  have p2 : (H - 1) * W = W * H - W := by rw [Int.sub_mul, Int.one_mul, Int.mul_comm]
  refine ⟨by omega, ?_, by omega, a1, a2, a3, a4, b1, b2, b3, b4, h2⟩
  unfold idxI
  rw [nearI_of p.x (by omega) (by omega), nearI_of p.y (by omega) (by omega), nearI_of W (by omega) (by omega)]
  omega

/-- The cell at a position. -/
def getC (W H : Int) (cs : List Cel) (p : Po) : Option Cel := if insB W H cs.length p then cs[(p.y * W + p.x).toNat]? else none
theorem Get_any (W H : Int) (v : Value) (cs : List Cel) (p : Po) (w : World) (h : CelSl w v cs) (hz : cs.length ≤ 1000000) :
    KB 60 #[mapV W H v, p.v] (match getC W H cs p with | some c => .tuple #[c.v, .bool true] | none => .tuple #[Cel.v ⟨0, 0, 0⟩, .bool false]) w := by
  obtain ⟨ao, ca, rfl, h⟩ := h
  unfold getC
  by_cases hi : insB W H cs.length p = true
  · rw [if_pos hi]
    obtain ⟨i0, i1, i2, _⟩ := ins_idx _ _ _ _ hi
    generalize hk : (p.y * W + p.x).toNat = k at *
    rw [List.getElem?_eq_getElem i2]
    rcases h with h | ⟨a, rfl, h⟩
    · rw [h] at i2; simp at i2
    · exact Get_yes W H a cs.length ca p hi k i1 i2 hz cs[k] w (celAt h k i2)
  · rw [if_neg hi]
    exact Get_no W H ao cs.length ca p (by simpa using hi) w
theorem r7Get_any (W H : Int) (v : Value) (cs : List Cel) (p : Po) (w : World) (h : CelSl w v cs) (hz : cs.length ≤ 1000000) :
    KB 64 #[mapV W H v, p.v] (match getC W H cs p with | some c => .tuple #[c.v, .bool true] | none => .tuple #[Cel.v ⟨0, 0, 0⟩, .bool false]) w := by
  obtain ⟨ao, ca, rfl, h⟩ := h
  unfold getC
  by_cases hi : insB W H cs.length p = true
  · rw [if_pos hi]
    obtain ⟨i0, i1, i2, _⟩ := ins_idx _ _ _ _ hi
    generalize hk : (p.y * W + p.x).toNat = k at *
    rw [List.getElem?_eq_getElem i2]
    rcases h with h | ⟨a, rfl, h⟩
    · rw [h] at i2; simp at i2
    · exact r7Get_yes W H a cs.length ca p hi k i1 i2 hz cs[k] w (celAt h k i2)
  · rw [if_neg hi]
    exact r7Get_no W H ao cs.length ca p (by simpa using hi) w

/-- Feet pass. -/
def passB (W H : Int) (cs : List Cel) (p : Po) : Bool := match getC W H cs p with | some c => c.k == 1 || c.k == 5 | none => false
end Go.Proofs.YtmiceolkmiiahaaGreatDoor
