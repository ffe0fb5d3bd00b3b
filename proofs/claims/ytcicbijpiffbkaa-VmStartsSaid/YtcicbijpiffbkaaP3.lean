/- Plain: the segments of a code. -/
import Derived.Test.YtcicbijpiffbkaaP2
namespace Go.Proofs.Ytcicbijpiffbkaa
open Go.RowKit
set_option linter.unusedVariables false
set_option linter.unusedSimpArgs false

theorem num_iff {es : List Ent} {m i : Nat} (h : i < es.length) : numB es m i h = true ↔ (i = 0 → es[i].at' = 0) ∧ 0 ≤ es[i].at' ∧ es[i].at' < toI es m i ∧ toI es m i ≤ m ∧ 0 ≤ es[i].sl ∧ es[i].sl ≤ 32 := by
  unfold numB
  simp only [Bool.and_eq_true, Bool.or_eq_true, decide_eq_true_iff, beq_iff_eq]
  constructor
  · rintro ⟨⟨⟨⟨⟨h1, h2⟩, h3⟩, h4⟩, h5⟩, h6⟩
    exact ⟨fun e => h1.resolve_left (fun h => h e), h2, h3, h4, h5, h6⟩
  · rintro ⟨h1, h2, h3, h4, h5, h6⟩
    refine ⟨⟨⟨⟨⟨?_, h2⟩, h3⟩, h4⟩, h5⟩, h6⟩
    by_cases e : i = 0
    · exact Or.inr (h1 e)
    · exact Or.inl e
/-- The numbers of entry i and the last instruction of its segment. -/
def segOk (es : List Ent) (is : List Ins) (i : Nat) (h : i < es.length) : Bool := numB es is.length i h && (is[(toI es is.length i).toNat - 1]?.map Ins.op == some 11)
def segsOk (es : List Ent) (is : List Ins) : Bool := decide (∀ i (h : i < es.length), segOk es is i h = true)
def entD (es : List Ent) (i : Nat) : Ent := es.getD i ⟨[], 0, 0⟩
theorem entD_at {es : List Ent} {i : Nat} (h : i < es.length) : entD es i = es[i] := by
  unfold entD
  rw [List.getD_eq_getElem?_getD, List.getElem?_eq_getElem h]
  rfl
/-- The cells of segment i. -/
def segC (ev iv : Value) (es : List Ent) (m : Nat) (i : Nat) : List Value := [ev, iv, .int .i64 (entD es i).at', .int .i64 (toI es m i), .int .i64 (entD es i).sl]
theorem segC_len (ev iv : Value) (es : List Ent) (m : Nat) (i : Nat) : (segC ev iv es m i).length = 5 := rfl
theorem segOk_iff {es : List Ent} {is : List Ins} {i : Nat} (h : i < es.length) : segOk es is i h = true ↔ ((i = 0 → es[i].at' = 0) ∧ 0 ≤ es[i].at' ∧ es[i].at' < toI es is.length i ∧ toI es is.length i ≤ is.length ∧ 0 ≤ es[i].sl ∧ es[i].sl ≤ 32) ∧ is[(toI es is.length i).toNat - 1]?.map Ins.op = some 11 := by
  unfold segOk
  rw [Bool.and_eq_true, num_iff, beq_iff_eq]
/-- The forms and the depths of segment i. -/
def segIn (es : List Ent) (is : List Ins) (i : Nat) (h : i < es.length) : Bool :=
  !(segL is es[i].at'.toNat (toI es is.length i).toNat).any (badF es es[i].sl es[i].at'.toNat (toI es is.length i).toNat) && balB (segL is es[i].at'.toNat (toI es is.length i).toNat) es[i].at'.toNat
where badF (es : List Ent) (sl : Int) (f t : Nat) (x : Ins) : Bool := !formB es sl f t x
theorem allB_eq (es : List Ent) (is : List Ins) : allB es is = (segsOk es is && decide (∀ i (h : i < es.length), segIn es is i h = true)) := by
  unfold allB segsOk
  apply bool_eq
  rw [decide_eq_true_iff, Bool.and_eq_true, decide_eq_true_iff, decide_eq_true_iff]
  have hs : ∀ i (h : i < es.length), segB es is es[i].sl es[i].at'.toNat (toI es is.length i).toNat = (segIn es is i h && (is[(toI es is.length i).toNat - 1]?.map Ins.op == some 11)) := fun i h => by
    rw [segB_eq]
    rfl
  constructor
  · intro h
    refine ⟨fun i hi => ?_, fun i hi => ?_⟩
    · obtain ⟨h1, h2⟩ := h i hi
      rw [hs, Bool.and_eq_true] at h2
      unfold segOk
      rw [h1, h2.2]; rfl
    · obtain ⟨h1, h2⟩ := h i hi
      rw [hs, Bool.and_eq_true] at h2
      exact h2.1
  · rintro ⟨h1, h2⟩ i hi
    have a := h1 i hi
    unfold segOk at a
    rw [Bool.and_eq_true] at a
    exact ⟨a.1, by rw [hs, h2 i hi, a.2]; rfl⟩
end Go.Proofs.Ytcicbijpiffbkaa
