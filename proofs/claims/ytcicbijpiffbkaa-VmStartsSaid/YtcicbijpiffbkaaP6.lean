/- Plain: the entry of an instruction, the depth, tasks that are valid. -/
import Derived.Test.YtcicbijpiffbkaaP5
namespace Go.Proofs.Ytcicbijpiffbkaa
open Go.RowKit
set_option linter.unusedVariables false
set_option linter.unusedSimpArgs false

def ent0 : Ent := ⟨[], 0, 0⟩
def entL : List Ent → Int → Ent → Ent
  | [], _, d => d
  | e :: es, a, d => entL es a (if e.at' ≤ a then e else d)
theorem entL_snoc (l : List Ent) (e : Ent) (a : Int) : ∀ d, entL (l ++ [e]) a d = if e.at' ≤ a then e else entL l a d := by
  induction l with
  | nil => intro d; simp [entL]
  | cons x l ih => intro d; simp only [List.cons_append, entL]; exact ih _
def entP (es : List Ent) (a : Int) (k : Nat) : Ent := entL (es.take k) a ent0
theorem entP_s {es : List Ent} {a : Int} {k : Nat} (h : k < es.length) : entP es a (k + 1) = if es[k].at' ≤ a then es[k] else entP es a k := by
  unfold entP
  rw [List.take_succ_eq_append_getElem h, entL_snoc]
def entA (es : List Ent) (a : Int) : Ent := entL es a ent0
theorem entP_all (es : List Ent) (a : Int) : entP es a es.length = entA es a := by unfold entP entA; rw [List.take_length]
def depA (es : List Ent) (is : List Ins) (a : Int) : Int := sumD (segL is (entA es a).at'.toNat a.toNat)
theorem ent_bnd {es : List Ent} {a : Int} (ha : 0 ≤ a) (h : ∀ i (h : i < es.length), 0 ≤ es[i].at') : ∀ k, k ≤ es.length → 0 ≤ (entP es a k).at' ∧ (entP es a k).at' ≤ a := by
  intro k
  induction k with
  | zero => intro _; unfold entP; simp [entL, ent0, ha]
  | succ k ih =>
    intro hk
    rw [entP_s hk]
    have := h k hk
    split
    · omega
    · exact ih (by omega)
/-- What is known of valid code. -/
theorem code_ok {es : List Ent} {is : List Ins} (h : codeE es is = 0) : 1 ≤ es.length ∧ es.length ≤ 8 ∧ 1 ≤ is.length ∧ is.length ≤ 2048 ∧ (∀ i (hi : i < es.length), numB es is.length i hi = true) ∧ allB es is = true := by
  unfold codeE at h
  split at h
  · cases h
  · split at h
    · cases h
    · split at h
      · cases h
      · split at h
        · rename_i h1 h2 h3 h4
          refine ⟨by omega, by omega, by omega, by omega, ?_, h4⟩
          unfold allB at h4
          rw [decide_eq_true_iff] at h4
          exact fun i hi => (h4 i hi).1
        · cases h
theorem ent_bounds {es : List Ent} {is : List Ins} (h : codeE es is = 0) {a : Int} (ha : 0 ≤ a) : 0 ≤ (entA es a).at' ∧ (entA es a).at' ≤ a := by
  rw [← entP_all]
  obtain ⟨_, _, _, _, h5, _⟩ := code_ok h
  exact ent_bnd ha (fun i hi => ((num_iff hi).1 (h5 i hi)).2.1) es.length (Nat.le_refl _)
/-- A task's numbers at code: state, at, wait, how many slots, how many values. -/
def fillB (es : List Ent) (is : List Ins) (a : Int) (ns nk : Nat) : Bool := ((ns : Int) == (entA es a).sl) && ((nk : Int) == depA es is a)
def validB (es : List Ent) (is : List Ins) (st a wt : Int) (ns nk : Nat) : Bool :=
  if codeE es is = 0 ∧ 0 ≤ a ∧ a < is.length then
    if st = 3 ∨ st = 4 then (wt == 0) && (((ns : Int) == 0) && ((nk : Int) == 0))
    else if (st = 1 ∧ wt = 0) ∨ (st = 2 ∧ 1 ≤ wt ∧ wt ≤ 1048576) then fillB es is a ns nk else false
  else false
theorem valid_bad {es : List Ent} {is : List Ins} {st a wt : Int} {ns nk : Nat} (h : ¬ (codeE es is = 0 ∧ 0 ≤ a ∧ a < is.length)) : validB es is st a wt ns nk = false := if_neg h
theorem valid_end {es : List Ent} {is : List Ins} {st a wt : Int} {ns nk : Nat} (h : codeE es is = 0 ∧ 0 ≤ a ∧ a < is.length) (h2 : st = 3 ∨ st = 4) : validB es is st a wt ns nk = ((wt == 0) && (((ns : Int) == 0) && ((nk : Int) == 0))) := by
  unfold validB
  rw [if_pos h, if_pos h2]
theorem valid_go {es : List Ent} {is : List Ins} {st a wt : Int} {ns nk : Nat} (h : codeE es is = 0 ∧ 0 ≤ a ∧ a < is.length) (h2 : ¬ (st = 3 ∨ st = 4)) : validB es is st a wt ns nk = if (st = 1 ∧ wt = 0) ∨ (st = 2 ∧ 1 ≤ wt ∧ wt ≤ 1048576) then fillB es is a ns nk else false := by
  unfold validB
  rw [if_pos h, if_neg h2]
theorem dep_step {is : List Ins} {f : Nat} {q : Nat} (hf : f ≤ q) (hq : q < is.length) : sumD (segL is f (q + 1)) = sumD (segL is f q) + delta is[q] := by
  unfold segL
  have h : (is.drop f)[q - f]? = some is[q] := by
    rw [List.getElem?_drop, show f + (q - f) = q by omega, List.getElem?_eq_getElem hq]
  obtain ⟨h1, h2⟩ := List.getElem?_eq_some_iff.1 h
  rw [show q + 1 - f = (q - f) + 1 by omega, sumD_take h1, h2]
theorem dep_start (is : List Ins) (f : Nat) : sumD (segL is f f) = 0 := by
  unfold segL
  simp [sumD]
end Go.Proofs.Ytcicbijpiffbkaa
