/- Plain: the error of a code, case by case; parts of slices. -/
import Derived.Test.YtcicbijpiffbkaaK2
import Derived.Test.YtcicbijpiffbkaaP3
namespace Go.Proofs.Ytcicbijpiffbkaa
open Go.RowKit
set_option linter.unusedVariables false
set_option linter.unusedSimpArgs false

def OkE (es : List Ent) : Prop := ∀ x ∈ es, x.n.length ≤ 140737488355328 ∧ I64 x.at' ∧ I64 x.sl
def OkI (is : List Ins) : Prop := ∀ x ∈ is, I64 x.op ∧ I64 x.a ∧ I64 x.n ∧ x.s.length ≤ 140737488355328
def LimC (n m : Nat) : Prop := n < 1 ∨ 8 < n ∨ m < 1 ∨ 2048 < m
theorem codeE_2 {es : List Ent} {is : List Ins} (h : LimC es.length is.length) : codeE es is = 2 := if_pos h
theorem codeE_6 {es : List Ent} {is : List Ins} (h : ¬ LimC es.length is.length) {k : Nat} (hk : k < es.length) (hb : nameB (str es[k].n) = false) : codeE es is = 6 := by
  unfold codeE
  unfold LimC at h
  rw [if_neg h, if_pos]
  rw [← Bool.not_eq_true, List.all_eq_true]
  intro h2
  have := h2 _ (List.getElem_mem hk)
  rw [hb] at this; cases this
theorem codeE_n {es : List Ent} {is : List Ins} (h : ¬ LimC es.length is.length) (hn : ∀ k (hk : k < es.length), nameB (str es[k].n) = true) : codeE es is = if dupB es = true then 7 else if allB es is = true then 0 else 20 := by
  unfold codeE
  unfold LimC at h
  rw [if_neg h, if_neg]
  rw [Bool.not_eq_false, List.all_eq_true]
  intro x hx
  obtain ⟨k, hk, rfl⟩ := List.getElem_of_mem hx
  exact hn k hk
theorem any_take {es : List Ent} {i : Nat} (hi : i < es.length) (s : List UInt8) : (es.take i).any (isN s) = true ↔ ∃ k, ∃ h : k < i, es[k].n = s := by
  rw [List.any_eq_true]
  constructor
  · rintro ⟨x, hx, h⟩
    obtain ⟨k, hk, rfl⟩ := List.getElem_of_mem hx
    rw [List.length_take] at hk
    refine ⟨k, by omega, ?_⟩
    unfold isN at h
    rw [List.getElem_take, beq_iff_eq] at h
    exact h
  · rintro ⟨k, hk, h⟩
    refine ⟨es[k], ?_, ?_⟩
    · rw [List.mem_take_iff_getElem]
      exact ⟨k, by omega, rfl⟩
    · unfold isN
      rw [beq_iff_eq]; exact h
theorem codeE_7 {es : List Ent} {is : List Ins} (h : ¬ LimC es.length is.length) (hn : ∀ k (hk : k < es.length), nameB (str es[k].n) = true) {i : Nat} (hi : i < es.length) (hd : (es.take i).any (isN es[i].n) = true) : codeE es is = 7 := by
  rw [codeE_n h hn, if_pos]
  unfold dupB
  rw [decide_eq_true_iff]
  obtain ⟨k, hk, e⟩ := (any_take hi _).1 hd
  exact ⟨i, hi, k, hk, e⟩
theorem codeE_d {es : List Ent} {is : List Ins} (h : ¬ LimC es.length is.length) (hn : ∀ k (hk : k < es.length), nameB (str es[k].n) = true) (hd : ∀ i (hi : i < es.length), (es.take i).any (isN es[i].n) = false) : codeE es is = if allB es is = true then 0 else 20 := by
  rw [codeE_n h hn, if_neg]
  unfold dupB
  rw [decide_eq_true_iff]
  rintro ⟨i, hi, k, hk, e⟩
  have := (any_take hi _).2 ⟨k, hk, e⟩
  rw [hd i hi] at this; cases this
theorem allB_seg {es : List Ent} {is : List Ins} (h : segsOk es is = false) : allB es is = false := by rw [allB_eq, h]; rfl
theorem allB_in {es : List Ent} {is : List Ins} {i : Nat} (hi : i < es.length) (h : segIn es is i hi = false) : allB es is = false := by
  rw [allB_eq, Bool.and_eq_false_iff]
  right
  rw [decide_eq_false_iff_not]
  intro h2
  rw [h2 i hi] at h; cases h
theorem allB_ok {es : List Ent} {is : List Ins} (h : segsOk es is = true) (h2 : ∀ i (hi : i < es.length), segIn es is i hi = true) : allB es is = true := by
  rw [allB_eq, h, Bool.true_and, decide_eq_true_iff]
  exact h2
theorem add_add (a : Addr) (x y : Nat) : (a.add x).add y = a.add (x + y) := by
  unfold Addr.add
  by_cases hx : x = 0
  · subst hx
    simp
  · by_cases hy : y = 0
    · subst hy
      simp [hx]
    · simp [hx, hy, Nat.add_assoc]
theorem SlAt.part {M : Type} {C : Nat} {E : M → List Value} {w : World} {a : Addr} {ms : List M} (h : SlAt C E w a ms) (f k : Nat) : SlAt C E w (a.add (f * C)) ((ms.drop f).take k) := by
  intro i hi j hj
  rw [List.length_take, List.length_drop] at hi
  have h1 := h (f + i) (by omega) j hj
  rw [add_add] at h1
  rw [add_add, add_add, show f * C + (i * C + j) = (f + i) * C + j by rw [Nat.add_mul, Nat.add_assoc], List.getElem_take, List.getElem_drop]
  exact h1
theorem seg_cells {w : World} {so : Option Addr} {scap n m : Nat} {ev iv : Value} {es : List Ent} (h : SlIs 5 (segC ev iv es m) w (.slice so n scap) (List.range n)) (hn : 1 ≤ n) :
    ∃ g, so = some g ∧ g.block < w.heap.size ∧ ∀ k, k < n → w.cell? (g.add (k * 5)) = some ev ∧ w.cell? ⟨(g.add (k * 5)).block, (g.add (k * 5)).off + 1, none⟩ = some iv ∧ w.cell? ⟨(g.add (k * 5)).block, (g.add (k * 5)).off + 2, none⟩ = some (.int .i64 (entD es k).at') ∧
      w.cell? ⟨(g.add (k * 5)).block, (g.add (k * 5)).off + 3, none⟩ = some (.int .i64 (toI es m k)) ∧ w.cell? ⟨(g.add (k * 5)).block, (g.add (k * 5)).off + 4, none⟩ = some (.int .i64 (entD es k).sl) := by
  obtain ⟨ao, cap, hv, h⟩ := h
  injection hv with h1 h2 h3
  obtain ⟨a, ha, hat⟩ : ∃ a, ao = some a ∧ SlAt 5 (segC ev iv es m) w a (List.range n) := h.resolve_left (fun h => by have := congrArg List.length h; simp at this; omega)
  have hk : ∀ k, k < n → ∀ j, j < 5 → w.cell? ((a.add (k * 5)).add j) = (segC ev iv es m k)[j]? := fun k hk j hj => by
    have := hat k (by simp; omega) j hj
    rw [List.getElem_range] at this
    exact this
  refine ⟨a, by rw [h1, ha], ?_, fun k hkn => ⟨hk k hkn 0 (by decide), hk k hkn 1 (by decide), hk k hkn 2 (by decide), hk k hkn 3 (by decide), hk k hkn 4 (by decide)⟩⟩
  have := cell_lt (show w.cell? ((a.add (0 * 5)).add 0) = some ev from hk 0 (by omega) 0 (by decide))
  simpa [Addr.add] using this
theorem seg_nat {es : List Ent} {is : List Ins} (h : segsOk es is = true) (k : Nat) (hk : k < es.length) : ∃ f t : Nat, es[k].at' = (f : Int) ∧ toI es is.length k = (t : Int) ∧ f < t ∧ t ≤ is.length := by
  unfold segsOk at h
  rw [decide_eq_true_iff] at h
  have h2 := (segOk_iff hk).1 (h k hk)
  exact ⟨es[k].at'.toNat, (toI es is.length k).toNat, by omega, by omega, by omega, by omega⟩
theorem segL_mem {is : List Ins} {f t : Nat} {x : Ins} (h : x ∈ segL is f t) : x ∈ is := List.mem_of_mem_drop (List.mem_of_mem_take h)
theorem segIn_eq {es : List Ent} {is : List Ins} {k : Nat} (hk : k < es.length) {f t : Nat} (hf : es[k].at' = (f : Int)) (ht : toI es is.length k = (t : Int)) : segIn es is k hk = (!(segL is f t).any (fun x => !formB es es[k].sl f t x) && balB (segL is f t) f) := by
  unfold segIn
  rw [hf, ht]
  rfl
theorem SlAt.take {M : Type} {C : Nat} {E : M → List Value} {w : World} {a : Addr} {ms : List M} (h : SlAt C E w a ms) (k : Nat) : SlAt C E w a (ms.take k) := by
  intro i hi j hj
  rw [List.getElem_take]
  exact h i (by rw [List.length_take] at hi; omega) j hj
end Go.Proofs.Ytcicbijpiffbkaa
