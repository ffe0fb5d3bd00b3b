/- Plain: facts on depths, segments and numbers of entries. -/
import Derived.Test.YtcicbijpiffbkaaP1
namespace Go.Proofs.Ytcicbijpiffbkaa
open Go.RowKit
set_option linter.unusedVariables false
set_option linter.unusedSimpArgs false

theorem arN_q {a : Int} (h : arQ a = true) : 0 ≤ arN a ∧ arN a ≤ 1 := by
  unfold arQ at h
  rw [Bool.and_eq_true, decide_eq_true_iff, decide_eq_true_iff] at h
  unfold arN
  split
  · omega
  · split
    · omega
    · split
      · omega
      · split
        · omega
        · omega
theorem arN_d {a : Int} (h : arD a = true) : 1 ≤ arN a ∧ arN a ≤ 3 := by
  unfold arD at h
  rw [Bool.and_eq_true, decide_eq_true_iff, decide_eq_true_iff] at h
  unfold arN
  split
  · omega
  · split
    · omega
    · split
      · omega
      · split
        · omega
        · omega
theorem putN_le (x : Ins) : 0 ≤ putN x ∧ putN x ≤ 1 := by
  unfold putN
  split <;> omega
theorem form_q {es : List Ent} {sl f t : Int} {x : Ins} (h : formB es sl f t x = true) (h7 : x.op = 7) : arQ x.a = true := by
  unfold formB at h
  rw [h7] at h
  simp at h
  exact h.1.1
theorem form_d {es : List Ent} {sl f t : Int} {x : Ins} (h : formB es sl f t x = true) (h7 : x.op = 8) : arD x.a = true := by
  unfold formB at h
  rw [h7] at h
  simp at h
  exact h.1.1
theorem form_j {es : List Ent} {sl f t : Int} {x : Ins} (h : formB es sl f t x = true) (h7 : jmpB x.op = true) : f ≤ x.a ∧ x.a < t := by
  unfold jmpB at h7
  unfold formB at h
  rw [Bool.or_eq_true, beq_iff_eq, beq_iff_eq] at h7
  rcases h7 with h7 | h7 <;>
  · rw [h7] at h
    simp at h
    exact h.1.1
theorem form_ops {es : List Ent} {sl f t : Int} {x : Ins} (h : formB es sl f t x = true) : 1 ≤ x.op ∧ x.op ≤ 11 := by
  unfold formB at h
  split at h
  · omega
  · split at h
    · omega
    · split at h
      · omega
      · split at h
        · omega
        · split at h
          · omega
          · split at h
            · omega
            · split at h
              · omega
              · split at h
                · omega
                · cases h
theorem take_le {es : List Ent} {sl f t : Int} {x : Ins} (h : formB es sl f t x = true) : 0 ≤ takeN x ∧ takeN x ≤ 3 := by
  unfold takeN
  split
  · omega
  · split
    · split <;> omega
    · split
      · rename_i h7
        rcases h7 with h7 | h7
        · have := arN_q (form_q h h7); omega
        · have := arN_d (form_d h h7); omega
      · omega
/-- The depth ahead of instruction k. -/
def dep (L : List Ins) (k : Nat) : Int := sumD (L.take k)
theorem dep_0 (L : List Ins) : dep L 0 = 0 := by unfold dep; simp [sumD]
theorem dep_s {L : List Ins} {k : Nat} (h : k < L.length) : dep L (k + 1) = dep L k + (putN L[k] - takeN L[k]) := sumD_take h
theorem step_iff (d : Int) (x : Ins) : stepB d x = true ↔ takeN x ≤ d ∧ d + (putN x - takeN x) ≤ 32 ∧ (stmB x.op = true → d + (putN x - takeN x) = 0) := by
  unfold stepB delta
  rw [Bool.and_eq_true, Bool.and_eq_true, decide_eq_true_iff, decide_eq_true_iff, Bool.or_eq_true, beq_iff_eq]
  cases stmB x.op <;> simp [and_assoc]
theorem dep_le {es : List Ent} {sl f t : Int} {L : List Ins} : ∀ k, k ≤ L.length → (∀ j (h : j < L.length), j < k → formB es sl f t L[j] = true ∧ stepB (dep L j) L[j] = true) → 0 ≤ dep L k ∧ dep L k ≤ 32 := by
  intro k
  induction k with
  | zero => intro _ _; rw [dep_0]; omega
  | succ k ih =>
    intro hk h
    have h0 := ih (by omega) (fun j hj hjk => h j hj (by omega))
    obtain ⟨h1, h2⟩ := h k (by omega) (by omega)
    rw [step_iff] at h2
    rw [dep_s (by omega)]
    have := putN_le L[k]
    have := take_le h1
    omega
/-- The steps of a segment and its jumps. -/
def balB (L : List Ins) (f : Int) : Bool := decide (∀ k (h : k < L.length), stepB (dep L k) L[k] = true ∧ (jmpB L[k].op = true → dep L (L[k].a - f).toNat = 0))
theorem segB_eq (es : List Ent) (is : List Ins) (sl : Int) (f t : Nat) : segB es is sl f t = ((!(segL is f t).any (fun x => !formB es sl f t x)) && balB (segL is f t) f && ((is[t - 1]?.map Ins.op) == some 11)) := by
  unfold segB balB
  congr 1
  apply bool_eq
  rw [decide_eq_true_iff, Bool.and_eq_true, decide_eq_true_iff, Bool.not_eq_true', List.any_eq_false]
  constructor
  · intro h
    refine ⟨fun x hx => ?_, fun k hk => ⟨(h k hk).2.1, (h k hk).2.2⟩⟩
    obtain ⟨k, hk, rfl⟩ := List.getElem_of_mem hx
    rw [(h k hk).1]
    simp
  · rintro ⟨h1, h2⟩ k hk
    refine ⟨?_, (h2 k hk).1, (h2 k hk).2⟩
    have := h1 _ (List.getElem_mem hk)
    simpa using this
theorem segL_len {is : List Ins} {f t : Nat} (h : f ≤ t) (ht : t ≤ is.length) : (segL is f t).length = t - f := by
  unfold segL
  rw [List.length_take, List.length_drop]
  omega
theorem segL_get {is : List Ins} {f t k : Nat} (h : f + k < is.length) (hk : k < (segL is f t).length) : (segL is f t)[k] = is[f + k] := by
  simp only [segL, List.getElem_take, List.getElem_drop]
/-- What ends a check of a segment early. -/
theorem seg_form {es : List Ent} {is : List Ins} {sl : Int} {f t k : Nat} (hk : k < (segL is f t).length) (h : formB es sl f t (segL is f t)[k] = false) : segB es is sl f t = false := by
  rw [segB_eq, List.any_eq_true.2 ⟨_, List.getElem_mem hk, by rw [h]; rfl⟩]
  rfl
theorem bal_step {L : List Ins} {f : Int} {k : Nat} (hk : k < L.length) (h : stepB (dep L k) L[k] = false) : balB L f = false := by
  unfold balB
  rw [decide_eq_false_iff_not]
  intro h2
  rw [(h2 k hk).1] at h
  cases h
theorem bal_jmp {L : List Ins} {f : Int} {k : Nat} (hk : k < L.length) (h : jmpB L[k].op = true) (h2 : dep L (L[k].a - f).toNat ≠ 0) : balB L f = false := by
  unfold balB
  rw [decide_eq_false_iff_not]
  intro h3
  exact h2 ((h3 k hk).2 h)
theorem bal_all {L : List Ins} {f : Int} (h : ∀ k (h : k < L.length), stepB (dep L k) L[k] = true) (h2 : ∀ k (h : k < L.length), jmpB L[k].op = true → dep L (L[k].a - f).toNat = 0) : balB L f = true := by
  unfold balB
  rw [decide_eq_true_iff]
  exact fun k hk => ⟨h k hk, h2 k hk⟩
theorem seg_bal {es : List Ent} {is : List Ins} {sl : Int} {f t : Nat} (h : balB (segL is f t) f = false) : segB es is sl f t = false := by
  rw [segB_eq, h]
  simp
theorem seg_last {es : List Ent} {is : List Ins} {sl : Int} {f t : Nat} (hf : ∀ k (h : k < (segL is f t).length), formB es sl f t (segL is f t)[k] = true) (h : balB (segL is f t) f = true) (ht : t - 1 < is.length) : segB es is sl f t = (is[t - 1].op == 11) := by
  rw [segB_eq, h, List.getElem?_eq_getElem ht]
  have : (segL is f t).any (fun x => !formB es sl f t x) = false := by
    rw [List.any_eq_false]
    intro x hx
    obtain ⟨k, hk, rfl⟩ := List.getElem_of_mem hx
    rw [hf k hk]
    simp
  rw [this]
  simp
theorem bool_beq_some (a b : Int) : (some a == some b) = (a == b) := rfl
/-- The depths as values. -/
def depVs (L : List Ins) (k : Nat) : List Value := (List.range k).map fun j => .int .i64 (dep L j)
theorem depVs_s (L : List Ins) (k : Nat) : depVs L (k + 1) = depVs L k ++ [.int .i64 (dep L k)] := by
  unfold depVs
  rw [List.range_succ, List.map_append]
  rfl
theorem depVs_get {L : List Ins} {k j : Nat} (h : j < k) : (depVs L k)[j]? = some (.int .i64 (dep L j)) := by
  unfold depVs
  rw [List.getElem?_map, List.getElem?_range h]
  rfl
end Go.Proofs.Ytcicbijpiffbkaa
