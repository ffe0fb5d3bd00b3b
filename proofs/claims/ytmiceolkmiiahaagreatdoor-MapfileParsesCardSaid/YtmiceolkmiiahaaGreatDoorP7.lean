/- Plain: the reference's parser, piece by piece; no program in sight. -/
import Derived.Test.YtmiceolkmiiahaaGreatDoorP6
namespace Go.Proofs.YtmiceolkmiiahaaGreatDoor
open Go.RowKit
set_option linter.unusedVariables false
set_option linter.unusedSimpArgs false

def zc : Cel := ⟨0, 0, 0⟩
/-- The cells with the kinds of a line, from place i on. -/
def kset : List Cel → Nat → List UInt8 → List Cel
  | cs, _, [] => cs
  | cs, i, c :: l => kset (match cs[i]? with | some q => cs.set i ⟨kindI c, q.h, q.a⟩ | none => cs) (i + 1) l
theorem kset_len : ∀ (l : List UInt8) (cs : List Cel) (i : Nat), (kset cs i l).length = cs.length := by
  intro l
  induction l with
  | nil => intro cs i; rfl
  | cons c l ih =>
    intro cs i
    rw [kset, ih]
    cases cs[i]? <;> simp
theorem kset_snoc : ∀ (l : List UInt8) (c : UInt8) (cs : List Cel) (i : Nat), kset cs i (l ++ [c]) = (match (kset cs i l)[i + l.length]? with | some q => (kset cs i l).set (i + l.length) ⟨kindI c, q.h, q.a⟩ | none => kset cs i l) := by
  intro l
  induction l with
  | nil => intro c cs i; rfl
  | cons b l ih =>
    intro c cs i
    rw [List.cons_append, kset, ih, kset, List.length_cons, show i + (l.length + 1) = i + 1 + l.length by omega]
theorem kset_zero : ∀ (l : List UInt8) (cs : List Cel) (m : Nat), l.length ≤ m → kset (cs ++ List.replicate m zc) cs.length l = cs ++ kcs l ++ List.replicate (m - l.length) zc := by
  intro l
  induction l with
  | nil => intro cs m h; simp [kset, kcs]
  | cons c l ih =>
    intro cs m h
    rw [List.length_cons] at h
    obtain ⟨m, rfl⟩ : ∃ k, m = k + 1 := ⟨m - 1, by omega⟩
    rw [kset, List.replicate_succ]
    have e1 : (cs ++ zc :: List.replicate m zc)[cs.length]? = some zc := by simp
    rw [e1]
    have e2 : (cs ++ zc :: List.replicate m zc).set cs.length ⟨kindI c, zc.h, zc.a⟩ = (cs ++ [⟨kindI c, 0, 0⟩]) ++ List.replicate m zc := by simp [zc]
    dsimp only
    rw [e2]
    have e3 : cs.length + 1 = (cs ++ [(⟨kindI c, 0, 0⟩ : Cel)]).length := by simp
    rw [e3, ih _ m (by omega)]
    simp [kcs]

theorem nxt_drop (l : List (List UInt8)) (i : Nat) : nxt (l.drop i) = if h : i + 1 < l.length then some (l[i], l.drop (i + 1)) else none := by
  by_cases h : i + 1 < l.length
  · rw [dif_pos h, List.drop_eq_getElem_cons (by omega : i < l.length), List.drop_eq_getElem_cons h]
    rfl
  · rw [dif_neg h]
    by_cases h2 : i < l.length
    · rw [List.drop_eq_getElem_cons h2, List.drop_of_length_le (by omega : l.length ≤ i + 1)]
      rfl
    · rw [List.drop_of_length_le (by omega : l.length ≤ i)]
      rfl

theorem dec_step {s : List UInt8} {k m : Nat} (hk : k < s.length) (h : Lib.decFrom 0 (s.take k) = some m) : Lib.decFrom 0 (s.take (k + 1)) = (Lib.digitVal s[k]).map (m * 10 + ·) := by
  rw [List.take_succ_eq_append_getElem hk, decFrom_append, h]
  simp only [Option.bind_some, Lib.decFrom]
  cases Lib.digitVal s[k] <;> rfl
theorem dec_none {s : List UInt8} {k : Nat} (h : Lib.decFrom 0 (s.take k) = none) : Lib.decFrom 0 s = none := by
  rw [← List.take_append_drop k s, decFrom_append, h]
  rfl
theorem dec_lt : ∀ (s : List UInt8) (a m : Nat), Lib.decFrom a s = some m → m < (a + 1) * 10 ^ s.length := by
  intro s
  induction s with
  | nil => intro a m h; rw [Lib.decFrom] at h; injection h with h; subst h; simp
  | cons b s ih =>
    intro a m h
    rw [Lib.decFrom] at h
    cases hd : Lib.digitVal b with
    | none => rw [hd] at h; cases h
    | some d =>
      rw [hd] at h
      have h1 := ih _ _ h
      have h2 := (digit_is hd).1
      have h3 : (a * 10 + d + 1) * 10 ^ s.length ≤ ((a + 1) * 10) * 10 ^ s.length := Nat.mul_le_mul_right _ (by omega)
      rw [List.length_cons, Nat.pow_succ]
      calc m < _ := h1
        _ ≤ _ := h3
        _ = _ := by rw [Nat.mul_assoc, Nat.mul_comm 10]
theorem dec_bound {s : List UInt8} {k m : Nat} (h7 : k ≤ 7) (h : Lib.decFrom 0 (s.take k) = some m) : m < 10000000 := by
  have h1 := dec_lt _ _ _ h
  have h2 : (s.take k).length ≤ 7 := by rw [List.length_take]; omega
  have h3 : 10 ^ (s.take k).length ≤ 10 ^ 7 := Nat.pow_le_pow_right (by omega) h2
  have h4 : (10 : Nat) ^ 7 = 10000000 := by decide
  omega
theorem numT_bad {s : List UInt8} (h : s.length < 1 ∨ 7 < s.length ∨ (1 < s.length ∧ s[0]? = some 48)) : numT s = -1 := by
  unfold numT
  rw [if_pos h]
theorem numT_none {s : List UInt8} (h : Lib.decFrom 0 s = none) : numT s = -1 := by
  unfold numT
  split
  · rfl
  · rw [h]
theorem numT_some {s : List UInt8} {n : Nat} (h0 : ¬ (s.length < 1 ∨ 7 < s.length ∨ (1 < s.length ∧ s[0]? = some 48))) (h : Lib.decFrom 0 s = some n) : numT s = if 1000000 < n then -1 else (n : Int) := by
  unfold numT
  rw [if_neg h0, h]
theorem digit_no {b : UInt8} (h : ¬ (48 ≤ b.toNat ∧ b.toNat ≤ 57)) : Lib.digitVal b = none := by
  cases hd : Lib.digitVal b with
  | none => rfl
  | some d =>
    obtain ⟨h1, h2⟩ := digit_is hd
    exfalso
    apply h
    rw [h2]
    have e : (UInt8.ofNat (48 + d)).toNat = 48 + d := by simp; omega
    omega
theorem digit_yes {b : UInt8} (h : 48 ≤ b.toNat ∧ b.toNat ≤ 57) : Lib.digitVal b = some (b.toNat - 48) := by
  have e : b = UInt8.ofNat (48 + (b.toNat - 48)) := by
    apply UInt8.toNat_inj.1
    simp
    have := b.toNat_lt
    omega
  rw [e, digit_of _ (by omega)]
  congr 1
  simp
  omega
/-- A piece is a number's decimal form just if its value is that number. -/
theorem numT_eq {s : List UInt8} {n : Nat} (hn : n ≤ 1000000) : numT s = (n : Int) ↔ s = Lib.decDigits n := by
  constructor
  · intro h
    obtain ⟨m, h1, h2, h3⟩ := numT_is s (by omega)
    have : m = n := by omega
    rw [h2, this]
  · rintro rfl
    exact numT_dec n hn
end Go.Proofs.YtmiceolkmiiahaaGreatDoor
