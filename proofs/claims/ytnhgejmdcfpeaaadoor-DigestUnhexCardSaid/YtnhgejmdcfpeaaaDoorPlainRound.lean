/- Plain facts: hexadecimal digits there and back. -/
import Derived.Test.YtnhgejmdcfpeaaaDoorW8
namespace Go.Proofs.YtnhgejmdcfpeaaaDoor
open Go Go.RowKit
set_option linter.unusedVariables false
set_option linter.unusedSimpArgs false

/-- The last j digits of a number, the greatest first. -/
def rs (n : Nat) : Nat → List Int
  | 0 => []
  | j + 1 => hexd (n / 16 ^ j % 16) :: rs n j

theorem rs_length (n j : Nat) : (rs n j).length = j := by
  induction j with
  | zero => rfl
  | succ j ih => simp [rs, ih]

theorem rs_snoc (n j : Nat) : rs n (j + 1) = rs (n / 16) j ++ [hexd (n % 16)] := by
  induction j with
  | zero => simp [rs]
  | succ j ih =>
    rw [rs, ih]
    show _ = (hexd (n / 16 / 16 ^ j % 16) :: rs (n / 16) j) ++ _
    rw [Nat.div_div_eq_div_mul, Nat.pow_succ, Nat.mul_comm (16 ^ j)]
    rfl

theorem rs_zero (j : Nat) : rs 0 j = List.replicate j 48 := by
  induction j with
  | zero => rfl
  | succ j ih => rw [rs, ih, List.replicate_succ]; simp [hexd]

theorem hexn_rs (j : Nat) : ∀ n, n < 16 ^ j → 0 < j → rs n j = List.replicate (j - (hexn n).length) 48 ++ hexn n ∧ (hexn n).length ≤ j := by
  induction j with
  | zero => intro n _ h; omega
  | succ j ih =>
    intro n hn _
    rw [rs_snoc]
    by_cases h16 : n < 16
    · have e : hexn n = [hexd n] := by rw [hexn, if_pos h16]
      rw [e, show n / 16 = 0 by omega, rs_zero, show n % 16 = n by omega]
      simp
    · have e : hexn n = hexn (n / 16) ++ [hexd (n % 16)] := by rw [hexn, if_neg h16]
      have hj : 0 < j := by
        rcases Nat.eq_zero_or_pos j with h | h
        · subst h; simp at hn; omega
        · exact h
      have hlt : n / 16 < 16 ^ j := by rw [Nat.pow_succ] at hn; omega
      obtain ⟨h1, h2⟩ := ih (n / 16) hlt hj
      rw [e, h1]
      refine ⟨?_, by simp; omega⟩
      rw [List.append_assoc]
      congr 2
      simp

theorem hex16_rs (n : Nat) (hn : n < 18446744073709551616) : hex16 n = strOfNums (rs n 16) := by
  unfold hex16 pad
  rw [(hexn_rs 16 n (by omega) (by omega)).1]

/-- The value of a lower-case digit; 16 if it is none. -/
def lv (c : UInt8) : Nat := if 48 ≤ c.toNat ∧ c.toNat ≤ 57 then c.toNat - 48 else if 97 ≤ c.toNat ∧ c.toNat ≤ 102 then c.toNat - 87 else 16
def pl16 (acc : Nat) : List UInt8 → Option Nat
  | [] => some acc
  | c :: r => if lv c > 15 then none else pl16 (acc * 16 + lv c) r

theorem lv_le (c : UInt8) : lv c ≤ 16 := by unfold lv; split <;> (try split) <;> omega
theorem lv_hexd (c : UInt8) (h : lv c ≤ 15) : hexd (lv c) = c.toNat := by
  unfold lv at h ⊢
  split
  · rw [hexd, if_pos (by omega)]; omega
  · split
    · rw [hexd, if_neg (by omega)]; omega
    · rename_i a b; rw [if_neg a, if_neg b] at h; omega
theorem lv_hxv (c : UInt8) (h : lv c ≤ 15) : hxv c = lv c := by
  unfold lv at h ⊢
  unfold hxv
  split
  · rfl
  · split
    · rfl
    · rename_i a b; rw [if_neg a, if_neg b] at h; omega
theorem hexd_lv (k : Nat) (hk : k < 16) (c : UInt8) (h : hexd k = (c.toNat : Int)) : lv c = k := by
  unfold hexd at h
  unfold lv
  split at h
  · rw [if_pos (by omega)]; omega
  · rw [if_neg (by omega), if_pos (by omega)]; omega

theorem rs_mod (x v j i : Nat) (hi : i ≤ j) : rs (v * 16 ^ j + x) i = rs x i := by
  induction i with
  | zero => rfl
  | succ i ih =>
    rw [rs, rs, ih (by omega)]
    congr 2
    have e : v * 16 ^ j = 16 ^ i * (16 * (v * 16 ^ (j - i - 1))) := by
      rw [show 16 ^ i * (16 * (v * 16 ^ (j - i - 1))) = v * (16 ^ i * 16 * 16 ^ (j - i - 1)) by simp only [Nat.mul_assoc, Nat.mul_left_comm], ← Nat.pow_succ, ← Nat.pow_add]
      congr 2
      omega
    rw [e, Nat.mul_add_div (Nat.pow_pos (by omega)), Nat.mul_add_mod]

theorem pl16_some (l : List UInt8) : ∀ acc u, pl16 acc l = some u → ∃ x, u = acc * 16 ^ l.length + x ∧ x < 16 ^ l.length ∧ rs x l.length = l.map fun c => (c.toNat : Int) := by
  induction l with
  | nil => intro acc u h; cases h; exact ⟨0, by simp, by simp, rfl⟩
  | cons c r ih =>
    intro acc u h
    unfold pl16 at h
    by_cases hv : lv c > 15
    · rw [if_pos hv] at h; cases h
    · rw [if_neg hv] at h
      obtain ⟨x, hu, hx, hr⟩ := ih _ _ h
      have hv' : lv c ≤ 15 := by omega
      refine ⟨lv c * 16 ^ r.length + x, ?_, ?_, ?_⟩
      · rw [hu, List.length_cons, Nat.pow_succ, Nat.add_mul]
        rw [Nat.mul_assoc, Nat.mul_comm 16 (16 ^ r.length), Nat.add_assoc]
      · rw [List.length_cons, Nat.pow_succ]
        have : lv c * 16 ^ r.length ≤ 15 * 16 ^ r.length := Nat.mul_le_mul_right _ hv'
        omega
      · rw [List.length_cons, rs, rs_mod x (lv c) r.length r.length (Nat.le_refl _), hr, List.map_cons]
        congr 1
        rw [Nat.mul_comm, Nat.mul_add_div (Nat.pow_pos (by omega)), Nat.div_eq_of_lt hx, Nat.add_zero, Nat.mod_eq_of_lt (by omega), lv_hexd c hv']

theorem pl16_back (j : Nat) : ∀ (l : List UInt8) (x acc : Nat), l.map (fun c => (c.toNat : Int)) = rs x j → pl16 acc l = some (acc * 16 ^ j + x % 16 ^ j) := by
  induction j with
  | zero =>
    intro l x acc h
    cases l with
    | nil => simp [pl16, Nat.mod_one]
    | cons c r => simp [rs] at h
  | succ j ih =>
    intro l x acc h
    cases l with
    | nil => simp [rs] at h
    | cons c r =>
      rw [List.map_cons, rs] at h
      obtain ⟨h1, h2⟩ := List.cons.inj h
      have hv : lv c = x / 16 ^ j % 16 := hexd_lv _ (Nat.mod_lt _ (by omega)) c h1.symm
      have hlt : x / 16 ^ j % 16 < 16 := Nat.mod_lt _ (by omega)
      unfold pl16
      rw [if_neg (by omega), ih r x _ h2, hv, Nat.pow_succ, Nat.mod_mul]
      congr 1
      rw [Nat.add_mul, Nat.mul_assoc, Nat.mul_comm 16 (16 ^ j), Nat.mul_comm (16 ^ j) (x / 16 ^ j % 16)]
      omega

theorem pl16_p16 (l : List UInt8) : ∀ acc u, pl16 acc l = some u → u < 18446744073709551616 → acc * 16 ^ l.length < 18446744073709551616 → p16 acc l = .ok u := by
  induction l with
  | nil => intro acc u h _ _; cases h; rfl
  | cons c r ih =>
    intro acc u h hu ha
    have h0 := h
    unfold pl16 at h
    by_cases hv : lv c > 15
    · rw [if_pos hv] at h; cases h
    · rw [if_neg hv] at h
      have hv' := lv_hxv c (by omega)
      obtain ⟨x, hx, _⟩ := pl16_some r _ _ h
      unfold p16
      have hp : 1 ≤ 16 ^ r.length := Nat.pow_pos (by omega)
      have h1 : acc * 16 ≤ acc * 16 ^ (c :: r).length := Nat.mul_le_mul_left _ (by rw [List.length_cons, Nat.pow_succ]; omega)
      rw [if_neg (by omega), if_neg (by omega), hv']
      exact ih _ _ h hu (by omega)

theorem p16_lt (l : List UInt8) : ∀ acc u, acc < 18446744073709551616 → p16 acc l = .ok u → u < 18446744073709551616 := by
  induction l with
  | nil => intro acc u ha h; cases h; exact ha
  | cons c r ih =>
    intro acc u ha h
    unfold p16 at h
    by_cases h1 : hxv c = 16
    · rw [if_pos h1] at h; cases h
    · by_cases h2 : 1152921504606846976 ≤ acc
      · rw [if_neg h1, if_pos h2] at h; cases h
      · rw [if_neg h1, if_neg h2] at h
        have := hxv_le c
        exact ih _ _ (by omega) h

theorem pres_lt (s : ByteArray) (u : Nat) (h : pres s = some u) : u < 18446744073709551616 := by
  unfold pres at h
  split at h
  · cases h
  · split at h
    · rename_i n hn; cases h; exact p16_lt _ 0 _ (by omega) hn
    · cases h

/-- What the reference reads. -/
def rU (s : ByteArray) : Option Nat := if s.size = 16 then pl16 0 s.data.toList else none
/-- What the program reads. -/
def dU (s : ByteArray) : Option Nat := match pres s with
  | some u => if hex16 u = s then some u else none
  | none => none

theorem bytes_of_map (s : ByteArray) (xs : List Int) (h : s.data.toList.map (fun c => (c.toNat : Int)) = xs) : strOfNums xs = s := by
  apply ByteArray.ext
  apply Array.toList_inj.1
  rw [strOfNums_data, ← h, List.map_map]
  conv => rhs; rw [← List.map_id s.data.toList]
  apply List.map_congr_left
  intro c _
  simp

theorem map_of_bytes (xs : List Int) (h : ∀ x ∈ xs, 0 ≤ x ∧ x ≤ 255) : (strOfNums xs).data.toList.map (fun c => (c.toNat : Int)) = xs := by
  rw [strOfNums_data, List.map_map]
  conv => rhs; rw [← List.map_id xs]
  apply List.map_congr_left
  intro x hx
  have := h x hx
  simp
  omega

theorem rs_byte (n j : Nat) : ∀ x ∈ rs n j, 0 ≤ x ∧ x ≤ 255 := by
  induction j with
  | zero => intro x h; simp [rs] at h
  | succ j ih =>
    intro x h
    rw [rs, List.mem_cons] at h
    rcases h with rfl | h
    · have : n / 16 ^ j % 16 < 16 := Nat.mod_lt _ (by omega)
      unfold hexd; split <;> omega
    · exact ih x h

theorem hex16_read (n : Nat) (hn : n < 18446744073709551616) : (hex16 n).size = 16 ∧ pl16 0 (hex16 n).data.toList = some n := by
  rw [hex16_rs n hn]
  refine ⟨by rw [strOfNums_size, rs_length], ?_⟩
  rw [pl16_back 16 _ n 0 (map_of_bytes _ (rs_byte n 16))]
  congr 1
  omega

theorem rU_dU (s : ByteArray) : rU s = dU s := by
  have h1 : ∀ u, rU s = some u → dU s = some u := by
    intro u h
    unfold rU at h
    split at h
    · rename_i hz
      obtain ⟨x, hu, hx, hr⟩ := pl16_some _ _ _ h
      rw [lenB, hz] at hu hx hr
      have hux : u = x := by omega
      subst hux
      have hu64 : u < 18446744073709551616 := by omega
      have hp : p16 0 s.data.toList = .ok u := pl16_p16 _ 0 u h hu64 (by omega)
      unfold dU pres
      rw [if_neg (by omega), hp]
      simp only
      rw [if_pos]
      rw [hex16_rs u hu64]
      exact bytes_of_map s _ hr.symm
    · cases h
  have h2 : ∀ u, dU s = some u → rU s = some u := by
    intro u h
    unfold dU at h
    split at h
    · rename_i v hv
      split at h
      · rename_i he
        cases h
        have := hex16_read u (pres_lt s u hv)
        rw [he] at this
        unfold rU
        rw [if_pos this.1, this.2]
      · cases h
    · cases h
  cases h : rU s with
  | some u => rw [h1 u h]
  | none =>
    cases h' : dU s with
    | some u => rw [h2 u h'] at h; cases h
    | none => rfl
end Go.Proofs.YtnhgejmdcfpeaaaDoor
