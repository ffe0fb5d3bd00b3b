/- Walks: Isqrt of the num package. -/
import Derived.Test.YtoihknngllmogaaDoorW9
namespace Go.Proofs.YtoihknngllmogaaDoor
open Go.RowKit
set_option linter.unusedVariables false
set_option linter.unusedSimpArgs false

theorem ofInt_i64 (a : Nat) (ha : a < 9223372036854775808) : (BitVec.ofInt 64 (a : Int)).toNat = a := by
  rw [BitVec.ofInt_natCast, BitVec.toNat_ofNat]; exact Nat.mod_eq_of_lt (by omega)
theorem i64_or_nat (a b : Nat) (ha : a < 9223372036854775808) (hb : b < 9223372036854775808) : bits .or .i64 (a : Int) (b : Int) = ((a ||| b : Nat) : Int) := by
  have hx : a ||| b < 2 ^ 63 := Nat.or_lt_two_pow (by omega) (by omega)
  show IntKind.i64.wrap ((BitVec.ofInt 64 (a : Int) ||| BitVec.ofInt 64 (b : Int)).toNat : Int) = _
  rw [BitVec.toNat_or, ofInt_i64 a ha, ofInt_i64 b hb, IntKind.wrap_i64]
  omega

/-- What holds at the head of the loop, k rounds before its end. -/
structure sqInv (n k r : Nat) : Prop where
  hk : k ≤ 32
  mul : ∃ m, r = 2 ^ k * m
  le : r * r ≤ n
  lt : n < (r + 2 ^ k) * (r + 2 ^ k)
  top : r + 2 ^ k ≤ 4294967296

theorem sq_start (n : Nat) (hn : n < 9223372036854775808) : sqInv n 32 0 := ⟨by omega, ⟨0, rfl⟩, by omega, by omega, by omega⟩

theorem sq_or (n k r : Nat) (h : sqInv n (k + 1) r) : r ||| 2 ^ k = r + 2 ^ k := by
  obtain ⟨m, hm⟩ := h.mul
  have := Nat.two_pow_add_eq_or_of_lt (i := k + 1) (b := 2 ^ k) (by rw [Nat.pow_succ]; have := Nat.pow_pos (n := k) (a := 2) (by omega); omega) m
  rw [hm, ← this]

theorem sq_yes (n k r : Nat) (h : sqInv n (k + 1) r) (ht : (r + 2 ^ k) * (r + 2 ^ k) ≤ n) : sqInv n k (r + 2 ^ k) := by
  obtain ⟨m, hm⟩ := h.mul
  have h1 := h.hk; have h2 := h.lt; have h3 := h.top
  rw [Nat.pow_succ] at h2 h3
  refine ⟨by omega, ⟨2 * m + 1, ?_⟩, ht, ?_, by omega⟩
  · rw [hm, Nat.mul_add, Nat.pow_succ, Nat.mul_one, Nat.mul_assoc]
  · rw [show r + 2 ^ k + 2 ^ k = r + 2 ^ k * 2 by omega]; exact h2
theorem sq_no (n k r : Nat) (h : sqInv n (k + 1) r) (ht : ¬ (r + 2 ^ k) * (r + 2 ^ k) ≤ n) : sqInv n k r := by
  obtain ⟨m, hm⟩ := h.mul
  have h1 := h.hk; have h3 := h.top; have h4 := h.le
  rw [Nat.pow_succ] at h3
  refine ⟨by omega, ⟨2 * m, ?_⟩, h4, by omega, by omega⟩
  rw [hm, Nat.pow_succ, Nat.mul_assoc]

theorem isqrt_neg (n : Int) (hn : n ≤ 0) (w : World) : Calls Tryd.prog 15 #[.int .i64 n] w fun e w' => e = .returned (.int .i64 0) ∧ w = w' := by
  go_enter Tryd.func15, Tryd.ntmps15
  go_wp2
  go_ret
  exact ⟨rfl, rfl⟩

def SqPost (n : Int) (w : World) (e : Ending) (w' : World) : Prop := ∃ r : Nat, e = .returned (.int .i64 r) ∧ r * r ≤ n.toNat ∧ n.toNat < (r + 1) * (r + 1) ∧ w = w'

set_option maxHeartbeats 1000000 in
theorem isqrt_pos (n : Int) (hn : 0 < n) (hn1 : n ≤ 9223372036854775807) (w : World) : Calls Tryd.prog 15 #[.int .i64 n] w (SqPost n w) := by
  go_enter Tryd.func15, Tryd.ntmps15
  go_wp2
  go_loop [3, 4] (fun vr vb => ∃ (k r : Nat) (ri bi : Int), vr = .int .i64 ri ∧ vb = .int .i64 bi ∧ 0 ≤ ri ∧ 0 ≤ bi ∧ bi ≤ 2147483648 ∧ ri ≤ 4294967296 ∧ Hid (ri = r ∧ bi = ((2 ^ k / 2 : Nat) : Int) ∧ sqInv n.toNat k r)) (fun _ vb => (intOf vb).toNat)
  case atStart => exact ⟨32, 0, 0, 2147483648, rfl, rfl, by omega, by omega, by omega, by omega, rfl, rfl, sq_start _ (by omega)⟩
  case round =>
    obtain ⟨k, r, ri, bi, rfl, rfl, r0, b0, b1, r1, hh⟩ := hrel
    by_cases hp : 0 < bi
    · obtain ⟨h1, h2, h3⟩ := hh.out
      obtain ⟨k, rfl⟩ : ∃ j, k = j + 1 := by
        cases k with
        | zero => simp at h2; omega
        | succ j => exact ⟨j, rfl⟩
      have e2 : 2 ^ (k + 1) / 2 = 2 ^ k := by rw [Nat.pow_succ]; omega
      rw [e2] at h2
      have hpk : 1 ≤ 2 ^ k := Nat.pow_pos (by omega)
      have htop := h3.top
      rw [Nat.pow_succ] at htop
      have hor : bits .or .i64 ri bi = ((r + 2 ^ k : Nat) : Int) := by
        rw [h1, h2, i64_or_nat _ _ (by omega) (by omega), sq_or _ _ _ h3]
      have hdm : (n / ((r + 2 ^ k : Nat) : Int)) = ((n.toNat / (r + 2 ^ k) : Nat) : Int) := by
        conv => lhs; rw [show n = ((n.toNat : Nat) : Int) by omega]
        rfl
      have hb2 : bi / 2 = ((2 ^ k / 2 : Nat) : Int) := by omega
      obtain ⟨t, ht⟩ : ∃ t : Int, t = ((r + 2 ^ k : Nat) : Int) := ⟨_, rfl⟩
      obtain ⟨q, hq⟩ : ∃ q : Int, q = ((n.toNat / (r + 2 ^ k) : Nat) : Int) := ⟨_, rfl⟩
      obtain ⟨nb, hnb⟩ : ∃ nb : Int, nb = ((2 ^ k / 2 : Nat) : Int) := ⟨_, rfl⟩
      rw [← ht] at hor hdm
      rw [← hq] at hdm
      rw [← hnb] at hb2
      have t0 : 0 < t := by omega
      have t1 : t ≤ 4294967296 := by omega
      have hle := Nat.le_div_iff_mul_le (x := r + 2 ^ k) (y := n.toNat) (k := r + 2 ^ k) (by omega)
      have nb0 : 0 ≤ nb := by omega
      have nb1 : nb ≤ 2147483648 := by omega
      have nbl : nb < bi := by omega
      by_cases hy : t ≤ q
      · have H := Lib.hid (⟨ht, hnb, sq_yes _ _ _ h3 (hle.1 (by omega))⟩ : t = ((r + 2 ^ k : Nat) : Int) ∧ nb = ((2 ^ k / 2 : Nat) : Int) ∧ sqInv n.toNat k (r + 2 ^ k))
        clear hh h1 h2 h3 e2 hpk htop ht hq hnb hle
        go_wp2
        go_round
        case rel => exact ⟨k, r + 2 ^ k, t, nb, rfl, rfl, by omega, by omega, by omega, by omega, H⟩
        case measure => simp [intOf]; omega
      · have H := Lib.hid (⟨h1, hnb, sq_no _ _ _ h3 (fun h => by have := hle.2 h; omega)⟩ : ri = (r : Int) ∧ nb = ((2 ^ k / 2 : Nat) : Int) ∧ sqInv n.toNat k r)
        clear hh h1 h2 h3 e2 hpk htop ht hq hnb hle
        go_wp2
        go_round
        case rel => exact ⟨k, r, ri, nb, rfl, rfl, by omega, by omega, by omega, by omega, H⟩
        case measure => simp [intOf]; omega
    · go_wp2
      go_ret
      obtain ⟨h1, h2, h3⟩ := hh.out
      have hk : k = 0 := by
        cases k with
        | zero => rfl
        | succ j =>
          have : 1 ≤ 2 ^ j := Nat.pow_pos (by omega)
          rw [Nat.pow_succ] at h2
          omega
      subst hk
      exact ⟨r, ret1i h1, h3.le, by simpa using h3.lt, rfl⟩
end Go.Proofs.YtoihknngllmogaaDoor
