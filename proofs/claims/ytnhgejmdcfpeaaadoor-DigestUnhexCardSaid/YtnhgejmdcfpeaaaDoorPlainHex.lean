/- Plain facts on hexadecimal digits. -/
import Derived.Test.YtnhgejmdcfpeaaaDoorPlain
import Derived.Laws.BytesArg
import Derived.Below
import Derived.Lib.Hide
namespace Go.Proofs.YtnhgejmdcfpeaaaDoor
open Go Go.RowKit
set_option linter.unusedVariables false
set_option linter.unusedSimpArgs false

/-- The digit of a number below 16. -/
def hexd (q : Nat) : Int := if q < 10 then 48 + q else 87 + q
def hexn (n : Nat) : List Int := if n < 16 then [hexd n] else hexn (n / 16) ++ [hexd (n % 16)]
def hexs (n : Nat) : ByteArray := strOfNums (hexn n)

structure hxrel (n m k : Nat) (cs : Array Value) : Prop where
  size : cs.size = 65
  cells : ∀ j, j < 65 → ∃ v, cs[j]? = some (.int .u8 v)
  lt : m < 16 ^ (k - 49)
  hk : 50 ≤ k ∧ k ≤ 65
  le : m ≤ n
  tail : ∃ tl, hexn n = hexn m ++ tl ∧ tl.length = 65 - k ∧ ∀ i, i < 65 - k → cs[k + i]? = some (.int .u8 (tl.getD i 0))

theorem hxrel_start (n : Nat) (hn : Hid (n < 18446744073709551616)) : hxrel n n 65 (Array.replicate 65 (.int .u8 0)) := by
  have h : n < 18446744073709551616 := hn
  refine ⟨by simp, fun j hj => ⟨0, by simp [hj]⟩, ?_, by omega, Nat.le_refl _, [], by simp, rfl, fun i hi => by omega⟩
  show n < 16 ^ 16
  omega

theorem hxrel.lt64 {n m k : Nat} {cs : Array Value} (h : hxrel n m k cs) (hn : Hid (n < 18446744073709551616)) : Hid (m < 18446744073709551616) :=
  Nat.lt_of_le_of_lt h.le hn

theorem hxrel.pos {n m k : Nat} {cs : Array Value} (h : hxrel n m (k + 1) cs) (h16 : 16 ≤ m) : 1 ≤ k := by
  have := h.hk; omega

theorem hxrel.step {n m k : Nat} {cs : Array Value} (h : hxrel n m (k + 1) cs) (h16 : 16 ≤ m) : hxrel n (m / 16) k (cs.setIfInBounds k (.int .u8 (hexd (m % 16)))) := by
  obtain ⟨h1, h2, h3, ⟨h4, h5⟩, hle, tl, h6, h7, h8⟩ := h
  have hk : 50 ≤ k := by
    rcases Nat.lt_or_ge k 50 with hlt | hge
    · have : k + 1 - 49 = 1 := by omega
      rw [this] at h3
      omega
    · exact hge
  refine ⟨by simp [h1], fun j hj => ?_, ?_, by omega, Nat.le_trans (Nat.div_le_self _ _) hle, hexd (m % 16) :: tl, ?_, by simp [h7]; omega, fun i hi => ?_⟩
  · by_cases e : k = j
    · subst e; exact ⟨_, by simp [h1, hj]; rfl⟩
    · simp only [Array.getElem?_setIfInBounds, if_neg e]; exact h2 j hj
  · have e : k + 1 - 49 = (k - 49) + 1 := by omega
    rw [e, Nat.pow_succ] at h3
    omega
  · rw [h6]
    conv => lhs; rw [hexn, if_neg (by omega)]
    simp
  · cases i with
    | zero => rw [Nat.add_zero, Array.getElem?_setIfInBounds, if_pos rfl, if_pos (by omega)]; rfl
    | succ i =>
      rw [Array.getElem?_setIfInBounds, if_neg (by omega)]
      have := h8 i (by omega)
      rw [show k + (i + 1) = k + 1 + i by omega, this]
      simp

theorem hxrel.last {n m k : Nat} {cs : Array Value} (h : hxrel n m (k + 1) cs) (h16 : ¬ 16 ≤ m) :
    (hexn n).length = 65 - k ∧ ∀ i, i < 65 - k → (cs.setIfInBounds k (.int .u8 (hexd m)))[k + i]? = some (.int .u8 ((hexn n).getD i 0)) := by
  obtain ⟨h1, h2, h3, ⟨h4, h5⟩, hle, tl, h6, h7, h8⟩ := h
  have hm : hexn m = [hexd m] := by rw [hexn, if_pos (by omega)]
  rw [h6, hm]
  refine ⟨by simp [h7]; omega, fun i hi => ?_⟩
  cases i with
  | zero => rw [Nat.add_zero, Array.getElem?_setIfInBounds, if_pos rfl, if_pos (by omega)]; rfl
  | succ i =>
    rw [Array.getElem?_setIfInBounds, if_neg (by omega)]
    have := h8 i (by omega)
    rw [show k + (i + 1) = k + 1 + i by omega, this]
    simp
end Go.Proofs.YtnhgejmdcfpeaaaDoor
