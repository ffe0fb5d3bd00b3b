/- Walks: the words and marks of the reference of the lexer. -/
import Derived.Test.YtpddneplkbdedaaDoorW5
namespace Go.Proofs.YtpddneplkbdedaaDoor
open Go.RowKit
set_option linter.unusedVariables false
set_option linter.unusedSimpArgs false

theorem rwords_any (w : World) : Calls Tryd.prog 26 #[] w fun e w' => e = .returned (.slice (some ⟨w.heap.size, 0, none⟩) 29 29) ∧ w' = w.alloc (rowOf wordsL) := by
  go_enter Tryd.func26, Tryd.ntmps26
  go_wp2
  go_ret
  exact ⟨rfl, rfl⟩

theorem ne_beq (a b : ByteArray) (h : ¬ a = b) : (a.toList == b.toList) = false := by
  rw [beq_eq_false_iff_ne]
  intro e
  apply h
  rw [ByteArray.toList_eq, ByteArray.toList_eq] at e
  exact ByteArray.ext (Array.toList_inj.1 e)

/-- A row of texts that lies in the memory. -/
def RowAt (w : World) (b : Nat) (L : List (List UInt8)) : Prop := ∀ (j : Nat) (hj : j < L.length), w.cell? ⟨b, j, none⟩ = some (.string (str L[j]))

theorem rin_at (b : Nat) (L : List (List UInt8)) (l : List UInt8) (s : ByteArray) (n : Nat) (hn : n = L.length) (hn1 : n ≤ 1000) (hs : str l = s) (w : World) (hr : RowAt w b L) (e : Nat) (he : e ≤ n)
    (hno : ∀ j (hj : j < L.length), j < e → ¬ L[j] = l) (R : Bool) (hx : (n ≤ e ∧ R = false) ∨ (∃ h : e < L.length, L[e] = l ∧ R = true)) :
    Calls Tryd.prog 25 #[.slice (some ⟨b, 0, none⟩) n n, .string s] w fun e' w' => e' = .returned (.bool R) ∧ w = w' := by
  have HR := Lib.hid hr
  have HN := Lib.hid hno
  have HX := Lib.hid hx
  have HL := Lib.hid hn
  have HS := Lib.hid hs
  clear hr hno hx hn hs
  go_enter Tryd.func25, Tryd.ntmps25
  go_wp2_with fail
  go_loop [5] (fun v => ∃ k : Nat, k ≤ e ∧ v = .int .i64 (k : Int)) (fun v => n - (intOf v).toNat)
  case atStart => exact ⟨0, by omega, rfl⟩
  case round =>
    obtain ⟨k, hk, rfl⟩ := hrel
    by_cases hkn : k < n
    · have hkl : k < L.length := by have := HL.out; omega
      have hc := HR.out k hkl
      by_cases hke : k < e
      · have hne : ¬ str L[k] = s := by
          intro h
          rw [← HS.out] at h
          have := congrArg (fun b : ByteArray => b.data.toList) h
          rw [str_data, str_data] at this
          exact HN.out k hkl hke this
        generalize str L[k] = x at *
        have hnb := ne_beq x s hne
        clear hne
        go_wp2_with fail
        go_round
        case rel => exact ⟨k + 1, by omega, by go_num⟩
        case measure => simp [intOf]; omega
      · obtain rfl : k = e := by omega
        have hR : L[k] = l ∧ R = true := by
          rcases HX.out with ⟨h, _⟩ | ⟨h, h2⟩
          · omega
          · exact h2
        have heq : str L[k] = s := by rw [hR.1]; exact HS.out
        obtain rfl := hR.2
        rw [heq] at hc
        clear heq hR
        go_wp2_with fail
        go_ret
        exact ⟨rfl, rfl⟩
    · obtain rfl : k = e := by omega
      have hR : R = false := by
        rcases HX.out with ⟨_, h⟩ | ⟨h, _⟩
        · exact h
        · have := HL.out; omega
      subst hR
      go_wp2_with fail
      go_ret
      exact ⟨rfl, rfl⟩
end Go.Proofs.YtpddneplkbdedaaDoor
