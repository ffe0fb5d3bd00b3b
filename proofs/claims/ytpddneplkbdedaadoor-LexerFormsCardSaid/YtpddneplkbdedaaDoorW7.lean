/- Walks: Word of the reference of the lexer; its marks. -/
import Derived.Test.YtpddneplkbdedaaDoorW6
namespace Go.Proofs.YtpddneplkbdedaaDoor
open Go.RowKit
set_option linter.unusedVariables false
set_option linter.unusedSimpArgs false

def marksL : List (List UInt8) := [[61, 61], [33, 61], [60, 61], [62, 61], [123], [125], [40], [41], [44], [59], [61], [60], [62], [43], [45], [42], [47], [37]]

theorem rmarks_any (w : World) : Calls Tryd.prog 37 #[] w fun e w' => e = .returned (.slice (some ⟨w.heap.size, 0, none⟩) 18 18) ∧ w' = w.alloc (rowOf marksL) := by
  go_enter Tryd.func37, Tryd.ntmps37
  go_wp2
  go_ret
  exact ⟨rfl, rfl⟩

theorem rowAt_alloc (L : List (List UInt8)) (w : World) : RowAt (w.alloc (rowOf L)) w.heap.size L := by
  intro j hj
  have := row_cell L w j (by simpa using hj)
  rw [Nat.zero_add] at this
  rw [this, List.getD_eq_getElem?_getD, List.getElem?_eq_getElem (by simpa using hj), Option.getD_some]
  simp

theorem find_first (L : List (List UInt8)) (l : List UInt8) : ∃ e, e ≤ L.length ∧ (∀ j (hj : j < L.length), j < e → ¬ L[j] = l) ∧ ((L.length ≤ e ∧ L.contains l = false) ∨ ∃ h : e < L.length, L[e] = l ∧ L.contains l = true) := by
  induction L with
  | nil => exact ⟨0, by simp, fun j hj => absurd hj (by simp), Or.inl ⟨by simp, rfl⟩⟩
  | cons x r ih =>
    by_cases hx : x = l
    · exact ⟨0, by simp, fun j hj h => absurd h (by omega), Or.inr ⟨by simp, hx, by rw [hx]; simp⟩⟩
    · obtain ⟨e, h1, h2, h3⟩ := ih
      have hc : (x :: r).contains l = r.contains l := by
        rw [List.contains_cons]
        have : (l == x) = false := by simpa using fun h => hx h.symm
        rw [this, Bool.false_or]
      refine ⟨e + 1, by simpa using h1, fun j hj hje => ?_, ?_⟩
      · cases j with
        | zero => exact hx
        | succ j => exact h2 j (by simpa using hj) (by omega)
      · rw [hc]
        rcases h3 with ⟨a, b⟩ | ⟨a, b, c⟩
        · exact Or.inl ⟨by simpa using a, b⟩
        · exact Or.inr ⟨by simpa using a, by simpa using b, c⟩

theorem rin_any (b : Nat) (L : List (List UInt8)) (l : List UInt8) (n : Nat) (hn : n = L.length) (hn1 : n ≤ 1000) (w : World) (hr : RowAt w b L) :
    Calls Tryd.prog 25 #[.slice (some ⟨b, 0, none⟩) n n, .string (str l)] w fun e' w' => e' = .returned (.bool (L.contains l)) ∧ w = w' := by
  obtain ⟨e, h1, h2, h3⟩ := find_first L l
  refine rin_at b L l (str l) n hn hn1 rfl w hr e (by omega) h2 _ ?_
  rw [hn]
  exact h3

theorem rword_any (l : List UInt8) (w : World) : Calls Tryd.prog 14 #[.string (str l)] w fun e w' => e = .returned (.bool (isWord l)) ∧ Below w.heap.size w w' := by
  have HW := Lib.hid (rwords_any w)
  have HC := Lib.hid (rin_any w.heap.size wordsL l 29 rfl (by decide) (w.alloc (rowOf wordsL)) (rowAt_alloc _ _))
  obtain ⟨R, hR⟩ : ∃ R, Hid (wordsL.contains l = R) := ⟨_, rfl⟩
  rw [hR.out] at HC
  go_enter Tryd.func14, Tryd.ntmps14
  go_wp2_with fail
  refine (HW.out).mono ?_
  rintro e w1 ⟨rfl, rfl⟩
  go_wp2_with fail
  refine (HC.out).mono ?_
  rintro e w1 ⟨rfl, rfl⟩
  go_wp2_with fail
  go_ret
  exact ⟨by unfold isWord; rw [hR.out]; rfl, (Below.refl _ _).alloc (Nat.le_refl _) _⟩
end Go.Proofs.YtpddneplkbdedaaDoor
