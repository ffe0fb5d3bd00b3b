/- Walks: mark of the lexer. -/
import Derived.Test.YtpddneplkbdedaaDoorW9
namespace Go.Proofs.YtpddneplkbdedaaDoor
open Go.RowKit
set_option linter.unusedVariables false
set_option linter.unusedSimpArgs false

def marksText : ByteArray := ⟨#[61, 61, 32, 33, 61, 32, 60, 61, 32, 62, 61, 32, 123, 32, 125, 32, 40, 32, 41, 32, 44, 32, 59, 32, 61, 32, 60, 32, 62, 32, 43, 32, 45, 32, 42, 32, 47, 32, 37]⟩
theorem marksText_fields : Lib.fields marksText.data.toList = marksL := by decide +kernel
theorem marksText_ascii : ∀ (j : Nat) b, marksText.data.toList[j]? = some b → b.toNat < 128 := by
  have h : ∀ b ∈ marksText.data.toList, b.toNat < 128 := by decide +kernel
  intro j b hb
  exact h b (List.mem_of_getElem? hb)

/-- The first of a list's texts with which a text begins; the empty text if there is none. -/
def firstPre (L : List (List UInt8)) (l : List UInt8) : List UInt8 := (L.find? fun m => Lib.hasPrefix l m).getD []

theorem find_pre (L : List (List UInt8)) (l : List UInt8) : ∃ e, e ≤ L.length ∧ (∀ j (hj : j < L.length), j < e → Lib.hasPrefix l L[j] = false) ∧ ((L.length ≤ e ∧ firstPre L l = []) ∨ ∃ h : e < L.length, Lib.hasPrefix l L[e] = true ∧ firstPre L l = L[e]) := by
  induction L with
  | nil => exact ⟨0, by simp, fun j hj => absurd hj (by simp), Or.inl ⟨by simp, rfl⟩⟩
  | cons x r ih =>
    cases hx : Lib.hasPrefix l x with
    | true => exact ⟨0, by simp, fun j hj h => absurd h (by omega), Or.inr ⟨by simp, hx, by unfold firstPre; simp [hx]⟩⟩
    | false =>
      obtain ⟨e, h1, h2, h3⟩ := ih
      have hc : firstPre (x :: r) l = firstPre r l := by unfold firstPre; simp [hx]
      refine ⟨e + 1, by simpa using h1, fun j hj hje => ?_, ?_⟩
      · cases j with
        | zero => exact hx
        | succ j => exact h2 j (by simpa using hj) (by omega)
      · rw [hc]
        rcases h3 with ⟨a, b⟩ | ⟨a, b, c⟩
        · exact Or.inl ⟨by simpa using a, b⟩
        · exact Or.inr ⟨by simpa using a, by simpa using b, by simpa using c⟩

theorem mark_any (l : List UInt8) (w : World) (h : Spc w) : Calls Tryd.prog 49 #[.string (str l)] w fun e w' => e = .returned (.string (str (firstPre marksL l))) ∧ Below w.heap.size w w' := by
  have HF := Lib.hid (Tryd.strings_Fields marksText w (by decide +kernel) marksText_ascii h)
  rw [marksText_fields] at HF
  clear h
  obtain ⟨e, he, hno, hx⟩ := find_pre marksL l
  have HE : Hid (e ≤ 18) := he
  have HN := Lib.hid hno
  have HX := Lib.hid hx
  obtain ⟨R, hR⟩ : ∃ R, Hid (firstPre marksL l = R) := ⟨_, Lib.hid rfl⟩
  rw [hR.out]
  clear he hno hx
  have HW := Lib.hid (rowAt_alloc marksL w)
  have HB : Hid (Below w.heap.size w (w.alloc (rowOf marksL))) := Lib.hid ((Below.refl _ _).alloc (Nat.le_refl _) _)
  obtain ⟨b, hb⟩ : ∃ b, w.heap.size = b := ⟨_, rfl⟩
  obtain ⟨s, hs⟩ : ∃ s, str l = s := ⟨_, rfl⟩
  obtain ⟨w2, hw2⟩ : ∃ w2, w.alloc (rowOf marksL) = w2 := ⟨_, rfl⟩
  have HFw : Hid (Calls Tryd.prog 53 #[.string marksText] w fun e w' => e = .returned (.slice (some ⟨b, 0, none⟩) 18 18) ∧ w' = w2) := by
    have := HF.out
    rw [hb] at this
    rw [← hw2]
    exact this
  have HPre : Hid (∀ m W, Calls Tryd.prog 56 #[.string s, .string (str m)] W fun e w' => e = .returned (.bool (Lib.hasPrefix l m)) ∧ w' = W) := fun m W => by
    have := Tryd.strings_HasPrefix (str l) (str m) W
    rw [str_data, str_data, hs] at this
    exact this
  rw [hb, hw2] at HW
  rw [hb, hw2] at HB
  rw [hs, hb]
  clear HF hs hb hw2
  go_enter Tryd.func49, Tryd.ntmps49
  go_wp2_with fail
  refine (HFw.out).mono ?_
  rintro e1 w1 ⟨rfl, rfl⟩
  go_wp2_with fail
  go_loop [7] (fun v => ∃ k : Nat, k ≤ e ∧ v = .int .i64 (k : Int)) (fun v => 18 - (intOf v).toNat)
  case atStart => exact ⟨0, by omega, rfl⟩
  case round =>
    obtain ⟨k, hk, rfl⟩ := hrel
    have he := HE.out
    by_cases hkn : k < 18
    · have hkl : k < marksL.length := hkn
      have hc := HW.out k hkl
      by_cases hke : k < e
      · have hp := Lib.hid (HPre.out marksL[k] w1)
        rw [HN.out k hkl hke] at hp
        generalize str marksL[k] = x at *
        go_wp2_with fail
        refine (hp.out).mono ?_
        rintro e1 w1 ⟨rfl, rfl⟩
        go_wp2_with fail
        go_round
        case rel => exact ⟨k + 1, by omega, by go_num⟩
        case measure => simp [intOf]; omega
      · obtain rfl : k = e := by omega
        have hX : Lib.hasPrefix l marksL[k] = true ∧ firstPre marksL l = marksL[k] := by
          rcases HX.out with ⟨h, _⟩ | ⟨h, h2⟩
          · have : (18 : Nat) ≤ k := h
            omega
          · exact h2
        have hp := Lib.hid (HPre.out marksL[k] w1)
        rw [hX.1] at hp
        have hRk : Hid (str R = str marksL[k]) := by rw [← hR.out, hX.2]; exact Lib.hid rfl
        clear hX
        generalize str marksL[k] = x at *
        go_wp2_with fail
        refine (hp.out).mono ?_
        rintro e1 w1 ⟨rfl, rfl⟩
        go_wp2_with fail
        go_ret
        exact ⟨by rw [hRk.out]; rfl, HB.out⟩
    · obtain rfl : k = e := by omega
      have hX : R = [] := by
        rcases HX.out with ⟨_, h⟩ | ⟨h, _⟩
        · rw [← hR.out]; exact h
        · have : k < 18 := h
          omega
      subst hX
      go_wp2_with fail
      go_ret
      exact ⟨rfl, HB.out⟩
end Go.Proofs.YtpddneplkbdedaaDoor
