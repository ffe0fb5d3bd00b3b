/- Walks: the words of the lexer (printed by genwords.py). -/
import Derived.Test.YtpddneplkbdedaaDoorW4
import Derived.Test.YtpddneplkbdedaaDoorShelf
namespace Go.Proofs.YtpddneplkbdedaaDoor
open Go.RowKit
set_option linter.unusedVariables false
set_option linter.unusedSimpArgs false

def wordsL : List (List UInt8) := [[116, 97, 115, 107], [108, 101, 116], [119, 104, 105, 108, 101], [105, 102], [101, 108, 115, 101], [121, 105, 101, 108, 100], [115, 112, 97, 119, 110], [115, 116, 111, 112], [97, 110, 100], [111, 114], [110, 111, 116], [116, 117, 114, 110], [111, 114, 101], [119, 111, 111, 100], [99, 111, 117, 110, 116], [117, 110, 105, 116], [101, 110, 101, 109, 121], [120], [121], [104, 112], [105, 100, 108, 101], [104, 97, 115], [109, 111, 118, 101], [97, 116, 116, 97, 99, 107], [103, 97, 116, 104, 101, 114], [98, 117, 105, 108, 100], [116, 114, 97, 105, 110], [114, 101, 115, 101, 97, 114, 99, 104], [104, 111, 108, 100]]
def wordsText : ByteArray := { data := (([116, 97, 115, 107, 32, 108, 101, 116, 32, 119, 104, 105, 108, 101, 32, 105, 102, 32, 101, 108, 115, 101, 32, 121, 105, 101, 108, 100, 32, 115, 112, 97, 119, 110, 32].append [115, 116, 111, 112, 32, 97, 110, 100, 32, 111, 114, 32, 110, 111, 116, 32, 116, 117, 114, 110, 32, 111, 114, 101, 32, 119, 111, 111, 100, 32, 99, 111, 117, 110, 116, 32]).append ([117, 110, 105, 116, 32, 101, 110, 101, 109, 121, 32, 120, 32, 121, 32, 104, 112, 32, 105, 100, 108, 101, 32, 104, 97, 115, 32, 109, 111, 118, 101, 32, 97, 116, 116].append [97, 99, 107, 32, 103, 97, 116, 104, 101, 114, 32, 98, 117, 105, 108, 100, 32, 116, 114, 97, 105, 110, 32, 114, 101, 115, 101, 97, 114, 99, 104, 32, 104, 111, 108, 100])).toArray }
def rowOf (L : List (List UInt8)) : Obj := .cells (L.map fun l => Value.string ⟨l.toArray⟩).toArray 9

theorem wordsText_fields : Lib.fields wordsText.data.toList = wordsL := by decide +kernel
theorem wordsText_ascii : ∀ (j : Nat) b, wordsText.data.toList[j]? = some b → b.toNat < 128 := by
  have h : ∀ b ∈ wordsText.data.toList, b.toNat < 128 := by decide +kernel
  intro j b hb
  exact h b (List.mem_of_getElem? hb)

def Spc (w : World) : Prop := Lib.TabIs Tryd.prog w "strings.asciiSpace" .u8 Lib.asciiSpaceTab

theorem words_any (w : World) (h : Spc w) : Calls Tryd.prog 24 #[] w fun e w' => e = .returned (.slice (some ⟨w.heap.size, 0, none⟩) 29 29) ∧ w' = w.alloc (rowOf wordsL) := by
  have HF := Lib.hid (Tryd.strings_Fields wordsText w (by decide +kernel) wordsText_ascii h)
  rw [wordsText_fields] at HF
  clear h
  go_enter Tryd.func24, Tryd.ntmps24
  go_wp2_with fail
  refine (HF.out).mono ?_
  rintro e w1 ⟨rfl, rfl⟩
  go_wp2_with fail
  go_ret
  exact ⟨rfl, rfl⟩

def isWord (l : List UInt8) : Bool := wordsL.contains l

theorem contains_map (L : List (List UInt8)) (l : List UInt8) : Lib.containsS (L.map str) (str l) = L.contains l := by
  rw [Bool.eq_iff_iff, Lib.containsS_iff, List.contains_iff_mem, List.mem_map]
  constructor
  · rintro ⟨m, hm, e⟩
    have := congrArg (fun b : ByteArray => b.data.toList) e
    rw [str_data, str_data] at this
    rw [← this]; exact hm
  · exact fun h => ⟨l, h, rfl⟩

theorem row_cell (L : List (List UInt8)) (w : World) (j : Nat) (hj : j < (L.map str).length) : (w.alloc (rowOf L)).cell? ⟨w.heap.size, 0 + j, none⟩ = some (.string ((L.map str).getD j ByteArray.empty)) := by
  have hj' : j < L.length := by simpa using hj
  rw [Nat.zero_add]
  unfold rowOf
  rw [World.cell?_alloc_new]
  rw [List.getD_eq_getElem?_getD, List.getElem?_eq_getElem hj, Option.getD_some]
  simp [hj', str]

theorem word_any (l : List UInt8) (w : World) (h : Spc w) : Calls Tryd.prog 13 #[.string (str l)] w fun e w' => e = .returned (.bool (isWord l)) ∧ Below w.heap.size w w' := by
  have HW := Lib.hid (words_any w h)
  have HC := Lib.hid (Tryd.slices_Contains_string w.heap.size 0 29 29 (wordsL.map str) (str l) (w.alloc (rowOf wordsL)) (by decide) (by decide) (fun j hj => row_cell _ w j hj))
  clear h
  go_enter Tryd.func13, Tryd.ntmps13
  go_wp2_with fail
  refine (HW.out).mono ?_
  rintro e w1 ⟨rfl, rfl⟩
  go_wp2_with fail
  refine (HC.out).mono ?_
  rintro e w1 ⟨rfl, rfl⟩
  go_wp2_with fail
  go_ret
  refine ⟨?_, (Below.refl _ _).alloc (Nat.le_refl _) _⟩
  rw [List.take_of_length_le (by decide), contains_map]
  rfl
end Go.Proofs.YtpddneplkbdedaaDoor

