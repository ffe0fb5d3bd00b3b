/- Walks of the laws DigestTexts and DigestExtends. -/
import Derived.Test.YtnhgejmdcfpeaaaDoorW2
namespace Go.Proofs.YtnhgejmdcfpeaaaDoor
open Go.RowKit
set_option linter.unusedVariables false
set_option linter.unusedSimpArgs false

theorem hc_below {w w' : World} (hb : Below w.heap.size w w') (hc : w.cell? ⟨4, 15, none⟩ = some (.int .u8 4)) (hz : 4 < w.heap.size) :
    w'.cell? ⟨4, 15, none⟩ = some (.int .u8 4) := by rw [hb.cell (p := ⟨4, 15, none⟩) hz]; exact hc

theorem texts_small (h : Int) (s : ByteArray) (w : World) (hs : s.size ≤ 20000) (hc : w.cell? ⟨4, 15, none⟩ = some (.int .u8 4)) (hz : 4 < w.heap.size) :
    Calls Tryd.prog 3 #[.int .u64 h, .string s] w fun e w' => e = .returned (.bool true) ∧ Below w.heap.size w w' := by
  have hs' : s.size ≤ 1000000 := by omega
  go_enter Tryd.func3, Tryd.ntmps3
  go_wp2_with fail
  refine (fnv_any _ _ hs').mono ?_
  rintro e w1 ⟨rfl, hb1⟩
  go_wp2_with fail
  refine (rfnv_any _ _ hs').mono ?_
  rintro e w1 ⟨rfl, rfl⟩
  go_wp2_with fail
  refine (extend_any _ _ _ hs').mono ?_
  rintro e w2 ⟨rfl, hb2⟩
  go_wp2_with fail
  refine (rextend_any _ _ _ hs').mono ?_
  rintro e w2 ⟨rfl, rfl⟩
  have hb12 := hb1.trans (hb2.mono hb1.size)
  have hz2 : 4 < w2.heap.size := Nat.lt_of_lt_of_le hz hb12.size
  have hc2 := hc_below hb12 hc hz
  go_wp2_with fail
  refine (alive_any _ hc2 hz2).mono ?_
  rintro e w3 ⟨rfl, hb3⟩
  go_wp2_with fail
  go_ret
  exact ⟨rfl, hb12.trans (hb3.mono hb12.size)⟩

theorem texts_big (h : Int) (s : ByteArray) (w : World) (hs : 20000 < s.size) (hl : s.size ≤ 140737488351232) (hc : w.cell? ⟨4, 15, none⟩ = some (.int .u8 4)) (hz : 4 < w.heap.size) :
    Calls Tryd.prog 3 #[.int .u64 h, .string s] w fun e w' => e = .returned (.bool true) ∧ Below w.heap.size w w' := by
  go_enter Tryd.func3, Tryd.ntmps3
  go_wp2_with fail
  refine (alive_any _ hc hz).mono ?_
  rintro e w3 ⟨rfl, hb3⟩
  go_wp2_with fail
  go_ret
  exact ⟨rfl, hb3⟩

theorem w_DigestTexts (h : Int) (wh : (Lit.int .u64 h).wf = true) (s : ByteArray) (hl : s.size ≤ 140737488351232) (w : World) (hc : w.cell? ⟨4, 15, none⟩ = some (.int .u8 4)) :
    Calls Tryd.prog 3 #[.int .u64 h, .string s] w fun e w' => e = .returned (.bool true) ∧ Below w.heap.size w w' := by
  have hz : 4 < w.heap.size := World.block_lt_of_cell? w ⟨4, 15, none⟩ hc
  by_cases hs : s.size ≤ 20000
  · exact texts_small h s w hs hc hz
  · exact texts_big h s w (by omega) hl hc hz
end Go.Proofs.YtnhgejmdcfpeaaaDoor
