/- Walks of the law DigestExtends. -/
import Derived.Test.YtnhgejmdcfpeaaaDoorW3
namespace Go.Proofs.YtnhgejmdcfpeaaaDoor
open Go.RowKit
set_option linter.unusedVariables false
set_option linter.unusedSimpArgs false

theorem ext_append (h : Int) (a b : List UInt8) : ext (ext h a) b = ext h (a ++ b) := by simp [ext]

theorem extends_small (h : Int) (s t : ByteArray) (w : World) (hs : s.size ≤ 10000) (ht : t.size ≤ 10000) (hc : w.cell? ⟨4, 15, none⟩ = some (.int .u8 4)) (hz : 4 < w.heap.size) :
    Calls Tryd.prog 4 #[.int .u64 h, .string s, .string t] w fun e w' => e = .returned (.bool true) ∧ Below w.heap.size w w' := by
  have hst : (s ++ t).size ≤ 1000000 := by rw [ByteArray.size_append]; omega
  have HST := Lib.hid hst
  clear hst
  go_enter Tryd.func4, Tryd.ntmps4
  go_wp2_with fail
  refine (extend_any _ _ _ (by omega)).mono ?_
  rintro e w1 ⟨rfl, hb1⟩
  go_wp2_with fail
  refine (extend_any _ _ _ (by omega)).mono ?_
  rintro e w2 ⟨rfl, hb2⟩
  go_wp2_with fail
  refine (extend_any _ _ _ HST.out).mono ?_
  rintro e w3 ⟨rfl, hb3⟩
  have hb12 := hb1.trans (hb2.mono hb1.size)
  have hb13 := hb12.trans (hb3.mono hb12.size)
  have hz2 : 4 < w3.heap.size := Nat.lt_of_lt_of_le hz hb13.size
  have hc2 := hc_below hb13 hc hz
  have he : (ext (ext h s.data.toList) t.data.toList == ext h (s.data.toList ++ t.data.toList)) = true := by
    rw [ext_append]
    simp
  go_wp2_with fail
  refine (alive_any _ hc2 hz2).mono ?_
  rintro e w4 ⟨rfl, hb4⟩
  go_wp2_with fail
  go_ret
  exact ⟨rfl, hb13.trans (hb4.mono hb13.size)⟩

theorem extends_big (h : Int) (s t : ByteArray) (w : World) (hs : (decide (10000 < (s.size : Int)) || decide (10000 < (t.size : Int))) = true) (hc : w.cell? ⟨4, 15, none⟩ = some (.int .u8 4)) (hz : 4 < w.heap.size) :
    Calls Tryd.prog 4 #[.int .u64 h, .string s, .string t] w fun e w' => e = .returned (.bool true) ∧ Below w.heap.size w w' := by
  by_cases h1 : 10000 < s.size
  · go_enter Tryd.func4, Tryd.ntmps4
    go_wp2_with fail
    refine (alive_any _ hc hz).mono ?_
    rintro e w4 ⟨rfl, hb4⟩
    go_wp2_with fail
    go_ret
    exact ⟨rfl, hb4⟩
  · have h2 : 10000 < t.size := by simp at hs; omega
    go_enter Tryd.func4, Tryd.ntmps4
    go_wp2_with fail
    refine (alive_any _ hc hz).mono ?_
    rintro e w4 ⟨rfl, hb4⟩
    go_wp2_with fail
    go_ret
    exact ⟨rfl, hb4⟩

theorem w_DigestExtends (h : Int) (wh : (Lit.int .u64 h).wf = true) (s : ByteArray) (_hl : s.size ≤ 140737488351232) (t : ByteArray) (_hl2 : t.size ≤ 140737488351232) (w : World) (hc : w.cell? ⟨4, 15, none⟩ = some (.int .u8 4)) :
    Calls Tryd.prog 4 #[.int .u64 h, .string s, .string t] w fun e w' => e = .returned (.bool true) ∧ Below w.heap.size w w' := by
  have hz : 4 < w.heap.size := World.block_lt_of_cell? w ⟨4, 15, none⟩ hc
  by_cases hs : s.size ≤ 10000 ∧ t.size ≤ 10000
  · exact extends_small h s t w hs.1 hs.2 hc hz
  · exact extends_big h s t w (by simp; omega) hc hz
end Go.Proofs.YtnhgejmdcfpeaaaDoor
