/- Walks: the laws of texts (another seat). -/
import Derived.Test.YtmiceolkmiiahaaDoorW32
namespace Go.Proofs.YtmiceolkmiiahaaDoor
open Go.RowKit
set_option linter.unusedVariables false
set_option linter.unusedSimpArgs false
set_option maxRecDepth 100000
set_option maxHeartbeats 8000000

theorem parse_long_eq (s : List UInt8) (h : 32768 < s.length) : parseS s = .bad 0 2 := by
  unfold parseS
  rw [if_pos h]
theorem w_MapfileLong (a : ByteArray) (z : a.size ≤ 140737488351232) (w : World) (hc : Ctx w) : Calls Tryd.prog 3 #[.string a] w fun e w' => e = .returned (.bool true) ∧ Below w.heap.size w w' := by
  have HA := Lib.hid (alive_any w hc)
  have HAL := Lib.hid alive_any
  have HC := Lib.hid hc
  clear hc
  by_cases h1 : 100 < a.size
  · have e1 : (100 : Int) < (a.size : Int) := by omega
    go_enter Tryd.func3, Tryd.ntmps3
    go_wp2_with fail
    refine HA.out.mono ?_
    rintro e w1 ⟨rfl, hb⟩
    go_wp2_with fail
    go_ret
    exact ⟨rfl, hb⟩
  · by_cases h2 : a.size = 0
    · have e1 : ¬ (100 : Int) < (a.size : Int) := by omega
      have e2 : (a.size : Int) = 0 := by omega
      go_enter Tryd.func3, Tryd.ntmps3
      go_wp2_with fail
      refine HA.out.mono ?_
      rintro e w1 ⟨rfl, hb⟩
      go_wp2_with fail
      go_ret
      exact ⟨rfl, hb⟩
    · have e1 : ¬ (100 : Int) < (a.size : Int) := by omega
      have e2 : ((a.size : Int) == 0) = false := by rw [beq_eq_false_iff_ne]; omega
      go_enter Tryd.func3, Tryd.ntmps3
      go_wp2_with fail
      clear e1 e2
      go_loopw [3] (fun v wr => ∃ s : ByteArray, v = .string s ∧ 1 ≤ s.size ∧ s.size ≤ 65536 ∧ wr = w) (fun v _ => 32769 - szOf v)
      case atStart => exact ⟨a, rfl, by omega, by omega, rfl⟩
      case round =>
        obtain ⟨s, rfl, hs1, hs2, rfl⟩ := hrel
        by_cases hs : s.size ≤ 32768
        · have e3 : (s.size : Int) ≤ 32768 := by omega
          have hz : (s ++ s).size = s.size + s.size := ByteArray.size_append
          obtain ⟨t, ht⟩ : ∃ t, s ++ s = t := ⟨_, rfl⟩
          rw [ht] at hz
          go_wp2_with fail
          go_roundw
          case rel => exact ⟨t, rfl, by omega, by omega, trivial⟩
          case measure => simp [szOf]; omega
        · have e3 : ¬ (s.size : Int) ≤ 32768 := by omega
          have hsl : 32768 < s.data.toList.length := by rw [← Lib.size_eq]; omega
          have HP := Lib.hid (Parse_long s.data.toList hsl (by rw [← Lib.size_eq]; omega) wr)
          rw [str_of, parse_long_eq _ hsl] at HP
          clear hsl
          go_wp2_with fail
          refine HP.out.mono ?_
          rintro e w1 ⟨rfl, hb⟩
          have HB := Lib.hid hb
          have hA2 := Lib.hid (HAL.out _ ((HC.out.below hb).below (below_new w1 (fO (str []) 0 0 (.slice none 0 0) (.slice none 0 0)))))
          unfold file0 fileV at *
          clear hb
          go_wp2_with fail
          refine hA2.out.mono ?_
          rintro e w2 ⟨rfl, hb2⟩
          go_wp2_with fail
          go_ret
          exact ⟨rfl, HB.out.trans ((new_below hb2).2.1.mono HB.out.size)⟩
end Go.Proofs.YtmiceolkmiiahaaDoor
