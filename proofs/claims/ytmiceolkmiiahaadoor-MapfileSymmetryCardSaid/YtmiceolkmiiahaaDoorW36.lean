/- Walks: small; the law of Valid and Print. -/
import Derived.Test.YtmiceolkmiiahaaDoorW35
import Derived.Test.YtmiceolkmiiahaaDoorW22
namespace Go.Proofs.YtmiceolkmiiahaaDoor
open Go.RowKit
set_option linter.unusedVariables false
set_option linter.unusedSimpArgs false
set_option maxRecDepth 100000
set_option maxHeartbeats 8000000

def smallB (n : List UInt8) (cs : List Cel) (ps : List Po) : Bool := decide (cs.length ≤ 1100) && (decide (ps.length ≤ 20) && decide (n.length ≤ 1000))
theorem small_any (n : List UInt8) (W H : Int) (ao po : Option Addr) (c pc : Nat) (cs : List Cel) (ps : List Po) (w : World) : KB 10 #[fileV (str n) W H (.slice ao cs.length c) (.slice po ps.length pc)] (.bool (smallB n cs ps)) w := by
  unfold KB fileV smallB
  have hs : ((str n).size : Int) = (n.length : Int) := by rw [str_size]
  generalize str n = S at *
  generalize cs.length = a at *
  generalize ps.length = b at *
  generalize n.length = d at *
  by_cases h1 : a ≤ 1100
  · have e1 : (a : Int) ≤ 1100 := by omega
    by_cases h2 : b ≤ 20
    · have e2 : (b : Int) ≤ 20 := by omega
      by_cases h3 : d ≤ 1000
      · have e3 : (d : Int) ≤ 1000 := by omega
        go_enter Tryd.func10, Tryd.ntmps10
        go_wp2_with fail
        go_ret
        exact ⟨by simp [h1, h2, h3], below_new _ _⟩
      · have e3 : ¬ (d : Int) ≤ 1000 := by omega
        go_enter Tryd.func10, Tryd.ntmps10
        go_wp2_with fail
        go_ret
        exact ⟨by simp [h1, h2, h3], below_new _ _⟩
    · have e2 : ¬ (b : Int) ≤ 20 := by omega
      go_enter Tryd.func10, Tryd.ntmps10
      go_wp2_with fail
      go_ret
      exact ⟨by simp [h1, h2], below_new _ _⟩
  · have e1 : ¬ (a : Int) ≤ 1100 := by omega
    go_enter Tryd.func10, Tryd.ntmps10
    go_wp2_with fail
    go_ret
    exact ⟨by simp [h1], below_new _ _⟩
end Go.Proofs.YtmiceolkmiiahaaDoor
