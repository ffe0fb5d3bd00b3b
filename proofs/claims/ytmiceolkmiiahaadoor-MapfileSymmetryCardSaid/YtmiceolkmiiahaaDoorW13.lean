/- Walks: the reference's Valid. -/
import Derived.Test.YtmiceolkmiiahaaDoorW12
namespace Go.Proofs.YtmiceolkmiiahaaDoor
open Go.RowKit
set_option linter.unusedVariables false
set_option linter.unusedSimpArgs false
set_option maxRecDepth 100000
set_option maxHeartbeats 8000000

theorem contains_take (ps : List Po) (p : Po) (k : Nat) : (ps.take k).contains p = true ↔ ∃ j, ∃ (h : j < ps.length), j < k ∧ ps[j] = p := by
  rw [List.contains_iff_mem, List.mem_take_iff_getElem]
  constructor
  · rintro ⟨j, hj, h⟩
    exact ⟨j, by omega, by omega, h⟩
  · rintro ⟨j, h1, h2, h⟩
    exact ⟨j, by omega, h⟩
end Go.Proofs.YtmiceolkmiiahaaDoor
