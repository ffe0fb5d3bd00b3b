/- What the laid variables hold. -/
import Derived.Test.YtmiceolkmiiahaaGreatDoorW31
import Derived.Lib.LaidTab
import Derived.Stop.LaidErr
import Derived.Shelf.Vars
import Derived.ChangeArms
namespace Go.Proofs.YtmiceolkmiiahaaGreatDoor
open Go.RowKit
set_option linter.unusedVariables false
set_option linter.unusedSimpArgs false
set_option maxRecDepth 100000

theorem trod_arr {H : Type} {enc : TypeId × Value → H} {P : Program} {w : World} {base : Nat} {sp : Nat → Bool} {held : Bool} {fuel : Nat} {t e : TypeId} {n s : Nat} {cs : List Value} {ds : List (DataW H)} {p : List MemPlace}
    (ht : P.underlying t = some (.array n e)) (hce : P.cellsOf e = s) (hct : P.cellsOf t = n * s)
    (h : DataW.trod enc P w base sp held fuel t cs = some (.agg ds, p)) : cs.length = n * s ∧ ds.length = n ∧ ∃ f, ∀ i, i < n → ∃ d q, ds[i]? = some d ∧ DataW.trod enc P w base sp held f e ((cs.drop (i * s)).take s) = some (d, q) := by
  cases fuel with
  | zero => simp [DataW.trod] at h
  | succ fuel =>
    simp only [DataW.trod, ht, hce, hct] at h
    split at h
    · rename_i hl
      obtain ⟨xs, hm, hx⟩ := Option.map_eq_some_iff.1 h
      have hxs : xs.map (·.1) = ds := by
        have := congrArg Prod.fst hx
        simpa using this
      have hxl : xs.length = n := by simpa using Lib.mapM_length hm
      refine ⟨by first | exact hl | (simpa using hl), by rw [← hxs, List.length_map, hxl], fuel, fun i hi => ?_⟩
      obtain ⟨b, hb, hf⟩ := Lib.mapM_at hm i i (by simp [hi])
      exact ⟨b.1, b.2, by rw [← hxs]; simp [hb], hf⟩
    · cases h
theorem bools_of {H : Type} {enc : TypeId × Value → H} {P : Program} {w : World} {base : Nat} {sp : Nat → Bool} {held : Bool} {fuel : Nat} {t e : TypeId} {n : Nat} {cs : List Value} {bs : List Bool} {p : List MemPlace}
    (ht : P.underlying t = some (.array n e)) (he : P.underlying e = some .bool) (hce : P.cellsOf e = 1) (hct : P.cellsOf t = n)
    (h : DataW.trod enc P w base sp held fuel t cs = some (.agg (bs.map fun b => .lit (.bool b)), p)) : cs = bs.map Value.bool := by
  obtain ⟨h1, h2, f, h3⟩ := trod_arr ht hce (by rw [hct, Nat.mul_one]) h
  rw [List.length_map] at h2
  apply List.ext_getElem?
  intro i
  by_cases hi : i < n
  · obtain ⟨d, q, hd, hf⟩ := h3 i hi
    obtain ⟨b, hc, hx⟩ := DataW.trod_bool he hf
    have h4 : cs[i]? = some (.bool b) := by
      have := congrArg (·[0]?) hc
      simpa [List.getElem?_take, List.getElem?_drop] using this
    injection hx with hx1 hx2
    rw [hx1] at hd
    simp only [List.getElem?_map, Option.map_eq_some_iff] at hd ⊢
    obtain ⟨b', hb', hbb⟩ := hd
    injection hbb with hbb
    injection hbb with hbb
    rw [h4]
    simp [hb', hbb]
  · rw [List.getElem?_eq_none (by omega), List.getElem?_eq_none (by simp; omega)]
def passD {H : Type} : DataW H := .agg [.agg [.lit (.bool false), .lit (.bool false), .lit (.bool false), .lit (.bool false), .lit (.bool false), .lit (.bool false)], .agg [.lit (.bool false), .lit (.bool true), .lit (.bool false), .lit (.bool false), .lit (.bool false), .lit (.bool true)], .agg [.lit (.bool false), .lit (.bool true), .lit (.bool true), .lit (.bool false), .lit (.bool false), .lit (.bool true)], .agg [.lit (.bool false), .lit (.bool true), .lit (.bool true), .lit (.bool true), .lit (.bool true), .lit (.bool true)]]
def passRows : List (List Bool) := [[false, false, false, false, false, false], [false, true, false, false, false, true], [false, true, true, false, false, true], [false, true, true, true, true, true]]
theorem pass_of_head {W : World} {rest : List (String × DataW Unit)} (h : laidMet Tryz.prog (("skirmish/terrain.passable", passD) :: rest) W) : Pass W := by
  obtain ⟨ps, ⟨g', t', cs, fuel, p, q, hg', ht', hvar, hd, _, _⟩, _⟩ := h
  obtain rfl := Option.some.inj (gPass.symm.trans hg')
  obtain rfl := Option.some.inj ((show (Tryz.prog.globals[0]?).map (·.type) = some 95 by kernel_rfl).symm.trans ht')
  obtain ⟨h1, h2, f, h3⟩ := trod_arr (n := 4) (s := 6) (e := 94) (by kernel_rfl) (by kernel_rfl) (by kernel_rfl) hd
  have key : ∀ i, (hi : i < 4) → (cs.toList.drop (i * 6)).take 6 = (passRows[i]'(by exact hi)).map Value.bool := fun i hi => by
    obtain ⟨d, q', hd', hf⟩ := h3 i hi
    have hdd : d = .agg ((passRows[i]'(by exact hi)).map fun b => .lit (.bool b)) := by
      match i, hi, hd' with
      | 0, _, hd' => simp at hd'; rw [← hd']; rfl
      | 1, _, hd' => simp at hd'; rw [← hd']; rfl
      | 2, _, hd' => simp at hd'; rw [← hd']; rfl
      | 3, _, hd' => simp at hd'; rw [← hd']; rfl
    rw [hdd] at hf
    exact bools_of (n := 6) (e := 4) (by kernel_rfl) (by kernel_rfl) (by kernel_rfl) (by kernel_rfl) hf
  have k0 := key 0 (by decide)
  have k1 := key 1 (by decide)
  have k2 := key 2 (by decide)
  have k3 := key 3 (by decide)
  have hall : cs.toList = (passL.map Value.bool) := by
    have hl : cs.toList.length = 24 := h1
    have e : cs.toList = (cs.toList.drop (0 * 6)).take 6 ++ ((cs.toList.drop (1 * 6)).take 6 ++ ((cs.toList.drop (2 * 6)).take 6 ++ (cs.toList.drop (3 * 6)).take 6)) := by
      generalize cs.toList = L at hl
      apply List.ext_getElem?
      intro i
      simp only [List.getElem?_append, List.getElem?_take, List.getElem?_drop, List.length_take, List.length_drop, hl]
      by_cases h1 : i < 6
      · simp [h1]
      · by_cases h2 : i < 12
        · rw [if_neg (by omega), if_pos (by omega), if_pos (by omega)]; congr 1; omega
        · by_cases h3 : i < 18
          · rw [if_neg (by omega), if_neg (by omega), if_pos (by omega), if_pos (by omega)]; congr 1; omega
          · by_cases h4 : i < 24
            · rw [if_neg (by omega), if_neg (by omega), if_neg (by omega), if_pos (by omega)]; congr 1; omega
            · rw [if_neg (by omega), if_neg (by omega), if_neg (by omega), if_neg (by omega), List.getElem?_eq_none (by omega)]
    rw [e, k0, k1, k2, k3]
    rfl
  unfold Pass
  rw [hvar]
  congr 1
  apply Array.toList_inj.1
  rw [hall]
end Go.Proofs.YtmiceolkmiiahaaGreatDoor
