/- Walks: the forms of all instructions of a segment. -/
import Derived.Test.YtcicbijpiffbkaaW7
namespace Go.Proofs.Ytcicbijpiffbkaa
open Go.RowKit
set_option linter.unusedVariables false
set_option linter.unusedSimpArgs false
set_option maxRecDepth 100000
set_option maxHeartbeats 8000000

abbrev segO (ev iv : Value) (f t sl : Int) : Obj := .cells #[ev, iv, .int .i64 f, .int .i64 t, .int .i64 sl] 109
def badI (es : List Ent) (sl f t : Int) (x : Ins) : Bool := !formB es sl f t x
theorem cValidate2_any (ao bo : Option Addr) (c m d : Nat) (es : List Ent) (f t sl : Int) (x : Ins) (hs : x.s.length ≤ 140737488355328) (hz : es.length ≤ 1000000) (b : Nat) (w : World) (h : EntSl w (.slice ao es.length c) es) (hb : w.heap[b]? = some (segO (.slice ao es.length c) (.slice bo m d) f t sl)) :
    KB 48 #[x.v, .pointer (some ⟨b, 0, none⟩)] (.bool (badI es sl f t x)) w := by
  have HF := Lib.hid (fun w' (hb : Below w.heap.size w w') => form_any ao bo c m d es f t sl x hs hz w' (h.below hb))
  have HB := Lib.hid hb
  obtain ⟨op, a, n, s⟩ := x
  unfold badI
  unfold KB Ins.v at *
  dsimp only at *
  generalize formB es sl f t ⟨op, a, n, s⟩ = R at *
  generalize str s = S at *
  generalize es.length = k at *
  have g := fun o => cells5 (block_below (below_new w o) HB.out)
  have g0 := fun o => (g o).1
  have g1 := fun o => (g o).2.1
  have g2 := fun o => (g o).2.2.1
  have g3 := fun o => (g o).2.2.2.1
  have g4 := fun o => (g o).2.2.2.2
  clear g h hb hs
  go_enter Try.func48, Try.ntmps48
  go_wp2_with fail
  refine (HF.out _ (below_new _ _)).mono ?_
  rintro e w1 ⟨rfl, hb1⟩
  have HB1 := Lib.hid ((below_new w _).trans (hb1.mono (by simp)))
  clear hb1
  go_wp2_with fail
  go_ret
  exact ⟨rfl, HB1.out⟩
end Go.Proofs.Ytcicbijpiffbkaa
