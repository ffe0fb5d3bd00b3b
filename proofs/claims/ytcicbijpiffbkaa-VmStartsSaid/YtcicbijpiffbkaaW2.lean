/- Walks: the map of the functions of scripts; their numbers. -/
import Derived.Test.YtcicbijpiffbkaaW1
import Derived.Laws.IdiomRangeMap
import Derived.Maps.Own
namespace Go.Proofs.Ytcicbijpiffbkaa
open Go.RowKit
open Go.ChangeMaps (setBlock)
set_option linter.unusedVariables false
set_option linter.unusedSimpArgs false
set_option maxRecDepth 100000
set_option maxHeartbeats 16000000

abbrev fent (k : Int) (s : ByteArray) (v : Int) (t : Bool) (b : Nat) : MapEntry := ⟨.int .i64 k, .agg #[.string s, .int .i64 v, .bool t], b⟩
theorem fmap_u : Try.prog.underlying 137 = some (.map 3 135) := by kernel_rfl
theorem int_u : Try.prog.underlying 3 = some (.int .i64) := by kernel_rfl
theorem ins_fun (w : World) (es : Array MapEntry) (clock : Nat) (k : Int) (v : Value) (h1 : Instr.findNow (.int .i64) (.int .i64 k) es.toList 0 = some none) :
    Sem.run Try.prog (Instr.mapUpdate 137 (.map (some w.heap.size)) (.int .i64 k) v) (w.alloc (.map es clock)) = .ok () (w.alloc (.map (es.push ⟨.int .i64 k, v, clock⟩) (clock + 1))) := by
  have hb : (w.alloc (.map es clock)).heap[w.heap.size]? = some (.map es clock) := heap_alloc_new w _
  have hk : MapKept.IsKey (.int .i64) (.int .i64 k) := by constructor
  have hp : ∀ (h : Array Obj) (x y : Obj), (h.push x).setIfInBounds h.size y = h.push y := by
    intro h x y
    apply Array.toList_inj.1
    simp
  have hw : ({ w.alloc (.map es clock) with heap := (w.alloc (.map es clock)).heap.setIfInBounds w.heap.size (.map (es.push ⟨.int .i64 k, v, clock⟩) (clock + 1)) } : World) = w.alloc (.map (es.push ⟨.int .i64 k, v, clock⟩) (clock + 1)) := by
    show ({ w.alloc (.map es clock) with heap := (w.heap.push (.map es clock)).setIfInBounds w.heap.size (.map (es.push ⟨.int .i64 k, v, clock⟩) (clock + 1)) } : World) = _
    rw [hp]
    rfl
  simp only [Instr.mapUpdate, Sem.run_bind, run_underlying fmap_u, MapKept.run_getObj_map hb, MapKept.run_checkKey int_u hk, MapKept.run_findKey int_u h1, MapKept.run_setObj_map _ hb, Result.andThen]
  rw [hw]

def funEs : Array MapEntry := #[fent 1 ⟨#[116, 117, 114, 110]⟩ 0 false 0, fent 2 ⟨#[111, 114, 101]⟩ 0 false 1, fent 3 ⟨#[119, 111, 111, 100]⟩ 0 false 2, fent 4 ⟨#[99, 111, 117, 110, 116]⟩ 0 true 3, fent 11 ⟨#[104, 97, 115]⟩ 0 true 4, fent 5 ⟨#[117, 110, 105, 116]⟩ 1 true 5, fent 6 ⟨#[101, 110, 101, 109, 121]⟩ 1 false 6, fent 7 ⟨#[120]⟩ 1 false 7, fent 8 ⟨#[121]⟩ 1 false 8, fent 9 ⟨#[104, 112]⟩ 1 false 9, fent 10 ⟨#[105, 100, 108, 101]⟩ 1 false 10, fent 21 ⟨#[109, 111, 118, 101]⟩ 3 false 11, fent 23 ⟨#[103, 97, 116, 104, 101, 114]⟩ 3 false 12, fent 22 ⟨#[97, 116, 116, 97, 99, 107]⟩ 2 false 13, fent 24 ⟨#[98, 117, 105, 108, 100]⟩ 3 true 14, fent 25 ⟨#[116, 114, 97, 105, 110]⟩ 1 true 15, fent 26 ⟨#[114, 101, 115, 101, 97, 114, 99, 104]⟩ 1 true 16, fent 27 ⟨#[104, 111, 108, 100]⟩ 1 false 17]
theorem functions_any (w : World) : Calls Try.prog 55 #[] w fun e w' => e = .returned (.map (some w.heap.size)) ∧ w' = w.alloc (.map funEs 18) := by
  have hmm := @run_makeMap Try.prog
  have h1 := ins_fun w #[] 0 1 (.agg #[.string ⟨#[116, 117, 114, 110]⟩, .int .i64 0, .bool false]) rfl
  have h2 := ins_fun w #[fent 1 ⟨#[116, 117, 114, 110]⟩ 0 false 0] 1 2 (.agg #[.string ⟨#[111, 114, 101]⟩, .int .i64 0, .bool false]) rfl
  have h3 := ins_fun w #[fent 1 ⟨#[116, 117, 114, 110]⟩ 0 false 0, fent 2 ⟨#[111, 114, 101]⟩ 0 false 1] 2 3 (.agg #[.string ⟨#[119, 111, 111, 100]⟩, .int .i64 0, .bool false]) rfl
  have h4 := ins_fun w #[fent 1 ⟨#[116, 117, 114, 110]⟩ 0 false 0, fent 2 ⟨#[111, 114, 101]⟩ 0 false 1, fent 3 ⟨#[119, 111, 111, 100]⟩ 0 false 2] 3 4 (.agg #[.string ⟨#[99, 111, 117, 110, 116]⟩, .int .i64 0, .bool true]) rfl
  have h5 := ins_fun w #[fent 1 ⟨#[116, 117, 114, 110]⟩ 0 false 0, fent 2 ⟨#[111, 114, 101]⟩ 0 false 1, fent 3 ⟨#[119, 111, 111, 100]⟩ 0 false 2, fent 4 ⟨#[99, 111, 117, 110, 116]⟩ 0 true 3] 4 11 (.agg #[.string ⟨#[104, 97, 115]⟩, .int .i64 0, .bool true]) rfl
  have h6 := ins_fun w #[fent 1 ⟨#[116, 117, 114, 110]⟩ 0 false 0, fent 2 ⟨#[111, 114, 101]⟩ 0 false 1, fent 3 ⟨#[119, 111, 111, 100]⟩ 0 false 2, fent 4 ⟨#[99, 111, 117, 110, 116]⟩ 0 true 3, fent 11 ⟨#[104, 97, 115]⟩ 0 true 4] 5 5 (.agg #[.string ⟨#[117, 110, 105, 116]⟩, .int .i64 1, .bool true]) rfl
  have h7 := ins_fun w #[fent 1 ⟨#[116, 117, 114, 110]⟩ 0 false 0, fent 2 ⟨#[111, 114, 101]⟩ 0 false 1, fent 3 ⟨#[119, 111, 111, 100]⟩ 0 false 2, fent 4 ⟨#[99, 111, 117, 110, 116]⟩ 0 true 3, fent 11 ⟨#[104, 97, 115]⟩ 0 true 4, fent 5 ⟨#[117, 110, 105, 116]⟩ 1 true 5] 6 6 (.agg #[.string ⟨#[101, 110, 101, 109, 121]⟩, .int .i64 1, .bool false]) rfl
  have h8 := ins_fun w #[fent 1 ⟨#[116, 117, 114, 110]⟩ 0 false 0, fent 2 ⟨#[111, 114, 101]⟩ 0 false 1, fent 3 ⟨#[119, 111, 111, 100]⟩ 0 false 2, fent 4 ⟨#[99, 111, 117, 110, 116]⟩ 0 true 3, fent 11 ⟨#[104, 97, 115]⟩ 0 true 4, fent 5 ⟨#[117, 110, 105, 116]⟩ 1 true 5, fent 6 ⟨#[101, 110, 101, 109, 121]⟩ 1 false 6] 7 7 (.agg #[.string ⟨#[120]⟩, .int .i64 1, .bool false]) rfl
  have h9 := ins_fun w #[fent 1 ⟨#[116, 117, 114, 110]⟩ 0 false 0, fent 2 ⟨#[111, 114, 101]⟩ 0 false 1, fent 3 ⟨#[119, 111, 111, 100]⟩ 0 false 2, fent 4 ⟨#[99, 111, 117, 110, 116]⟩ 0 true 3, fent 11 ⟨#[104, 97, 115]⟩ 0 true 4, fent 5 ⟨#[117, 110, 105, 116]⟩ 1 true 5, fent 6 ⟨#[101, 110, 101, 109, 121]⟩ 1 false 6, fent 7 ⟨#[120]⟩ 1 false 7] 8 8 (.agg #[.string ⟨#[121]⟩, .int .i64 1, .bool false]) rfl
  have h10 := ins_fun w #[fent 1 ⟨#[116, 117, 114, 110]⟩ 0 false 0, fent 2 ⟨#[111, 114, 101]⟩ 0 false 1, fent 3 ⟨#[119, 111, 111, 100]⟩ 0 false 2, fent 4 ⟨#[99, 111, 117, 110, 116]⟩ 0 true 3, fent 11 ⟨#[104, 97, 115]⟩ 0 true 4, fent 5 ⟨#[117, 110, 105, 116]⟩ 1 true 5, fent 6 ⟨#[101, 110, 101, 109, 121]⟩ 1 false 6, fent 7 ⟨#[120]⟩ 1 false 7, fent 8 ⟨#[121]⟩ 1 false 8] 9 9 (.agg #[.string ⟨#[104, 112]⟩, .int .i64 1, .bool false]) rfl
  have h11 := ins_fun w #[fent 1 ⟨#[116, 117, 114, 110]⟩ 0 false 0, fent 2 ⟨#[111, 114, 101]⟩ 0 false 1, fent 3 ⟨#[119, 111, 111, 100]⟩ 0 false 2, fent 4 ⟨#[99, 111, 117, 110, 116]⟩ 0 true 3, fent 11 ⟨#[104, 97, 115]⟩ 0 true 4, fent 5 ⟨#[117, 110, 105, 116]⟩ 1 true 5, fent 6 ⟨#[101, 110, 101, 109, 121]⟩ 1 false 6, fent 7 ⟨#[120]⟩ 1 false 7, fent 8 ⟨#[121]⟩ 1 false 8, fent 9 ⟨#[104, 112]⟩ 1 false 9] 10 10 (.agg #[.string ⟨#[105, 100, 108, 101]⟩, .int .i64 1, .bool false]) rfl
  have h12 := ins_fun w #[fent 1 ⟨#[116, 117, 114, 110]⟩ 0 false 0, fent 2 ⟨#[111, 114, 101]⟩ 0 false 1, fent 3 ⟨#[119, 111, 111, 100]⟩ 0 false 2, fent 4 ⟨#[99, 111, 117, 110, 116]⟩ 0 true 3, fent 11 ⟨#[104, 97, 115]⟩ 0 true 4, fent 5 ⟨#[117, 110, 105, 116]⟩ 1 true 5, fent 6 ⟨#[101, 110, 101, 109, 121]⟩ 1 false 6, fent 7 ⟨#[120]⟩ 1 false 7, fent 8 ⟨#[121]⟩ 1 false 8, fent 9 ⟨#[104, 112]⟩ 1 false 9, fent 10 ⟨#[105, 100, 108, 101]⟩ 1 false 10] 11 21 (.agg #[.string ⟨#[109, 111, 118, 101]⟩, .int .i64 3, .bool false]) rfl
  have h13 := ins_fun w #[fent 1 ⟨#[116, 117, 114, 110]⟩ 0 false 0, fent 2 ⟨#[111, 114, 101]⟩ 0 false 1, fent 3 ⟨#[119, 111, 111, 100]⟩ 0 false 2, fent 4 ⟨#[99, 111, 117, 110, 116]⟩ 0 true 3, fent 11 ⟨#[104, 97, 115]⟩ 0 true 4, fent 5 ⟨#[117, 110, 105, 116]⟩ 1 true 5, fent 6 ⟨#[101, 110, 101, 109, 121]⟩ 1 false 6, fent 7 ⟨#[120]⟩ 1 false 7, fent 8 ⟨#[121]⟩ 1 false 8, fent 9 ⟨#[104, 112]⟩ 1 false 9, fent 10 ⟨#[105, 100, 108, 101]⟩ 1 false 10, fent 21 ⟨#[109, 111, 118, 101]⟩ 3 false 11] 12 23 (.agg #[.string ⟨#[103, 97, 116, 104, 101, 114]⟩, .int .i64 3, .bool false]) rfl
  have h14 := ins_fun w #[fent 1 ⟨#[116, 117, 114, 110]⟩ 0 false 0, fent 2 ⟨#[111, 114, 101]⟩ 0 false 1, fent 3 ⟨#[119, 111, 111, 100]⟩ 0 false 2, fent 4 ⟨#[99, 111, 117, 110, 116]⟩ 0 true 3, fent 11 ⟨#[104, 97, 115]⟩ 0 true 4, fent 5 ⟨#[117, 110, 105, 116]⟩ 1 true 5, fent 6 ⟨#[101, 110, 101, 109, 121]⟩ 1 false 6, fent 7 ⟨#[120]⟩ 1 false 7, fent 8 ⟨#[121]⟩ 1 false 8, fent 9 ⟨#[104, 112]⟩ 1 false 9, fent 10 ⟨#[105, 100, 108, 101]⟩ 1 false 10, fent 21 ⟨#[109, 111, 118, 101]⟩ 3 false 11, fent 23 ⟨#[103, 97, 116, 104, 101, 114]⟩ 3 false 12] 13 22 (.agg #[.string ⟨#[97, 116, 116, 97, 99, 107]⟩, .int .i64 2, .bool false]) rfl
  have h15 := ins_fun w #[fent 1 ⟨#[116, 117, 114, 110]⟩ 0 false 0, fent 2 ⟨#[111, 114, 101]⟩ 0 false 1, fent 3 ⟨#[119, 111, 111, 100]⟩ 0 false 2, fent 4 ⟨#[99, 111, 117, 110, 116]⟩ 0 true 3, fent 11 ⟨#[104, 97, 115]⟩ 0 true 4, fent 5 ⟨#[117, 110, 105, 116]⟩ 1 true 5, fent 6 ⟨#[101, 110, 101, 109, 121]⟩ 1 false 6, fent 7 ⟨#[120]⟩ 1 false 7, fent 8 ⟨#[121]⟩ 1 false 8, fent 9 ⟨#[104, 112]⟩ 1 false 9, fent 10 ⟨#[105, 100, 108, 101]⟩ 1 false 10, fent 21 ⟨#[109, 111, 118, 101]⟩ 3 false 11, fent 23 ⟨#[103, 97, 116, 104, 101, 114]⟩ 3 false 12, fent 22 ⟨#[97, 116, 116, 97, 99, 107]⟩ 2 false 13] 14 24 (.agg #[.string ⟨#[98, 117, 105, 108, 100]⟩, .int .i64 3, .bool true]) rfl
  have h16 := ins_fun w #[fent 1 ⟨#[116, 117, 114, 110]⟩ 0 false 0, fent 2 ⟨#[111, 114, 101]⟩ 0 false 1, fent 3 ⟨#[119, 111, 111, 100]⟩ 0 false 2, fent 4 ⟨#[99, 111, 117, 110, 116]⟩ 0 true 3, fent 11 ⟨#[104, 97, 115]⟩ 0 true 4, fent 5 ⟨#[117, 110, 105, 116]⟩ 1 true 5, fent 6 ⟨#[101, 110, 101, 109, 121]⟩ 1 false 6, fent 7 ⟨#[120]⟩ 1 false 7, fent 8 ⟨#[121]⟩ 1 false 8, fent 9 ⟨#[104, 112]⟩ 1 false 9, fent 10 ⟨#[105, 100, 108, 101]⟩ 1 false 10, fent 21 ⟨#[109, 111, 118, 101]⟩ 3 false 11, fent 23 ⟨#[103, 97, 116, 104, 101, 114]⟩ 3 false 12, fent 22 ⟨#[97, 116, 116, 97, 99, 107]⟩ 2 false 13, fent 24 ⟨#[98, 117, 105, 108, 100]⟩ 3 true 14] 15 25 (.agg #[.string ⟨#[116, 114, 97, 105, 110]⟩, .int .i64 1, .bool true]) rfl
  have h17 := ins_fun w #[fent 1 ⟨#[116, 117, 114, 110]⟩ 0 false 0, fent 2 ⟨#[111, 114, 101]⟩ 0 false 1, fent 3 ⟨#[119, 111, 111, 100]⟩ 0 false 2, fent 4 ⟨#[99, 111, 117, 110, 116]⟩ 0 true 3, fent 11 ⟨#[104, 97, 115]⟩ 0 true 4, fent 5 ⟨#[117, 110, 105, 116]⟩ 1 true 5, fent 6 ⟨#[101, 110, 101, 109, 121]⟩ 1 false 6, fent 7 ⟨#[120]⟩ 1 false 7, fent 8 ⟨#[121]⟩ 1 false 8, fent 9 ⟨#[104, 112]⟩ 1 false 9, fent 10 ⟨#[105, 100, 108, 101]⟩ 1 false 10, fent 21 ⟨#[109, 111, 118, 101]⟩ 3 false 11, fent 23 ⟨#[103, 97, 116, 104, 101, 114]⟩ 3 false 12, fent 22 ⟨#[97, 116, 116, 97, 99, 107]⟩ 2 false 13, fent 24 ⟨#[98, 117, 105, 108, 100]⟩ 3 true 14, fent 25 ⟨#[116, 114, 97, 105, 110]⟩ 1 true 15] 16 26 (.agg #[.string ⟨#[114, 101, 115, 101, 97, 114, 99, 104]⟩, .int .i64 1, .bool true]) rfl
  have h18 := ins_fun w #[fent 1 ⟨#[116, 117, 114, 110]⟩ 0 false 0, fent 2 ⟨#[111, 114, 101]⟩ 0 false 1, fent 3 ⟨#[119, 111, 111, 100]⟩ 0 false 2, fent 4 ⟨#[99, 111, 117, 110, 116]⟩ 0 true 3, fent 11 ⟨#[104, 97, 115]⟩ 0 true 4, fent 5 ⟨#[117, 110, 105, 116]⟩ 1 true 5, fent 6 ⟨#[101, 110, 101, 109, 121]⟩ 1 false 6, fent 7 ⟨#[120]⟩ 1 false 7, fent 8 ⟨#[121]⟩ 1 false 8, fent 9 ⟨#[104, 112]⟩ 1 false 9, fent 10 ⟨#[105, 100, 108, 101]⟩ 1 false 10, fent 21 ⟨#[109, 111, 118, 101]⟩ 3 false 11, fent 23 ⟨#[103, 97, 116, 104, 101, 114]⟩ 3 false 12, fent 22 ⟨#[97, 116, 116, 97, 99, 107]⟩ 2 false 13, fent 24 ⟨#[98, 117, 105, 108, 100]⟩ 3 true 14, fent 25 ⟨#[116, 114, 97, 105, 110]⟩ 1 true 15, fent 26 ⟨#[114, 101, 115, 101, 97, 114, 99, 104]⟩ 1 true 16] 17 27 (.agg #[.string ⟨#[104, 111, 108, 100]⟩, .int .i64 1, .bool false]) rfl
  simp only [List.push_toArray, List.cons_append, List.nil_append, Nat.reduceAdd] at h1 h2 h3 h4 h5 h6 h7 h8 h9 h10 h11 h12 h13 h14 h15 h16 h17 h18
  go_enter Try.func55, Try.ntmps55
  go_wp2_with fail
  go_ret
  exact ⟨rfl, rfl⟩
end Go.Proofs.Ytcicbijpiffbkaa
