/- Walks: valid of the lexer. -/
import Derived.Test.YtpddneplkbdedaaDoorW24
namespace Go.Proofs.YtpddneplkbdedaaDoor
open Go.RowKit
set_option linter.unusedVariables false
set_option linter.unusedSimpArgs false

/-- valid's answer. -/
def validT (k : Int) (tx : List UInt8) : Bool :=
  if k = 3 then tx.all isPr
  else if k = 1 ∨ k = 2 ∨ k = 4 ∨ k = 5 then
    if tx = [] then false else ((nextT tx).2.2.2 == 0 && (nextT tx).2.2.1 == tx.length && (nextT tx).1 == k && (nextT tx).2.1 == tx)
  else false

abbrev tokO (k line : Int) (s : ByteArray) : Obj := Obj.cells #[Value.int IntKind.i64 k, Value.int IntKind.i64 line, Value.string s] 34
theorem tokO_kept {w w1 : World} {k line : Int} {s : ByteArray} (hb : Below (w.alloc (tokO k line s)).heap.size (w.alloc (tokO k line s)) w1) :
    (w1.cell? ⟨w.heap.size, 0, none⟩ = some (.int .i64 k) ∧ w1.cell? ⟨w.heap.size, 1, none⟩ = some (.int .i64 line) ∧ w1.cell? ⟨w.heap.size, 2, none⟩ = some (.string s)) ∧
    (w1.frozen? ⟨w.heap.size, 0, none⟩ = false ∧ w1.frozen? ⟨w.heap.size, 1, none⟩ = false ∧ w1.frozen? ⟨w.heap.size, 2, none⟩ = false) ∧ w.heap.size < w1.heap.size := by
  have hz := tok_size w (tokO k line s)
  have hn : (w.alloc (tokO k line s)).heap[w.heap.size]? = some (tokO k line s) := heap_alloc_new w _
  refine ⟨⟨?_, ?_, ?_⟩, ⟨?_, ?_, ?_⟩, ?_⟩
  · rw [hb.cell (p := ⟨w.heap.size, 0, none⟩) (by show w.heap.size < _; omega), Lib.cell_of_heap hn]; rfl
  · rw [hb.cell (p := ⟨w.heap.size, 1, none⟩) (by show w.heap.size < _; omega), Lib.cell_of_heap hn]; rfl
  · rw [hb.cell (p := ⟨w.heap.size, 2, none⟩) (by show w.heap.size < _; omega), Lib.cell_of_heap hn]; rfl
  · rw [hb.frozen (p := ⟨w.heap.size, 0, none⟩) (by show w.heap.size < _; omega), Lib.frozen_of_heap hn]
  · rw [hb.frozen (p := ⟨w.heap.size, 1, none⟩) (by show w.heap.size < _; omega), Lib.frozen_of_heap hn]
  · rw [hb.frozen (p := ⟨w.heap.size, 2, none⟩) (by show w.heap.size < _; omega), Lib.frozen_of_heap hn]
  · have := hb.size; omega

theorem valid_str (line : Int) (s P : ByteArray) (r : Bool) (h : KC 39 #[.string s, .func (.func 48) #[] #[]] (.string P)) (hr : (P.toList == s.toList) = r) (w : World) :
    KB 27 #[.agg #[.int .i64 3, .int .i64 line, .string s]] (.bool r) w := by
  have H := Lib.hid h
  clear h
  unfold KB
  cases r
  all_goals
    go_enter Tryd.func27, Tryd.ntmps27
    go_wp2_with fail
    go_quiet ((go_at_call 39; exact KC.quiet H.out _ _))
    go_wp2_with fail
    go_ret
    exact ⟨rfl, below_dN ((Below.refl _ _).alloc (Nat.le_refl _) _) _⟩
theorem valid_no (k line : Int) (s : ByteArray) (h3 : (k == 3) = false) (h1 : (k == 1) = false) (h2 : (k == 2) = false) (h4 : (k == 4) = false) (h5 : (k == 5) = false) (w : World) :
    KB 27 #[.agg #[.int .i64 k, .int .i64 line, .string s]] (.bool false) w := by
  unfold KB
  go_enter Tryd.func27, Tryd.ntmps27
  go_wp2_with fail
  go_ret
  exact ⟨rfl, (Below.refl _ _).alloc (Nat.le_refl _) _⟩
theorem valid_empty (k line : Int) (s : ByteArray) (hk : k = 1 ∨ k = 2 ∨ k = 4 ∨ k = 5) (h1 : s.toList = []) (h2 : s.toList.isEmpty = true) (w : World) :
    KB 27 #[.agg #[.int .i64 k, .int .i64 line, .string s]] (.bool false) w := by
  unfold KB
  rcases hk with rfl | rfl | rfl | rfl
  all_goals
    go_enter Tryd.func27, Tryd.ntmps27
    go_wp2_with fail
    go_ret
    exact ⟨rfl, (Below.refl _ _).alloc (Nat.le_refl _) _⟩
set_option maxHeartbeats 4000000 in
theorem valid_next (k line k' : Int) (s T : ByteArray) (n : Nat) (er : Int) (r : Bool) (hk : k = 1 ∨ k = 2 ∨ k = 4 ∨ k = 5) (h1 : ¬ s.toList = []) (h2 : s.toList.isEmpty = false)
    (hsz : s.size ≤ 1000000) (hn : n ≤ 1000000)
    (h : ∀ w, Ctx w → KB 21 #[.string s] (.tuple #[.agg #[.int .i64 k', .int .i64 0, .string T], .int .i64 n, .int .i64 er]) w)
    (hr : ((er == 0) = false ∧ r = false) ∨ ((er == 0) = true ∧ ((n : Int) == (s.size : Int)) = false ∧ (n == s.size) = false ∧ r = false) ∨
      ((er == 0) = true ∧ ((n : Int) == (s.size : Int)) = true ∧ (n == s.size) = true ∧ (k' == k) = false ∧ r = false) ∨ ((er == 0) = true ∧ ((n : Int) == (s.size : Int)) = true ∧ (n == s.size) = true ∧ (k' == k) = true ∧ (T.toList == s.toList) = r)) (w : World) (hc : Ctx w) :
    KB 27 #[.agg #[.int .i64 k, .int .i64 line, .string s]] (.bool r) w := by
  have H := Lib.hid h
  have HC := Lib.hid hc
  clear h hc
  unfold KB
  rcases hr with ⟨e1, rfl⟩ | ⟨e1, e2, e2', rfl⟩ | ⟨e1, e2, e2', e3, rfl⟩ | ⟨e1, e2, e2', e3, e4⟩
  rotate_left 3
  cases r
  rotate_right 3
  all_goals
    rcases hk with rfl | rfl | rfl | rfl
  all_goals
    go_enter Tryd.func27, Tryd.ntmps27
    go_wp2_with fail
    refine (H.out _ (HC.out.below ((Below.refl _ _).alloc (Nat.le_refl _) _))).mono ?_
    rintro e w1 ⟨rfl, hb1⟩
    obtain ⟨⟨c0, c1, c2⟩, ⟨f0, f1, f2⟩, hz⟩ := tokO_kept hb1
    go_wp2_with fail
    go_ret
    exact ⟨rfl, ((Below.refl _ _).alloc (Nat.le_refl _) _).trans ((hb1.mono (by rw [tok_size]; omega)).alloc (by omega) _)⟩
end Go.Proofs.YtpddneplkbdedaaDoor
