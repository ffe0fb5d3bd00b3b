/- Walks: inside of a map; positions and indexes. -/
import Derived.Test.YtmiceolkmiiahaaGreatDoorW2
namespace Go.Proofs.YtmiceolkmiiahaaGreatDoor
open Go.RowKit
set_option linter.unusedVariables false
set_option linter.unusedSimpArgs false
set_option maxRecDepth 100000

theorem two_below {w w1 : World} {o1 o2 : Obj} (hb : Below ((w.alloc o1).alloc o2).heap.size ((w.alloc o1).alloc o2) w1) :
    w1.heap[w.heap.size]? = some o1 ∧ w1.heap[w.heap.size + 1]? = some o2 ∧ Below w.heap.size w w1 ∧ w.heap.size + 1 < w1.heap.size := by
  have hz := tok_size w o1
  have hz2 := tok_size (w.alloc o1) o2
  have hs := hb.size
  have n1 : ((w.alloc o1).alloc o2).heap[w.heap.size]? = some o1 := block_below (below_new _ o2) (tok_new w o1)
  have n2 : ((w.alloc o1).alloc o2).heap[w.heap.size + 1]? = some o2 := by rw [← hz]; exact tok_new _ o2
  exact ⟨block_below hb n1, block_below hb n2, ((below_new w o1).trans ((below_new _ o2).mono (by omega))).trans (hb.mono (by omega)), by omega⟩
theorem three_below {w w1 : World} {o1 o2 o3 : Obj} (hb : Below (((w.alloc o1).alloc o2).alloc o3).heap.size (((w.alloc o1).alloc o2).alloc o3) w1) :
    w1.heap[w.heap.size]? = some o1 ∧ w1.heap[w.heap.size + 1]? = some o2 ∧ w1.heap[w.heap.size + 1 + 1]? = some o3 ∧ Below w.heap.size w w1 ∧ w.heap.size + 1 + 1 < w1.heap.size := by
  have hz := tok_size w o1
  have hz2 := tok_size (w.alloc o1) o2
  have hz3 := tok_size ((w.alloc o1).alloc o2) o3
  have hs := hb.size
  obtain ⟨a, b, c, d⟩ := two_below (below_new ((w.alloc o1).alloc o2) o3 |> fun h => h)
  have n3 : (((w.alloc o1).alloc o2).alloc o3).heap[w.heap.size + 1 + 1]? = some o3 := by rw [← hz, ← hz2]; exact tok_new _ o3
  exact ⟨block_below hb a, block_below hb b, block_below hb n3, c.trans (hb.mono (by omega)), by omega⟩
abbrev mapO (W H : Int) (v : Value) (t : Nat) : Obj := .cells #[.int .i64 W, .int .i64 H, v] t
theorem cells3 {w : World} {g t : Nat} {a b c : Value} (h : w.heap[g]? = some (.cells #[a, b, c] t)) : (w.cell? ⟨g, 0, none⟩ = some a ∧ w.cell? ⟨g, 1, none⟩ = some b ∧ w.cell? ⟨g, 2, none⟩ = some c) ∧ (w.frozen? ⟨g, 0, none⟩ = false ∧ w.frozen? ⟨g, 1, none⟩ = false ∧ w.frozen? ⟨g, 2, none⟩ = false) := by
  refine ⟨⟨?_, ?_, ?_⟩, ?_, ?_, ?_⟩
  · rw [Lib.cell_of_heap h]; rfl
  · rw [Lib.cell_of_heap h]; rfl
  · rw [Lib.cell_of_heap h]; rfl
  · rw [Lib.frozen_of_heap h]
  · rw [Lib.frozen_of_heap h]
  · rw [Lib.frozen_of_heap h]
theorem cells2 {w : World} {g t : Nat} {a b : Value} (h : w.heap[g]? = some (.cells #[a, b] t)) : (w.cell? ⟨g, 0, none⟩ = some a ∧ w.cell? ⟨g, 1, none⟩ = some b) ∧ (w.frozen? ⟨g, 0, none⟩ = false ∧ w.frozen? ⟨g, 1, none⟩ = false) := by
  refine ⟨⟨?_, ?_⟩, ?_, ?_⟩
  · rw [Lib.cell_of_heap h]; rfl
  · rw [Lib.cell_of_heap h]; rfl
  · rw [Lib.frozen_of_heap h]
  · rw [Lib.frozen_of_heap h]

def insB (W H : Int) (n : Nat) (p : Po) : Bool := fmB W H n && inB W H p
theorem inside_any (W H : Int) (ao : Option Addr) (n c : Nat) (p : Po) (w : World) : KB 77 #[mapV W H (.slice ao n c), p.v] (.bool (insB W H n p)) w := by
  have H1 := Lib.hid (formed_any W H ao n c)
  have H2 := Lib.hid (In_any W H p)
  obtain ⟨x, y⟩ := p
  unfold KB at *
  unfold mapV Po.v at *
  by_cases h1 : fmB W H n = true
  · have e : insB W H n ⟨x, y⟩ = inB W H ⟨x, y⟩ := by unfold insB; rw [h1]; rfl
    rw [e]
    rw [h1] at H1
    clear h1 e
    generalize inB W H ⟨x, y⟩ = B at *
    go_enter Tryz.func77, Tryz.ntmps77
    go_wp2_with fail
    refine (H1.out _).mono ?_
    rintro e w1 ⟨rfl, hb⟩
    obtain ⟨n1, n2, hb1, hz1⟩ := two_below hb
    obtain ⟨⟨c0, c1, c2⟩, _⟩ := cells3 n1
    obtain ⟨⟨d0, d1⟩, _⟩ := cells2 n2
    go_wp2_with fail
    refine (H2.out _).mono ?_
    rintro e w2 ⟨rfl, hb2⟩
    go_wp2_with fail
    go_ret
    exact ⟨by simp, hb1.trans (hb2.mono (by omega))⟩
  · have h1' : fmB W H n = false := by simpa using h1
    have e : insB W H n ⟨x, y⟩ = false := by unfold insB; rw [h1']; rfl
    rw [e]
    rw [h1'] at H1
    clear h1 e h1'
    go_enter Tryz.func77, Tryz.ntmps77
    go_wp2_with fail
    refine (H1.out _).mono ?_
    rintro e w1 ⟨rfl, hb⟩
    obtain ⟨n1, n2, hb1, hz1⟩ := two_below hb
    go_wp2_with fail
    go_ret
    exact ⟨by simp, hb1⟩
theorem r7Inside_any (W H : Int) (ao : Option Addr) (n c : Nat) (p : Po) (w : World) : KB 80 #[mapV W H (.slice ao n c), p.v] (.bool (insB W H n p)) w := by
  have H1 := Lib.hid (r7Formed_any W H ao n c)
  have H2 := Lib.hid (r6In_any W H p)
  obtain ⟨x, y⟩ := p
  unfold KB at *
  unfold mapV Po.v at *
  by_cases h1 : fmB W H n = true
  · have e : insB W H n ⟨x, y⟩ = inB W H ⟨x, y⟩ := by unfold insB; rw [h1]; rfl
    rw [e]
    rw [h1] at H1
    clear h1 e
    generalize inB W H ⟨x, y⟩ = B at *
    go_enter Tryz.func80, Tryz.ntmps80
    go_wp2_with fail
    refine (H1.out _).mono ?_
    rintro e w1 ⟨rfl, hb⟩
    obtain ⟨n1, n2, hb1, hz1⟩ := two_below hb
    obtain ⟨⟨c0, c1, c2⟩, _⟩ := cells3 n1
    obtain ⟨⟨d0, d1⟩, _⟩ := cells2 n2
    go_wp2_with fail
    refine (H2.out _).mono ?_
    rintro e w2 ⟨rfl, hb2⟩
    go_wp2_with fail
    go_ret
    exact ⟨by simp, hb1.trans (hb2.mono (by omega))⟩
  · have h1' : fmB W H n = false := by simpa using h1
    have e : insB W H n ⟨x, y⟩ = false := by unfold insB; rw [h1']; rfl
    rw [e]
    rw [h1'] at H1
    clear h1 e h1'
    go_enter Tryz.func80, Tryz.ntmps80
    go_wp2_with fail
    refine (H1.out _).mono ?_
    rintro e w1 ⟨rfl, hb⟩
    obtain ⟨n1, n2, hb1, hz1⟩ := two_below hb
    go_wp2_with fail
    go_ret
    exact ⟨by simp, hb1⟩

theorem tValid1_any (c : Cel) (w : World) : KB 58 #[c.v] (.bool (!celB c)) w := by
  have H1 := Lib.hid (validCell_any c)
  obtain ⟨k, h, a⟩ := c
  unfold KB at *
  unfold Cel.v at *
  generalize celB ⟨k, h, a⟩ = B at *
  go_enter Tryz.func58, Tryz.ntmps58
  go_wp2_with fail
  refine (H1.out _).mono ?_
  rintro e w1 ⟨rfl, hb⟩
  obtain ⟨n1, hb1, hz1⟩ := new_below hb
  go_wp2_with fail
  go_ret
  exact ⟨by simp, hb1⟩
end Go.Proofs.YtmiceolkmiiahaaGreatDoor
