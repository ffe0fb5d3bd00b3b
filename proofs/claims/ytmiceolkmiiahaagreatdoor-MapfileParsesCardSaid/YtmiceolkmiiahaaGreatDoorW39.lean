/- Walks: slices.Clone. -/
import Derived.Test.YtmiceolkmiiahaaGreatDoorW37
import Derived.Laws.Cover3
namespace Go.Proofs.YtmiceolkmiiahaaGreatDoor
open Go.RowKit
set_option linter.unusedVariables false
set_option linter.unusedSimpArgs false
set_option maxRecDepth 100000
set_option maxHeartbeats 8000000

theorem addr_add (a : Addr) (i j : Nat) : (a.add i).add j = a.add (i + j) := by
  obtain ⟨b, o, p⟩ := a
  unfold Addr.add
  by_cases hi : i = 0
  · subst hi
    by_cases hj : j = 0
    · subst hj; simp
    · simp [hj]
  · by_cases hj : j = 0
    · subst hj; simp [hi]
    · simp [hi, hj]
      omega
theorem cellsOf_len {M : Type} {C : Nat} {E : M → List Value} (hE : ∀ m, (E m).length = C) (ms : List M) : (cellsOf E ms).length = ms.length * C := by
  induction ms with
  | nil => simp [cellsOf]
  | cons m ms ih =>
    have e : cellsOf E (m :: ms) = E m ++ cellsOf E ms := rfl
    rw [e, List.length_append, hE, ih, List.length_cons, Nat.succ_mul]
    omega
theorem news_of {M : Type} {C : Nat} {E : M → List Value} (hC : 0 < C) (hE : ∀ m, (E m).length = C) {w : World} {a : Addr} {ms : List M} (h : SlAt C E w a ms) : ∀ j u, (cellsOf E ms)[j]? = some u → w.cell? (a.add j) = some u := fun j u hu => by
  have hj : j < ms.length * C := by
    rw [← cellsOf_len hE ms]
    exact (List.getElem?_eq_some_iff.1 hu).1
  have hi : j / C < ms.length := Nat.div_lt_of_lt_mul (by rw [Nat.mul_comm]; exact hj)
  have hm : j % C < C := Nat.mod_lt _ hC
  have e : j / C * C + j % C = j := by rw [Nat.mul_comm]; exact Nat.div_add_mod j C
  have h1 := h (j / C) hi (j % C) hm
  rw [addr_add, e] at h1
  rw [h1, ← cellsOf_get hE ms (j / C) hi (j % C) hm, e, hu]
theorem one_cel (cs : List Cel) : ∀ u ∈ cellsOf Cel.l cs, u.oneCell' = true := fun u hu => by
  obtain ⟨c, _, hc⟩ := List.mem_flatMap.1 hu
  simp [Cel.l] at hc
  rcases hc with rfl | rfl | rfl <;> rfl
theorem one_po (ps : List Po) : ∀ u ∈ cellsOf Po.l ps, u.oneCell' = true := fun u hu => by
  obtain ⟨c, _, hc⟩ := List.mem_flatMap.1 hu
  simp [Po.l] at hc
  rcases hc with rfl | rfl <;> rfl
theorem eql_nil (t e : TypeId) (ao : Option Addr) (l c : Nat) (h : Tryz.prog.underlying t = some (.slice e)) (w : World) : (binOp .eql t (.slice ao l c) (.slice none 0 0)).run Tryz.prog w = .ok (.bool ao.isNone) w := by
  have := run_equal_slice_nil (P := Tryz.prog) w t e ao l c h
  simp [binOp, this]
theorem owns_form {w : World} {B e s n : Nat} {v : Value} {xs : List Value} (h : w.ownsRow B e s v n xs) : ∃ ao cap, v = .slice ao n cap := by
  rcases h.2 with ⟨h1, h2⟩ | ⟨g, cap, cur, h1, _⟩
  · exact ⟨none, 0, by rw [h1, h2]⟩
  · exact ⟨_, cap, h1⟩
/-- A copy in memory of the call's own. -/
def Own1 (el C : Nat) (xs : List Value) (n : Nat) (w : World) (e : Ending) (w' : World) : Prop := ∃ ao cap, e = .returned (.slice ao n cap) ∧ w'.ownsRow w.heap.size el C (.slice ao n cap) n xs ∧ Below w.heap.size w w'
theorem CloneC_nil (c : Nat) (w : World) : Calls Tryz.prog 47 #[.slice none 0 c] w (Own1 41 3 [] 0 w) := by
  have hq : ∀ (ao : Option Addr) (l c : Nat) (w : World), (binOp .eql 22 (.slice ao l c) (.slice none 0 0)).run Tryz.prog w = .ok (.bool ao.isNone) w := fun ao l c w => eql_nil 22 _ ao l c Tryz.underlying22 w
  go_enter Tryz.func47, Tryz.ntmps47
  go_wp2_with fail
  go_ret
  exact ⟨none, 0, rfl, World.ownsRow_nil _ _ _ _, Below.refl _ _⟩
theorem CloneC_some (a : Addr) (n c : Nat) (cs : List Cel) (hn : cs.length = n) (hz : n ≤ 1000000) (w : World) (h : CelAt w a cs) : Calls Tryz.prog 47 #[.slice (some a) n c] w (Own1 41 3 (cellsOf Cel.l cs) n w) := by
  obtain ⟨i0, hi, hz0, hz1, hz2⟩ := cell_info
  have hl : (cellsOf Cel.l cs).length = n * 3 := by rw [cellsOf_len Cel.l_len, hn]
  have hnews := Lib.hid (news_of (by decide) Cel.l_len (h.below Cel.l_len (below_new w (.cells #[] 41))))
  have h1 := Lib.hid (one_cel cs)
  have hown := World.ownsRow_lit (base := w.heap.size) (e := 41) (size := 3) w #[] 0 (Nat.le_refl _) (by unfold maxLen; omega) (by simp)
  clear h hn
  generalize cellsOf Cel.l cs = xs at *
  have hq : ∀ (ao : Option Addr) (l c : Nat) (w : World), (binOp .eql 22 (.slice ao l c) (.slice none 0 0)).run Tryz.prog w = .ok (.bool ao.isNone) w := fun ao l c w => eql_nil 22 _ ao l c Tryz.underlying22 w
  go_enter Tryz.func47, Tryz.ntmps47
  go_wp2_with (at_builtin; go_must (refine wpList_append_own _ rfl _ _ 22 rfl w.heap.size 41 i0 (.agg #[.int .i64 0, .int .i64 0, .int .i64 0]) 3 24 Tryz.underlying22 hi hz0 hz1 hz2 rfl (by decide) _ 0 [] rfl hown a n c xs rfl hl hnews.out h1.out (by unfold maxLen; omega) (by omega) (by simp) ?_))
  intro v' w' h2 h3 _
  obtain ⟨ao, cap, rfl⟩ := owns_form h2
  go_wp2_with fail
  go_ret
  exact ⟨ao, cap, by first | rfl | simp, by first | exact h2 | simpa using h2, (below_new w _).grown h3 (by simp) (fun k hk => (hown.lt k hk).1)⟩
theorem CloneP_nil (c : Nat) (w : World) : Calls Tryz.prog 50 #[.slice none 0 c] w (Own1 55 2 [] 0 w) := by
  have hq : ∀ (ao : Option Addr) (l c : Nat) (w : World), (binOp .eql 25 (.slice ao l c) (.slice none 0 0)).run Tryz.prog w = .ok (.bool ao.isNone) w := fun ao l c w => eql_nil 25 _ ao l c Tryz.underlying25 w
  go_enter Tryz.func50, Tryz.ntmps50
  go_wp2_with fail
  go_ret
  exact ⟨none, 0, rfl, World.ownsRow_nil _ _ _ _, Below.refl _ _⟩
theorem CloneP_some (a : Addr) (n c : Nat) (ps : List Po) (hn : ps.length = n) (hz : n ≤ 1000000) (w : World) (h : PoAt w a ps) : Calls Tryz.prog 50 #[.slice (some a) n c] w (Own1 55 2 (cellsOf Po.l ps) n w) := by
  obtain ⟨i0, hi, hz0, hz1, hz2⟩ := pos_info
  have hl : (cellsOf Po.l ps).length = n * 2 := by rw [cellsOf_len Po.l_len, hn]
  have hnews := Lib.hid (news_of (by decide) Po.l_len (h.below Po.l_len (below_new w (.cells #[] 55))))
  have h1 := Lib.hid (one_po ps)
  have hown := World.ownsRow_lit (base := w.heap.size) (e := 55) (size := 2) w #[] 0 (Nat.le_refl _) (by unfold maxLen; omega) (by simp)
  clear h hn
  generalize cellsOf Po.l ps = xs at *
  have hq : ∀ (ao : Option Addr) (l c : Nat) (w : World), (binOp .eql 25 (.slice ao l c) (.slice none 0 0)).run Tryz.prog w = .ok (.bool ao.isNone) w := fun ao l c w => eql_nil 25 _ ao l c Tryz.underlying25 w
  go_enter Tryz.func50, Tryz.ntmps50
  go_wp2_with (at_builtin; go_must (refine wpList_append_own _ rfl _ _ 25 rfl w.heap.size 55 i0 (.agg #[.int .i64 0, .int .i64 0]) 2 16 Tryz.underlying25 hi hz0 hz1 hz2 rfl (by decide) _ 0 [] rfl hown a n c xs rfl hl hnews.out h1.out (by unfold maxLen; omega) (by omega) (by simp) ?_))
  intro v' w' h2 h3 _
  obtain ⟨ao, cap, rfl⟩ := owns_form h2
  go_wp2_with fail
  go_ret
  exact ⟨ao, cap, by first | rfl | simp, by first | exact h2 | simpa using h2, (below_new w _).grown h3 (by simp) (fun k hk => (hown.lt k hk).1)⟩
end Go.Proofs.YtmiceolkmiiahaaGreatDoor
