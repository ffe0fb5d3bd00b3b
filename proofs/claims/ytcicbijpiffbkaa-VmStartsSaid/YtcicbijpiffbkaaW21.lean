/- Walks: slices.Clone of numbers; the machine in memory; push. -/
import Derived.Test.YtcicbijpiffbkaaW16
import Derived.Test.YtcicbijpiffbkaaP4
import Derived.Laws.Cover3
namespace Go.Proofs.Ytcicbijpiffbkaa
open Go.RowKit
set_option linter.unusedVariables false
set_option linter.unusedSimpArgs false
set_option maxRecDepth 100000
set_option maxHeartbeats 4000000

theorem long_info : ∃ i0, Try.prog.info? 2 = some i0 ∧ i0.zero = some (.int .i64 0) ∧ i0.size = 1 ∧ i0.bytes = 8 := by
  have hi : (Try.prog.info? 2).map (fun i => (i.bytes, i.size, i.zero)) = some (8, 1, some (.int .i64 0)) := by kernel_rfl
  obtain ⟨i, h1, h2⟩ := Option.map_eq_some_iff.1 hi
  injection h2 with h2 h3
  injection h3 with h3 h4
  exact ⟨i, h1, h4, h3, h2⟩
theorem cellsOf_len {M : Type} {C : Nat} {E : M → List Value} (hE : ∀ m, (E m).length = C) (ms : List M) : (cellsOf E ms).length = ms.length * C := by
  induction ms with
  | nil => simp [cellsOf]
  | cons m ms ih =>
    have e : cellsOf E (m :: ms) = E m ++ cellsOf E ms := rfl
    rw [e, List.length_append, hE, ih, List.length_cons, Nat.succ_mul]
    omega
theorem news_of {M : Type} {C : Nat} {E : M → List Value} (hC : 0 < C) (hE : ∀ m, (E m).length = C) {w : World} {a : Addr} {ms : List M} (h : SlAt C E w a ms) : ∀ j u, (cellsOf E ms)[j]? = some u → w.cell? (a.add j) = some u := fun j u hu => by
  have hj : j < ms.length * C := by
    rw [← cellsOf_len hE ms]
    exact (List.getElem?_eq_some_iff.1 hu).1
  have hi : j / C < ms.length := Nat.div_lt_of_lt_mul (by rw [Nat.mul_comm]; exact hj)
  have hm : j % C < C := Nat.mod_lt _ hC
  have e : j / C * C + j % C = j := by rw [Nat.mul_comm]; exact Nat.div_add_mod j C
  have h1 := h (j / C) hi (j % C) hm
  rw [add_add, e] at h1
  rw [h1, ← cellsOf_get hE ms (j / C) hi (j % C) hm, e, hu]
theorem one_longs (xs : List Int) : ∀ u ∈ cellsOf intL xs, u.oneCell' = true := fun u hu => by
  obtain ⟨c, _, hc⟩ := List.mem_flatMap.1 hu
  simp [intL] at hc
  rw [hc]; rfl
theorem eql_nil (t e : TypeId) (ao : Option Addr) (l c : Nat) (h : Try.prog.underlying t = some (.slice e)) (w : World) : (binOp .eql t (.slice ao l c) (.slice none 0 0)).run Try.prog w = .ok (.bool ao.isNone) w := by
  have := run_equal_slice_nil (P := Try.prog) w t e ao l c h
  simp [binOp, this]
theorem owns_form {w : World} {B e s n : Nat} {v : Value} {xs : List Value} (h : w.ownsRow B e s v n xs) : ∃ ao cap, v = .slice ao n cap := by
  rcases h.2 with ⟨h1, h2⟩ | ⟨g, cap, cur, h1, _⟩
  · exact ⟨none, 0, by rw [h1, h2]⟩
  · exact ⟨_, cap, h1⟩
/-- A copy in memory of the call's own. -/
def Own1 (el C : Nat) (xs : List Value) (n : Nat) (w : World) (e : Ending) (w' : World) : Prop := ∃ ao cap, e = .returned (.slice ao n cap) ∧ w'.ownsRow w.heap.size el C (.slice ao n cap) n xs ∧ Below w.heap.size w w'
theorem CloneI_nil (c : Nat) (w : World) : Calls Try.prog 28 #[.slice none 0 c] w (Own1 2 1 [] 0 w) := by
  have hq : ∀ (ao : Option Addr) (l c : Nat) (w : World), (binOp .eql 26 (.slice ao l c) (.slice none 0 0)).run Try.prog w = .ok (.bool ao.isNone) w := fun ao l c w => eql_nil 26 _ ao l c Try.underlying26 w
  go_enter Try.func28, Try.ntmps28
  go_wp2_with fail
  go_ret
  exact ⟨none, 0, rfl, World.ownsRow_nil _ _ _ _, Below.refl _ _⟩
theorem CloneI_some (a : Addr) (n c : Nat) (xs : List Int) (hn : xs.length = n) (hz : n ≤ 1000000) (w : World) (h : IntAt w a xs) : Calls Try.prog 28 #[.slice (some a) n c] w (Own1 2 1 (cellsOf intL xs) n w) := by
  obtain ⟨i0, hi, hz0, hz1, hz2⟩ := long_info
  have hl : (cellsOf intL xs).length = n * 1 := by rw [cellsOf_len intL_len, hn]
  have hnews := Lib.hid (news_of (by decide) intL_len (h.below intL_len (below_new w (.cells #[] 2))))
  have h1 := Lib.hid (one_longs xs)
  have hown := World.ownsRow_lit (base := w.heap.size) (e := 2) (size := 1) w #[] 0 (Nat.le_refl _) (by unfold maxLen; omega) (by simp)
  clear h hn
  generalize cellsOf intL xs = xs at *
  have hq : ∀ (ao : Option Addr) (l c : Nat) (w : World), (binOp .eql 26 (.slice ao l c) (.slice none 0 0)).run Try.prog w = .ok (.bool ao.isNone) w := fun ao l c w => eql_nil 26 _ ao l c Try.underlying26 w
  go_enter Try.func28, Try.ntmps28
  go_wp2_with (at_builtin; go_must (refine wpList_append_own _ rfl _ _ 26 rfl w.heap.size 2 i0 (.int .i64 0) 1 8 Try.underlying26 hi hz0 hz1 hz2 rfl (by decide) _ 0 [] rfl hown a n c xs rfl hl hnews.out h1.out (by unfold maxLen; omega) (by omega) (by simp) ?_))
  intro v' w' h2 h3 _
  obtain ⟨ao, cap, rfl⟩ := owns_form h2
  go_wp2_with fail
  go_ret
  exact ⟨ao, cap, by first | rfl | simp, by first | exact h2 | simpa using h2, (below_new w _).grown h3 (by simp) (fun k hk => (hown.lt k hk).1)⟩
theorem CloneI_any (v : Value) (xs : List Int) (hz : xs.length ≤ 1000000) (w : World) (h : IntSl w v xs) : Calls Try.prog 28 #[v] w (Own1 2 1 (cellsOf intL xs) xs.length w) := by
  obtain ⟨ao, cap, rfl, h⟩ := h
  rcases h with rfl | ⟨a, rfl, h⟩
  · cases ao with
    | none => exact CloneI_nil cap w
    | some a => exact CloneI_some a _ cap [] rfl hz w (fun i hi => absurd hi (by simp))
  · exact CloneI_some a _ cap xs rfl hz w h
/-- The rest of a machine: the view, the rules. -/
structure VR where
  (a0 a1 a2 a3 a4 a5 a6 a7 a8 a9 a10 b0 b1 b2 : Value)
abbrev machO (st a wt : Int) (sv kv : Value) (x : VR) (cv nv : Value) : Obj := .cells #[.int .i64 st, .int .i64 a, .int .i64 wt, sv, kv, x.a0, x.a1, x.a2, x.a3, x.a4, x.a5, x.a6, x.a7, x.a8, x.a9, x.a10, x.b0, x.b1, x.b2, cv, nv] 78
/-- Block b is a machine; its rows lie behind it, apart from each other. -/
def Mach (b : Nat) (st a wt : Int) (xs ys : List Int) (x : VR) (cv nv : Value) (w : World) : Prop :=
  ∃ so xc ko kc, w.heap[b]? = some (machO st a wt (.slice so xs.length xc) (.slice ko ys.length kc) x cv nv) ∧ w.ownsRow (b + 1) 2 1 (.slice so xs.length xc) xs.length (cellsOf intL xs) ∧ w.ownsRow (b + 1) 2 1 (.slice ko ys.length kc) ys.length (cellsOf intL ys) ∧
    (∀ g, (Value.slice so xs.length xc).ownBlock = some g → (Value.slice ko ys.length kc).ownBlock ≠ some g)
theorem mach_cells {w : World} {b : Nat} {st a wt : Int} {sv kv : Value} {x : VR} {cv nv : Value} (h : w.heap[b]? = some (machO st a wt sv kv x cv nv)) :
    (w.cell? ⟨b, 0, none⟩ = some (.int .i64 st) ∧ w.cell? ⟨b, 1, none⟩ = some (.int .i64 a) ∧ w.cell? ⟨b, 2, none⟩ = some (.int .i64 wt) ∧ w.cell? ⟨b, 3, none⟩ = some sv ∧ w.cell? ⟨b, 4, none⟩ = some kv ∧ w.cell? ⟨b, 5, none⟩ = some x.a0 ∧ w.cell? ⟨b, 19, none⟩ = some cv ∧ w.cell? ⟨b, 20, none⟩ = some nv) ∧
    (w.frozen? ⟨b, 0, none⟩ = false ∧ w.frozen? ⟨b, 1, none⟩ = false ∧ w.frozen? ⟨b, 2, none⟩ = false ∧ w.frozen? ⟨b, 3, none⟩ = false ∧ w.frozen? ⟨b, 4, none⟩ = false ∧ w.frozen? ⟨b, 19, none⟩ = false ∧ w.frozen? ⟨b, 20, none⟩ = false) := by
  refine ⟨⟨?_, ?_, ?_, ?_, ?_, ?_, ?_, ?_⟩, ?_, ?_, ?_, ?_, ?_, ?_, ?_⟩
  all_goals first | (rw [Lib.cell_of_heap h]; rfl) | (rw [Lib.frozen_of_heap h])
theorem cellsOf_app (xs ys : List Int) : cellsOf intL (xs ++ ys) = cellsOf intL xs ++ cellsOf intL ys := by unfold cellsOf; simp
theorem owns_set {w : World} {B e size n : Nat} {v : Value} {xs : List Value} (h : w.ownsRow B e size v n xs) {p : Addr} (hp : p.block < B) (u : Value) : (w.setCell p u).ownsRow B e size v n xs := ownsRow_setCell_below h hp u
theorem push_any (b : Nat) (n st a wt : Int) (xs ys : List Int) (x : VR) (cv nv : Value) (hy : ys.length ≤ 100000) (w : World) (h : Mach b st a wt xs ys x cv nv w) :
    Calls Try.prog 96 #[.pointer (some ⟨b, 0, none⟩), .int .i64 n] w (fun e w' => e = .returned (.bool true) ∧ Below b w w' ∧ Mach b st a wt xs (ys ++ [n]) x cv nv w') := by
  obtain ⟨so, xc, ko, kc, hm, hs, hk, hne⟩ := h
  obtain ⟨i1, ji, j0, j1, j2⟩ := long_info
  obtain ⟨⟨c0, c1, c2, c3, c4, c5, c18, c19⟩, f0, f1, f2, f3, f4, f18, f19⟩ := mach_cells hm
  have HM := Lib.hid hm; have HS := Lib.hid hs; have HK := Lib.hid hk; have HNE := Lib.hid hne
  have hbl := heap_lt hm
  have HBL := Lib.hid hbl
  have HKB := Lib.hid (show (Value.slice ko ys.length kc).ownBlock ≠ some b from fun e => by have := (hk.lt _ e).1; omega)
  obtain ⟨l, hl⟩ : ∃ l, ys.length = l := ⟨_, rfl⟩
  have HL := Lib.hid hl
  rw [hl] at hy HK c4 HM HNE HKB
  clear hm hs hk hne hl
  go_enter Try.func96, Try.ntmps96
  go_wp2_with (at_builtin; go_must (refine wpList_append_lies _ rfl _ _ 26 rfl (b + 1) 2 i1 (.int .i64 0) 1 8 Try.underlying26 ji j0 j1 j2 rfl (by decide) _ _ _ rfl (HK.out.alloc _) ⟨w.heap.size, 0, none⟩ 1 1 [.int .i64 n] rfl rfl (World.news_of_block (heap_alloc_new _ _)) (one_int n) (by omega) (by unfold maxLen; omega) (by omega) (by have := HBL.out; first | omega | (simp; omega)) _ rfl ?_))
  intro g cap2 w4 hown4 hgrow hat hlt
  have HM4 := Lib.hid (grown_keeps2 (alloc_keeps HM.out _) hgrow HKB.out)
  have HO4 := Lib.hid hown4
  have HS4 := Lib.hid ((HS.out.alloc (.cells #[.int .i64 n] 2)).kept hgrow (by
    cases hb : (Value.slice so xs.length xc).ownBlock with
    | none => exact Or.inl rfl
    | some q => exact Or.inr (fun e => HNE.out q hb e.symm)))
  have HB4 := Lib.hid (((below_new w (.cells #[.int .i64 n] 2)).mono (Nat.le_of_lt HBL.out)).grown hgrow (by have := HBL.out; simp; omega) (fun j hj => by have := (HK.out.lt j hj).1; omega))
  have HG := Lib.hid (show ∀ q, (Value.slice so xs.length xc).ownBlock = some q → (Value.slice (some ⟨g, 0, none⟩) (l + 1) cap2).ownBlock ≠ some q from fun q hq e => by
    have hq2 := (HS.out.lt q hq).2
    have e2 : g = q := by simpa [Value.ownBlock] using e
    rcases hat with h | h
    · exact HNE.out q hq (by rw [h, e2])
    · omega)
  clear hown4 hgrow hat hlt c0 c1 c2 c3 c4 c5 c18 c19 f0 f1 f2 f3 f4 f18 f19
  obtain ⟨⟨c0, c1, c2, c3, c4, c5, c18, c19⟩, f0, f1, f2, f3, f4, f18, f19⟩ := mach_cells HM4.out
  have hz4 := heap_lt HM4.out
  go_wp2_with fail
  go_ret
  refine ⟨rfl, HB4.out.setCell (Nat.le_refl _) _, so, xc, some ⟨g, 0, none⟩, cap2, ?_, owns_set HS4.out (by exact Nat.lt_succ_self _) _, ?_, ?_⟩
  · rw [List.length_append, HL.out]
    exact heap_setCell_same _ b 4 _ _ _ HM4.out
  · rw [List.length_append, HL.out, cellsOf_app]
    exact owns_set HO4.out (by exact Nat.lt_succ_self _) _
  · rw [List.length_append, HL.out]
    exact HG.out
end Go.Proofs.Ytcicbijpiffbkaa
