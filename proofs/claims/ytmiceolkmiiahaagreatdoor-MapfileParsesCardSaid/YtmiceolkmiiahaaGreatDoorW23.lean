/- Walks: the reader's block, fail and next. -/
import Derived.Test.YtmiceolkmiiahaaGreatDoorW22
import Derived.Test.YtmiceolkmiiahaaGreatDoorP2
namespace Go.Proofs.YtmiceolkmiiahaaGreatDoor
open Go.RowKit
set_option linter.unusedVariables false
set_option linter.unusedSimpArgs false
set_option maxRecDepth 100000
set_option maxHeartbeats 8000000

/-- All that was there is kept, but for the blocks g and h. -/
structure Fr (g h : Nat) (w w' : World) : Prop where
  os : w'.os = w.os
  tape : w'.tape = w.tape
  output : w'.output = w.output
  size : w.heap.size ≤ w'.heap.size
  block : ∀ k, k < w.heap.size → k ≠ g → k ≠ h → w'.heap[k]? = w.heap[k]?
theorem Fr.refl (g h : Nat) (w : World) : Fr g h w w := ⟨rfl, rfl, rfl, Nat.le_refl _, fun _ _ _ _ => rfl⟩
theorem Fr.trans {g h : Nat} {a b c : World} (x : Fr g h a b) (y : Fr g h b c) : Fr g h a c :=
  ⟨y.os.trans x.os, y.tape.trans x.tape, y.output.trans x.output, Nat.le_trans x.size y.size, fun k hk h1 h2 => (y.block k (Nat.lt_of_lt_of_le hk x.size) h1 h2).trans (x.block k hk h1 h2)⟩
theorem Fr.of {g h B : Nat} {a b : World} (x : Below B a b) (hB : a.heap.size ≤ B) : Fr g h a b := ⟨x.os, x.tape, x.output, x.size, fun k hk _ _ => x.block k (by omega)⟩
theorem Fr.wide {g h : Nat} {a b : World} (x : Fr g g a b) : Fr g h a b := ⟨x.os, x.tape, x.output, x.size, fun k hk h1 _ => x.block k hk h1 h1⟩
theorem Fr.setg {g h : Nat} {a b : World} (x : Fr g h a b) (p : Addr) (hp : p.block = g ∨ p.block = h ∨ a.heap.size ≤ p.block) (v : Value) : Fr g h a (b.setCell p v) :=
  ⟨x.os, x.tape, x.output, Nat.le_trans x.size (by simp [World.setCell]), fun k hk h1 h2 => (Below.heap_setCell _ _ _ _ (by omega)).trans (x.block k hk h1 h2)⟩
theorem Fr.st {g h : Nat} {a b : World} (x : Fr g h a b) (i : Nat) (v : Value) : Fr g h a (b.setCell ⟨g, i, none⟩ v) := x.setg ⟨g, i, none⟩ (Or.inl rfl) v
theorem Fr.st2 {g h : Nat} {a b : World} (x : Fr g h a b) (i : Nat) (v : Value) : Fr g h a (b.setCell ⟨h, i, none⟩ v) := x.setg ⟨h, i, none⟩ (Or.inr (Or.inl rfl)) v
theorem Fr.alloc {g h : Nat} {a b : World} (x : Fr g h a b) (o : Obj) : Fr g h a (b.alloc o) := x.trans (Fr.of (below_new b o) (Nat.le_refl _))
theorem Fr.dN {g h : Nat} {a b : World} (x : Fr g h a b) (n : Nat) : Fr g h a (b.drewN n) := ⟨x.os, x.tape, x.output, x.size, x.block⟩
theorem Fr.drew {g h : Nat} {a b : World} (x : Fr g h a b) : Fr g h a b.drew := ⟨x.os, x.tape, x.output, x.size, x.block⟩
theorem Fr.below {g h B : Nat} {a b : World} (x : Fr g h a b) (h1 : B ≤ g) (h2 : B ≤ h) (h3 : B ≤ a.heap.size) : Below B a b := ⟨x.os, x.tape, x.output, x.size, fun k hk => x.block k (by omega) (by omega) (by omega)⟩
theorem Fr.at {g h i : Nat} {a b : World} (x : Fr g h a b) (hi : i ≠ g) (hj : i ≠ h) {o : Obj} (ho : a.heap[i]? = some o) : b.heap[i]? = some o := by rw [x.block i (heap_lt ho) hi hj]; exact ho
theorem Fr.cell {g h : Nat} {a b : World} (x : Fr g h a b) {p : Addr} {v : Value} (hi : p.block ≠ g) (hj : p.block ≠ h) (hc : a.cell? p = some v) : b.cell? p = some v := by
  have := x.block p.block (cell_lt hc) hi hj
  unfold World.cell? at *
  rw [this]
  exact hc
theorem Fr.sl {g h : Nat} {a b : World} (x : Fr g h a b) {M : Type} {C : Nat} {E : M → List Value} (hE : ∀ m, (E m).length = C) {p : Addr} {ms : List M} (hi : p.block ≠ g) (hj : p.block ≠ h) (hs : SlAt C E a p ms) : SlAt C E b p ms := fun i hl j hjj => by
  have h1 := hs i hl j hjj
  rw [List.getElem?_eq_getElem (by rw [hE]; exact hjj)] at h1 ⊢
  refine x.cell ?_ ?_ h1 <;> (unfold Addr.add; split <;> (try split) <;> assumption)

/-- The reader's block. -/
abbrev rdO (R : List UInt8) (a : Nat) (e : Int) : Obj := .cells #[.string (str R), .int .i64 (a : Int), .int .i64 e] 67
abbrev rdP (g : Nat) : Value := .pointer (some ⟨g, 0, none⟩)
def IsErr (ev : Value) : Prop := ev = .nilIface ∨ ∃ te pe, ev = .iface te pe
/-- What the reader's functions want of the world. -/
structure Ctx (w : World) : Prop where
  ml : ∃ m, w.cell? ⟨4, 0, none⟩ = some (.int .i64 m)
  es : ∃ ev, w.cell? ⟨1, 0, none⟩ = some ev ∧ IsErr ev
  er : ∃ ev, w.cell? ⟨2, 0, none⟩ = some ev ∧ IsErr ev
  tab : Tab w
  pass : Pass w
theorem Ctx.below {w w' : World} (c : Ctx w) (hb : Below w.heap.size w w') : Ctx w' :=
  ⟨let ⟨m, h⟩ := c.ml; ⟨m, cell_below hb h⟩, let ⟨m, h, k⟩ := c.es; ⟨m, cell_below hb h, k⟩, let ⟨m, h, k⟩ := c.er; ⟨m, cell_below hb h, k⟩, c.tab.below hb, c.pass.below hb⟩
/-- g and h are blocks of the call's own. -/
structure Own (w : World) (g h : Nat) : Prop where
  c : ∃ w0, Ctx w0 ∧ Below w0.heap.size w0 w ∧ w0.heap.size ≤ g ∧ w0.heap.size ≤ h
theorem Own.ctx {w : World} {g h : Nat} (o : Own w g h) : Ctx w := let ⟨w0, c, hb, _, _⟩ := o.c; c.below hb
theorem Own.fr {w w' : World} {g h : Nat} (o : Own w g h) (x : Fr g h w w') : Own w' g h := let ⟨w0, c, hb, h1, h2⟩ := o.c; ⟨w0, c, hb.trans (x.below h1 h2 hb.size), h1, h2⟩
theorem Own.one {w : World} {g h : Nat} (o : Own w g h) : Own w g g := let ⟨w0, c, hb, h1, h2⟩ := o.c; ⟨w0, c, hb, h1, h1⟩

theorem fail_any (g : Nat) (R : List UInt8) (a : Nat) (e x : Int) (w : World) (hr : w.heap[g]? = some (rdO R a e)) :
    Calls Tryz.prog 38 #[rdP g, .int .i64 x] w fun en w' => en = .returned (.tuple #[]) ∧ w'.heap[g]? = some (rdO R a (if e = 0 then x else e)) ∧ Fr g g w w' := by
  obtain ⟨⟨c0, c1, c2⟩, ⟨f0, f1, f2⟩⟩ := cells3 hr
  have HR := Lib.hid hr
  clear hr
  by_cases h : e = 0
  · subst h
    go_enter Tryz.func38, Tryz.ntmps38
    go_wp2_with fail
    go_end0
    exact ⟨rfl, by rw [heap_setCell_same _ _ _ _ _ _ HR.out]; rfl, (Fr.refl _ _ _).st _ _⟩
  · have h1 : (e == 0) = false := by simpa using h
    have HH := Lib.hid h
    clear h
    go_enter Tryz.func38, Tryz.ntmps38
    go_wp2_with fail
    go_end0
    exact ⟨rfl, by first | exact HR.out | (rw [if_neg HH.out]; exact HR.out), Fr.refl _ _ _⟩

theorem next_bad (g : Nat) (R : List UInt8) (a : Nat) (e : Int) (he : e ≠ 0) (w : World) (hr : w.heap[g]? = some (rdO R a e)) :
    Calls Tryz.prog 66 #[rdP g] w fun en w' => en = .returned (.string (str [])) ∧ w'.heap[g]? = some (rdO R a e) ∧ Fr g g w w' := by
  obtain ⟨⟨c0, c1, c2⟩, ⟨f0, f1, f2⟩⟩ := cells3 hr
  have HR := Lib.hid hr
  have h1 : (e != 0) = true := by simpa using he
  clear hr he
  go_enter Tryz.func66, Tryz.ntmps66
  go_wp2_with fail
  go_ret
  exact ⟨rfl, HR.out, Fr.refl _ _ _⟩
theorem next_end (g : Nat) (R : List UInt8) (a : Nat) (hR : R.length ≤ 100000) (ha : a ≤ 1000000) (h : nxt (sp 10 R) = none) (w : World) (ho : Own w g g) (hr : w.heap[g]? = some (rdO R a 0)) :
    Calls Tryz.prog 66 #[rdP g] w fun en w' => en = .returned (.string (str [])) ∧ w'.heap[g]? = some (rdO R (a + 1) 4) ∧ Fr g g w w' := by
  obtain ⟨⟨c0, c1, c2⟩, ⟨f0, f1, f2⟩⟩ := cells3 hr
  obtain ⟨m, hm⟩ := ho.ctx.ml
  have hrb : w.heap.size > g := heap_lt hr
  have hmg : ¬ 4 = g := by
    rintro rfl
    have := c0.symm.trans hm
    cases this
  have hm2 : (w.setCell ⟨g, 1, none⟩ (.int .i64 ((a : Int) + 1))).cell? ⟨4, 0, none⟩ = some (.int .i64 m) := by
    rw [World.cell?_setCell_far _ _ _ _ (by simpa using fun e : g = _ => hmg e.symm)]
    exact hm
  have HC := Lib.hid (Tryz.strings_Cut (str R) ⟨#[10]⟩ m _ (by rw [str_size]; omega) hm2)
  obtain ⟨h1, h2⟩ := nxt_none R h
  have hcut := cut_no 10 R h1
  have e1 : (⟨#[10]⟩ : ByteArray).data.toList = [10] := rfl
  rw [str_data, e1, hcut] at HC
  have HB := Lib.hid (heap_setCell_same w g 1 _ _ (.int .i64 ((a : Int) + 1)) hr)
  have HF := Lib.hid (fail_any g R (a + 1) 0 4)
  clear hr hm hmg hm2 ho h h1 h2 hcut e1
  go_enter Tryz.func66, Tryz.ntmps66
  go_wp2_with fail
  refine (HC.out).mono ?_
  rintro e w1 ⟨rfl, k, hw1⟩
  have HW := Lib.hid hw1
  have hb1 : w1.heap[g]? = some (rdO R (a + 1) 0) := by rw [hw1]; exact HB.out
  have HB1 := Lib.hid hb1
  clear hw1 hb1
  go_wp2_with fail
  refine (HF.out _ HB1.out).mono ?_
  rintro e w2 ⟨rfl, hb2, hf2⟩
  go_wp2_with fail
  go_ret
  refine ⟨rfl, hb2, Fr.trans ?_ hf2⟩
  rw [HW.out]
  exact ((Fr.refl _ _ _).st _ _).dN _
theorem next_ok (g : Nat) (R l : List UInt8) (L : List (List UInt8)) (a : Nat) (hR : R.length ≤ 100000) (ha : a ≤ 1000000) (h : nxt (sp 10 R) = some (l, L)) (w : World) (ho : Own w g g) (hr : w.heap[g]? = some (rdO R a 0)) :
    Calls Tryz.prog 66 #[rdP g] w fun en w' => en = .returned (.string (str l)) ∧ (∃ R', R'.length < R.length ∧ sp 10 R' = L ∧ w'.heap[g]? = some (rdO R' (a + 1) 0)) ∧ Fr g g w w' := by
  obtain ⟨⟨c0, c1, c2⟩, ⟨f0, f1, f2⟩⟩ := cells3 hr
  obtain ⟨m, hm⟩ := ho.ctx.ml
  have hrb : w.heap.size > g := heap_lt hr
  have hmg : ¬ 4 = g := by
    rintro rfl
    have := c0.symm.trans hm
    cases this
  have hm2 : (w.setCell ⟨g, 1, none⟩ (.int .i64 ((a : Int) + 1))).cell? ⟨4, 0, none⟩ = some (.int .i64 m) := by
    rw [World.cell?_setCell_far _ _ _ _ (by simpa using fun e : g = _ => hmg e.symm)]
    exact hm
  have HC := Lib.hid (Tryz.strings_Cut (str R) ⟨#[10]⟩ m _ (by rw [str_size]; omega) hm2)
  obtain ⟨r, h1, h2, h3⟩ := nxt_some R l L h
  have hcut := cut_at 10 l r h2
  have e1 : (⟨#[10]⟩ : ByteArray).data.toList = [10] := rfl
  rw [str_data, e1] at HC
  rw [← h1] at hcut
  rw [hcut] at HC
  have hlen : r.length < R.length := by rw [h1]; simp; omega
  have HB := Lib.hid (heap_setCell_same w g 1 _ _ (.int .i64 ((a : Int) + 1)) hr)
  clear hr hm hmg hm2 ho h h1 h2 hcut e1
  go_enter Tryz.func66, Tryz.ntmps66
  go_wp2_with fail
  refine (HC.out).mono ?_
  rintro e w1 ⟨rfl, k, hw1⟩
  have HW := Lib.hid hw1
  have hb1 : w1.heap[g]? = some (rdO R (a + 1) 0) := by rw [hw1]; exact HB.out
  obtain ⟨⟨c0, c1, c2⟩, ⟨f0, f1, f2⟩⟩ := cells3 hb1
  have HB1 := Lib.hid hb1
  clear hw1 hb1
  go_wp2_with fail
  go_ret
  refine ⟨rfl, ⟨r, hlen, h3, by rw [heap_setCell_same _ _ _ _ _ _ HB1.out]; rfl⟩, ?_⟩
  refine Fr.st ?_ _ _
  rw [HW.out]
  exact ((Fr.refl _ _ _).st _ _).dN _
end Go.Proofs.YtmiceolkmiiahaaGreatDoor
