/- Common words and lemmas of this seat's texts. -/
import Derived.Test.YtcicbijpiffbkaaProg
import Derived.RowKit
import Derived.WalkKit
import Derived.WalkSpells
import Derived.WalkLawsBesides
import Derived.Lib.Hide
import Derived.BigGuard
import Derived.BigCall
import Derived.Deep.QuietTactic
import Derived.BigQuiet
import Derived.Deep.LoopGhost
import Derived.WalkMore
import Derived.Below
import Derived.Lib.LaidTab
import Derived.StillTailTactics
import Derived.Deep.RegionHeld3
import Derived.Deep.DeepMust
import Derived.Lib.Builder
import Derived.Lib.AppendStr
import Derived.Lib.OthersKept
import Derived.Laws.StructEq
import Derived.Outline
namespace Go.Proofs.Ytcicbijpiffbkaa
open Go.RowKit
set_option linter.unusedVariables false
set_option linter.unusedSimpArgs false

abbrev str (l : List UInt8) : ByteArray := ⟨l.toArray⟩
theorem str_size (l : List UInt8) : (str l).size = l.length := rfl
theorem str_append (a b : List UInt8) : str a ++ str b = str (a ++ b) := by
  apply ByteArray.ext; rw [ByteArray.data_append]; simp [str]
theorem str_data (l : List UInt8) : (str l).data.toList = l := by simp [str]
theorem str_get (l : List UInt8) (k : Nat) (h : k < (str l).size) : (str l)[k] = l[k]'h := rfl
theorem str_take (l : List UInt8) (n : Nat) : (str l).extract 0 n = str (l.take n) := by
  apply ByteArray.ext
  rw [ByteArray.data_extract]
  simp [str]
theorem str_drop (l : List UInt8) (n : Nat) : (str l).extract n (str l).size = str (l.drop n) := by
  apply ByteArray.ext
  rw [ByteArray.data_extract, str_size]
  apply Array.toList_inj.1
  simp [str]
  rw [List.take_of_length_le (by simp)]
theorem str_inj {a b : List UInt8} (h : str a = str b) : a = b := by
  have := congrArg (fun b : ByteArray => b.data.toList) h
  rw [str_data, str_data] at this
  exact this
theorem str_of (s : ByteArray) : str s.data.toList = s := by apply ByteArray.ext; simp [str]
theorem str_list (l : List UInt8) : (str l).toList = l := by rw [ByteArray.toList_eq, str_data]
theorem str_beq (x y : List UInt8) : ((str x).toList == (str y).toList) = (x == y) := by rw [str_list, str_list]
theorem ne_beq (a b : ByteArray) (h : ¬ a = b) : (a.toList == b.toList) = false := by
  rw [beq_eq_false_iff_ne]
  intro e
  apply h
  rw [ByteArray.toList_eq, ByteArray.toList_eq] at e
  exact ByteArray.ext (Array.toList_inj.1 e)
theorem byte_ne (c n : UInt8) (h : c ≠ n) : ((c.toNat : Int) == (n.toNat : Int)) = false := by
  have : c.toNat ≠ n.toNat := fun e => h (UInt8.toNat_inj.mp e)
  rw [beq_eq_false_iff_ne]
  omega
theorem byte_eq (c n : UInt8) (h : c = n) : ((c.toNat : Int) == (n.toNat : Int)) = true := by rw [h]; exact BEq.rfl
theorem bool_eq {a b : Bool} (h : a = true ↔ b = true) : a = b := by cases a <;> cases b <;> simp_all

/-- The call hands back v and leaves the world as it was. -/
def KC (f : Nat) (xs : Array Value) (v : Value) : Prop := ∀ w, Calls Try.prog f xs w fun e w' => e = .returned v ∧ w = w'
/-- The call hands back v and makes memory alone. -/
def KB (f : Nat) (xs : Array Value) (v : Value) (w : World) : Prop := Calls Try.prog f xs w fun e w' => e = .returned v ∧ Below w.heap.size w w'
def Yes (w : World) (e : Ending) (w' : World) : Prop := e = .returned (.bool true) ∧ Below w.heap.size w w'
theorem KC.quiet {f : Nat} {xs : Array Value} {v : Value} (h : KC f xs v) (w : World) (n : Nat) : Calls Try.prog f xs (w.drewN n) fun e w'' => e = .returned v ∧ ∃ m, w'' = w.drewN m :=
  Calls.quiet_of_same ((h _).mono fun _ _ ⟨he, hw⟩ => ⟨he, hw.symm⟩)
theorem KC.still {f : Nat} {xs : Array Value} {v : Value} (h : KC f xs v) (w : World) : Calls Try.prog f xs w fun e w' => e = .returned v ∧ w' = w :=
  (h _).mono fun _ _ ⟨he, hw⟩ => ⟨he, hw.symm⟩
theorem KC.kb {f : Nat} {xs : Array Value} {v : Value} (h : KC f xs v) (w : World) : KB f xs v w :=
  (h w).mono fun _ _ ⟨he, hw⟩ => ⟨he, hw ▸ Below.refl _ _⟩

theorem tok_size (w : World) (o : Obj) : (w.alloc o).heap.size = w.heap.size + 1 := World.size_alloc w o
theorem tok_new (w : World) (o : Obj) : (w.alloc o).heap[w.heap.size]? = some o := heap_alloc_new w o
theorem below_dN {B : Nat} {a w : World} (h : Below B a w) (n : Nat) : Below B a (w.drewN n) := ⟨h.os, h.tape, h.output, h.size, h.block⟩
theorem below_new (w : World) (o : Obj) : Below w.heap.size w (w.alloc o) := (Below.refl _ _).alloc (Nat.le_refl _) o
theorem cell_lt {w : World} {a : Addr} {v : Value} (h : w.cell? a = some v) : a.block < w.heap.size := by
  rcases Nat.lt_or_ge a.block w.heap.size with h' | h'
  · exact h'
  · unfold World.cell? at h
    rw [Array.getElem?_eq_none h'] at h; simp at h
theorem cell_below {w w' : World} {a : Addr} {v : Value} (hb : Below w.heap.size w w') (h : w.cell? a = some v) : w'.cell? a = some v := by
  rw [hb.cell (cell_lt h)]
  exact h
theorem var_below {w w' : World} {name : String} {v : Array Value} (hb : Below w.heap.size w w') (h : w.var? Try.prog name = some v) : w'.var? Try.prog name = some v := by
  unfold World.var? at *
  cases hg : Try.prog.globalNamed name with
  | none => simp [hg] at h
  | some g =>
    simp only [hg, Option.bind_some] at h ⊢
    have hlt : g < w.heap.size := by
      rcases Nat.lt_or_ge g w.heap.size with h' | h'
      · exact h'
      · rw [Array.getElem?_eq_none h'] at h; simp at h
    rw [hb.block g hlt]
    exact h
theorem tab_below {w w' : World} {name : String} {k : IntKind} {l : List Int} (hb : Below w.heap.size w w') (h : Lib.TabIs Try.prog w name k l) : Lib.TabIs Try.prog w' name k l := var_below hb h
theorem heap_lt {w : World} {i : Nat} {o : Obj} (h : w.heap[i]? = some o) : i < w.heap.size := by
  rcases Nat.lt_or_ge i w.heap.size with h' | h'
  · exact h'
  · simp [Array.getElem?_eq_none h'] at h
theorem block_below {w w' : World} {i : Nat} {o : Obj} (hb : Below w.heap.size w w') (h : w.heap[i]? = some o) : w'.heap[i]? = some o := by
  rw [hb.block i (heap_lt h)]; exact h
theorem new_below {w w1 : World} {o : Obj} (hb : Below (w.alloc o).heap.size (w.alloc o) w1) : w1.heap[w.heap.size]? = some o ∧ Below w.heap.size w w1 ∧ w.heap.size < w1.heap.size := by
  have hz := tok_size w o
  have hs := hb.size
  exact ⟨block_below hb (tok_new w o), (below_new w o).trans (hb.mono (by omega)), by omega⟩
theorem ownsRow_below {w w1 : World} {base e size n : Nat} {v : Value} {xs : List Value} (h : w.ownsRow base e size v n xs) (hb : Below w.heap.size w w1) : w1.ownsRow base e size v n xs := by
  refine ⟨h.1, ?_⟩
  rcases h.2 with h2 | ⟨g, cap, cur, h1, h2, h3, h4⟩
  · exact Or.inl h2
  · exact Or.inr ⟨g, cap, cur, h1, h2, block_below hb h3, h4⟩
theorem ownsRow_kind {w : World} {B e size n : Nat} {v : Value} {xs : List Value} (h : w.ownsRow B e size v n xs) : ∀ g, v.ownBlock = some g → ∃ c fz, w.heap[g]? = some (.cells c e fz) := by
  intro g hg
  rcases h.2 with ⟨rfl, _⟩ | ⟨g', cap, cur, rfl, _, hgg, _⟩
  · simp [Value.ownBlock] at hg
  · simp [Value.ownBlock] at hg
    subst hg
    exact ⟨cur, _, hgg⟩

/-- A slice that reads as a list: E says an element's C cells. -/
def SlAt {M : Type} (C : Nat) (E : M → List Value) (w : World) (a : Addr) (ms : List M) : Prop := ∀ i (h : i < ms.length), ∀ j, j < C → w.cell? ((a.add (i * C)).add j) = (E ms[i])[j]?
def SlIs {M : Type} (C : Nat) (E : M → List Value) (w : World) (v : Value) (ms : List M) : Prop := ∃ ao cap, v = .slice ao ms.length cap ∧ (ms = [] ∨ ∃ a, ao = some a ∧ SlAt C E w a ms)
theorem SlAt.below {M : Type} {C : Nat} {E : M → List Value} {w w' : World} {a : Addr} {ms : List M} (hE : ∀ m, (E m).length = C) (h : SlAt C E w a ms) (hb : Below w.heap.size w w') : SlAt C E w' a ms := fun i hi j hj => by
  have h1 := h i hi j hj
  rw [List.getElem?_eq_getElem (by rw [hE]; exact hj)] at h1 ⊢
  exact cell_below hb h1
theorem SlIs.below {M : Type} {C : Nat} {E : M → List Value} {w w' : World} {v : Value} {ms : List M} (hE : ∀ m, (E m).length = C) (h : SlIs C E w v ms) (hb : Below w.heap.size w w') : SlIs C E w' v ms := by
  obtain ⟨ao, cap, hv, h | ⟨a, ha, h⟩⟩ := h
  · exact ⟨ao, cap, hv, Or.inl h⟩
  · exact ⟨ao, cap, hv, Or.inr ⟨a, ha, h.below hE hb⟩⟩
def cellsOf {M : Type} (E : M → List Value) (ms : List M) : List Value := ms.flatMap E
theorem cellsOf_snoc {M : Type} (E : M → List Value) (ms : List M) (m : M) : cellsOf E (ms ++ [m]) = cellsOf E ms ++ E m := by unfold cellsOf; simp
theorem cellsOf_get {M : Type} {C : Nat} {E : M → List Value} (hE : ∀ m, (E m).length = C) (ms : List M) : ∀ i (h : i < ms.length) j, j < C → (cellsOf E ms)[i * C + j]? = (E ms[i])[j]? := by
  induction ms with
  | nil => intro i h; exact absurd h (by simp)
  | cons m ms ih =>
    intro i h j hj
    have hc : cellsOf E (m :: ms) = E m ++ cellsOf E ms := rfl
    rw [hc]
    cases i with
    | zero => rw [Nat.zero_mul, Nat.zero_add, List.getElem?_append_left (by rw [hE]; exact hj)]; rfl
    | succ i =>
      rw [List.getElem?_append_right (by rw [hE, Nat.succ_mul]; omega), hE, show (i + 1) * C + j - C = i * C + j by rw [Nat.succ_mul]; omega]
      exact ih i (by simpa using h) j hj
theorem add_add0 (g i j : Nat) : ((⟨g, 0, none⟩ : Addr).add i).add j = ⟨g, i + j, none⟩ := by
  unfold Addr.add
  by_cases hi : i = 0
  · subst hi
    by_cases hj : j = 0
    · subst hj; simp
    · simp [hj]
  · by_cases hj : j = 0
    · subst hj; simp [hi]
    · simp [hi, hj]
theorem sl_of_owns {M : Type} {C : Nat} {E : M → List Value} (hE : ∀ m, (E m).length = C) {w : World} {B e : Nat} {v : Value} {ms : List M} (h : w.ownsRow B e C v ms.length (cellsOf E ms)) : SlIs C E w v ms := by
  rcases h.2 with ⟨hv, h0⟩ | ⟨g, cap, cur, hv, _⟩
  · rw [hv]
    exact ⟨none, 0, by rw [h0], Or.inl (List.length_eq_zero_iff.1 h0)⟩
  · rw [hv] at h ⊢
    refine ⟨some ⟨g, 0, none⟩, cap, rfl, Or.inr ⟨_, rfl, fun i hi j hj => ?_⟩⟩
    rw [add_add0, ← cellsOf_get hE ms i hi j hj]
    refine h.cellAt _ ?_
    have : (i + 1) * C ≤ ms.length * C := Nat.mul_le_mul_right _ hi
    rw [Nat.succ_mul] at this
    omega

def szOf : Value → Nat | .string s => s.size | _ => 0

/-- A world that keeps what was there. -/
structure Kept (w : World) where
  W : World
  below : Below w.heap.size w W
instance (w : World) : Nonempty (Kept w) := ⟨⟨w, Below.refl _ _⟩⟩
theorem wp_region_kept {P : Program} {id : Nat} {Q : Exit → Act → World → Prop} {a : Act} {w : World} {l : List Oper} (hm : P.follows .mixedOrders = true) (hB : Region.lexB .any l.toArray = true)
    (h : wpQuiet P l.toArray (fun w' => ∃ x : Kept w, w' = x.W) (fun a' => ∀ w', (∃ x : Kept w, w' = x.W) → Q .normal a' w') l a) : (Code.region id l.toArray true).wp P Q a w :=
  wp_region_quiet (C := fun w' => ∃ x : Kept w, w' = x.W) hm hB ⟨⟨{ w with drawn := w.drawn + 1 }, ⟨rfl, rfl, rfl, Nat.le_refl _, fun _ _ => rfl⟩⟩, rfl⟩ (by simpa using h)
theorem kept_cell {w : World} {a : Addr} {v : Value} (h : w.cell? a = some v) : ∀ x : Kept w, x.W.cell? a = some v := fun x => cell_below x.below h
theorem Kept.call {P : Program} {f : FuncId} {xs : Array Value} {v : Value} {w : World} {x : Kept w} (h : Calls P f xs x.W fun e w' => e = .returned v ∧ Below x.W.heap.size x.W w') :
    Calls P f xs x.W fun e w'' => e = .returned v ∧ ∃ y : Kept w, w'' = y.W :=
  h.mono fun _ w'' ⟨he, hb⟩ => ⟨he, ⟨w'', x.below.trans (hb.mono x.below.size)⟩, rfl⟩
theorem Kept.quiet {P : Program} {f : FuncId} {xs : Array Value} {v : Value} {w : World} {x : Kept w} (h : Calls P f xs x.W fun e w' => e = .returned v ∧ x.W = w') :
    Calls P f xs x.W fun e w'' => e = .returned v ∧ ∃ y : Kept w, w'' = y.W :=
  h.mono fun _ w'' ⟨he, hb⟩ => ⟨he, x, hb.symm⟩

theorem all_take (P : UInt8 → Bool) (l : List UInt8) (h : l.all P = true) : l.takeWhile P = l := by
  induction l with
  | nil => rfl
  | cons c l ih =>
    rw [List.all_cons, Bool.and_eq_true] at h
    rw [List.takeWhile_cons, if_pos h.1, ih h.2]
theorem tw_len (P : UInt8 → Bool) (l : List UInt8) : (l.takeWhile P).length ≤ l.length := (List.takeWhile_sublist _).length_le
theorem tw_take (P : UInt8 → Bool) (l : List UInt8) : l.take (l.takeWhile P).length = l.takeWhile P := by
  have take_of : ∀ (a b R : List UInt8), a ++ b = R → R.take a.length = a := fun a b R h => by subst h; exact List.take_left' rfl
  exact take_of _ _ _ (List.takeWhile_append_dropWhile (p := P) (l := l))
end Go.Proofs.Ytcicbijpiffbkaa
