/- Arguments that came in: a slice read as a list, a task; the law VmSame at what came in. -/
import Derived.Test.YtcicbijpiffbkaaW31
import Derived.SizedLaws
import Derived.Deep.Slices
import Derived.Deep.Strs
import Derived.ChangeArms
import Derived.DataReads
import Derived.WideShapes
import Derived.OpenShut
namespace Go.Proofs.Ytcicbijpiffbkaa
open Go.RowKit Go.WideShapes
set_option maxRecDepth 100000
set_option linter.unusedVariables false
set_option linter.unusedSimpArgs false

theorem list_of {M : Type} (Q : Nat → M → Prop) : ∀ n, (∀ i, i < n → ∃ m, Q i m) → ∃ ms : List M, ms.length = n ∧ ∀ i (h : i < ms.length), Q i ms[i] := by
  intro n
  induction n with
  | zero => intro _; exact ⟨[], rfl, fun i h => absurd h (by simp)⟩
  | succ n ih =>
    intro h
    obtain ⟨ms, hl, hq⟩ := ih fun i hi => h i (by omega)
    obtain ⟨m, hm⟩ := h n (by omega)
    refine ⟨ms ++ [m], by simp [hl], fun i hi => ?_⟩
    rw [List.length_append, List.length_singleton] at hi
    by_cases hin : i < ms.length
    · rw [List.getElem_append_left hin]; exact hq i hin
    · obtain rfl : i = ms.length := by omega
      rw [List.getElem_append_right (Nat.le_refl _)]
      simp only [Nat.sub_self, List.getElem_cons_zero]
      rw [hl]; exact hm

section
variable {H : Type} {enc : TypeId × Value → H} {P : Program} {w : World} {base : Nat} {spare : Nat → Bool} {held : Bool}

/-- Each string, slice and map of a datum is within the reach. -/
def Light (P : Program) (t : TypeId) (d : DataW H) : Prop := ∀ n ∈ d.weights P t, n ≤ reachBytes

theorem light_all {e : TypeId} {ds : List (DataW H)} (h : ∀ n ∈ DataW.weightsAll P e ds, n ≤ reachBytes) : ∀ d ∈ ds, Light P e d := by
  induction ds with
  | nil => intro d hd; simp at hd
  | cons d0 ds ih =>
    intro d hd
    simp only [DataW.weightsAll, List.mem_append] at h
    rcases List.mem_cons.1 hd with rfl | hd
    · exact fun n hn => h n (Or.inl hn)
    · exact ih (fun n hn => h n (Or.inr hn)) d hd
theorem light_each {ts : List TypeId} {ds : List (DataW H)} (h : (DataW.weightsEach P ts ds).all (· ≤ reachBytes) = true) {j : Nat} {t : TypeId} {d : DataW H} (ht : ts[j]? = some t) (hd : ds[j]? = some d) : Light P t d := fun n hn => by
  have := List.all_eq_true.1 h _ (DataW.weights_mem_each ht hd n hn)
  simpa using this
theorem light_part {ts : List TypeId} {ds : List (DataW H)} (h : ∀ n ∈ DataW.weightsEach P ts ds, n ≤ reachBytes) {j : Nat} {t : TypeId} {d : DataW H} (ht : ts[j]? = some t) (hd : ds[j]? = some d) : Light P t d := fun n hn => h n (DataW.weights_mem_each ht hd n hn)

/-- A slice: E says an element's cells, Ok what holds of it. -/
theorem open_list {M : Type} (E : M → List Value) (Ok : M → Prop) {t e : TypeId} {C : Nat} (ht : P.underlying t = some (.slice e)) (hC : P.cellsOf e = C)
    (hE : ∀ n cs x, DataW.trod enc P w base spare held n e cs = some x → Light P e x.1 → ∃ m, Ok m ∧ cs = E m)
    {fuel : Nat} {v : Value} {x : DataW H × List MemPlace} (h : DataW.trod enc P w base spare held fuel t [v] = some x) (hl : Light P t x.1) :
    ∃ (ms : List M) (ao : Option Addr) (cap : Nat), v = .slice ao ms.length cap ∧ (∀ m ∈ ms, Ok m) ∧ ms.length * P.bytesOf e ≤ reachBytes ∧ ms.length ≤ cap ∧ cap ≤ maxLen ∧
      (ms = [] ∨ ∃ a, ao = some a ∧ ∀ i (hi : i < ms.length), ∀ j, j < C → w.cell? ((a.add (i * C)).add j) = (E ms[i])[j]?) := by
  rcases Deep.open_slice ht h with ⟨hv, hx⟩ | ⟨a, len, cap, m, n, D, Pl, hv, hb, hlc, hcm, hm, hx, hi⟩
  · obtain rfl : v = .slice none 0 0 := by simpa using hv
    exact ⟨[], none, 0, rfl, by simp, by simp, Nat.le_refl _, Nat.zero_le _, Or.inl rfl⟩
  · obtain rfl : v = .slice (some a) len cap := by simpa using hv
    have hmm : len ≤ m := by rw [hm]; split <;> omega
    rw [hx] at hl
    unfold Light at hl
    simp only [DataW.weights, ht] at hl
    have hb2 := hl _ (List.mem_cons_self)
    have hel : ∀ d ∈ (List.range len).map D, Light P e d := light_all fun n hn => hl n (List.mem_cons_of_mem _ (List.mem_append_left _ hn))
    obtain ⟨ms, hml, hq⟩ := list_of (fun i (m : M) => Ok m ∧ ∀ j, j < C → w.cell? ((a.add (i * C)).add j) = (E m)[j]?) len fun i hil => by
      obtain ⟨cs', hc, ht'⟩ := hi i (by omega)
      obtain ⟨mm, hok, hcs⟩ := hE n cs' _ ht' (hel (D i) (List.mem_map.2 ⟨i, List.mem_range.2 hil, rfl⟩))
      obtain ⟨_, _, hat⟩ := World.cells?_some hc
      refine ⟨mm, hok, fun j hj => ?_⟩
      rw [hC] at hat
      rw [hat j hj, hcs]
    subst hml
    refine ⟨ms, some a, cap, rfl, fun m hm => ?_, ?_, hlc, hcm, Or.inr ⟨a, rfl, fun i hi => (hq i hi).2⟩⟩
    · obtain ⟨i, hi, rfl⟩ := List.getElem_of_mem hm
      exact (hq i hi).1
    · rw [List.length_map, List.length_range] at hb2
      exact Nat.le_trans (Nat.mul_le_mul_right _ (Nat.le_add_right _ _)) hb2
end

theorem cellsI : Try.prog.cellsOf 3 = 1 := by kernel_rfl
theorem cellsLong : Try.prog.cellsOf 2 = 1 := by kernel_rfl
theorem cellsLongs : Try.prog.cellsOf 26 = 1 := by kernel_rfl
theorem bytesLong : Try.prog.bytesOf 2 = 8 := by kernel_rfl
theorem cellsTask : Try.prog.cellsOf 28 = 5 := by kernel_rfl
theorem i64_of {k : Int} (h : (Lit.int .i64 k).wf = true) : I64 k := by
  have := bounds_i64 h
  exact ⟨by omega, by omega⟩
section
variable {H : Type} {enc : TypeId × Value → H} {w : World} {base : Nat} {spare : Nat → Bool} {held : Bool}
theorem long_open (n : Nat) (cs : List Value) (x : DataW H × List MemPlace) (h : DataW.trod enc Try.prog w base spare held n 2 cs = some x) (hl : Light Try.prog 2 x.1) : ∃ k : Int, I64 k ∧ cs = intL k := by
  obtain ⟨k, ha, rfl, wa⟩ := DataW.trod_int Try.underlying2 h
  exact ⟨k, i64_of wa, ha⟩
set_option maxRecDepth 100000 in
theorem task_of {b : Nat} {v : Value} (hv : Value.okWide Try.prog w .any b 28 v) {d : DataW H} {p : List MemPlace} (h : DataW.Trod enc Try.prog w base spare held 28 v d p) (hl : Light Try.prog 28 d) :
    ∃ (st a wt : Int) (sl sk : List Int) (o1 o2 : Option Addr) (c1 c2 : Nat), v = taskV st a wt (.slice o1 sl.length c1) (.slice o2 sk.length c2) ∧ IntSl w (.slice o1 sl.length c1) sl ∧ IntSl w (.slice o2 sk.length c2) sk ∧ sl.length ≤ 140737488355328 ∧ sk.length ≤ 140737488355328 := by
  unfold Value.okWide at hv
  rw [Try.underlying28] at hv
  obtain ⟨vs, rfl, hsz, _⟩ := hv
  obtain ⟨fuel, h⟩ := h
  replace h : DataW.trod enc Try.prog w base spare held fuel 28 vs.toList = some (d, p) := h
  obtain ⟨xs, m, _, hx, hll, hlen, hf⟩ := DataW.trod_struct Try.underlying28 h
  injection hx with hx1 hx2
  subst hx1
  have h0 := hf 0 _ rfl
  have h1 := hf 1 _ rfl
  have h2 := hf 2 _ rfl
  have h3 := hf 3 _ rfl
  have h4 := hf 4 _ rfl
  rw [cellsTask] at hll
  obtain ⟨L, rfl⟩ : ∃ L : List Value, vs = L.toArray := ⟨vs.toList, by simp⟩
  simp only [] at hll h0 h1 h2 h3 h4
  match xs, hlen, L, hll with
  | [y0, y1, y2, y3, y4], _, [va, vb, vc, vd, ve], _ =>
    simp [cellsI, cellsLongs] at h0 h1 h2 h3 h4
    obtain ⟨st, hs0, rfl, w0⟩ := DataW.trod_int Try.underlying3 h0
    obtain ⟨a, hs1, rfl, w1⟩ := DataW.trod_int Try.underlying3 h1
    obtain ⟨wt, hs2, rfl, w2⟩ := DataW.trod_int Try.underlying3 h2
    have l0 : ∀ n ∈ DataW.weightsEach Try.prog [3, 3, 3, 26, 26] [DataW.lit (Lit.int .i64 st), DataW.lit (Lit.int .i64 a), DataW.lit (Lit.int .i64 wt), y3.1, y4.1], n ≤ reachBytes := fun n hn => hl n (by simpa [DataW.weights, Try.underlying28] using hn)
    have l3 := light_part l0 (j := 3) (t := 26) rfl rfl
    have l4 := light_part l0 (j := 4) (t := 26) rfl rfl
    obtain ⟨sl, o1, c1, rfl, _, hb1, _, _, hc1⟩ := open_list intL I64 Try.underlying26 cellsLong long_open h3 l3
    obtain ⟨sk, o2, c2, rfl, _, hb2, _, _, hc2⟩ := open_list intL I64 Try.underlying26 cellsLong long_open h4 l4
    rw [bytesLong] at hb1 hb2
    unfold reachBytes at hb1 hb2
    obtain rfl : va = .int .i64 st := by simpa using hs0
    obtain rfl : vb = .int .i64 a := by simpa using hs1
    obtain rfl : vc = .int .i64 wt := by simpa using hs2
    exact ⟨st, a, wt, sl, sk, o1, o2, c1, c2, rfl, ⟨o1, c1, rfl, hc1⟩, ⟨o2, c2, rfl, hc2⟩, by omega, by omega⟩
end
theorem t_VmSame {H : Type} {enc : TypeId × Value → H} (W : World) {base : Nat} {sp : Nat → Bool} {held : Bool} (v0 : Value) {b0 : Nat} (hv0 : Value.okWide Try.prog W .any b0 28 v0) {d0 : DataW H} {p0 : List MemPlace} (k0 : DataW.Trod enc Try.prog W base sp held 28 v0 d0 p0) (l0 : Light Try.prog 28 d0)
    (v1 : Value) {b1 : Nat} (hv1 : Value.okWide Try.prog W .any b1 28 v1) {d1 : DataW H} {p1 : List MemPlace} (k1 : DataW.Trod enc Try.prog W base sp held 28 v1 d1 p1) (l1 : Light Try.prog 28 d1) :
    Calls Try.prog 6 #[v0, v1] W fun e w' => e = .returned (.bool true) ∧ Below W.heap.size W w' := by
  obtain ⟨s1, a1, t1, sl1, sk1, o1, q1, c1, e1, rfl, g1, g2, z1, z2⟩ := task_of hv0 k0 l0
  obtain ⟨s2, a2, t2, sl2, sk2, o2, q2, c2, e2, rfl, g3, g4, z3, z4⟩ := task_of hv1 k1 l1
  exact w_VmSame s1 a1 t1 s2 a2 t2 sl1 sk1 sl2 sk2 o1 q1 o2 q2 _ _ _ _ c1 e1 c2 e2 rfl rfl rfl rfl z1 z2 z3 z4 W g1 g2 g3 g4
end Go.Proofs.Ytcicbijpiffbkaa
