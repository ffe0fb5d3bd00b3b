/- Arguments that came in: entries, instructions, a case; the law VmStarts at what came in. -/
import Derived.Test.YtcicbijpiffbkaaW32
import Derived.Test.YtcicbijpiffbkaaW36
namespace Go.Proofs.Ytcicbijpiffbkaa
open Go.RowKit Go.WideShapes
set_option maxRecDepth 100000
set_option linter.unusedVariables false
set_option linter.unusedSimpArgs false

theorem cellsStr : Try.prog.cellsOf 9 = 1 := by kernel_rfl
theorem cellsEntry : Try.prog.cellsOf 68 = 3 := by kernel_rfl
theorem cellsInstr : Try.prog.cellsOf 71 = 4 := by kernel_rfl
theorem bytesEntry : Try.prog.bytesOf 68 = 32 := by kernel_rfl
theorem bytesInstr : Try.prog.bytesOf 71 = 40 := by kernel_rfl
theorem cellsEntries : Try.prog.cellsOf 22 = 1 := by kernel_rfl
theorem cellsInstrs : Try.prog.cellsOf 23 = 1 := by kernel_rfl
theorem cellsCode : Try.prog.cellsOf 25 = 2 := by kernel_rfl
theorem cellsView : Try.prog.cellsOf 35 = 11 := by kernel_rfl
theorem cellsRules : Try.prog.cellsOf 40 = 3 := by kernel_rfl
theorem cellsCase : Try.prog.cellsOf 42 = 22 := by kernel_rfl
section
variable {H : Type} {enc : TypeId × Value → H} {w : World} {base : Nat} {spare : Nat → Bool} {held : Bool}
theorem ent_open (n : Nat) (cs : List Value) (x : DataW H × List MemPlace) (h : DataW.trod enc Try.prog w base spare held n 68 cs = some x) (hl : Light Try.prog 68 x.1) : ∃ e : Ent, (e.n.length ≤ 140737488355328 ∧ I64 e.at' ∧ I64 e.sl) ∧ cs = e.l := by
  obtain ⟨xs, m, _, rfl, hll, hlen, hf⟩ := DataW.trod_struct Try.underlying68 h
  have h0 := hf 0 _ rfl
  have h1 := hf 1 _ rfl
  have h2 := hf 2 _ rfl
  rw [cellsEntry] at hll
  match xs, hlen, cs, hll with
  | [y0, y1, y2], _, [a, b, c], _ =>
    simp [cellsI, cellsStr] at h0 h1 h2
    obtain ⟨nm, hn, rfl, _⟩ := DataW.trod_string Try.underlying9 h0
    obtain ⟨k, ha, rfl, wa⟩ := DataW.trod_int Try.underlying3 h1
    obtain ⟨l, hb, rfl, wb⟩ := DataW.trod_int Try.underlying3 h2
    have l0 : ∀ n ∈ DataW.weightsEach Try.prog [9, 3, 3] [DataW.lit (Lit.string nm.data.toList), DataW.lit (Lit.int .i64 k), DataW.lit (Lit.int .i64 l)], n ≤ reachBytes := fun n hn => hl n (by simpa [DataW.weights, Try.underlying68] using hn)
    have ln := light_part l0 (j := 0) (t := 9) rfl rfl
    have hs : nm.data.toList.length ≤ reachBytes := ln _ (by simp [DataW.weights, Try.underlying9])
    unfold reachBytes at hs
    obtain rfl : a = .string nm := by simpa using hn
    obtain rfl : b = .int .i64 k := by simpa using ha
    obtain rfl : c = .int .i64 l := by simpa using hb
    exact ⟨⟨nm.data.toList, k, l⟩, ⟨by show nm.data.toList.length ≤ _; omega, i64_of wa, i64_of wb⟩, rfl⟩
theorem ins_open (n : Nat) (cs : List Value) (x : DataW H × List MemPlace) (h : DataW.trod enc Try.prog w base spare held n 71 cs = some x) (hl : Light Try.prog 71 x.1) : ∃ e : Ins, (I64 e.op ∧ I64 e.a ∧ I64 e.n ∧ e.s.length ≤ 140737488355328) ∧ cs = e.l := by
  obtain ⟨xs, m, _, rfl, hll, hlen, hf⟩ := DataW.trod_struct Try.underlying71 h
  have h0 := hf 0 _ rfl
  have h1 := hf 1 _ rfl
  have h2 := hf 2 _ rfl
  have h3 := hf 3 _ rfl
  rw [cellsInstr] at hll
  match xs, hlen, cs, hll with
  | [y0, y1, y2, y3], _, [a, b, c, d], _ =>
    simp [cellsI, cellsStr, cellsLong] at h0 h1 h2 h3
    obtain ⟨k, ha, rfl, wa⟩ := DataW.trod_int Try.underlying3 h0
    obtain ⟨l, hb, rfl, wb⟩ := DataW.trod_int Try.underlying3 h1
    obtain ⟨j, hc, rfl, wc⟩ := DataW.trod_int Try.underlying2 h2
    obtain ⟨nm, hn, rfl, _⟩ := DataW.trod_string Try.underlying9 h3
    have l0 : ∀ n ∈ DataW.weightsEach Try.prog [3, 3, 2, 9] [DataW.lit (Lit.int .i64 k), DataW.lit (Lit.int .i64 l), DataW.lit (Lit.int .i64 j), DataW.lit (Lit.string nm.data.toList)], n ≤ reachBytes := fun n hn => hl n (by simpa [DataW.weights, Try.underlying71] using hn)
    have ln := light_part l0 (j := 3) (t := 9) rfl rfl
    have hs : nm.data.toList.length ≤ reachBytes := ln _ (by simp [DataW.weights, Try.underlying9])
    unfold reachBytes at hs
    obtain rfl : a = .int .i64 k := by simpa using ha
    obtain rfl : b = .int .i64 l := by simpa using hb
    obtain rfl : c = .int .i64 j := by simpa using hc
    obtain rfl : d = .string nm := by simpa using hn
    exact ⟨⟨k, l, j, nm.data.toList⟩, ⟨i64_of wa, i64_of wb, i64_of wc, by show nm.data.toList.length ≤ _; omega⟩, rfl⟩
theorem sl_shape {t e : TypeId} (ht : Try.prog.underlying t = some (.slice e)) {fuel : Nat} {v : Value} {x : DataW H × List MemPlace} (h : DataW.trod enc Try.prog w base spare held fuel t [v] = some x) : ∃ (o : Option Addr) (n c : Nat), v = .slice o n c := by
  rcases Deep.open_slice ht h with ⟨hv, _⟩ | ⟨a, len, cap, m, n, D, Pl, hv, _⟩
  · exact ⟨none, 0, 0, by simpa using hv⟩
  · exact ⟨some a, len, cap, by simpa using hv⟩
theorem code_cells {fuel : Nat} {cs : List Value} {x : DataW H × List MemPlace} (h : DataW.trod enc Try.prog w base spare held fuel 25 cs = some x) (hl : Light Try.prog 25 x.1) :
    ∃ (es : List Ent) (is : List Ins) (o1 o2 : Option Addr) (c1 c2 : Nat), cs = [.slice o1 es.length c1, .slice o2 is.length c2] ∧ OkE es ∧ OkI is ∧ es.length ≤ c1 ∧ is.length ≤ c2 ∧ (es = [] ∨ ∃ a, o1 = some a ∧ EntAt w a es) ∧ (is = [] ∨ ∃ a, o2 = some a ∧ InsAt w a is) := by
  obtain ⟨xs, m, _, rfl, hll, hlen, hf⟩ := DataW.trod_struct Try.underlying25 h
  have h0 := hf 0 _ rfl
  have h1 := hf 1 _ rfl
  rw [cellsCode] at hll
  match xs, hlen, cs, hll with
  | [y0, y1], _, [a, b], _ =>
    simp [cellsEntries, cellsInstrs] at h0 h1
    have l0 : ∀ n ∈ DataW.weightsEach Try.prog [22, 23] [y0.1, y1.1], n ≤ reachBytes := fun n hn => hl n (by simpa [DataW.weights, Try.underlying25] using hn)
    obtain ⟨es, o1, c1, rfl, k1, _, g1, _, e1⟩ := open_list Ent.l (fun e => e.n.length ≤ 140737488355328 ∧ I64 e.at' ∧ I64 e.sl) Try.underlying22 cellsEntry ent_open h0 (light_part l0 (j := 0) (t := 22) rfl rfl)
    obtain ⟨is, o2, c2, rfl, k2, _, g2, _, e2⟩ := open_list Ins.l (fun e => I64 e.op ∧ I64 e.a ∧ I64 e.n ∧ e.s.length ≤ 140737488355328) Try.underlying23 cellsInstr ins_open h1 (light_part l0 (j := 1) (t := 23) rfl rfl)
    exact ⟨es, is, o1, o2, c1, c2, rfl, k1, k2, g1, g2, e1, e2⟩
theorem task_cells {fuel : Nat} {cs : List Value} {x : DataW H × List MemPlace} (h : DataW.trod enc Try.prog w base spare held fuel 28 cs = some x) (hl : Light Try.prog 28 x.1) :
    ∃ (st a wt : Int) (sl sk : List Int) (o1 o2 : Option Addr) (c1 c2 : Nat), cs = [.int .i64 st, .int .i64 a, .int .i64 wt, .slice o1 sl.length c1, .slice o2 sk.length c2] ∧ sl.length ≤ 140737488355328 ∧ sk.length ≤ 140737488355328 := by
  obtain ⟨xs, m, _, rfl, hll, hlen, hf⟩ := DataW.trod_struct Try.underlying28 h
  have h0 := hf 0 _ rfl
  have h1 := hf 1 _ rfl
  have h2 := hf 2 _ rfl
  have h3 := hf 3 _ rfl
  have h4 := hf 4 _ rfl
  rw [cellsTask] at hll
  match xs, hlen, cs, hll with
  | [y0, y1, y2, y3, y4], _, [va, vb, vc, vd, ve], _ =>
    simp [cellsI, cellsLongs] at h0 h1 h2 h3 h4
    obtain ⟨st, hs0, rfl, w0⟩ := DataW.trod_int Try.underlying3 h0
    obtain ⟨a, hs1, rfl, w1⟩ := DataW.trod_int Try.underlying3 h1
    obtain ⟨wt, hs2, rfl, w2⟩ := DataW.trod_int Try.underlying3 h2
    have l0 : ∀ n ∈ DataW.weightsEach Try.prog [3, 3, 3, 26, 26] [DataW.lit (Lit.int .i64 st), DataW.lit (Lit.int .i64 a), DataW.lit (Lit.int .i64 wt), y3.1, y4.1], n ≤ reachBytes := fun n hn => hl n (by simpa [DataW.weights, Try.underlying28] using hn)
    obtain ⟨sl, o1, c1, rfl, _, hb1, _, _, hc1⟩ := open_list intL I64 Try.underlying26 cellsLong long_open h3 (light_part l0 (j := 3) (t := 26) rfl rfl)
    obtain ⟨sk, o2, c2, rfl, _, hb2, _, _, hc2⟩ := open_list intL I64 Try.underlying26 cellsLong long_open h4 (light_part l0 (j := 4) (t := 26) rfl rfl)
    rw [bytesLong] at hb1 hb2
    unfold reachBytes at hb1 hb2
    obtain rfl : va = .int .i64 st := by simpa using hs0
    obtain rfl : vb = .int .i64 a := by simpa using hs1
    obtain rfl : vc = .int .i64 wt := by simpa using hs2
    exact ⟨st, a, wt, sl, sk, o1, o2, c1, c2, rfl, by omega, by omega⟩
theorem cells1 : Try.prog.cellsOf 29 = 1 ∧ Try.prog.cellsOf 32 = 1 ∧ Try.prog.cellsOf 33 = 1 ∧ Try.prog.cellsOf 36 = 1 ∧ Try.prog.cellsOf 38 = 1 := ⟨by kernel_rfl, by kernel_rfl, by kernel_rfl, by kernel_rfl, by kernel_rfl⟩
theorem view_cells {fuel : Nat} {cs : List Value} {x : DataW H × List MemPlace} (h : DataW.trod enc Try.prog w base spare held fuel 35 cs = some x) : ∃ v : VW, cs = [v.a0, v.a1, v.a2, v.a3, .slice v.ta v.tn v.tc, v.a5, v.a6, v.a7, .slice v.oa v.on v.oc, .slice v.sa v.sn v.sc, v.a10] := by
  obtain ⟨xs, m, _, rfl, hll, hlen, hf⟩ := DataW.trod_struct Try.underlying35 h
  have h4 := hf 4 _ rfl
  have h8 := hf 8 _ rfl
  have h9 := hf 9 _ rfl
  rw [cellsView] at hll
  match xs, hlen, cs, hll with
  | [y0, y1, y2, y3, y4, y5, y6, y7, y8, y9, y10], _, [v0, v1, v2, v3, v4, v5, v6, v7, v8, v9, v10], _ =>
    simp [cells1.1, cells1.2.1, cells1.2.2.1] at h4 h8 h9
    obtain ⟨o4, n4, c4, rfl⟩ := sl_shape Try.underlying29 h4
    obtain ⟨o8, n8, c8, rfl⟩ := sl_shape Try.underlying32 h8
    obtain ⟨o9, n9, c9, rfl⟩ := sl_shape Try.underlying33 h9
    exact ⟨⟨v0, v1, v2, v3, v5, v6, v7, v10, o4, o8, o9, n4, c4, n8, c8, n9, c9⟩, rfl⟩
theorem rules_cells {fuel : Nat} {cs : List Value} {x : DataW H × List MemPlace} (h : DataW.trod enc Try.prog w base spare held fuel 40 cs = some x) : ∃ (o1 o2 : Option Addr) (n1 c1 n2 c2 : Nat) (v : Value), cs = [.slice o1 n1 c1, v, .slice o2 n2 c2] := by
  obtain ⟨xs, m, _, rfl, hll, hlen, hf⟩ := DataW.trod_struct Try.underlying40 h
  have h0 := hf 0 _ rfl
  have h2 := hf 2 _ rfl
  rw [cellsRules] at hll
  match xs, hlen, cs, hll with
  | [y0, y1, y2], _, [v0, v1, v2], _ =>
    simp [cells1.2.2.2.1, cells1.2.2.2.2] at h0 h2
    obtain ⟨o4, n4, c4, rfl⟩ := sl_shape Try.underlying36 h0
    obtain ⟨o8, n8, c8, rfl⟩ := sl_shape Try.underlying38 h2
    exact ⟨o4, o8, n4, c4, n8, c8, v1, rfl⟩
theorem case_of {b : Nat} {v : Value} (hv : Value.okWide Try.prog w .any b 42 v) {d : DataW H} {p : List MemPlace} (h : DataW.Trod enc Try.prog w base spare held 42 v d p) (hl : Light Try.prog 42 d) :
    ∃ (y : CS) (x : VW) (es : List Ent) (is : List Ins), v = y.v x ∧ es.length = y.n ∧ is.length = y.m ∧ y.n ≤ y.c ∧ y.m ≤ y.d ∧ OkE es ∧ OkI is ∧ y.ns ≤ 140737488355328 ∧ y.nk ≤ 140737488355328 ∧ (es = [] ∨ ∃ a, y.ca = some a ∧ EntAt w a es) ∧ (is = [] ∨ ∃ a, y.ia = some a ∧ InsAt w a is) := by
  unfold Value.okWide at hv
  rw [Try.underlying42] at hv
  obtain ⟨vs, rfl, hsz, _⟩ := hv
  obtain ⟨fuel, h⟩ := h
  replace h : DataW.trod enc Try.prog w base spare held fuel 42 vs.toList = some (d, p) := h
  obtain ⟨xs, m, _, hx, hll, hlen, hf⟩ := DataW.trod_struct Try.underlying42 h
  injection hx with hx1 hx2
  subst hx1
  have h0 := hf 0 _ rfl
  have h1 := hf 1 _ rfl
  have h2 := hf 2 _ rfl
  have h3 := hf 3 _ rfl
  have h4 := hf 4 _ rfl
  rw [cellsCase] at hll
  obtain ⟨L, rfl⟩ : ∃ L : List Value, vs = L.toArray := ⟨vs.toList, by simp⟩
  simp only [] at hll h0 h1 h2 h3 h4
  match xs, hlen, L, hll with
  | [y0, y1, y2, y3, y4], _, [v0, v1, v2, v3, v4, v5, v6, v7, v8, v9, v10, v11, v12, v13, v14, v15, v16, v17, v18, v19, v20, v21], _ =>
    simp [cellsI, cellsCode, cellsTask, cellsView, cellsRules] at h0 h1 h2 h3 h4
    have l0 : ∀ n ∈ DataW.weightsEach Try.prog [25, 28, 35, 40, 3] [y0.1, y1.1, y2.1, y3.1, y4.1], n ≤ reachBytes := fun n hn => hl n (by simpa [DataW.weights, Try.underlying42] using hn)
    obtain ⟨es, is, o1, o2, c1, c2, hc, k1, k2, g1, g2, e1, e2⟩ := code_cells h0 (light_part l0 (j := 0) (t := 25) rfl rfl)
    obtain ⟨st, a, wt, sl, sk, p1, p2, d1, d2, ht, b1, b2⟩ := task_cells h1 (light_part l0 (j := 1) (t := 28) rfl rfl)
    obtain ⟨x, hvw⟩ := view_cells h2
    obtain ⟨u1, u2, n1, nc1, n2, nc2, r1, hr⟩ := rules_cells h3
    obtain ⟨fu, hfu, rfl, wf⟩ := DataW.trod_int Try.underlying3 h4
    injection hc with q0 hc; injection hc with q1 hc
    injection ht with q2 ht; injection ht with q3 ht; injection ht with q4 ht; injection ht with q5 ht; injection ht with q6 ht
    injection hvw with q7 hvw; injection hvw with q8 hvw; injection hvw with q9 hvw; injection hvw with q10 hvw; injection hvw with q11 hvw; injection hvw with q12 hvw; injection hvw with q13 hvw; injection hvw with q14 hvw; injection hvw with q15 hvw; injection hvw with q16 hvw; injection hvw with q17 hvw
    injection hr with q18 hr; injection hr with q19 hr; injection hr with q20 hr
    injection hfu with q21 _
    exact ⟨⟨st, a, wt, o1, o2, p1, p2, u1, u2, es.length, c1, is.length, c2, sl.length, d1, sk.length, d2, n1, nc1, n2, nc2, r1, fu⟩, x, es, is, by rw [q0, q1, q2, q3, q4, q5, q6, q7, q8, q9, q10, q11, q12, q13, q14, q15, q16, q17, q18, q19, q20, q21], rfl, rfl, g1, g2, k1, k2, b1, b2, e1, e2⟩
end
theorem t_VmStarts {H : Type} {enc : TypeId × Value → H} (W : World) {base : Nat} {sp : Nat → Bool} {held : Bool} (v0 : Value) {b0 : Nat} (hv0 : Value.okWide Try.prog W .any b0 42 v0) {d0 : DataW H} {p0 : List MemPlace} (k0 : DataW.Trod enc Try.prog W base sp held 42 v0 d0 p0) (l0 : Light Try.prog 42 d0) (s : ByteArray) (hs : s.size ≤ 140737488351232) :
    Calls Try.prog 3 #[v0, .string s] W fun e w' => e = .returned (.bool true) ∧ Below W.heap.size W w' := by
  obtain ⟨y, x, es, is, rfl, h1, h2, h3, h4, h5, h6, h7, h8, h9, h10⟩ := case_of hv0 k0 l0
  rw [← str_of s]
  exact w_VmStarts y x es is s.data.toList h1 h2 h3 h4 h5 h6 h7 h8 W h9 h10
end Go.Proofs.Ytcicbijpiffbkaa
