/- Arguments that came in: a slice read as a list, a map file. -/
import Derived.Test.YtmiceolkmiiahaaGreatDoorW32
import Derived.Test.YtmiceolkmiiahaaGreatDoorP4
import Derived.SizedLaws
import Derived.Deep.Slices
import Derived.Deep.Strs
import Derived.ChangeArms
import Derived.DataReads
import Derived.WideShapes
import Derived.OpenShut
namespace Go.Proofs.YtmiceolkmiiahaaGreatDoor
open Go.RowKit Go.WideShapes
set_option linter.unusedVariables false
set_option linter.unusedSimpArgs false

theorem list_of {M : Type} (Q : Nat → M → Prop) : ∀ n, (∀ i, i < n → ∃ m, Q i m) → ∃ ms : List M, ms.length = n ∧ ∀ i (h : i < ms.length), Q i ms[i] := by
  intro n
  induction n with
  | zero => intro _; exact ⟨[], rfl, fun i h => absurd h (by simp)⟩
  | succ n ih =>
    intro h
    obtain ⟨ms, hl, hq⟩ := ih fun i hi => h i (by omega)
    obtain ⟨m, hm⟩ := h n (by omega)
    refine ⟨ms ++ [m], by simp [hl], fun i hi => ?_⟩
    rw [List.length_append, List.length_singleton] at hi
    by_cases hin : i < ms.length
    · rw [List.getElem_append_left hin]; exact hq i hin
    · obtain rfl : i = ms.length := by omega
      rw [List.getElem_append_right (Nat.le_refl _)]
      simp only [Nat.sub_self, List.getElem_cons_zero]
      rw [hl]; exact hm

section
variable {H : Type} {enc : TypeId × Value → H} {P : Program} {w : World} {base : Nat} {spare : Nat → Bool} {held : Bool}

/-- Each string, slice and map of a datum is within the reach. -/
def Light (P : Program) (t : TypeId) (d : DataW H) : Prop := ∀ n ∈ d.weights P t, n ≤ reachBytes

theorem light_all {e : TypeId} {ds : List (DataW H)} (h : ∀ n ∈ DataW.weightsAll P e ds, n ≤ reachBytes) : ∀ d ∈ ds, Light P e d := by
  induction ds with
  | nil => intro d hd; simp at hd
  | cons d0 ds ih =>
    intro d hd
    simp only [DataW.weightsAll, List.mem_append] at h
    rcases List.mem_cons.1 hd with rfl | hd
    · exact fun n hn => h n (Or.inl hn)
    · exact ih (fun n hn => h n (Or.inr hn)) d hd
theorem light_each {ts : List TypeId} {ds : List (DataW H)} (h : (DataW.weightsEach P ts ds).all (· ≤ reachBytes) = true) {j : Nat} {t : TypeId} {d : DataW H} (ht : ts[j]? = some t) (hd : ds[j]? = some d) : Light P t d := fun n hn => by
  have := List.all_eq_true.1 h _ (DataW.weights_mem_each ht hd n hn)
  simpa using this
theorem light_part {ts : List TypeId} {ds : List (DataW H)} (h : ∀ n ∈ DataW.weightsEach P ts ds, n ≤ reachBytes) {j : Nat} {t : TypeId} {d : DataW H} (ht : ts[j]? = some t) (hd : ds[j]? = some d) : Light P t d := fun n hn => h n (DataW.weights_mem_each ht hd n hn)

/-- A slice: E says an element's cells, Ok what holds of it. -/
theorem open_list {M : Type} (E : M → List Value) (Ok : M → Prop) {t e : TypeId} {C : Nat} (ht : P.underlying t = some (.slice e)) (hC : P.cellsOf e = C)
    (hE : ∀ n cs x, DataW.trod enc P w base spare held n e cs = some x → Light P e x.1 → ∃ m, Ok m ∧ cs = E m)
    {fuel : Nat} {v : Value} {x : DataW H × List MemPlace} (h : DataW.trod enc P w base spare held fuel t [v] = some x) (hl : Light P t x.1) :
    ∃ (ms : List M) (ao : Option Addr) (cap : Nat), v = .slice ao ms.length cap ∧ (∀ m ∈ ms, Ok m) ∧ ms.length * P.bytesOf e ≤ reachBytes ∧ ms.length ≤ cap ∧ cap ≤ maxLen ∧
      (ms = [] ∨ ∃ a, ao = some a ∧ ∀ i (hi : i < ms.length), ∀ j, j < C → w.cell? ((a.add (i * C)).add j) = (E ms[i])[j]?) := by
  rcases Deep.open_slice ht h with ⟨hv, hx⟩ | ⟨a, len, cap, m, n, D, Pl, hv, hb, hlc, hcm, hm, hx, hi⟩
  · obtain rfl : v = .slice none 0 0 := by simpa using hv
    exact ⟨[], none, 0, rfl, by simp, by simp, Nat.le_refl _, Nat.zero_le _, Or.inl rfl⟩
  · obtain rfl : v = .slice (some a) len cap := by simpa using hv
    have hmm : len ≤ m := by rw [hm]; split <;> omega
    rw [hx] at hl
    unfold Light at hl
    simp only [DataW.weights, ht] at hl
    have hb2 := hl _ (List.mem_cons_self)
    have hel : ∀ d ∈ (List.range len).map D, Light P e d := light_all fun n hn => hl n (List.mem_cons_of_mem _ (List.mem_append_left _ hn))
    obtain ⟨ms, hml, hq⟩ := list_of (fun i (m : M) => Ok m ∧ ∀ j, j < C → w.cell? ((a.add (i * C)).add j) = (E m)[j]?) len fun i hil => by
      obtain ⟨cs', hc, ht'⟩ := hi i (by omega)
      obtain ⟨mm, hok, hcs⟩ := hE n cs' _ ht' (hel (D i) (List.mem_map.2 ⟨i, List.mem_range.2 hil, rfl⟩))
      obtain ⟨_, _, hat⟩ := World.cells?_some hc
      refine ⟨mm, hok, fun j hj => ?_⟩
      rw [hC] at hat
      rw [hat j hj, hcs]
    subst hml
    refine ⟨ms, some a, cap, rfl, fun m hm => ?_, ?_, hlc, hcm, Or.inr ⟨a, rfl, fun i hi => (hq i hi).2⟩⟩
    · obtain ⟨i, hi, rfl⟩ := List.getElem_of_mem hm
      exact (hq i hi).1
    · rw [List.length_map, List.length_range] at hb2
      exact Nat.le_trans (Nat.mul_le_mul_right _ (Nat.le_add_right _ _)) hb2
end

theorem cellsI : Tryz.prog.cellsOf 3 = 1 := by kernel_rfl
theorem cellsStr : Tryz.prog.cellsOf 9 = 1 := by kernel_rfl
theorem cellsCel : Tryz.prog.cellsOf 41 = 3 := by kernel_rfl
theorem bytesCel : Tryz.prog.bytesOf 41 = 24 := by kernel_rfl
theorem cellsPo : Tryz.prog.cellsOf 55 = 2 := by kernel_rfl
theorem bytesPo : Tryz.prog.bytesOf 55 = 16 := by kernel_rfl
theorem cellsMap : Tryz.prog.cellsOf 24 = 3 := by kernel_rfl
theorem cellsFile : Tryz.prog.cellsOf 27 = 5 := by kernel_rfl
theorem cellsCs : Tryz.prog.cellsOf 22 = 1 := by kernel_rfl
theorem cellsPs : Tryz.prog.cellsOf 25 = 1 := by kernel_rfl
section
variable {H : Type} {enc : TypeId × Value → H} {w : World} {base : Nat} {spare : Nat → Bool} {held : Bool}
def CelOk (c : Cel) : Prop := I64 c.k ∧ I64 c.h ∧ I64 c.a
def PoOk (p : Po) : Prop := I64 p.x ∧ I64 p.y
theorem i64_of {k : Int} (h : (Lit.int .i64 k).wf = true) : I64 k := by
  have := bounds_i64 h
  exact ⟨by omega, by omega⟩
set_option maxRecDepth 100000 in
theorem cel_open (n : Nat) (cs : List Value) (x : DataW H × List MemPlace) (h : DataW.trod enc Tryz.prog w base spare held n 41 cs = some x) (hl : Light Tryz.prog 41 x.1) : ∃ c : Cel, CelOk c ∧ cs = c.l := by
  obtain ⟨y0, y1, y2, m, rfl, hlen, h0, h1, h2⟩ := Deep.trod_struct3 Tryz.underlying41 h
  rw [cellsCel] at hlen
  match cs, hlen with
  | [a, b, c], _ =>
    dsimp only at h0 h1 h2
    rw [cellsI] at h0 h1 h2
    simp only [List.drop_zero, List.drop_succ_cons, List.take_succ_cons, List.take_zero] at h0 h1 h2
    obtain ⟨k, ha, rfl, wa⟩ := DataW.trod_int Tryz.underlying3 h0
    obtain ⟨l, hb, rfl, wb⟩ := DataW.trod_int Tryz.underlying3 h1
    obtain ⟨s, hc, rfl, wc⟩ := DataW.trod_int Tryz.underlying3 h2
    have e1 : a = .int .i64 k := by simpa using ha
    have e2 : b = .int .i64 l := by simpa using hb
    have e3 : c = .int .i64 s := by simpa using hc
    exact ⟨⟨k, l, s⟩, ⟨i64_of wa, i64_of wb, i64_of wc⟩, by rw [e1, e2, e3]; rfl⟩
set_option maxRecDepth 100000 in
theorem po_open (n : Nat) (cs : List Value) (x : DataW H × List MemPlace) (h : DataW.trod enc Tryz.prog w base spare held n 55 cs = some x) (hl : Light Tryz.prog 55 x.1) : ∃ p : Po, PoOk p ∧ cs = p.l := by
  obtain ⟨xs, m, _, rfl, hll, hlen, hf⟩ := DataW.trod_struct Tryz.underlying55 h
  have h0 := hf 0 _ rfl
  have h1 := hf 1 _ rfl
  rw [cellsPo] at hll
  match xs, hlen, cs, hll with
  | [y0, y1], _, [a, b], _ =>
    simp [cellsI] at h0 h1
    obtain ⟨k, ha, hk, wa⟩ := DataW.trod_int Tryz.underlying3 h0
    obtain ⟨l, hb, hk2, wb⟩ := DataW.trod_int Tryz.underlying3 h1
    have e1 : a = .int .i64 k := by simpa using ha
    have e2 : b = .int .i64 l := by simpa using hb
    exact ⟨⟨k, l⟩, ⟨i64_of wa, i64_of wb⟩, by rw [e1, e2]; rfl⟩
theorem sl_of {M : Type} {C : Nat} {E : M → List Value} {ao : Option Addr} {cap : Nat} {ms : List M} (h : ms = [] ∨ ∃ a, ao = some a ∧ ∀ i (hi : i < ms.length), ∀ j, j < C → w.cell? ((a.add (i * C)).add j) = (E ms[i])[j]?) : SlIs C E w (.slice ao ms.length cap) ms :=
  ⟨ao, cap, rfl, h⟩
/-- What a map file that came in is known to keep to. -/
structure FileOk (w : World) (v : Value) (n : List UInt8) (W Hh : Int) (cv pv : Value) (cs : List Cel) (ps : List Po) : Prop where
  eq : v = fileV (str n) W Hh cv pv
  csl : CelSl w cv cs
  psl : PoSl w pv ps
  cap : CapOk pv
  cap2 : CapOk cv
  nl : n.length ≤ 140737488351232
  cl : cs.length ≤ 140737488351232
  pl : ps.length ≤ 140737488351232
  wI : I64 W
  hI : I64 Hh
  po : ∀ p ∈ ps, PoOk p
set_option maxRecDepth 100000 in
theorem file_of {b : Nat} {v : Value} (hv : Value.okWide Tryz.prog w .any b 27 v) {d : DataW H} {p : List MemPlace} (h : DataW.Trod enc Tryz.prog w base spare held 27 v d p) (hl : Light Tryz.prog 27 d) :
    ∃ n W Hh cv pv cs ps, FileOk w v n W Hh cv pv cs ps := by
  unfold Value.okWide at hv
  rw [Tryz.underlying27] at hv
  obtain ⟨vs, rfl, hsz, _⟩ := hv
  obtain ⟨fuel, h⟩ := h
  replace h : DataW.trod enc Tryz.prog w base spare held fuel 27 vs.toList = some (d, p) := h
  obtain ⟨y0, y1, y2, m, hx, hlen, h0, h1, h2⟩ := Deep.trod_struct3 Tryz.underlying27 h
  injection hx with hx1 hx2
  subst hx1
  rw [cellsFile] at hlen
  obtain ⟨L, rfl⟩ : ∃ L : List Value, vs = L.toArray := ⟨vs.toList, by simp⟩
  simp only [] at hlen h0 h1 h2
  match L, hlen with
  | [va, vb, vc, vd, ve], _ =>
    rw [cellsStr] at h0
    rw [cellsMap] at h1
    rw [cellsPs] at h2
    simp only [List.drop_zero, List.drop_succ_cons, List.take_succ_cons, List.take_zero] at h0 h1 h2
    obtain ⟨nm, hn, rfl, _⟩ := DataW.trod_string Tryz.underlying9 h0
    obtain ⟨z0, z1, z2, m2, rfl, _, g0, g1, g2⟩ := Deep.trod_struct3 Tryz.underlying24 h1
    rw [cellsI] at g0 g1
    rw [cellsCs] at g2
    simp only [List.drop_zero, List.drop_succ_cons, List.take_succ_cons, List.take_zero] at g0 g1 g2
    obtain ⟨W, hW, rfl, wW⟩ := DataW.trod_int Tryz.underlying3 g0
    obtain ⟨Hh, hH, rfl, wH⟩ := DataW.trod_int Tryz.underlying3 g1
    have l0 : ∀ n ∈ DataW.weightsEach Tryz.prog [9, 24, 25] [DataW.lit (Lit.string nm.data.toList), .agg [(DataW.lit (Lit.int .i64 W)), (DataW.lit (Lit.int .i64 Hh)), z2.1], y2.1], n ≤ reachBytes := fun n hn => hl n (by simpa [DataW.weights, Tryz.underlying27] using hn)
    have ln := light_part l0 (j := 0) (t := 9) rfl rfl
    have lm := light_part l0 (j := 1) (t := 24) rfl rfl
    have lp := light_part l0 (j := 2) (t := 25) rfl rfl
    have l1 : ∀ n ∈ DataW.weightsEach Tryz.prog [3, 3, 22] [(DataW.lit (Lit.int .i64 W)), (DataW.lit (Lit.int .i64 Hh)), z2.1], n ≤ reachBytes := fun n hn => lm n (by simpa [DataW.weights, Tryz.underlying24] using hn)
    have lc := light_part l1 (j := 2) (t := 22) rfl rfl
    obtain ⟨cs, ao, cap, rfl, hok, hb, hcap, _, hc⟩ := open_list Cel.l CelOk Tryz.underlying22 cellsCel cel_open g2 lc
    obtain ⟨ps, po, pcap, rfl, pok, pb, hpcap, _, pc⟩ := open_list Po.l PoOk Tryz.underlying25 cellsPo po_open h2 lp
    rw [bytesCel] at hb
    rw [bytesPo] at pb
    have hs : nm.data.toList.length ≤ reachBytes := ln _ (by simp [DataW.weights, Tryz.underlying9])
    unfold reachBytes at hs hb pb
    obtain rfl : va = .string nm := by simpa using hn
    obtain rfl : vb = .int .i64 W := by simpa using hW
    obtain rfl : vc = .int .i64 Hh := by simpa using hH
    refine ⟨nm.data.toList, W, Hh, .slice ao cs.length cap, .slice po ps.length pcap, cs, ps, ⟨?_, sl_of hc, sl_of pc, fun a l c h => ?_, fun a l c h => ?_, by omega, by omega, by omega, i64_of wW, i64_of wH, pok⟩⟩
    · rw [str_of]; rfl
    · injection h with _ h1 h2; omega
    · injection h with _ h1 h2; omega
end
end Go.Proofs.YtmiceolkmiiahaaGreatDoor
