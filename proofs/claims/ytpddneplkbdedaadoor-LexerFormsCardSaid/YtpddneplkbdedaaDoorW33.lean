/- Tokens that came in; short; the walk of LexerJoins. -/
import Derived.Test.YtpddneplkbdedaaDoorW32
import Derived.Test.YtpddneplkbdedaaDoorOpen
import Derived.WideShapes
namespace Go.Proofs.YtpddneplkbdedaaDoor
open Go.RowKit
set_option linter.unusedVariables false
set_option linter.unusedSimpArgs false

/-- What a token that came in is known to keep to. -/
def TkOk (t : Tk) : Prop := t.2.2.length ≤ 140737488351232 ∧ t.2.1 ≤ 9223372036854775807
theorem cells3 : Tryd.prog.cellsOf 3 = 1 := by kernel_rfl
theorem cells9 : Tryd.prog.cellsOf 9 = 1 := by kernel_rfl
theorem cells34 : Tryd.prog.cellsOf 34 = 3 := by kernel_rfl
theorem bytes34 : Tryd.prog.bytesOf 34 = 32 := by kernel_rfl

section
variable {H : Type} {enc : TypeId × Value → H} {w : World} {base : Nat} {spare : Nat → Bool} {held : Bool}
set_option maxRecDepth 100000 in
theorem tk_open (n : Nat) (cs : List Value) (x : DataW H × List MemPlace) (h : DataW.trod enc Tryd.prog w base spare held n 34 cs = some x) (hl : Light Tryd.prog 34 x.1) : ∃ t : Tk, TkOk t ∧ cs = tkCells t := by
  obtain ⟨y0, y1, y2, m, rfl, hlen, h0, h1, h2⟩ := Deep.trod_struct3 Tryd.underlying34 h
  rw [cells34] at hlen
  match cs, hlen with
  | [a, b, c], _ =>
    dsimp only at h0 h1 h2
    rw [cells3] at h0 h1
    rw [cells9] at h2
    simp only [List.drop_zero, List.drop_succ_cons, List.take_succ_cons, List.take_zero] at h0 h1 h2
    obtain ⟨k, ha, rfl, _⟩ := DataW.trod_int Tryd.underlying3 h0
    obtain ⟨l, hb, rfl, wl⟩ := DataW.trod_int Tryd.underlying3 h1
    obtain ⟨s, hc, rfl, _⟩ := DataW.trod_string Tryd.underlying9 h2
    have hs : s.data.toList.length ≤ reachBytes := hl _ (by simp [DataW.weights, DataW.weightsEach, Tryd.underlying34])
    refine ⟨(k, l, s.data.toList), ⟨hs, ?_⟩, ?_⟩
    · have := bounds_i64 wl
      exact this.2
    · have e1 : a = .int .i64 k := by simpa using ha
      have e2 : b = .int .i64 l := by simpa using hb
      have e3 : c = .string s := by simpa using hc
      rw [e1, e2, e3]
      show _ = [_, _, Value.string (str s.data.toList)]
      rw [str_of]
theorem toks_open {fuel : Nat} {v : Value} {x : DataW H × List MemPlace} (h : DataW.trod enc Tryd.prog w base spare held fuel 23 [v] = some x) (hl : Light Tryd.prog 23 x.1) :
    ∃ ts : List Tk, TokSl w v ts ∧ (∀ t ∈ ts, TkOk t) ∧ ts.length ≤ 4398046511104 := by
  obtain ⟨ts, ao, cap, rfl, hok, hb, _, _, hc⟩ := open_list tkCells TkOk Tryd.underlying23 cells34 tk_open h hl
  rw [bytes34] at hb
  refine ⟨ts, ⟨ao, cap, rfl, ?_⟩, hok, by unfold reachBytes at hb; omega⟩
  rcases hc with hc | ⟨a, ha, hc⟩
  · exact Or.inl hc
  · refine Or.inr ⟨a, ha, fun i hi => ⟨?_, ?_, ?_⟩⟩
    · exact hc i hi 0 (by decide)
    · exact hc i hi 1 (by decide)
    · exact hc i hi 2 (by decide)
end

def sumT (ts : List Tk) : Nat := ts.foldl (fun n t => min (n + t.2.2.length) 10000) 0
def shortT (ts : List Tk) : Bool := decide (ts.length ≤ 3000) && decide (sumT ts ≤ 5000)
theorem foldl_ge (ts : List Tk) : ∀ n, n ≤ 10000 → n ≤ ts.foldl (fun n t => min (n + t.2.2.length) 10000) n ∧ ∀ t ∈ ts, min t.2.2.length 10000 ≤ ts.foldl (fun n t => min (n + t.2.2.length) 10000) n := by
  induction ts with
  | nil => intro n h; exact ⟨Nat.le_refl _, by simp⟩
  | cons t ts ih =>
    intro n h
    rw [List.foldl_cons]
    obtain ⟨h1, h2⟩ := ih (min (n + t.2.2.length) 10000) (Nat.min_le_right _ _)
    refine ⟨by omega, fun x hx => ?_⟩
    rcases List.mem_cons.1 hx with rfl | hx
    · omega
    · exact h2 x hx
theorem foldl_le (ts : List Tk) : ∀ n, n ≤ 10000 → ts.foldl (fun n t => min (n + t.2.2.length) 10000) n ≤ 10000 := by
  induction ts with
  | nil => intro n h; exact h
  | cons t ts ih => intro n h; rw [List.foldl_cons]; exact ih _ (Nat.min_le_right _ _)
theorem sum_le (ts : List Tk) (k : Nat) : sumT (ts.take k) ≤ 10000 := foldl_le _ 0 (by omega)
theorem short_fits (ts : List Tk) (hok : ∀ t ∈ ts, TkOk t) (h : shortT ts = true) : Fits ts ∧ ∀ t ∈ ts, t.2.2.length ≤ 5000 := by
  unfold shortT at h
  rw [Bool.and_eq_true, decide_eq_true_iff, decide_eq_true_iff] at h
  have h2 := (foldl_ge ts 0 (by omega)).2
  have h3 : ∀ t ∈ ts, t.2.2.length ≤ 5000 := fun t ht => by
    have := h2 t ht
    unfold sumT at h
    omega
  exact ⟨⟨by omega, fun i hi => ⟨by have := h3 _ (List.getElem_mem hi); omega, (hok _ (List.getElem_mem hi)).2⟩⟩, h3⟩

theorem short_at (a : Addr) (n ca : Nat) (ts : List Tk) (hn : ts.length = n) (hn1 : n ≤ 4398046511104) (hT : ∀ t ∈ ts, TkOk t) (w : World) (ha : TokAt w a ts) :
    Calls Tryd.prog 15 #[.slice (some a) n ca] w fun e w' => e = .returned (.bool (shortT ts)) ∧ w = w' := by
  have HN := Lib.hid hn; have HT := Lib.hid hT; have HA := Lib.hid ha
  clear hn hT ha
  go_enter Tryd.func15, Tryd.ntmps15
  go_wp2_with fail
  go_loop [3, 7] (fun v i => ∃ k : Nat, k ≤ n ∧ i = .int .i64 (k : Int) ∧ v = .int .i64 (sumT (ts.take k) : Int)) (fun _ i => n - (intOf i).toNat)
  case atStart => exact ⟨0, by omega, rfl, rfl⟩
  case round =>
    obtain ⟨k, hk, rfl, rfl⟩ := hrel
    have hs := sum_le ts k
    by_cases hkn : k < n
    · have hkl : k < ts.length := by have := HN.out; omega
      obtain ⟨c0, c1, c2⟩ := HA.out k hkl
      have htx := (HT.out _ (List.getElem_mem hkl)).1
      have hnx : sumT (ts.take (k + 1)) = min (sumT (ts.take k) + ts[k].2.2.length) 10000 := by
        unfold sumT
        rw [List.take_succ_eq_append_getElem hkl, List.foldl_append]
        rfl
      obtain ⟨⟨kd, ln, tx⟩, hx⟩ : ∃ t, ts[k] = t := ⟨_, rfl⟩
      rw [hx] at c0 c1 c2 htx hnx
      dsimp only at c0 c1 c2 htx hnx
      have hsz : (str tx).size = tx.length := str_size tx
      have hsz2 : (str tx).size ≤ 140737488351232 := by omega
      rw [← hsz] at hnx
      have HX := Lib.hid hnx
      clear hx hnx hsz htx
      generalize str tx = sx at *
      generalize sumT (ts.take k) = m at *
      go_wp2_with fail
      go_round
      case rel => exact ⟨k + 1, by omega, by go_num, by rw [HX.out]; go_num⟩
      case measure => simp [intOf]; omega
    · obtain rfl : k = n := by omega
      have hall : sumT (ts.take k) = sumT ts := by rw [List.take_of_length_le (by have := HN.out; omega)]
      have hr : shortT ts = (decide ((k : Int) ≤ 3000) && decide ((sumT (ts.take k) : Int) ≤ 5000)) := by
        unfold shortT
        rw [hall, HN.out]
        congr 1
        · apply bool_eq; simp; omega
        · apply bool_eq; simp; omega
      have HR := Lib.hid hr
      clear hall hr
      generalize sumT (ts.take k) = m at *
      rcases Nat.lt_or_ge 3000 k with h3 | h3
      · have g3 : (3000 : Int) < (k : Int) := by omega
        go_wp2_with fail
        go_ret
        exact ⟨by rw [HR.out, decide_eq_false (show ¬ (k : Int) ≤ 3000 by omega)]; rfl, rfl⟩
      · have g3 : (k : Int) ≤ 3000 := by omega
        rcases Nat.lt_or_ge 5000 m with h5 | h5
        · have g5 : (5000 : Int) < (m : Int) := by omega
          go_wp2_with fail
          go_ret
          exact ⟨by rw [HR.out, decide_eq_true (show (k : Int) ≤ 3000 by omega), decide_eq_false (show ¬ (m : Int) ≤ 5000 by omega)]; rfl, rfl⟩
        · have g5 : (m : Int) ≤ 5000 := by omega
          go_wp2_with fail
          go_ret
          exact ⟨by rw [HR.out, decide_eq_true (by omega), decide_eq_true (by omega)]; rfl, rfl⟩
theorem short_nil (ao : Option Addr) (ca : Nat) (w : World) : Calls Tryd.prog 15 #[.slice ao 0 ca] w fun e w' => e = .returned (.bool true) ∧ w = w' := by
  go_enter Tryd.func15, Tryd.ntmps15
  go_wp2_with fail
  refine wp_loop_rounds 1 ?_
  rw [rounds_succ]
  go_wp2_with fail
  go_ret
  exact ⟨rfl, rfl⟩
theorem short_any (v : Value) (ts : List Tk) (hn : ts.length ≤ 4398046511104) (hT : ∀ t ∈ ts, TkOk t) (w : World) (h : TokSl w v ts) : Calls Tryd.prog 15 #[v] w fun e w' => e = .returned (.bool (shortT ts)) ∧ w = w' := by
  obtain ⟨ao, ca, rfl, rfl | ⟨a, rfl, ha⟩⟩ := h
  · exact short_nil ao ca w
  · exact short_at a _ ca ts rfl hn hT w ha

theorem TokSl.below {w w' : World} {v : Value} {ts : List Tk} (h : TokSl w v ts) (hb : Below w.heap.size w w') : TokSl w' v ts := by
  obtain ⟨ao, ca, rfl, h | ⟨a, ha, h⟩⟩ := h
  · exact ⟨ao, ca, rfl, Or.inl h⟩
  · exact ⟨ao, ca, rfl, Or.inr ⟨a, ha, h.below hb⟩⟩

theorem w_joins (v : Value) (ts : List Tk) (hn : ts.length ≤ 4398046511104) (hT : ∀ t ∈ ts, TkOk t) (w : World) (hc : Ctx w) (h : TokSl w v ts) : Calls Tryd.prog 6 #[v] w (Yes w) := by
  have HC := Lib.hid hc; have HV := Lib.hid h
  have HS := Lib.hid (short_any v ts hn hT w h)
  clear hc h
  cases hs : shortT ts
  · rw [hs] at HS
    clear hs
    go_enter Tryd.func6, Tryd.ntmps6
    go_wp2_with fail
    refine HS.out.mono ?_
    rintro e w1 ⟨rfl, rfl⟩
    go_wp2_with fail
    refine (alive_any _ HC.out).mono ?_
    rintro e w1 ⟨rfl, hb⟩
    go_wp2_with fail
    go_ret
    exact ⟨rfl, hb⟩
  · obtain ⟨hf, _⟩ := short_fits ts hT hs
    rw [hs] at HS
    clear hs
    obtain ⟨⟨R, er⟩, hR⟩ : ∃ R, joinL ts = R := ⟨_, rfl⟩
    have W1 := fun w hc h => join_any v ts hf w hc h
    have W2 := fun w h => rjoin_any v ts hf w h
    rw [hR] at W1 W2
    have H1 := Lib.hid W1; have H2 := Lib.hid W2
    have t1 : ((str R).toList == (str R).toList) = true := BEq.rfl
    have t2 : (er == er) = true := BEq.rfl
    clear W1 W2 hR hf hT
    unfold JPost at H1 H2
    dsimp only at H1 H2
    generalize str R = sR at *
    go_enter Tryd.func6, Tryd.ntmps6
    go_wp2_with fail
    refine HS.out.mono ?_
    rintro e w1 ⟨rfl, rfl⟩
    go_wp2_with fail
    refine (H1.out _ HC.out HV.out).mono ?_
    rintro e w1 ⟨rfl, hb1⟩
    have HV1 := Lib.hid (HV.out.below hb1)
    have HB1 := Lib.hid hb1
    have hz1 := hb1.size
    clear hb1
    go_wp2_with fail
    refine (H2.out _ HV1.out).mono ?_
    rintro e w2 ⟨rfl, hb2⟩
    have HB2 := Lib.hid (HB1.out.trans (hb2.mono hz1))
    have hz2 := HB2.out.size
    clear hb2
    go_wp2_with fail
    refine (alive_any _ (HC.out.below HB2.out)).mono ?_
    rintro e w3 ⟨rfl, hb3⟩
    go_wp2_with fail
    go_ret
    exact ⟨rfl, HB2.out.trans (hb3.mono hz2)⟩
set_option maxRecDepth 100000 in
theorem toks_of {H : Type} {enc : TypeId × Value → H} {base b : Nat} {spare : Nat → Bool} {held : Bool} {w : World} {v : Value} {d : DataW H} {p : List MemPlace} (hv : Value.okWide Tryd.prog w .any b 23 v) (h : DataW.Trod enc Tryd.prog w base spare held 23 v d p) (hl : Light Tryd.prog 23 d) :
    ∃ ts : List Tk, TokSl w v ts ∧ (∀ t ∈ ts, TkOk t) ∧ ts.length ≤ 4398046511104 := by
  obtain ⟨fuel, hf⟩ := h
  obtain ⟨a, len, cap, rfl⟩ := WideShapes.okWide_slice Tryd.underlying23 hv
  exact toks_open hf hl
set_option maxRecDepth 100000 in
theorem w_LexerJoins {H : Type} {enc : TypeId × Value → H} {base b : Nat} {spare : Nat → Bool} {held : Bool} (w : World) (v : Value) (hv : Value.okWide Tryd.prog w .any b 23 v) {d : DataW H} {p : List MemPlace} (h : DataW.Trod enc Tryd.prog w base spare held 23 v d p) (hl : Light Tryd.prog 23 d) (hc : Ctx w) : Calls Tryd.prog 6 #[v] w (Yes w) := by
  obtain ⟨ts, h1, h2, h3⟩ := toks_of hv h hl
  exact w_joins v ts h3 h2 w hc h1
end Go.Proofs.YtpddneplkbdedaaDoor
