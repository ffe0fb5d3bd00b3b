/- Join of the lexer: what it computes, and its walk. -/
import Derived.Test.YtpddneplkbdedaaDoorW26
namespace Go.Proofs.YtpddneplkbdedaaDoor
open Go.RowKit
set_option linter.unusedVariables false
set_option linter.unusedSimpArgs false

def okT : Int → List Tk → Bool
  | _, [] => true
  | ln, t :: ts => validT t.1 t.2.2 && !decide (t.2.1 < ln) && okT t.2.1 ts
def piece (b : Bool) (line : Int) (t : Tk) : List UInt8 :=
  List.replicate (t.2.1 - line).toNat 10 ++ (if b && t.2.1 == line then [32] else []) ++ (if t.1 = 3 then 34 :: (t.2.2 ++ [34]) else t.2.2)
def joinB : Bool → Int → List UInt8 → List Tk → List UInt8 × Int
  | _, _, acc, [] => (acc, 0)
  | b, line, acc, t :: ts => if 4096 < t.2.1 - line then ([], 2) else if 4096 < (acc ++ piece b line t).length then ([], 2) else joinB true t.2.1 (acc ++ piece b line t) ts
def joinL (ts : List Tk) : List UInt8 × Int := if okT 1 ts = true then joinB false 1 [] ts else ([], 1)

theorem TokAt.below {w w' : World} {a : Addr} {ts : List Tk} (h : TokAt w a ts) (hb : Below w.heap.size w w') : TokAt w' a ts := fun i hi => by
  obtain ⟨h0, h1, h2⟩ := h i hi
  exact ⟨cell_below hb h0, cell_below hb h1, cell_below hb h2⟩
theorem tok_cells {w : World} {i : Nat} {k l : Int} {s : ByteArray} (h : w.heap[i]? = some (tokO k l s)) :
    w.cell? ⟨i, 0, none⟩ = some (.int .i64 k) ∧ w.cell? ⟨i, 1, none⟩ = some (.int .i64 l) ∧ w.cell? ⟨i, 2, none⟩ = some (.string s) := by
  refine ⟨?_, ?_, ?_⟩ <;> (rw [Lib.cell_of_heap h]; rfl)
theorem tok_new (w : World) (o : Obj) : (w.alloc o).heap[w.heap.size]? = some o := heap_alloc_new w o
theorem keepT {B b i : Nat} {w w' : World} {k l : Int} {s : ByteArray} (hK : Keeps B b w w') (h : w.heap[i]? = some (tokO k l s)) (hi : i ≠ b) : w'.heap[i]? = some (tokO k l s) :=
  hK.2 i _ h (fun e => hi (Option.some.inj e)) (fun c fz e => by injection e with _ e _; cases e)
theorem belowT {i : Nat} {w w' : World} {k l : Int} {s : ByteArray} (hb : Below w.heap.size w w') (h : w.heap[i]? = some (tokO k l s)) : w'.heap[i]? = some (tokO k l s) := by
  have hlt : i < w.heap.size := by
    rcases Nat.lt_or_ge i w.heap.size with h' | h'
    · exact h'
    · simp [Array.getElem?_eq_none h'] at h
  rw [hb.block i hlt]; exact h
theorem rep_g (g : Int) (h0 : 0 ≤ g) (h1 : g ≤ 1000000) (L : List UInt8) (hL : L = List.replicate g.toNat 10) (w : World) :
    Calls Tryd.prog 29 #[.string ⟨#[10]⟩, .int .i64 g] w fun e w' => e = .returned (.string (str L)) ∧ Below w.heap.size w w' := by
  have := rep_l g.toNat (by omega) w
  rw [← hL, show ((g.toNat : Nat) : Int) = g by omega] at this
  exact this
theorem wb_e (B b : Nat) (l r : List UInt8) (c : UInt8) (w : World) (hr : l ++ [c] = r) (h : IB B b l w) (hl : l.length ≤ 1000000) :
    Calls Tryd.prog 30 #[.pointer (some ⟨b, 0, none⟩), .int .u8 (c.toNat : Int)] w fun e w' => e = .returned .nilIface ∧ IB B b r w' ∧ Keeps B b w w' := by rw [← hr]; exact wb_l B b l c w h hl
theorem wb32 (B b : Nat) (l r : List UInt8) (w : World) (hr : l ++ [32] = r) (h : IB B b l w) (hl : l.length ≤ 1000000) :
    Calls Tryd.prog 30 #[.pointer (some ⟨b, 0, none⟩), .int .u8 32] w fun e w' => e = .returned .nilIface ∧ IB B b r w' ∧ Keeps B b w w' := wb_e B b l r 32 w hr h hl
theorem wb34 (B b : Nat) (l r : List UInt8) (w : World) (hr : l ++ [34] = r) (h : IB B b l w) (hl : l.length ≤ 1000000) :
    Calls Tryd.prog 30 #[.pointer (some ⟨b, 0, none⟩), .int .u8 34] w fun e w' => e = .returned .nilIface ∧ IB B b r w' ∧ Keeps B b w w' := wb_e B b l r 34 w hr h hl
theorem ws_e (B b : Nat) (l s r : List UInt8) (w : World) (hr : l ++ s = r) (h : IB B b l w) (hl : l.length ≤ 1000000) (hs : s.length ≤ 1000000) :
    Calls Tryd.prog 28 #[.pointer (some ⟨b, 0, none⟩), .string (str s)] w fun e w' => e = .returned (.tuple #[.int .i64 s.length, .nilIface]) ∧ IB B b r w' ∧ Keeps B b w w' := by rw [← hr]; exact ws_l B b l s w h hl hs

def JPost (w : World) (R : List UInt8 × Int) (e : Ending) (w' : World) : Prop := e = .returned (.tuple #[.string (str R.1), .int .i64 R.2]) ∧ Below w.heap.size w w'
def J1 (w : World) (n : Nat) (ts : List Tk) (i j : Value) (wr : World) : Prop :=
  ∃ (k : Nat) (line : Int), i = .int .i64 line ∧ j = .int .i64 (k : Int) ∧ k ≤ n ∧ 1 ≤ line ∧ okT 1 ts = okT line (ts.drop k) ∧ Below w.heap.size w wr
def J2 (w wo : World) (n : Nat) (ts : List Tk) (R : List UInt8 × Int) (i j : Value) (wr : World) : Prop :=
  ∃ (k : Nat) (line : Int) (acc : List UInt8), i = .int .i64 line ∧ j = .int .i64 (k : Int) ∧ k ≤ n ∧ 1 ≤ line ∧ acc.length ≤ 4096 ∧ joinB (decide (0 < k)) line acc (ts.drop k) = R ∧ okT line (ts.drop k) = true ∧
    IB wo.heap.size wo.heap.size acc wr ∧ Below wo.heap.size wo wr

set_option maxRecDepth 100000 in
set_option maxHeartbeats 16000000 in
theorem join_at (a : Addr) (n ca : Nat) (ts : List Tk) (hn : ts.length = n) (hn1 : n ≤ 1000000) (hT : ∀ i (h : i < ts.length), ts[i].2.2.length ≤ 100000 ∧ ts[i].2.1 ≤ 9223372036854775807) (w : World) (hc : Ctx w) (ha : TokAt w a ts) :
    Calls Tryd.prog 16 #[.slice (some a) n ca] w (JPost w (joinL ts)) := by
  obtain ⟨R, hR⟩ : ∃ R, joinL ts = R := ⟨_, rfl⟩
  rw [hR]
  have HR := Lib.hid hR; have HN := Lib.hid hn; have HTX := Lib.hid hT; have HC := Lib.hid hc; have HA := Lib.hid ha
  have h0 := Lib.hid (show J1 w n ts (.int .i64 1) (.int .i64 0) w from ⟨0, 1, rfl, rfl, by omega, by omega, by simp, Below.refl _ _⟩)
  clear hR hn hT hc ha
  go_enter Tryd.func16, Tryd.ntmps16
  go_wp2_with fail
  go_loopw [4, 12] (fun i j wr => J1 w n ts i j wr) (fun _ j _ => n - (intOf j).toNat)
  case atStart => exact h0.out
  case round =>
    obtain ⟨k, line, rfl, rfl, hk, hl1, hok, hbel⟩ := hrel
    have HE := Lib.hid hbel
    have hz := hbel.size
    have HOK := Lib.hid hok
    clear hok hbel
    by_cases hkn : k < n
    · have hkl : k < ts.length := by have := HN.out; omega
      have hd : ts.drop k = ts[k] :: ts.drop (k + 1) := List.drop_eq_getElem_cons hkl
      obtain ⟨c0, c1, c2⟩ := (TokAt.below HA.out (HE.out.mono (Nat.le_refl _))) k hkl
      have htx := (HTX.out k hkl).1
      obtain ⟨⟨kd, ln, tx⟩, hx⟩ : ∃ t, ts[k] = t := ⟨_, rfl⟩
      rw [hx] at c0 c1 c2 htx hd
      dsimp only at c0 c1 c2 htx
      have e1 : (0 : Int) ≤ (k : Int) := by omega
      have e2 : (k : Int) < (n : Int) := by omega
      have hV := Lib.hid (fun w (hw : Ctx w) => valid_any kd ln tx htx w hw)
      have hok : okT 1 ts = (validT kd tx && !decide (ln < line) && okT ln (ts.drop (k + 1))) := by rw [HOK.out, hd, okT]
      obtain ⟨b, hb⟩ : ∃ b, validT kd tx = b := ⟨_, rfl⟩
      rw [hb] at hV hok
      clear hx hd hb
      cases b
      · have hRR := Lib.hid (show R = ([], 1) by rw [← HR.out]; unfold joinL; rw [hok]; rfl)
        clear hok
        generalize str tx = sx at *
        go_wp2_with fail
        refine (hV.out _ (HC.out.below ((HE.out.mono (Nat.le_refl _)).trans (((Below.refl _ _).alloc (Nat.le_refl _) _).mono hz)))).mono ?_
        rintro e w1 ⟨rfl, hb1⟩
        go_wp2_with fail
        go_ret2
        rw [hRR.out]
        exact ⟨rfl, (HE.out.alloc (by omega) _).trans (hb1.mono (by rw [tok_size]; omega))⟩
      · by_cases hln : ln < line
        · have hRR := Lib.hid (show R = ([], 1) by rw [← HR.out]; unfold joinL; rw [hok, decide_eq_true hln]; rfl)
          clear hok
          generalize str tx = sx at *
          go_wp2_with fail
          refine (hV.out _ (HC.out.below ((HE.out.mono (Nat.le_refl _)).trans (((Below.refl _ _).alloc (Nat.le_refl _) _).mono hz)))).mono ?_
          rintro e w1 ⟨rfl, hb1⟩
          obtain ⟨⟨d0, d1, d2⟩, ⟨f0, f1, f2⟩, hz1⟩ := tokO_kept hb1
          go_wp2_with fail
          go_ret2
          rw [hRR.out]
          exact ⟨rfl, (HE.out.alloc (by omega) _).trans (hb1.mono (by rw [tok_size]; omega))⟩
        · have hst := Lib.hid (show ∀ wr', Below w.heap.size w wr' → J1 w n ts (.int .i64 ln) (.int .i64 ((k : Int) + 1)) wr' from
            fun wr' hb => ⟨k + 1, ln, rfl, by go_num, by omega, by omega, by rw [hok, decide_eq_false hln]; rfl, hb⟩)
          clear hok
          generalize str tx = sx at *
          go_wp2_with fail
          refine (hV.out _ (HC.out.below ((HE.out.mono (Nat.le_refl _)).trans (((Below.refl _ _).alloc (Nat.le_refl _) _).mono hz)))).mono ?_
          rintro e w1 ⟨rfl, hb1⟩
          obtain ⟨⟨d0, d1, d2⟩, ⟨f0, f1, f2⟩, hz1⟩ := tokO_kept hb1
          go_wp2_with fail
          go_roundw
          case rel => exact hst.out _ ((HE.out.alloc (by omega) _).trans (hb1.mono (by rw [tok_size]; omega)))
          case measure => simp [intOf]; omega
    · have hok : okT 1 ts = true := by rw [HOK.out, List.drop_of_length_le (by have := HN.out; omega)]; rfl
      have hRR : joinB false 1 [] ts = R := by rw [← HR.out]; unfold joinL; rw [if_pos hok]
      obtain ⟨wo, rfl⟩ : ∃ wo : World, wo = wr := ⟨_, rfl⟩
      have h2 := Lib.hid (show J2 w wo n ts R (.int .i64 1) (.int .i64 0) (wo.alloc (.cells #[.pointer none, .slice none 0 0] 45)) from
        ⟨0, 1, [], rfl, rfl, by omega, by omega, by simp, by simpa using hRR, by simpa using hok, fresh_IB wo, (Below.refl _ _).alloc (Nat.le_refl _) _⟩)
      clear hok hRR
      have HZ := Lib.hid (HE.out.size)
      have hAo := Lib.hid (HA.out.below HE.out)
      go_wp2_with fail
      go_loopw [4, 30] (fun i j wr => J2 w wo n ts R i j wr) (fun _ j _ => n - (intOf j).toNat)
      case atStart => exact h2.out
      case round =>
        clear h2 HOK hkn
        obtain ⟨k, line, acc, rfl, rfl, hk, hl1, hacc, hR, hok, hI, hbel⟩ := hrel
        have HB := Lib.hid hbel
        have HI := Lib.hid hI
        have hz2 := hbel.size
        clear hI hbel
        by_cases hkn : k < n
        · have hkl : k < ts.length := by have := HN.out; omega
          have hd : ts.drop k = ts[k] :: ts.drop (k + 1) := List.drop_eq_getElem_cons hkl
          obtain ⟨c0, c1, c2⟩ := (hAo.out.below HB.out) k hkl
          have htx := (HTX.out k hkl).1
          have hlm := (HTX.out k hkl).2
          obtain ⟨⟨kd, ln, tx⟩, hx⟩ : ∃ t, ts[k] = t := ⟨_, rfl⟩
          rw [hx] at c0 c1 c2 htx hd hlm
          dsimp only at c0 c1 c2 htx hlm
          have e1 : (0 : Int) ≤ (k : Int) := by omega
          have e2 : (k : Int) < (n : Int) := by omega
          rw [hd, joinB] at hR
          rw [hd, okT, Bool.and_eq_true, Bool.and_eq_true] at hok
          dsimp only at hR hok
          have hll : line ≤ ln := by
            have := hok.1.2
            simp at this
            omega
          have hok2 := Lib.hid hok.2
          have h0k : (0 : Nat) ≤ k := Nat.zero_le _
          clear hx hd hok
          by_cases hg : 4096 < ln - line
          · rw [if_pos hg] at hR
            have hRR := Lib.hid hR.symm
            clear hR
            generalize str tx = sx at *
            go_wp2_with fail
            go_ret2
            rw [hRR.out]
            exact ⟨rfl, HE.out.trans ((HB.out.alloc (by omega) _).mono HZ.out)⟩
          · rw [if_neg hg] at hR
            have hg1 : ln - line ≤ 4096 := by omega
            have hg0 : 0 ≤ ln - line := by omega
            obtain ⟨L, hL⟩ : ∃ L, L = List.replicate (ln - line).toNat (10 : UInt8) := ⟨_, rfl⟩
            have hLl : L.length ≤ 4096 := by rw [hL, List.length_replicate]; omega
            have HRep := Lib.hid (fun w => rep_g (ln - line) hg0 (by omega) L hL w)
            have hpc : ∀ b, acc ++ piece b line (kd, ln, tx) = acc ++ L ++ (if b && ln == line then [32] else []) ++ (if kd = 3 then 34 :: (tx ++ [34]) else tx) := fun b => by
              unfold piece
              rw [← hL]
              simp
            rw [hpc] at hR
            have hbk : wo.heap.size < wr.heap.size := by
              rcases HI.out.1 with h | h
              · exact h.lt
              · exact h.lt
            clear hpc hL hg
            have HIb : ∀ (W : World), Below (wr.alloc (tokO kd ln (str tx))).heap.size (wr.alloc (tokO kd ln (str tx))) W → IB wo.heap.size wo.heap.size acc W :=
              fun W hW => (HI.out.below ((Below.refl _ _).alloc (Nat.le_refl _) _)).below hW
            have HIB := Lib.hid HIb
            clear HIb
            by_cases hk0 : k = 0
            · have hk2 : (k : Int) ≤ 0 := by omega
              have hkd0 : decide (0 < k) = false := decide_eq_false (by omega)
              rw [hkd0, Bool.false_and, show (if (false = true) then [32] else ([] : List UInt8)) = [] from rfl] at hR
              clear hk0 hkd0
              by_cases hkd : kd = 3
              · subst hkd
                rw [if_pos rfl] at hR
                obtain ⟨A1, hA1⟩ : ∃ A, acc ++ L = A := ⟨_, rfl⟩
                have hA1l : A1.length ≤ 9000 := by rw [← hA1, List.length_append]; omega
                rw [hA1] at hR
                rw [List.append_nil] at hR
                obtain ⟨A3, hA3⟩ : ∃ A, A1 ++ [34] = A := ⟨_, rfl⟩
                have hA3l : A3.length ≤ 9002 := by rw [← hA3, List.length_append, List.length_singleton]; omega
                obtain ⟨A4, hA4⟩ : ∃ A, A3 ++ tx = A := ⟨_, rfl⟩
                have hA4l : A4.length ≤ 109002 := by rw [← hA4, List.length_append]; omega
                obtain ⟨A5, hA5⟩ : ∃ A, A4 ++ [34] = A := ⟨_, rfl⟩
                have hA5l : A5.length ≤ 109003 := by rw [← hA5, List.length_append, List.length_singleton]; omega
                rw [show A1 ++ 34 :: (tx ++ [34]) = A5 by rw [← hA5, ← hA4, ← hA3]; simp] at hR
                have HA1 := Lib.hid hA1
                have HA3 := Lib.hid hA3
                have HA4 := Lib.hid hA4
                have HA5 := Lib.hid hA5
                clear hA1 hA3 hA4 hA5
                by_cases hlen : 4096 < A5.length
                · rw [if_pos hlen] at hR
                  have hRR := Lib.hid hR.symm
                  clear hR hok2
                  go_wp2_with fail
                  refine (HRep.out _).mono ?_
                  rintro e w1 ⟨rfl, hb1⟩
                  have hI1 := Lib.hid (HIB.out _ hb1)
                  have hK1 := Lib.hid (show Below wo.heap.size wo w1 from (HB.out.alloc (by omega) _).trans (hb1.mono (by rw [tok_size]; omega)))
                  have hT1 := Lib.hid (belowT hb1 (tok_new wr (tokO 3 ln (str tx))))
                  obtain ⟨t10, t11, t12⟩ := tok_cells hT1.out
                  clear hb1
                  go_wp2_with fail
                  refine (ws_e _ _ acc L A1 _ HA1.out hI1.out (by omega) (by omega)).mono ?_
                  rintro e w2 ⟨rfl, hi, hkp⟩
                  have hI2 := Lib.hid hi
                  have hK2 := Lib.hid (hK1.out.trans hkp.1)
                  have hT2 := Lib.hid (keepT hkp hT1.out (by omega))
                  clear hi hkp
                  obtain ⟨t20, t21, t22⟩ := tok_cells hT2.out
                  go_wp2_with fail
                  refine (wb34 _ _ A1 A3 _ HA3.out hI2.out (by omega)).mono ?_
                  rintro e w3 ⟨rfl, hi, hkp⟩
                  have hI3 := Lib.hid hi
                  have hK3 := Lib.hid (hK2.out.trans hkp.1)
                  have hT3 := Lib.hid (keepT hkp hT2.out (by omega))
                  clear hi hkp
                  obtain ⟨t30, t31, t32⟩ := tok_cells hT3.out
                  go_wp2_with fail
                  refine (ws_e _ _ A3 tx A4 _ HA4.out hI3.out (by omega) (by omega)).mono ?_
                  rintro e w4 ⟨rfl, hi, hkp⟩
                  have hI4 := Lib.hid hi
                  have hK4 := Lib.hid (hK3.out.trans hkp.1)
                  have hT4 := Lib.hid (keepT hkp hT3.out (by omega))
                  clear hi hkp
                  obtain ⟨t40, t41, t42⟩ := tok_cells hT4.out
                  go_wp2_with fail
                  refine (wb34 _ _ A4 A5 _ HA5.out hI4.out (by omega)).mono ?_
                  rintro e w5 ⟨rfl, hi, hkp⟩
                  have hI5 := Lib.hid hi
                  have hK5 := Lib.hid (hK4.out.trans hkp.1)
                  have hT5 := Lib.hid (keepT hkp hT4.out (by omega))
                  clear hi hkp
                  obtain ⟨t50, t51, t52⟩ := tok_cells hT5.out
                  go_wp2_with fail
                  refine (len_l _ _ A5 _ hI5.out).mono ?_
                  rintro e wz ⟨rfl, rfl⟩
                  go_wp2_with fail
                  go_ret2
                  rw [hRR.out]
                  exact ⟨rfl, HE.out.trans (hK5.out.mono HZ.out)⟩
                · rw [if_neg hlen] at hR
                  have hst := Lib.hid (show ∀ wr', IB wo.heap.size wo.heap.size A5 wr' → Below wo.heap.size wo wr' → J2 w wo n ts R (.int .i64 ln) (.int .i64 ((k : Int) + 1)) wr' from
                    fun wr' hi hb => ⟨k + 1, ln, A5, rfl, by go_num, by omega, by omega, by omega, by rw [decide_eq_true (by omega)]; exact hR, hok2.out, hi, hb⟩)
                  clear hR hok2
                  go_wp2_with fail
                  refine (HRep.out _).mono ?_
                  rintro e w1 ⟨rfl, hb1⟩
                  have hI1 := Lib.hid (HIB.out _ hb1)
                  have hK1 := Lib.hid (show Below wo.heap.size wo w1 from (HB.out.alloc (by omega) _).trans (hb1.mono (by rw [tok_size]; omega)))
                  have hT1 := Lib.hid (belowT hb1 (tok_new wr (tokO 3 ln (str tx))))
                  obtain ⟨t10, t11, t12⟩ := tok_cells hT1.out
                  clear hb1
                  go_wp2_with fail
                  refine (ws_e _ _ acc L A1 _ HA1.out hI1.out (by omega) (by omega)).mono ?_
                  rintro e w2 ⟨rfl, hi, hkp⟩
                  have hI2 := Lib.hid hi
                  have hK2 := Lib.hid (hK1.out.trans hkp.1)
                  have hT2 := Lib.hid (keepT hkp hT1.out (by omega))
                  clear hi hkp
                  obtain ⟨t20, t21, t22⟩ := tok_cells hT2.out
                  go_wp2_with fail
                  refine (wb34 _ _ A1 A3 _ HA3.out hI2.out (by omega)).mono ?_
                  rintro e w3 ⟨rfl, hi, hkp⟩
                  have hI3 := Lib.hid hi
                  have hK3 := Lib.hid (hK2.out.trans hkp.1)
                  have hT3 := Lib.hid (keepT hkp hT2.out (by omega))
                  clear hi hkp
                  obtain ⟨t30, t31, t32⟩ := tok_cells hT3.out
                  go_wp2_with fail
                  refine (ws_e _ _ A3 tx A4 _ HA4.out hI3.out (by omega) (by omega)).mono ?_
                  rintro e w4 ⟨rfl, hi, hkp⟩
                  have hI4 := Lib.hid hi
                  have hK4 := Lib.hid (hK3.out.trans hkp.1)
                  have hT4 := Lib.hid (keepT hkp hT3.out (by omega))
                  clear hi hkp
                  obtain ⟨t40, t41, t42⟩ := tok_cells hT4.out
                  go_wp2_with fail
                  refine (wb34 _ _ A4 A5 _ HA5.out hI4.out (by omega)).mono ?_
                  rintro e w5 ⟨rfl, hi, hkp⟩
                  have hI5 := Lib.hid hi
                  have hK5 := Lib.hid (hK4.out.trans hkp.1)
                  have hT5 := Lib.hid (keepT hkp hT4.out (by omega))
                  clear hi hkp
                  obtain ⟨t50, t51, t52⟩ := tok_cells hT5.out
                  go_wp2_with fail
                  refine (len_l _ _ A5 _ hI5.out).mono ?_
                  rintro e wz ⟨rfl, rfl⟩
                  go_wp2_with fail
                  go_roundw
                  case rel => exact hst.out _ hI5.out hK5.out
                  case measure => simp [intOf]; omega
              · rw [if_neg hkd] at hR
                have hkb : (kd == 3) = false := by simpa using hkd
                clear hkd
                obtain ⟨A1, hA1⟩ : ∃ A, acc ++ L = A := ⟨_, rfl⟩
                have hA1l : A1.length ≤ 9000 := by rw [← hA1, List.length_append]; omega
                rw [hA1] at hR
                rw [List.append_nil] at hR
                obtain ⟨A3, hA3⟩ : ∃ A, A1 ++ tx = A := ⟨_, rfl⟩
                have hA3l : A3.length ≤ 109002 := by rw [← hA3, List.length_append]; omega
                rw [hA3] at hR
                have HA1 := Lib.hid hA1
                have HA3 := Lib.hid hA3
                clear hA1 hA3
                by_cases hlen : 4096 < A3.length
                · rw [if_pos hlen] at hR
                  have hRR := Lib.hid hR.symm
                  clear hR hok2
                  go_wp2_with fail
                  refine (HRep.out _).mono ?_
                  rintro e w1 ⟨rfl, hb1⟩
                  have hI1 := Lib.hid (HIB.out _ hb1)
                  have hK1 := Lib.hid (show Below wo.heap.size wo w1 from (HB.out.alloc (by omega) _).trans (hb1.mono (by rw [tok_size]; omega)))
                  have hT1 := Lib.hid (belowT hb1 (tok_new wr (tokO kd ln (str tx))))
                  obtain ⟨t10, t11, t12⟩ := tok_cells hT1.out
                  clear hb1
                  go_wp2_with fail
                  refine (ws_e _ _ acc L A1 _ HA1.out hI1.out (by omega) (by omega)).mono ?_
                  rintro e w2 ⟨rfl, hi, hkp⟩
                  have hI2 := Lib.hid hi
                  have hK2 := Lib.hid (hK1.out.trans hkp.1)
                  have hT2 := Lib.hid (keepT hkp hT1.out (by omega))
                  clear hi hkp
                  obtain ⟨t20, t21, t22⟩ := tok_cells hT2.out
                  go_wp2_with fail
                  refine (ws_e _ _ A1 tx A3 _ HA3.out hI2.out (by omega) (by omega)).mono ?_
                  rintro e w3 ⟨rfl, hi, hkp⟩
                  have hI3 := Lib.hid hi
                  have hK3 := Lib.hid (hK2.out.trans hkp.1)
                  have hT3 := Lib.hid (keepT hkp hT2.out (by omega))
                  clear hi hkp
                  obtain ⟨t30, t31, t32⟩ := tok_cells hT3.out
                  go_wp2_with fail
                  refine (len_l _ _ A3 _ hI3.out).mono ?_
                  rintro e wz ⟨rfl, rfl⟩
                  go_wp2_with fail
                  go_ret2
                  rw [hRR.out]
                  exact ⟨rfl, HE.out.trans (hK3.out.mono HZ.out)⟩
                · rw [if_neg hlen] at hR
                  have hst := Lib.hid (show ∀ wr', IB wo.heap.size wo.heap.size A3 wr' → Below wo.heap.size wo wr' → J2 w wo n ts R (.int .i64 ln) (.int .i64 ((k : Int) + 1)) wr' from
                    fun wr' hi hb => ⟨k + 1, ln, A3, rfl, by go_num, by omega, by omega, by omega, by rw [decide_eq_true (by omega)]; exact hR, hok2.out, hi, hb⟩)
                  clear hR hok2
                  go_wp2_with fail
                  refine (HRep.out _).mono ?_
                  rintro e w1 ⟨rfl, hb1⟩
                  have hI1 := Lib.hid (HIB.out _ hb1)
                  have hK1 := Lib.hid (show Below wo.heap.size wo w1 from (HB.out.alloc (by omega) _).trans (hb1.mono (by rw [tok_size]; omega)))
                  have hT1 := Lib.hid (belowT hb1 (tok_new wr (tokO kd ln (str tx))))
                  obtain ⟨t10, t11, t12⟩ := tok_cells hT1.out
                  clear hb1
                  go_wp2_with fail
                  refine (ws_e _ _ acc L A1 _ HA1.out hI1.out (by omega) (by omega)).mono ?_
                  rintro e w2 ⟨rfl, hi, hkp⟩
                  have hI2 := Lib.hid hi
                  have hK2 := Lib.hid (hK1.out.trans hkp.1)
                  have hT2 := Lib.hid (keepT hkp hT1.out (by omega))
                  clear hi hkp
                  obtain ⟨t20, t21, t22⟩ := tok_cells hT2.out
                  go_wp2_with fail
                  refine (ws_e _ _ A1 tx A3 _ HA3.out hI2.out (by omega) (by omega)).mono ?_
                  rintro e w3 ⟨rfl, hi, hkp⟩
                  have hI3 := Lib.hid hi
                  have hK3 := Lib.hid (hK2.out.trans hkp.1)
                  have hT3 := Lib.hid (keepT hkp hT2.out (by omega))
                  clear hi hkp
                  obtain ⟨t30, t31, t32⟩ := tok_cells hT3.out
                  go_wp2_with fail
                  refine (len_l _ _ A3 _ hI3.out).mono ?_
                  rintro e wz ⟨rfl, rfl⟩
                  go_wp2_with fail
                  go_roundw
                  case rel => exact hst.out _ hI3.out hK3.out
                  case measure => simp [intOf]; omega
            · have hk1 : 0 < k := by omega
              have hk2 : (0 : Int) < (k : Int) := by omega
              rw [decide_eq_true hk1, Bool.true_and] at hR
              by_cases hlq : ln = line
              · have hlb : (ln == line) = true := by simpa using hlq
                rw [hlb, show (if (true = true) then [32] else ([] : List UInt8)) = [32] from rfl] at hR
                clear hlq
                by_cases hkd : kd = 3
                · subst hkd
                  rw [if_pos rfl] at hR
                  obtain ⟨A1, hA1⟩ : ∃ A, acc ++ L = A := ⟨_, rfl⟩
                  have hA1l : A1.length ≤ 9000 := by rw [← hA1, List.length_append]; omega
                  rw [hA1] at hR
                  obtain ⟨A2, hA2⟩ : ∃ A, A1 ++ [32] = A := ⟨_, rfl⟩
                  have hA2l : A2.length ≤ 9001 := by rw [← hA2, List.length_append, List.length_singleton]; omega
                  rw [hA2] at hR
                  obtain ⟨A3, hA3⟩ : ∃ A, A2 ++ [34] = A := ⟨_, rfl⟩
                  have hA3l : A3.length ≤ 9002 := by rw [← hA3, List.length_append, List.length_singleton]; omega
                  obtain ⟨A4, hA4⟩ : ∃ A, A3 ++ tx = A := ⟨_, rfl⟩
                  have hA4l : A4.length ≤ 109002 := by rw [← hA4, List.length_append]; omega
                  obtain ⟨A5, hA5⟩ : ∃ A, A4 ++ [34] = A := ⟨_, rfl⟩
                  have hA5l : A5.length ≤ 109003 := by rw [← hA5, List.length_append, List.length_singleton]; omega
                  rw [show A2 ++ 34 :: (tx ++ [34]) = A5 by rw [← hA5, ← hA4, ← hA3]; simp] at hR
                  have HA1 := Lib.hid hA1
                  have HA2 := Lib.hid hA2
                  have HA3 := Lib.hid hA3
                  have HA4 := Lib.hid hA4
                  have HA5 := Lib.hid hA5
                  clear hA1 hA2 hA3 hA4 hA5
                  by_cases hlen : 4096 < A5.length
                  · rw [if_pos hlen] at hR
                    have hRR := Lib.hid hR.symm
                    clear hR hok2
                    go_wp2_with fail
                    refine (HRep.out _).mono ?_
                    rintro e w1 ⟨rfl, hb1⟩
                    have hI1 := Lib.hid (HIB.out _ hb1)
                    have hK1 := Lib.hid (show Below wo.heap.size wo w1 from (HB.out.alloc (by omega) _).trans (hb1.mono (by rw [tok_size]; omega)))
                    have hT1 := Lib.hid (belowT hb1 (tok_new wr (tokO 3 ln (str tx))))
                    obtain ⟨t10, t11, t12⟩ := tok_cells hT1.out
                    clear hb1
                    go_wp2_with fail
                    refine (ws_e _ _ acc L A1 _ HA1.out hI1.out (by omega) (by omega)).mono ?_
                    rintro e w2 ⟨rfl, hi, hkp⟩
                    have hI2 := Lib.hid hi
                    have hK2 := Lib.hid (hK1.out.trans hkp.1)
                    have hT2 := Lib.hid (keepT hkp hT1.out (by omega))
                    clear hi hkp
                    obtain ⟨t20, t21, t22⟩ := tok_cells hT2.out
                    go_wp2_with fail
                    refine (wb32 _ _ A1 A2 _ HA2.out hI2.out (by omega)).mono ?_
                    rintro e w3 ⟨rfl, hi, hkp⟩
                    have hI3 := Lib.hid hi
                    have hK3 := Lib.hid (hK2.out.trans hkp.1)
                    have hT3 := Lib.hid (keepT hkp hT2.out (by omega))
                    clear hi hkp
                    obtain ⟨t30, t31, t32⟩ := tok_cells hT3.out
                    go_wp2_with fail
                    refine (wb34 _ _ A2 A3 _ HA3.out hI3.out (by omega)).mono ?_
                    rintro e w4 ⟨rfl, hi, hkp⟩
                    have hI4 := Lib.hid hi
                    have hK4 := Lib.hid (hK3.out.trans hkp.1)
                    have hT4 := Lib.hid (keepT hkp hT3.out (by omega))
                    clear hi hkp
                    obtain ⟨t40, t41, t42⟩ := tok_cells hT4.out
                    go_wp2_with fail
                    refine (ws_e _ _ A3 tx A4 _ HA4.out hI4.out (by omega) (by omega)).mono ?_
                    rintro e w5 ⟨rfl, hi, hkp⟩
                    have hI5 := Lib.hid hi
                    have hK5 := Lib.hid (hK4.out.trans hkp.1)
                    have hT5 := Lib.hid (keepT hkp hT4.out (by omega))
                    clear hi hkp
                    obtain ⟨t50, t51, t52⟩ := tok_cells hT5.out
                    go_wp2_with fail
                    refine (wb34 _ _ A4 A5 _ HA5.out hI5.out (by omega)).mono ?_
                    rintro e w6 ⟨rfl, hi, hkp⟩
                    have hI6 := Lib.hid hi
                    have hK6 := Lib.hid (hK5.out.trans hkp.1)
                    have hT6 := Lib.hid (keepT hkp hT5.out (by omega))
                    clear hi hkp
                    obtain ⟨t60, t61, t62⟩ := tok_cells hT6.out
                    go_wp2_with fail
                    refine (len_l _ _ A5 _ hI6.out).mono ?_
                    rintro e wz ⟨rfl, rfl⟩
                    go_wp2_with fail
                    go_ret2
                    rw [hRR.out]
                    exact ⟨rfl, HE.out.trans (hK6.out.mono HZ.out)⟩
                  · rw [if_neg hlen] at hR
                    have hst := Lib.hid (show ∀ wr', IB wo.heap.size wo.heap.size A5 wr' → Below wo.heap.size wo wr' → J2 w wo n ts R (.int .i64 ln) (.int .i64 ((k : Int) + 1)) wr' from
                      fun wr' hi hb => ⟨k + 1, ln, A5, rfl, by go_num, by omega, by omega, by omega, by rw [decide_eq_true (by omega)]; exact hR, hok2.out, hi, hb⟩)
                    clear hR hok2
                    go_wp2_with fail
                    refine (HRep.out _).mono ?_
                    rintro e w1 ⟨rfl, hb1⟩
                    have hI1 := Lib.hid (HIB.out _ hb1)
                    have hK1 := Lib.hid (show Below wo.heap.size wo w1 from (HB.out.alloc (by omega) _).trans (hb1.mono (by rw [tok_size]; omega)))
                    have hT1 := Lib.hid (belowT hb1 (tok_new wr (tokO 3 ln (str tx))))
                    obtain ⟨t10, t11, t12⟩ := tok_cells hT1.out
                    clear hb1
                    go_wp2_with fail
                    refine (ws_e _ _ acc L A1 _ HA1.out hI1.out (by omega) (by omega)).mono ?_
                    rintro e w2 ⟨rfl, hi, hkp⟩
                    have hI2 := Lib.hid hi
                    have hK2 := Lib.hid (hK1.out.trans hkp.1)
                    have hT2 := Lib.hid (keepT hkp hT1.out (by omega))
                    clear hi hkp
                    obtain ⟨t20, t21, t22⟩ := tok_cells hT2.out
                    go_wp2_with fail
                    refine (wb32 _ _ A1 A2 _ HA2.out hI2.out (by omega)).mono ?_
                    rintro e w3 ⟨rfl, hi, hkp⟩
                    have hI3 := Lib.hid hi
                    have hK3 := Lib.hid (hK2.out.trans hkp.1)
                    have hT3 := Lib.hid (keepT hkp hT2.out (by omega))
                    clear hi hkp
                    obtain ⟨t30, t31, t32⟩ := tok_cells hT3.out
                    go_wp2_with fail
                    refine (wb34 _ _ A2 A3 _ HA3.out hI3.out (by omega)).mono ?_
                    rintro e w4 ⟨rfl, hi, hkp⟩
                    have hI4 := Lib.hid hi
                    have hK4 := Lib.hid (hK3.out.trans hkp.1)
                    have hT4 := Lib.hid (keepT hkp hT3.out (by omega))
                    clear hi hkp
                    obtain ⟨t40, t41, t42⟩ := tok_cells hT4.out
                    go_wp2_with fail
                    refine (ws_e _ _ A3 tx A4 _ HA4.out hI4.out (by omega) (by omega)).mono ?_
                    rintro e w5 ⟨rfl, hi, hkp⟩
                    have hI5 := Lib.hid hi
                    have hK5 := Lib.hid (hK4.out.trans hkp.1)
                    have hT5 := Lib.hid (keepT hkp hT4.out (by omega))
                    clear hi hkp
                    obtain ⟨t50, t51, t52⟩ := tok_cells hT5.out
                    go_wp2_with fail
                    refine (wb34 _ _ A4 A5 _ HA5.out hI5.out (by omega)).mono ?_
                    rintro e w6 ⟨rfl, hi, hkp⟩
                    have hI6 := Lib.hid hi
                    have hK6 := Lib.hid (hK5.out.trans hkp.1)
                    have hT6 := Lib.hid (keepT hkp hT5.out (by omega))
                    clear hi hkp
                    obtain ⟨t60, t61, t62⟩ := tok_cells hT6.out
                    go_wp2_with fail
                    refine (len_l _ _ A5 _ hI6.out).mono ?_
                    rintro e wz ⟨rfl, rfl⟩
                    go_wp2_with fail
                    go_roundw
                    case rel => exact hst.out _ hI6.out hK6.out
                    case measure => simp [intOf]; omega
                · rw [if_neg hkd] at hR
                  have hkb : (kd == 3) = false := by simpa using hkd
                  clear hkd
                  obtain ⟨A1, hA1⟩ : ∃ A, acc ++ L = A := ⟨_, rfl⟩
                  have hA1l : A1.length ≤ 9000 := by rw [← hA1, List.length_append]; omega
                  rw [hA1] at hR
                  obtain ⟨A2, hA2⟩ : ∃ A, A1 ++ [32] = A := ⟨_, rfl⟩
                  have hA2l : A2.length ≤ 9001 := by rw [← hA2, List.length_append, List.length_singleton]; omega
                  rw [hA2] at hR
                  obtain ⟨A3, hA3⟩ : ∃ A, A2 ++ tx = A := ⟨_, rfl⟩
                  have hA3l : A3.length ≤ 109002 := by rw [← hA3, List.length_append]; omega
                  rw [hA3] at hR
                  have HA1 := Lib.hid hA1
                  have HA2 := Lib.hid hA2
                  have HA3 := Lib.hid hA3
                  clear hA1 hA2 hA3
                  by_cases hlen : 4096 < A3.length
                  · rw [if_pos hlen] at hR
                    have hRR := Lib.hid hR.symm
                    clear hR hok2
                    go_wp2_with fail
                    refine (HRep.out _).mono ?_
                    rintro e w1 ⟨rfl, hb1⟩
                    have hI1 := Lib.hid (HIB.out _ hb1)
                    have hK1 := Lib.hid (show Below wo.heap.size wo w1 from (HB.out.alloc (by omega) _).trans (hb1.mono (by rw [tok_size]; omega)))
                    have hT1 := Lib.hid (belowT hb1 (tok_new wr (tokO kd ln (str tx))))
                    obtain ⟨t10, t11, t12⟩ := tok_cells hT1.out
                    clear hb1
                    go_wp2_with fail
                    refine (ws_e _ _ acc L A1 _ HA1.out hI1.out (by omega) (by omega)).mono ?_
                    rintro e w2 ⟨rfl, hi, hkp⟩
                    have hI2 := Lib.hid hi
                    have hK2 := Lib.hid (hK1.out.trans hkp.1)
                    have hT2 := Lib.hid (keepT hkp hT1.out (by omega))
                    clear hi hkp
                    obtain ⟨t20, t21, t22⟩ := tok_cells hT2.out
                    go_wp2_with fail
                    refine (wb32 _ _ A1 A2 _ HA2.out hI2.out (by omega)).mono ?_
                    rintro e w3 ⟨rfl, hi, hkp⟩
                    have hI3 := Lib.hid hi
                    have hK3 := Lib.hid (hK2.out.trans hkp.1)
                    have hT3 := Lib.hid (keepT hkp hT2.out (by omega))
                    clear hi hkp
                    obtain ⟨t30, t31, t32⟩ := tok_cells hT3.out
                    go_wp2_with fail
                    refine (ws_e _ _ A2 tx A3 _ HA3.out hI3.out (by omega) (by omega)).mono ?_
                    rintro e w4 ⟨rfl, hi, hkp⟩
                    have hI4 := Lib.hid hi
                    have hK4 := Lib.hid (hK3.out.trans hkp.1)
                    have hT4 := Lib.hid (keepT hkp hT3.out (by omega))
                    clear hi hkp
                    obtain ⟨t40, t41, t42⟩ := tok_cells hT4.out
                    go_wp2_with fail
                    refine (len_l _ _ A3 _ hI4.out).mono ?_
                    rintro e wz ⟨rfl, rfl⟩
                    go_wp2_with fail
                    go_ret2
                    rw [hRR.out]
                    exact ⟨rfl, HE.out.trans (hK4.out.mono HZ.out)⟩
                  · rw [if_neg hlen] at hR
                    have hst := Lib.hid (show ∀ wr', IB wo.heap.size wo.heap.size A3 wr' → Below wo.heap.size wo wr' → J2 w wo n ts R (.int .i64 ln) (.int .i64 ((k : Int) + 1)) wr' from
                      fun wr' hi hb => ⟨k + 1, ln, A3, rfl, by go_num, by omega, by omega, by omega, by rw [decide_eq_true (by omega)]; exact hR, hok2.out, hi, hb⟩)
                    clear hR hok2
                    go_wp2_with fail
                    refine (HRep.out _).mono ?_
                    rintro e w1 ⟨rfl, hb1⟩
                    have hI1 := Lib.hid (HIB.out _ hb1)
                    have hK1 := Lib.hid (show Below wo.heap.size wo w1 from (HB.out.alloc (by omega) _).trans (hb1.mono (by rw [tok_size]; omega)))
                    have hT1 := Lib.hid (belowT hb1 (tok_new wr (tokO kd ln (str tx))))
                    obtain ⟨t10, t11, t12⟩ := tok_cells hT1.out
                    clear hb1
                    go_wp2_with fail
                    refine (ws_e _ _ acc L A1 _ HA1.out hI1.out (by omega) (by omega)).mono ?_
                    rintro e w2 ⟨rfl, hi, hkp⟩
                    have hI2 := Lib.hid hi
                    have hK2 := Lib.hid (hK1.out.trans hkp.1)
                    have hT2 := Lib.hid (keepT hkp hT1.out (by omega))
                    clear hi hkp
                    obtain ⟨t20, t21, t22⟩ := tok_cells hT2.out
                    go_wp2_with fail
                    refine (wb32 _ _ A1 A2 _ HA2.out hI2.out (by omega)).mono ?_
                    rintro e w3 ⟨rfl, hi, hkp⟩
                    have hI3 := Lib.hid hi
                    have hK3 := Lib.hid (hK2.out.trans hkp.1)
                    have hT3 := Lib.hid (keepT hkp hT2.out (by omega))
                    clear hi hkp
                    obtain ⟨t30, t31, t32⟩ := tok_cells hT3.out
                    go_wp2_with fail
                    refine (ws_e _ _ A2 tx A3 _ HA3.out hI3.out (by omega) (by omega)).mono ?_
                    rintro e w4 ⟨rfl, hi, hkp⟩
                    have hI4 := Lib.hid hi
                    have hK4 := Lib.hid (hK3.out.trans hkp.1)
                    have hT4 := Lib.hid (keepT hkp hT3.out (by omega))
                    clear hi hkp
                    obtain ⟨t40, t41, t42⟩ := tok_cells hT4.out
                    go_wp2_with fail
                    refine (len_l _ _ A3 _ hI4.out).mono ?_
                    rintro e wz ⟨rfl, rfl⟩
                    go_wp2_with fail
                    go_roundw
                    case rel => exact hst.out _ hI4.out hK4.out
                    case measure => simp [intOf]; omega
              · have hlb : (ln == line) = false := by simpa using hlq
                rw [hlb, show (if (false = true) then [32] else ([] : List UInt8)) = [] from rfl] at hR
                clear hlq
                by_cases hkd : kd = 3
                · subst hkd
                  rw [if_pos rfl] at hR
                  obtain ⟨A1, hA1⟩ : ∃ A, acc ++ L = A := ⟨_, rfl⟩
                  have hA1l : A1.length ≤ 9000 := by rw [← hA1, List.length_append]; omega
                  rw [hA1] at hR
                  rw [List.append_nil] at hR
                  obtain ⟨A3, hA3⟩ : ∃ A, A1 ++ [34] = A := ⟨_, rfl⟩
                  have hA3l : A3.length ≤ 9002 := by rw [← hA3, List.length_append, List.length_singleton]; omega
                  obtain ⟨A4, hA4⟩ : ∃ A, A3 ++ tx = A := ⟨_, rfl⟩
                  have hA4l : A4.length ≤ 109002 := by rw [← hA4, List.length_append]; omega
                  obtain ⟨A5, hA5⟩ : ∃ A, A4 ++ [34] = A := ⟨_, rfl⟩
                  have hA5l : A5.length ≤ 109003 := by rw [← hA5, List.length_append, List.length_singleton]; omega
                  rw [show A1 ++ 34 :: (tx ++ [34]) = A5 by rw [← hA5, ← hA4, ← hA3]; simp] at hR
                  have HA1 := Lib.hid hA1
                  have HA3 := Lib.hid hA3
                  have HA4 := Lib.hid hA4
                  have HA5 := Lib.hid hA5
                  clear hA1 hA3 hA4 hA5
                  by_cases hlen : 4096 < A5.length
                  · rw [if_pos hlen] at hR
                    have hRR := Lib.hid hR.symm
                    clear hR hok2
                    go_wp2_with fail
                    refine (HRep.out _).mono ?_
                    rintro e w1 ⟨rfl, hb1⟩
                    have hI1 := Lib.hid (HIB.out _ hb1)
                    have hK1 := Lib.hid (show Below wo.heap.size wo w1 from (HB.out.alloc (by omega) _).trans (hb1.mono (by rw [tok_size]; omega)))
                    have hT1 := Lib.hid (belowT hb1 (tok_new wr (tokO 3 ln (str tx))))
                    obtain ⟨t10, t11, t12⟩ := tok_cells hT1.out
                    clear hb1
                    go_wp2_with fail
                    refine (ws_e _ _ acc L A1 _ HA1.out hI1.out (by omega) (by omega)).mono ?_
                    rintro e w2 ⟨rfl, hi, hkp⟩
                    have hI2 := Lib.hid hi
                    have hK2 := Lib.hid (hK1.out.trans hkp.1)
                    have hT2 := Lib.hid (keepT hkp hT1.out (by omega))
                    clear hi hkp
                    obtain ⟨t20, t21, t22⟩ := tok_cells hT2.out
                    go_wp2_with fail
                    refine (wb34 _ _ A1 A3 _ HA3.out hI2.out (by omega)).mono ?_
                    rintro e w3 ⟨rfl, hi, hkp⟩
                    have hI3 := Lib.hid hi
                    have hK3 := Lib.hid (hK2.out.trans hkp.1)
                    have hT3 := Lib.hid (keepT hkp hT2.out (by omega))
                    clear hi hkp
                    obtain ⟨t30, t31, t32⟩ := tok_cells hT3.out
                    go_wp2_with fail
                    refine (ws_e _ _ A3 tx A4 _ HA4.out hI3.out (by omega) (by omega)).mono ?_
                    rintro e w4 ⟨rfl, hi, hkp⟩
                    have hI4 := Lib.hid hi
                    have hK4 := Lib.hid (hK3.out.trans hkp.1)
                    have hT4 := Lib.hid (keepT hkp hT3.out (by omega))
                    clear hi hkp
                    obtain ⟨t40, t41, t42⟩ := tok_cells hT4.out
                    go_wp2_with fail
                    refine (wb34 _ _ A4 A5 _ HA5.out hI4.out (by omega)).mono ?_
                    rintro e w5 ⟨rfl, hi, hkp⟩
                    have hI5 := Lib.hid hi
                    have hK5 := Lib.hid (hK4.out.trans hkp.1)
                    have hT5 := Lib.hid (keepT hkp hT4.out (by omega))
                    clear hi hkp
                    obtain ⟨t50, t51, t52⟩ := tok_cells hT5.out
                    go_wp2_with fail
                    refine (len_l _ _ A5 _ hI5.out).mono ?_
                    rintro e wz ⟨rfl, rfl⟩
                    go_wp2_with fail
                    go_ret2
                    rw [hRR.out]
                    exact ⟨rfl, HE.out.trans (hK5.out.mono HZ.out)⟩
                  · rw [if_neg hlen] at hR
                    have hst := Lib.hid (show ∀ wr', IB wo.heap.size wo.heap.size A5 wr' → Below wo.heap.size wo wr' → J2 w wo n ts R (.int .i64 ln) (.int .i64 ((k : Int) + 1)) wr' from
                      fun wr' hi hb => ⟨k + 1, ln, A5, rfl, by go_num, by omega, by omega, by omega, by rw [decide_eq_true (by omega)]; exact hR, hok2.out, hi, hb⟩)
                    clear hR hok2
                    go_wp2_with fail
                    refine (HRep.out _).mono ?_
                    rintro e w1 ⟨rfl, hb1⟩
                    have hI1 := Lib.hid (HIB.out _ hb1)
                    have hK1 := Lib.hid (show Below wo.heap.size wo w1 from (HB.out.alloc (by omega) _).trans (hb1.mono (by rw [tok_size]; omega)))
                    have hT1 := Lib.hid (belowT hb1 (tok_new wr (tokO 3 ln (str tx))))
                    obtain ⟨t10, t11, t12⟩ := tok_cells hT1.out
                    clear hb1
                    go_wp2_with fail
                    refine (ws_e _ _ acc L A1 _ HA1.out hI1.out (by omega) (by omega)).mono ?_
                    rintro e w2 ⟨rfl, hi, hkp⟩
                    have hI2 := Lib.hid hi
                    have hK2 := Lib.hid (hK1.out.trans hkp.1)
                    have hT2 := Lib.hid (keepT hkp hT1.out (by omega))
                    clear hi hkp
                    obtain ⟨t20, t21, t22⟩ := tok_cells hT2.out
                    go_wp2_with fail
                    refine (wb34 _ _ A1 A3 _ HA3.out hI2.out (by omega)).mono ?_
                    rintro e w3 ⟨rfl, hi, hkp⟩
                    have hI3 := Lib.hid hi
                    have hK3 := Lib.hid (hK2.out.trans hkp.1)
                    have hT3 := Lib.hid (keepT hkp hT2.out (by omega))
                    clear hi hkp
                    obtain ⟨t30, t31, t32⟩ := tok_cells hT3.out
                    go_wp2_with fail
                    refine (ws_e _ _ A3 tx A4 _ HA4.out hI3.out (by omega) (by omega)).mono ?_
                    rintro e w4 ⟨rfl, hi, hkp⟩
                    have hI4 := Lib.hid hi
                    have hK4 := Lib.hid (hK3.out.trans hkp.1)
                    have hT4 := Lib.hid (keepT hkp hT3.out (by omega))
                    clear hi hkp
                    obtain ⟨t40, t41, t42⟩ := tok_cells hT4.out
                    go_wp2_with fail
                    refine (wb34 _ _ A4 A5 _ HA5.out hI4.out (by omega)).mono ?_
                    rintro e w5 ⟨rfl, hi, hkp⟩
                    have hI5 := Lib.hid hi
                    have hK5 := Lib.hid (hK4.out.trans hkp.1)
                    have hT5 := Lib.hid (keepT hkp hT4.out (by omega))
                    clear hi hkp
                    obtain ⟨t50, t51, t52⟩ := tok_cells hT5.out
                    go_wp2_with fail
                    refine (len_l _ _ A5 _ hI5.out).mono ?_
                    rintro e wz ⟨rfl, rfl⟩
                    go_wp2_with fail
                    go_roundw
                    case rel => exact hst.out _ hI5.out hK5.out
                    case measure => simp [intOf]; omega
                · rw [if_neg hkd] at hR
                  have hkb : (kd == 3) = false := by simpa using hkd
                  clear hkd
                  obtain ⟨A1, hA1⟩ : ∃ A, acc ++ L = A := ⟨_, rfl⟩
                  have hA1l : A1.length ≤ 9000 := by rw [← hA1, List.length_append]; omega
                  rw [hA1] at hR
                  rw [List.append_nil] at hR
                  obtain ⟨A3, hA3⟩ : ∃ A, A1 ++ tx = A := ⟨_, rfl⟩
                  have hA3l : A3.length ≤ 109002 := by rw [← hA3, List.length_append]; omega
                  rw [hA3] at hR
                  have HA1 := Lib.hid hA1
                  have HA3 := Lib.hid hA3
                  clear hA1 hA3
                  by_cases hlen : 4096 < A3.length
                  · rw [if_pos hlen] at hR
                    have hRR := Lib.hid hR.symm
                    clear hR hok2
                    go_wp2_with fail
                    refine (HRep.out _).mono ?_
                    rintro e w1 ⟨rfl, hb1⟩
                    have hI1 := Lib.hid (HIB.out _ hb1)
                    have hK1 := Lib.hid (show Below wo.heap.size wo w1 from (HB.out.alloc (by omega) _).trans (hb1.mono (by rw [tok_size]; omega)))
                    have hT1 := Lib.hid (belowT hb1 (tok_new wr (tokO kd ln (str tx))))
                    obtain ⟨t10, t11, t12⟩ := tok_cells hT1.out
                    clear hb1
                    go_wp2_with fail
                    refine (ws_e _ _ acc L A1 _ HA1.out hI1.out (by omega) (by omega)).mono ?_
                    rintro e w2 ⟨rfl, hi, hkp⟩
                    have hI2 := Lib.hid hi
                    have hK2 := Lib.hid (hK1.out.trans hkp.1)
                    have hT2 := Lib.hid (keepT hkp hT1.out (by omega))
                    clear hi hkp
                    obtain ⟨t20, t21, t22⟩ := tok_cells hT2.out
                    go_wp2_with fail
                    refine (ws_e _ _ A1 tx A3 _ HA3.out hI2.out (by omega) (by omega)).mono ?_
                    rintro e w3 ⟨rfl, hi, hkp⟩
                    have hI3 := Lib.hid hi
                    have hK3 := Lib.hid (hK2.out.trans hkp.1)
                    have hT3 := Lib.hid (keepT hkp hT2.out (by omega))
                    clear hi hkp
                    obtain ⟨t30, t31, t32⟩ := tok_cells hT3.out
                    go_wp2_with fail
                    refine (len_l _ _ A3 _ hI3.out).mono ?_
                    rintro e wz ⟨rfl, rfl⟩
                    go_wp2_with fail
                    go_ret2
                    rw [hRR.out]
                    exact ⟨rfl, HE.out.trans (hK3.out.mono HZ.out)⟩
                  · rw [if_neg hlen] at hR
                    have hst := Lib.hid (show ∀ wr', IB wo.heap.size wo.heap.size A3 wr' → Below wo.heap.size wo wr' → J2 w wo n ts R (.int .i64 ln) (.int .i64 ((k : Int) + 1)) wr' from
                      fun wr' hi hb => ⟨k + 1, ln, A3, rfl, by go_num, by omega, by omega, by omega, by rw [decide_eq_true (by omega)]; exact hR, hok2.out, hi, hb⟩)
                    clear hR hok2
                    go_wp2_with fail
                    refine (HRep.out _).mono ?_
                    rintro e w1 ⟨rfl, hb1⟩
                    have hI1 := Lib.hid (HIB.out _ hb1)
                    have hK1 := Lib.hid (show Below wo.heap.size wo w1 from (HB.out.alloc (by omega) _).trans (hb1.mono (by rw [tok_size]; omega)))
                    have hT1 := Lib.hid (belowT hb1 (tok_new wr (tokO kd ln (str tx))))
                    obtain ⟨t10, t11, t12⟩ := tok_cells hT1.out
                    clear hb1
                    go_wp2_with fail
                    refine (ws_e _ _ acc L A1 _ HA1.out hI1.out (by omega) (by omega)).mono ?_
                    rintro e w2 ⟨rfl, hi, hkp⟩
                    have hI2 := Lib.hid hi
                    have hK2 := Lib.hid (hK1.out.trans hkp.1)
                    have hT2 := Lib.hid (keepT hkp hT1.out (by omega))
                    clear hi hkp
                    obtain ⟨t20, t21, t22⟩ := tok_cells hT2.out
                    go_wp2_with fail
                    refine (ws_e _ _ A1 tx A3 _ HA3.out hI2.out (by omega) (by omega)).mono ?_
                    rintro e w3 ⟨rfl, hi, hkp⟩
                    have hI3 := Lib.hid hi
                    have hK3 := Lib.hid (hK2.out.trans hkp.1)
                    have hT3 := Lib.hid (keepT hkp hT2.out (by omega))
                    clear hi hkp
                    obtain ⟨t30, t31, t32⟩ := tok_cells hT3.out
                    go_wp2_with fail
                    refine (len_l _ _ A3 _ hI3.out).mono ?_
                    rintro e wz ⟨rfl, rfl⟩
                    go_wp2_with fail
                    go_roundw
                    case rel => exact hst.out _ hI3.out hK3.out
                    case measure => simp [intOf]; omega
        · rw [List.drop_of_length_le (by have := HN.out; omega), joinB] at hR
          have hRR := Lib.hid hR.symm
          clear hR
          go_wp2_with fail
          refine (bstr_l _ _ acc _ HI.out).mono ?_
          rintro e w1 ⟨rfl, hb1⟩
          go_wp2_with fail
          go_ret2
          rw [hRR.out]
          exact ⟨rfl, HE.out.trans ((HB.out.trans hb1).mono HZ.out)⟩
end Go.Proofs.YtpddneplkbdedaaDoor

