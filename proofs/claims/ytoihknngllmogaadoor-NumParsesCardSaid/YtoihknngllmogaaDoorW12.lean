/- Walks: Format of the num package. -/
import Derived.Test.YtoihknngllmogaaDoorW11
import Derived.Lib.TrimByte
import Derived.Lib.Repeat
namespace Go.Proofs.YtoihknngllmogaaDoor
open Go.RowKit
set_option linter.unusedVariables false
set_option linter.unusedSimpArgs false

abbrev str (l : List UInt8) : ByteArray := ⟨l.toArray⟩
theorem str_size (l : List UInt8) : (str l).size = l.length := rfl
theorem str_append (a b : List UInt8) : str a ++ str b = str (a ++ b) := by
  apply ByteArray.ext; rw [ByteArray.data_append]; simp [str]
theorem str_data (l : List UInt8) : (str l).data.toList = l := by simp [str]

def pad8 (l : List UInt8) : List UInt8 := Lib.repeatL [48] (8 - l.length) ++ l
def fracL (r : Nat) : List UInt8 := Lib.trimRightB (pad8 (Lib.decDigits (r * 390625))) 48
def fmtL (n : Int) : List UInt8 := (if n < 0 then [45] else []) ++ Lib.decDigits (n.natAbs / 256) ++ (if n.natAbs % 256 = 0 then [] else 46 :: fracL (n.natAbs % 256))

theorem dec_len (u : Nat) (hu : u < 18446744073709551616) : 1 ≤ (Lib.decDigits u).length ∧ (Lib.decDigits u).length ≤ 20 := by
  rw [Lib.decDigits_length]
  rcases Nat.eq_zero_or_pos u with h | h
  · subst h; rw [Lib.nDigits_small (by omega)]; omega
  · have := Lib.numDigits_eq u h hu
    have h1 : 1 ≤ Lib.nDigits u := by unfold Lib.nDigits; split <;> omega
    split at this <;> omega
theorem dec_len8 (u : Nat) (hu : u < 100000000) : (Lib.decDigits u).length ≤ 8 := by
  have : ∀ k u, u < 10 ^ (k + 1) → (Lib.decDigits u).length ≤ k + 1 := by
    intro k
    induction k with
    | zero => intro u h; rw [Lib.decDigits, dif_pos (by omega)]; simp
    | succ k ih =>
      intro u h
      rw [Lib.decDigits]
      split
      · simp
      · rw [List.length_append]
        have := ih (u / 10) (by rw [Nat.pow_succ] at h; omega)
        simp
        omega
  exact this 7 u (by omega)

theorem trim_len (l : List UInt8) (c : UInt8) : (Lib.trimRightB l c).length ≤ l.length := by
  unfold Lib.trimRightB
  rw [List.length_reverse]
  have := (List.dropWhile_sublist (p := (· == c)) (l := l.reverse)).length_le
  simpa using this
theorem pad8_len (l : List UInt8) (h : l.length ≤ 8) : (pad8 l).length = 8 := by
  unfold pad8
  rw [List.length_append, Lib.repeatL_length]
  simp
  omega

theorem tab_below {w w' : World} {name : String} {k : IntKind} {zs : List Int} (hb : Below w.heap.size w w') (h : Lib.TabIs Tryd.prog w name k zs) : Lib.TabIs Tryd.prog w' name k zs := by
  unfold Lib.TabIs World.var? at *
  cases hg : Tryd.prog.globalNamed name with
  | none => simp [hg] at h
  | some g =>
    simp only [hg, Option.bind_some] at h ⊢
    have hlt : g < w.heap.size := by
      rcases Nat.lt_or_ge g w.heap.size with h' | h'
      · exact h'
      · rw [Array.getElem?_eq_none h'] at h; simp at h
    rw [hb.block g hlt]
    exact h

/-- Format over what its callees return. -/
theorem format_walk (n u q1 r : Int) (s1 s2 zs fr : ByteArray) (A R : Bool) (hA : decide (n < 0) = A) (hR : (r == 0) = R) (u0 : 0 ≤ u) (r0 : 0 ≤ r) (r1 : r < 256) (hq : u / 256 = q1) (hr : u % 256 = r) (m : Int) (hm : r * 390625 = m)
    (ha : ∀ W, Calls Tryd.prog 27 #[.int .i64 n] W fun e w' => e = .returned (.int .u64 u) ∧ W = w') (w : World)
    (tab : World → Prop) (ht0 : tab w) (htb : ∀ W W', Below W.heap.size W W' → tab W → tab W')
    (h1 : ∀ W, tab W → Calls Tryd.prog 30 #[.int .u64 q1, .int .i64 10] W fun e w' => e = .returned (.string s1) ∧ Below W.heap.size W w')
    (h2 : ∀ W, tab W → Calls Tryd.prog 30 #[.int .u64 m, .int .i64 10] W fun e w' => e = .returned (.string s2) ∧ Below W.heap.size W w')
    (h3 : ∀ W, Calls Tryd.prog 31 #[.string ⟨#[48]⟩, .int .i64 (8 - (s2.size : Int))] W fun e w' => e = .returned (.string zs) ∧ Below W.heap.size W w')
    (h4 : ∀ W, Calls Tryd.prog 32 #[.string (zs ++ s2), .string ⟨#[48]⟩] W fun e w' => e = .returned (.string fr) ∧ W = w')
    (z1 : s1.size ≤ 20) (z2 : s2.size ≤ 8) (z3 : zs.size ≤ 8) (z4 : fr.size ≤ 8) (z5 : ((⟨#[45]⟩ : ByteArray) ++ s1).size ≤ 21) (z6 : (⟨#[45]⟩ ++ s1 ++ (⟨#[46]⟩ : ByteArray)).size ≤ 22) (z7 : (s1 ++ (⟨#[46]⟩ : ByteArray)).size ≤ 21) :
    Calls Tryd.prog 22 #[.int .i64 n] w fun e w' => e = .returned (.string (if R then (if A then ⟨#[45]⟩ ++ s1 else s1) else (if A then ⟨#[45]⟩ ++ s1 else s1) ++ ⟨#[46]⟩ ++ fr)) ∧ Below w.heap.size w w' := by
  have HA := Lib.hid ha
  have H1 := Lib.hid h1
  have H2 := Lib.hid h2
  have H3 := Lib.hid h3
  have H4 := Lib.hid h4
  have HT := Lib.hid htb
  have HT0 := Lib.hid ht0
  have c45 : (⟨#[45]⟩ : ByteArray).size = 1 := rfl
  have c46 : (⟨#[46]⟩ : ByteArray).size = 1 := rfl
  clear ha h1 h2 h3 h4 htb ht0
  cases A <;> cases R
  · go_enter Tryd.func22, Tryd.ntmps22
    go_wp2_with fail
    refine (HA.out _).mono ?_
    rintro e w1 ⟨rfl, rfl⟩
    go_wp2_with fail
    refine (H1.out _ HT0.out).mono ?_
    rintro e w2 ⟨rfl, hb2⟩
    go_wp2_with fail
    refine (H2.out _ (HT.out _ _ hb2 HT0.out)).mono ?_
    rintro e w3 ⟨rfl, hb3⟩
    go_wp2_with fail
    refine (H3.out _).mono ?_
    rintro e w4 ⟨rfl, hb4⟩
    go_wp2_with fail
    refine (H4.out _).mono ?_
    rintro e w5 ⟨rfl, rfl⟩
    go_wp2_with fail
    go_ret
    have h23 := hb2.trans (hb3.mono hb2.size)
    exact ⟨rfl, h23.trans (hb4.mono h23.size)⟩
  · go_enter Tryd.func22, Tryd.ntmps22
    go_wp2_with fail
    refine (HA.out _).mono ?_
    rintro e w1 ⟨rfl, rfl⟩
    go_wp2_with fail
    refine (H1.out _ HT0.out).mono ?_
    rintro e w2 ⟨rfl, hb2⟩
    go_wp2_with fail
    go_ret
    exact ⟨rfl, hb2⟩
  · go_enter Tryd.func22, Tryd.ntmps22
    go_wp2_with fail
    refine (HA.out _).mono ?_
    rintro e w1 ⟨rfl, rfl⟩
    go_wp2_with fail
    refine (H1.out _ HT0.out).mono ?_
    rintro e w2 ⟨rfl, hb2⟩
    go_wp2_with fail
    refine (H2.out _ (HT.out _ _ hb2 HT0.out)).mono ?_
    rintro e w3 ⟨rfl, hb3⟩
    go_wp2_with fail
    refine (H3.out _).mono ?_
    rintro e w4 ⟨rfl, hb4⟩
    go_wp2_with fail
    refine (H4.out _).mono ?_
    rintro e w5 ⟨rfl, rfl⟩
    go_wp2_with fail
    go_ret
    have h23 := hb2.trans (hb3.mono hb2.size)
    exact ⟨rfl, h23.trans (hb4.mono h23.size)⟩
  · go_enter Tryd.func22, Tryd.ntmps22
    go_wp2_with fail
    refine (HA.out _).mono ?_
    rintro e w1 ⟨rfl, rfl⟩
    go_wp2_with fail
    refine (H1.out _ HT0.out).mono ?_
    rintro e w2 ⟨rfl, hb2⟩
    go_wp2_with fail
    go_ret
    exact ⟨rfl, hb2⟩

theorem fmt_join (n : Int) (A R : Bool) (hA : decide (n < 0) = A) (hR : (((n.natAbs % 256 : Nat) : Int) == 0) = R) :
    (if R then (if A then (⟨#[45]⟩ : ByteArray) ++ str (Lib.decDigits (n.natAbs / 256)) else str (Lib.decDigits (n.natAbs / 256))) else
      (if A then (⟨#[45]⟩ : ByteArray) ++ str (Lib.decDigits (n.natAbs / 256)) else str (Lib.decDigits (n.natAbs / 256))) ++ ⟨#[46]⟩ ++ str (fracL (n.natAbs % 256))) = str (fmtL n) := by
  have e1 : (⟨#[45]⟩ : ByteArray) = str [45] := rfl
  have e2 : (⟨#[46]⟩ : ByteArray) = str [46] := rfl
  unfold fmtL
  rw [e1, e2]
  cases A <;> cases R
  · have h1 : ¬ n < 0 := by simpa using hA
    have h2 : ¬ n.natAbs % 256 = 0 := by rw [beq_eq_false_iff_ne] at hR; omega
    rw [if_neg h1, if_neg h2]
    simp [str_append]
  · have h1 : ¬ n < 0 := by simpa using hA
    have h2 : n.natAbs % 256 = 0 := by rw [beq_iff_eq] at hR; omega
    rw [if_neg h1, if_pos h2]
    simp
  · have h1 : n < 0 := by simpa using hA
    have h2 : ¬ n.natAbs % 256 = 0 := by rw [beq_eq_false_iff_ne] at hR; omega
    rw [if_pos h1, if_neg h2]
    simp [str_append]
  · have h1 : n < 0 := by simpa using hA
    have h2 : n.natAbs % 256 = 0 := by rw [beq_iff_eq] at hR; omega
    rw [if_pos h1, if_pos h2]
    simp [str_append]

theorem format_any (n : Int) (h0 : -9223372036854775808 ≤ n) (h1 : n ≤ 9223372036854775807) (w : World) (htab : Lib.TabIs Tryd.prog w "internal/strconv.uint64pow10" .u64 Lib.pow10Tab) :
    Calls Tryd.prog 22 #[.int .i64 n] w fun e w' => e = .returned (.string (str (fmtL n))) ∧ Below w.heap.size w w' := by
  have hl1 := dec_len (n.natAbs / 256) (by omega)
  have hl2 := dec_len8 (n.natAbs % 256 * 390625) (by omega)
  have hp := pad8_len _ hl2
  have ht := trim_len (pad8 (Lib.decDigits (n.natAbs % 256 * 390625))) 48
  rw [hp] at ht
  rw [← fmt_join n _ _ rfl rfl]
  refine format_walk n (n.natAbs : Int) ((n.natAbs / 256 : Nat) : Int) ((n.natAbs % 256 : Nat) : Int) (str (Lib.decDigits (n.natAbs / 256))) (str (Lib.decDigits (n.natAbs % 256 * 390625))) (str (Lib.repeatL [48] (8 - (Lib.decDigits (n.natAbs % 256 * 390625)).length))) (str (fracL (n.natAbs % 256))) _ _ rfl rfl (by omega) (by omega) (by omega) rfl rfl ((n.natAbs % 256 * 390625 : Nat) : Int) (by omega) (fun W => abs_any n h0 h1 W) w
    (fun W => Lib.TabIs Tryd.prog W "internal/strconv.uint64pow10" .u64 Lib.pow10Tab) htab (fun W W' hb h => tab_below hb h)
    (fun W h => fmt_any _ (show n.natAbs / 256 < 18446744073709551616 by omega) W h) (fun W h => fmt_any _ (show n.natAbs % 256 * 390625 < 18446744073709551616 by omega) W h) (fun W => ?_) (fun W => ?_) (by rw [str_size]; omega) (by rw [str_size]; omega) (by rw [str_size, Lib.repeatL_length]; simp) (by rw [str_size]; exact ht) ?_ ?_ ?_
  · have := Tryd.strings_Repeat (str [48]) (8 - (Lib.decDigits (n.natAbs % 256 * 390625)).length) W (by omega) (by rw [str_size]; simp; omega)
    rw [show ((8 - (Lib.decDigits (n.natAbs % 256 * 390625)).length : Nat) : Int) = 8 - ((str (Lib.decDigits (n.natAbs % 256 * 390625))).size : Int) by rw [str_size]; omega] at this
    exact this
  · have := Tryd.strings_TrimRight_one (str (Lib.repeatL [48] (8 - (Lib.decDigits (n.natAbs % 256 * 390625)).length)) ++ str (Lib.decDigits (n.natAbs % 256 * 390625))) 48 (by decide) W (by rw [ByteArray.size_append, str_size, str_size, Lib.repeatL_length]; simp; omega)
    rw [str_append] at this
    rw [str_append]
    rw [str_data] at this
    exact this.mono fun _ _ h => ⟨h.1, h.2.symm⟩
  · have := str_size (Lib.decDigits (n.natAbs / 256))
    rw [ByteArray.size_append]; show 1 + _ ≤ _; omega
  · have := str_size (Lib.decDigits (n.natAbs / 256))
    rw [ByteArray.size_append, ByteArray.size_append]; show 1 + _ + 1 ≤ _; omega
  · have := str_size (Lib.decDigits (n.natAbs / 256))
    rw [ByteArray.size_append]; show _ + 1 ≤ _; omega
end Go.Proofs.YtoihknngllmogaaDoor
