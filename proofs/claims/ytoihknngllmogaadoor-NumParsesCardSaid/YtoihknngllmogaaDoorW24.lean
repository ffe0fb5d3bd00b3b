/- The reference's Format of the num package. -/
import Derived.Test.YtoihknngllmogaaDoorW23
namespace Go.Proofs.YtoihknngllmogaaDoor
open Go.RowKit
set_option linter.unusedVariables false
set_option linter.unusedSimpArgs false

theorem last_str (l : List UInt8) (h : 1 ≤ (str l).size) : (str l)[(str l).size - 1] = l.getLast?.getD 0 := by
  rw [← last_at (str l) h, str_data]

theorem rep_comm (c : Nat) : [48] ++ Lib.repeatL [48] c = Lib.repeatL [48] c ++ [48] := by
  induction c with
  | zero => rfl
  | succ c ih => rw [Lib.repeatL, List.append_assoc, ← ih]
theorem pad8_cons (l : List UInt8) (h : l.length < 8) : pad8 (48 :: l) = pad8 l := by
  unfold pad8
  obtain ⟨c, hc⟩ : ∃ c, 8 - l.length = c + 1 := ⟨8 - l.length - 1, by omega⟩
  rw [hc, show 8 - (48 :: l).length = c by simp; omega, Lib.repeatL, rep_comm, List.append_assoc]
  rfl
theorem pad8_full (l : List UInt8) (h : 8 ≤ l.length) : pad8 l = l := by
  unfold pad8
  rw [show 8 - l.length = 0 by omega, Lib.repeatL, List.nil_append]
theorem trim_snoc (l : List UInt8) (x c : UInt8) : Lib.trimRightB (l ++ [x]) c = if x == c then Lib.trimRightB l c else l ++ [x] := by
  unfold Lib.trimRightB
  rw [List.reverse_append, List.reverse_singleton, List.singleton_append, List.dropWhile_cons]
  cases x == c
  · simp
  · simp
theorem snoc_of (l : List UInt8) (h : 1 ≤ l.length) : ∃ l0 x, l = l0 ++ [x] := by
  refine ⟨l.dropLast, l.getLast (by intro e; rw [e] at h; simp at h), (List.dropLast_concat_getLast _).symm⟩
theorem str_get (l : List UInt8) (k : Nat) (h : k < (str l).size) : (str l)[k] = l[k]'h := rfl
theorem str_init (l : List UInt8) (x : UInt8) : (str (l ++ [x])).extract 0 l.length = str l := by
  apply ByteArray.ext
  rw [ByteArray.data_extract]
  simp [str]

theorem rf_round (n u q1 r m : Int) (d1 d2 fr : List UInt8) (hA : ¬ n < 0) (hR : (r == 0) = false) (u0 : 0 ≤ u) (u1 : u ≤ 9223372036854775808) (r0 : 0 ≤ r) (r1 : r < 256) (hq : u / 256 = q1) (hr : u % 256 = r) (hm : r * 390625 = m)
    (h1 : KC 29 #[.int .i64 n] (.int .u64 u)) (h2 : KD 38 #[.int .u64 q1] (.string (str d1))) (h3 : KD 38 #[.int .u64 m] (.string (str d2)))
    (z1 : d1.length ≤ 20) (z5 : (str d1 ++ (⟨#[46]⟩ : ByteArray)).size ≤ 21) (z2 : d2.length ≤ 8) (hfr : Hid (Lib.trimRightB (pad8 d2) 48 = fr ∧ 1 ≤ fr.length ∧ fr.length ≤ 8)) (w : World) :
    Calls Tryd.prog 24 #[.int .i64 n] w fun e w' => e = .returned (.string (str d1 ++ ⟨#[46]⟩ ++ str fr)) ∧ Below w.heap.size w w' := by
  have H1 := Lib.hid h1; have H2 := Lib.hid h2; have H3 := Lib.hid h3
  clear h1 h2 h3
  go_enter Tryd.func24, Tryd.ntmps24
  go_wp2_with fail
  refine (H1.out _).mono ?_
  rintro e w1 ⟨rfl, rfl⟩
  go_wp2_with fail
  refine (H2.out _).mono ?_
  rintro e w2 ⟨rfl, hb⟩
  go_wp2_with fail
  refine (H3.out _).mono ?_
  rintro e w3 ⟨rfl, hb2⟩
  go_wp2_with fail
  go_loopg [5] (8 - d2.length) (fun g t wr => ∃ l : List UInt8, t = .string (str l) ∧ l.length ≤ 8 ∧ g = 8 - l.length ∧ Hid (pad8 l = pad8 d2) ∧ wr = w3)
  case atStart => exact ⟨d2, rfl, z2, by omega, rfl, rfl⟩
  case round =>
    obtain ⟨l, rfl, hl, hg, hp, rfl⟩ := hrel
    have hsz : (str l).size = l.length := str_size l
    generalize hsv : str l = sv at *
    by_cases hlt : l.length < 8
    · go_wp2_with fail
      go_roundg (8 - (l.length + 1))
      case measure => omega
      case rel => 
        subst hsv
        exact ⟨48 :: l, by rw [show (48 :: l) = [48] ++ l from rfl, ← str_append], by simp; omega, by simp, by rw [pad8_cons l hlt]; exact hp.out, rfl⟩
    · go_wp2_with fail
      go_loopg [5] 8 (fun g t wr' => ∃ l : List UInt8, t = .string (str l) ∧ l.length ≤ 8 ∧ 1 ≤ l.length ∧ g = l.length ∧ Hid (Lib.trimRightB l 48 = fr) ∧ wr' = wr)
      case atStart =>
        subst hsv
        refine ⟨l, rfl, hl, by omega, by omega, ?_, rfl⟩
        have := hp.out
        rw [pad8_full l (by omega)] at this
        rw [this]
        exact hfr.out.1
      case round =>
        obtain ⟨l', rfl, hl', hl1, hg', hp', rfl⟩ := hrel
        have hsz' : (str l').size = l'.length := str_size l'
        generalize hsv' : str l' = sv' at *
        have hx : l'.length - 1 < sv'.size := by omega
        by_cases hz : ((sv'[l'.length - 1].toNat : Int) == 48) = true
        · go_wp2_with fail
          go_roundg (l'.length - 1)
          case measure => omega
          case rel =>
            subst hsv'
            obtain ⟨l0, x, rfl⟩ := snoc_of l' hl1
            have ex : (str (l0 ++ [x]))[(l0 ++ [x]).length - 1] = x := by rw [str_get]; simp
            have hxc : (x == 48) = true := by rw [ex, u8_48] at hz; exact hz
            have ht : Lib.trimRightB l0 48 = fr := by have := hp'.out; rw [trim_snoc, if_pos hxc] at this; exact this
            have hlen : (l0 ++ [x]).length - 1 = l0.length := by simp
            rw [hlen]
            refine ⟨l0, by rw [str_init], by simp at hl'; omega, ?_, rfl, ht, rfl⟩
            have h1 := trim_len l0 48
            rw [ht] at h1
            have := hfr.out.2.1
            omega
        · have hz' : ((sv'[l'.length - 1].toNat : Int) == 48) = false := by simpa using hz
          clear hz
          go_wp2_with fail
          go_ret
          subst hsv'
          obtain ⟨l0, x, rfl⟩ := snoc_of l' hl1
          have ex : (str (l0 ++ [x]))[(l0 ++ [x]).length - 1] = x := by rw [str_get]; simp
          have hxc : (x == 48) = false := by rw [ex, u8_48] at hz'; exact hz'
          have ht : l0 ++ [x] = fr := by have := hp'.out; rw [trim_snoc, hxc] at this; exact this
          rw [← ht]
          exact ⟨rfl, hb.trans (hb2.mono hb.size)⟩
theorem rf_round_neg (n u q1 r m : Int) (d1 d2 fr : List UInt8) (hA : n < 0) (hR : (r == 0) = false) (u0 : 0 ≤ u) (u1 : u ≤ 9223372036854775808) (r0 : 0 ≤ r) (r1 : r < 256) (hq : u / 256 = q1) (hr : u % 256 = r) (hm : r * 390625 = m)
    (h1 : KC 29 #[.int .i64 n] (.int .u64 u)) (h2 : KD 38 #[.int .u64 q1] (.string (str d1))) (h3 : KD 38 #[.int .u64 m] (.string (str d2)))
    (z1 : d1.length ≤ 20) (z6 : ((⟨#[45]⟩ : ByteArray) ++ str d1).size ≤ 21) (z5 : ((⟨#[45]⟩ : ByteArray) ++ str d1 ++ (⟨#[46]⟩ : ByteArray)).size ≤ 22) (z2 : d2.length ≤ 8) (hfr : Hid (Lib.trimRightB (pad8 d2) 48 = fr ∧ 1 ≤ fr.length ∧ fr.length ≤ 8)) (w : World) :
    Calls Tryd.prog 24 #[.int .i64 n] w fun e w' => e = .returned (.string (⟨#[45]⟩ ++ str d1 ++ ⟨#[46]⟩ ++ str fr)) ∧ Below w.heap.size w w' := by
  have H1 := Lib.hid h1; have H2 := Lib.hid h2; have H3 := Lib.hid h3
  clear h1 h2 h3
  go_enter Tryd.func24, Tryd.ntmps24
  go_wp2_with fail
  refine (H1.out _).mono ?_
  rintro e w1 ⟨rfl, rfl⟩
  go_wp2_with fail
  refine (H2.out _).mono ?_
  rintro e w2 ⟨rfl, hb⟩
  go_wp2_with fail
  refine (H3.out _).mono ?_
  rintro e w3 ⟨rfl, hb2⟩
  go_wp2_with fail
  go_loopg [5] (8 - d2.length) (fun g t wr => ∃ l : List UInt8, t = .string (str l) ∧ l.length ≤ 8 ∧ g = 8 - l.length ∧ Hid (pad8 l = pad8 d2) ∧ wr = w3)
  case atStart => exact ⟨d2, rfl, z2, by omega, rfl, rfl⟩
  case round =>
    obtain ⟨l, rfl, hl, hg, hp, rfl⟩ := hrel
    have hsz : (str l).size = l.length := str_size l
    generalize hsv : str l = sv at *
    by_cases hlt : l.length < 8
    · go_wp2_with fail
      go_roundg (8 - (l.length + 1))
      case measure => omega
      case rel => 
        subst hsv
        exact ⟨48 :: l, by rw [show (48 :: l) = [48] ++ l from rfl, ← str_append], by simp; omega, by simp, by rw [pad8_cons l hlt]; exact hp.out, rfl⟩
    · go_wp2_with fail
      go_loopg [5] 8 (fun g t wr' => ∃ l : List UInt8, t = .string (str l) ∧ l.length ≤ 8 ∧ 1 ≤ l.length ∧ g = l.length ∧ Hid (Lib.trimRightB l 48 = fr) ∧ wr' = wr)
      case atStart =>
        subst hsv
        refine ⟨l, rfl, hl, by omega, by omega, ?_, rfl⟩
        have := hp.out
        rw [pad8_full l (by omega)] at this
        rw [this]
        exact hfr.out.1
      case round =>
        obtain ⟨l', rfl, hl', hl1, hg', hp', rfl⟩ := hrel
        have hsz' : (str l').size = l'.length := str_size l'
        generalize hsv' : str l' = sv' at *
        have hx : l'.length - 1 < sv'.size := by omega
        by_cases hz : ((sv'[l'.length - 1].toNat : Int) == 48) = true
        · go_wp2_with fail
          go_roundg (l'.length - 1)
          case measure => omega
          case rel =>
            subst hsv'
            obtain ⟨l0, x, rfl⟩ := snoc_of l' hl1
            have ex : (str (l0 ++ [x]))[(l0 ++ [x]).length - 1] = x := by rw [str_get]; simp
            have hxc : (x == 48) = true := by rw [ex, u8_48] at hz; exact hz
            have ht : Lib.trimRightB l0 48 = fr := by have := hp'.out; rw [trim_snoc, if_pos hxc] at this; exact this
            have hlen : (l0 ++ [x]).length - 1 = l0.length := by simp
            rw [hlen]
            refine ⟨l0, by rw [str_init], by simp at hl'; omega, ?_, rfl, ht, rfl⟩
            have h1 := trim_len l0 48
            rw [ht] at h1
            have := hfr.out.2.1
            omega
        · have hz' : ((sv'[l'.length - 1].toNat : Int) == 48) = false := by simpa using hz
          clear hz
          go_wp2_with fail
          go_ret
          subst hsv'
          obtain ⟨l0, x, rfl⟩ := snoc_of l' hl1
          have ex : (str (l0 ++ [x]))[(l0 ++ [x]).length - 1] = x := by rw [str_get]; simp
          have hxc : (x == 48) = false := by rw [ex, u8_48] at hz'; exact hz'
          have ht : l0 ++ [x] = fr := by have := hp'.out; rw [trim_snoc, hxc] at this; exact this
          rw [← ht]
          exact ⟨rfl, hb.trans (hb2.mono hb.size)⟩

theorem rf_zero (n u q1 r : Int) (d1 : List UInt8) (A : Bool) (hA : decide (n < 0) = A) (hR : (r == 0) = true) (u0 : 0 ≤ u) (u1 : u ≤ 9223372036854775808) (r0 : 0 ≤ r) (r1 : r < 256) (hq : u / 256 = q1) (hr : u % 256 = r)
    (h1 : KC 29 #[.int .i64 n] (.int .u64 u)) (h2 : KD 38 #[.int .u64 q1] (.string (str d1))) (z1 : d1.length ≤ 20) (w : World) :
    Calls Tryd.prog 24 #[.int .i64 n] w fun e w' => e = .returned (.string (if A then ⟨#[45]⟩ ++ str d1 else str d1)) ∧ Below w.heap.size w w' := by
  have H1 := Lib.hid h1; have H2 := Lib.hid h2
  clear h1 h2
  cases A
  all_goals
    simp only [decide_eq_true_eq, decide_eq_false_iff_not] at hA
    go_enter Tryd.func24, Tryd.ntmps24
    go_wp2_with fail
    refine (H1.out _).mono ?_
    rintro e w1 ⟨rfl, rfl⟩
    go_wp2_with fail
    refine (H2.out _).mono ?_
    rintro e w2 ⟨rfl, hb⟩
    go_wp2_with fail
    go_ret
    exact ⟨rfl, hb⟩

theorem frac_all : ∀ r : Fin 256, r.val = 0 ∨ (fracOk (fracL r.val) = true ∧ fracV (fracL r.val) = r.val ∧ 1 ≤ (fracL r.val).length) := by decide +kernel
theorem fracL_pos (r : Nat) (h0 : 0 < r) (h1 : r < 256) : 1 ≤ (fracL r).length ∧ (fracL r).length ≤ 8 := by
  have h8 := dec_len8 (r * 390625) (by omega)
  have hp := pad8_len _ h8
  have ht := trim_len (pad8 (Lib.decDigits (r * 390625))) 48
  refine ⟨?_, by unfold fracL; omega⟩
  rcases frac_all ⟨r, h1⟩ with h | h
  · have : r = 0 := h
    omega
  · exact h.2.2

theorem rformat_any (n : Int) (h0 : -9223372036854775808 ≤ n) (h1 : n ≤ 9223372036854775807) (w : World) :
    Calls Tryd.prog 24 #[.int .i64 n] w fun e w' => e = .returned (.string (str (fmtL n))) ∧ Below w.heap.size w w' := by
  have hl1 := dec_len (n.natAbs / 256) (by omega)
  have hl2 := dec_len8 (n.natAbs % 256 * 390625) (by omega)
  have hs : KC 29 #[.int .i64 n] (.int .u64 (n.natAbs : Int)) := fun w => size_any n h0 h1 w
  have hd1 : KD 38 #[.int .u64 ((n.natAbs / 256 : Nat) : Int)] (.string (str (Lib.decDigits (n.natAbs / 256)))) := fun w => rdigits_any _ (show n.natAbs / 256 < 18446744073709551616 by omega) w
  have hd2 : KD 38 #[.int .u64 ((n.natAbs % 256 * 390625 : Nat) : Int)] (.string (str (Lib.decDigits (n.natAbs % 256 * 390625)))) := fun w => rdigits_any _ (show n.natAbs % 256 * 390625 < 18446744073709551616 by omega) w
  rw [← fmt_join n _ _ rfl rfl]
  by_cases hr : n.natAbs % 256 = 0
  · have hR : (((n.natAbs % 256 : Nat) : Int) == 0) = true := by rw [hr]; rfl
    rw [hR]
    exact rf_zero n (n.natAbs : Int) _ ((n.natAbs % 256 : Nat) : Int) _ _ rfl hR (by omega) (by omega) (by omega) (by omega) rfl rfl hs hd1 hl1.2 w
  · have hR : (((n.natAbs % 256 : Nat) : Int) == 0) = false := by rw [beq_eq_false_iff_ne]; omega
    rw [hR]
    have hf := fracL_pos (n.natAbs % 256) (by omega) (by omega)
    by_cases hA : n < 0
    · rw [decide_eq_true hA]
      refine rf_round_neg n (n.natAbs : Int) _ ((n.natAbs % 256 : Nat) : Int) ((n.natAbs % 256 * 390625 : Nat) : Int) _ (Lib.decDigits (n.natAbs % 256 * 390625)) (fracL (n.natAbs % 256)) hA hR (by omega) (by omega) (by omega) (by omega) rfl rfl (by omega) hs hd1 hd2 hl1.2 ?_ ?_ hl2 ⟨rfl, hf⟩ w
      · have := str_size (Lib.decDigits (n.natAbs / 256))
        rw [ByteArray.size_append]; show 1 + _ ≤ _; omega
      · have := str_size (Lib.decDigits (n.natAbs / 256))
        rw [ByteArray.size_append, ByteArray.size_append]; show 1 + _ + 1 ≤ _; omega
    · rw [decide_eq_false hA]
      refine rf_round n (n.natAbs : Int) _ ((n.natAbs % 256 : Nat) : Int) ((n.natAbs % 256 * 390625 : Nat) : Int) _ (Lib.decDigits (n.natAbs % 256 * 390625)) (fracL (n.natAbs % 256)) hA hR (by omega) (by omega) (by omega) (by omega) rfl rfl (by omega) hs hd1 hd2 hl1.2 ?_ hl2 ⟨rfl, hf⟩ w
      · have := str_size (Lib.decDigits (n.natAbs / 256))
        rw [ByteArray.size_append]; show _ + 1 ≤ _; omega
end Go.Proofs.YtoihknngllmogaaDoor
