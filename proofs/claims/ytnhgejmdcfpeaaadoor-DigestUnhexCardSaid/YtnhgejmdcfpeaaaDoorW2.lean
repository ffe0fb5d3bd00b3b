/- Walks: the hexadecimal text of a number. -/
import Derived.Test.YtnhgejmdcfpeaaaDoorW1
import Derived.Test.YtnhgejmdcfpeaaaDoorPlainHex
import Derived.Laws.BytesArg
import Derived.Laws.BitsAllLaws
import Derived.Laws.BitsLemmas
namespace Go.Proofs.YtnhgejmdcfpeaaaDoor
open Go.RowKit
set_option linter.unusedVariables false
set_option linter.unusedSimpArgs false

theorem keyTz : IntKind.u64.wrap (bits BinOp.and IntKind.u64 16 (IntKind.u64.wrap (-16)) * 285870213051353865) / 288230376151711744 = (15 : Int) := by decide +kernel

theorem tz64_16 (w : World) (hc : w.cell? ⟨4, 15, none⟩ = some (.int .u8 4)) :
    Calls Tryd.prog 48 #[.int .u64 16] w fun e w' => e = .returned (.int .i64 4) ∧ w = w' := by
  go_enter Tryd.func48, Tryd.ntmps48
  go_wp2_with (simp only [keyTz])
  go_ret
  exact ⟨rfl, rfl⟩

theorem tz_16 (w : World) (hc : w.cell? ⟨4, 15, none⟩ = some (.int .u8 4)) :
    Calls Tryd.prog 43 #[.int .u64 16] w fun e w' => e = .returned (.int .i64 4) ∧ w = w' := by
  go_enter Tryd.func43, Tryd.ntmps43
  go_wp2_with (go_at_call 48; refine (tz64_16 _ hc).mono ?_; rintro e w1 ⟨rfl, rfl⟩)
  go_ret
  exact ⟨rfl, rfl⟩

theorem pow2_16 (w : World) :
    Calls Tryd.prog 42 #[.int .i64 16] w fun e w' => e = .returned (.bool true) ∧ w = w' := by
  go_enter Tryd.func42, Tryd.ntmps42
  go_wp2
  go_ret
  exact ⟨by rw [show (bits BinOp.and IntKind.i64 16 15 == 0) = true by decide +kernel]; rfl, rfl⟩

def Z65 : Array Value := Array.replicate 65 (.int .u8 0)
theorem zero65 (w : World) : (zeroValue 65).run Tryd.prog w = .ok (.agg Z65) w := by kernel_rfl

theorem and15 (m : Nat) (h : Hid (m < 18446744073709551616)) : bits BinOp.and IntKind.u64 (m : Int) 15 = ((m % 16 : Nat) : Int) := by
  have := bits_and_u64_nat m 15 h (by omega)
  rw [show ((15 : Nat) : Int) = 15 from rfl] at this
  rw [this, show m &&& 15 = m &&& (2 ^ 4 - 1) from rfl, Nat.and_two_pow_sub_one_eq_mod]

theorem hexd_at (q : Nat) (hq : q < 16) (h : q < (⟨#[48, 49, 50, 51, 52, 53, 54, 55, 56, 57, 97, 98, 99, 100, 101, 102, 103, 104, 105, 106, 107, 108, 109, 110, 111, 112, 113, 114, 115, 116, 117, 118, 119, 120, 121, 122]⟩ : ByteArray).size) :
    (((⟨#[48, 49, 50, 51, 52, 53, 54, 55, 56, 57, 97, 98, 99, 100, 101, 102, 103, 104, 105, 106, 107, 108, 109, 110, 111, 112, 113, 114, 115, 116, 117, 118, 119, 120, 121, 122]⟩ : ByteArray)[q]'h).toNat : Int) = hexd q := by
  have : ∀ q : Fin 16, (((⟨#[48, 49, 50, 51, 52, 53, 54, 55, 56, 57, 97, 98, 99, 100, 101, 102, 103, 104, 105, 106, 107, 108, 109, 110, 111, 112, 113, 114, 115, 116, 117, 118, 119, 120, 121, 122]⟩ : ByteArray).get! q.val).toNat : Int) = hexd q.val := by decide +kernel
  have h1 := this ⟨q, hq⟩
  have g := get_at _ q h
  rw [Nat.add_zero] at g
  rw [← g]
  exact h1

theorem arr65 : Tryd.prog.arrayLen 65 = 65 := by kernel_rfl
theorem und65 : Tryd.prog.underlying 65 = some (.array (Tryd.prog.arrayLen 65) (Tryd.prog.elem 65)) := by kernel_rfl
theorem sl65 (b k : Nat) (hk : k ≤ 64) (w : World) : (Instr.sliceAt 65 (.pointer (some ⟨b, 0, none⟩)) (some (.int .i64 k)) none none).run Tryd.prog w = .ok (.slice (some ⟨b, k, none⟩) (65 - k) (65 - k)) w := by
  have h1 : (sizeOf (Tryd.prog.elem 65)).run Tryd.prog w = .ok 1 w := by kernel_rfl
  rw [run_sliceAt_array_l w 65 _ und65 .i64 k (by omega) (by rw [arr65]; omega), h1, arr65]
  simp only [Result.andThen, slicedAt, Int.toNat_natCast]
  rw [if_neg (by omega), Addr.add_lit]
  simp

set_option maxHeartbeats 400000 in
theorem formatBits_any (n : Nat) (w : World) (hn : Hid (n < 18446744073709551616)) (hc : w.cell? ⟨4, 15, none⟩ = some (.int .u8 4)) (hz : 4 < w.heap.size) :
    Calls Tryd.prog 32 #[.slice none 0 0, .int .u64 n, .int .i64 16, .bool false, .bool false] w fun e w' => e = .returned (.tuple #[.slice none 0 0, .string (hexs n)]) ∧ Below w.heap.size w w' := by
  have z65 := zero65
  go_enter Tryd.func32, Tryd.ntmps32
  go_wp2_with (first | (go_at_call 42; refine (pow2_16 _).mono ?_; rintro e w1 ⟨rfl, rfl⟩) | (go_at_call 43; refine (tz_16 _ (by first | (rw [World.cell?_alloc_lt _ _ _ hz]; exact hc) | exact hc)).mono ?_; rintro e w1 ⟨rfl, rfl⟩))
  clear z65
  go_loopw [1, 13] (fun u i wr => ∃ (m k : Nat) (cs : Array Value), u = .int .u64 m ∧ i = .int .i64 (k + 1) ∧ wr = w.alloc (.cells cs 65) ∧ k ≤ 64 ∧ hxrel n m (k + 1) cs) (fun u _ _ => (intOf u).toNat)
  case atStart => exact ⟨n, 64, _, rfl, rfl, rfl, by omega, hxrel_start n hn⟩
  case round =>
    obtain ⟨m, k, cs, rfl, rfl, rfl, hk2, hr⟩ := hrel
    have hm : Hid (m < 18446744073709551616) := hr.lt64 hn
    obtain ⟨n0, hn0⟩ := hr.cells k (by omega)
    have hcell : (w.alloc (.cells cs 65)).cell? ⟨w.heap.size, k, none⟩ = some (.int .u8 n0) := by rw [World.cell?_alloc_new]; exact hn0
    clear hn0
    have HR := Lib.hid hr
    clear hr
    by_cases h16 : 16 ≤ m
    · have hk1 : 1 ≤ k := HR.out.pos h16
      have ha := and15 m hm
      obtain ⟨q, hq⟩ : ∃ q, q = m % 16 := ⟨_, rfl⟩
      have hq16 : q < 16 := by omega
      rw [← hq] at ha
      have HQ := Lib.hid hq
      clear hq
      go_wp2
      go_roundw
      case rel =>
        refine ⟨m / 16, k - 1, _, by simp, ?_, rfl, by omega, ?_⟩
        · rw [show ((k - 1 : Nat) : Int) + 1 = (k : Int) by omega]
        · rw [hexd_at q hq16, HQ.out, show k - 1 + 1 = k by omega]
          exact HR.out.step h16
      case measure => simp [intOf]; omega
    · have hl := HR.out.last h16
      have hcv := run_convert_bytes_arg (P := Tryd.prog) (w.alloc (.cells (cs.setIfInBounds k (.int .u8 (hexd m))) 65)) 29 5 Tryd.underlying29 Tryd.underlying5 w.heap.size k (65 - k) (65 - k) (hexn n) hl.1 (fun i hi => by rw [World.cell?_alloc_new]; exact hl.2 i hi) 9 Tryd.underlying9
      clear hl
      have hsl := sl65 w.heap.size k hk2
      have hdg := hexd_at m (by omega)
      have h36 : m < 16 := by omega
      go_wp2
      go_ret2
      exact ⟨rfl, (Below.refl _ _).alloc (Nat.le_refl _) _⟩

theorem ifmt_any (n : Nat) (w : World) (hn : Hid (n < 18446744073709551616)) (hc : w.cell? ⟨4, 15, none⟩ = some (.int .u8 4)) (hz : 4 < w.heap.size) :
    Calls Tryd.prog 26 #[.int .u64 n, .int .i64 16] w fun e w' => e = .returned (.string (hexs n)) ∧ Below w.heap.size w w' := by
  go_enter Tryd.func26, Tryd.ntmps26
  go_wp2_with (go_at_call 32; refine (formatBits_any _ _ hn hc hz).mono ?_; rintro e w1 ⟨rfl, hb⟩)
  go_ret
  exact ⟨rfl, hb⟩

theorem fmt_any (n : Nat) (w : World) (hn : Hid (n < 18446744073709551616)) (hc : w.cell? ⟨4, 15, none⟩ = some (.int .u8 4)) (hz : 4 < w.heap.size) :
    Calls Tryd.prog 23 #[.int .u64 n, .int .i64 16] w fun e w' => e = .returned (.string (hexs n)) ∧ Below w.heap.size w w' := by
  go_enter Tryd.func23, Tryd.ntmps23
  go_wp2_with (go_at_call 26; refine (ifmt_any _ _ hn hc hz).mono ?_; rintro e w1 ⟨rfl, hb⟩)
  go_ret
  exact ⟨rfl, hb⟩

def pad (n j : Nat) : ByteArray := strOfNums (List.replicate j 48 ++ hexn n)
def hex16 (n : Nat) : ByteArray := pad n (16 - (hexn n).length)
theorem pad_size (n j : Nat) : (pad n j).size = j + (hexn n).length := by rw [pad, strOfNums_size]; simp
theorem pad_step (n j : Nat) : (⟨#[48]⟩ : ByteArray) ++ pad n j = pad n (j + 1) := by
  unfold pad strOfNums
  rw [List.replicate_succ]
  ext1
  simp [ByteArray.data_append]
def strSz : Value → Nat
  | .string s => s.size
  | _ => 0

set_option maxHeartbeats 400000 in
theorem hex_any (n : Nat) (w : World) (hn : Hid (n < 18446744073709551616)) (hc : w.cell? ⟨4, 15, none⟩ = some (.int .u8 4)) (hz : 4 < w.heap.size) :
    Calls Tryd.prog 16 #[.int .u64 n] w fun e w' => e = .returned (.string (hex16 n)) ∧ Below w.heap.size w w' := by
  go_enter Tryd.func16, Tryd.ntmps16
  go_wp2_with (go_at_call 23; refine (fmt_any _ _ hn hc hz).mono ?_; rintro e w1 ⟨rfl, hb⟩)
  go_loop [3] (fun v => ∃ (t : ByteArray), v = .string t ∧ ∃ j, j ≤ 16 - (hexn n).length ∧ t = pad n j) (fun v => 16 - strSz v)
  case atStart => exact ⟨_, rfl, 0, Nat.zero_le _, by simp [pad, hexs]⟩
  case round =>
    obtain ⟨t, rfl, j, hj, ht⟩ := hrel
    have hts : t.size = j + (hexn n).length := by rw [ht, pad_size]
    have HT := Lib.hid ht
    have HS := Lib.hid hts
    clear ht hts
    by_cases h16 : t.size < 16
    · go_wp2
      go_round
      case rel =>
        refine ⟨_, rfl, j + 1, ?_, ?_⟩
        · have := HS.out; omega
        · rw [HT.out, pad_step]
      case measure =>
        have := HS.out
        have e : (({ data := #[48] } : ByteArray) ++ t).size = t.size + 1 := by
          rw [ByteArray.size_append]
          show 1 + t.size = _
          omega
        simp only [strSz]
        omega
    · go_wp2
      go_ret
      refine ⟨?_, hb⟩
      have := HS.out
      have hj : j = 16 - (hexn n).length := by omega
      rw [HT.out, hj]
      rfl

theorem hex255 : hex16 255 = ⟨#[48, 48, 48, 48, 48, 48, 48, 48, 48, 48, 48, 48, 48, 48, 102, 102]⟩ := by
  have h : hexn 255 = [102, 102] := by simp [hexn, hexd]
  unfold hex16 pad
  rw [h]
  decide +kernel
theorem ext_nil : ext 14695981039346656037 [] = 14695981039346656037 := rfl
theorem ext_foobar : ext 14695981039346656037 [102, 111, 111, 98, 97, 114] = 9625390261332436968 := by decide +kernel

theorem fnv_empty (w : World) : Calls Tryd.prog 10 #[.string ⟨#[]⟩] w fun e w' => e = .returned (.int .u64 14695981039346656037) ∧ Below w.heap.size w w' :=
  (fnv_any ⟨#[]⟩ w (by decide)).mono fun _ _ ⟨he, hb⟩ => ⟨by rw [he]; rfl, hb⟩
theorem fnv_foobar (w : World) : Calls Tryd.prog 10 #[.string ⟨#[102, 111, 111, 98, 97, 114]⟩] w fun e w' => e = .returned (.int .u64 9625390261332436968) ∧ Below w.heap.size w w' :=
  (fnv_any ⟨#[102, 111, 111, 98, 97, 114]⟩ w (by decide)).mono fun _ _ ⟨he, hb⟩ => ⟨by rw [he, ← ext_foobar], hb⟩
theorem hex_255 (w : World) (hc : w.cell? ⟨4, 15, none⟩ = some (.int .u8 4)) (hz : 4 < w.heap.size) :
    Calls Tryd.prog 16 #[.int .u64 255] w fun e w' => e = .returned (.string ⟨#[48, 48, 48, 48, 48, 48, 48, 48, 48, 48, 48, 48, 48, 48, 102, 102]⟩) ∧ Below w.heap.size w w' :=
  (hex_any 255 w (show 255 < 18446744073709551616 by omega) hc hz).mono fun _ _ ⟨he, hb⟩ => ⟨by rw [he, hex255], hb⟩

theorem alive_any (w : World) (hc : w.cell? ⟨4, 15, none⟩ = some (.int .u8 4)) (hz : 4 < w.heap.size) :
    Calls Tryd.prog 9 #[] w fun e w' => e = .returned (.bool true) ∧ Below w.heap.size w w' := by
  go_enter Tryd.func9, Tryd.ntmps9
  go_wp2_with fail
  refine (fnv_empty _).mono ?_
  rintro e w1 ⟨rfl, hb1⟩
  go_wp2_with fail
  refine (fnv_foobar _).mono ?_
  rintro e w2 ⟨rfl, hb2⟩
  have hc2 : w2.cell? ⟨4, 15, none⟩ = some (.int .u8 4) := by
    rw [hb2.cell (p := ⟨4, 15, none⟩) (Nat.lt_of_lt_of_le hz hb1.size), hb1.cell (p := ⟨4, 15, none⟩) hz]; exact hc
  have hz2 : 4 < w2.heap.size := Nat.lt_of_lt_of_le hz (Nat.le_trans hb1.size hb2.size)
  go_wp2_with fail
  refine (hex_255 _ hc2 hz2).mono ?_
  rintro e w3 ⟨rfl, hb3⟩
  go_wp2_with fail
  go_ret
  exact ⟨rfl, hb1.trans ((hb2.mono hb1.size).trans (hb3.mono (Nat.le_trans hb1.size hb2.size)))⟩
end Go.Proofs.YtnhgejmdcfpeaaaDoor
