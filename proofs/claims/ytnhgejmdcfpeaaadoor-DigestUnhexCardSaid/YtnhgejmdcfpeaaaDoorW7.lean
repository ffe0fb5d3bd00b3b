/- Walks: reading a hexadecimal text. -/
import Derived.Test.YtnhgejmdcfpeaaaDoorW3
import Derived.Test.YtnhgejmdcfpeaaaDoorPlainUnhex
import Derived.Test.YtnhgejmdcfpeaaaDoorShelf
import Derived.Lib.ConvBytes
import Derived.Lib.Walk
import Derived.Lib.AtoiErrMem
import Derived.Laws.Strings3
import Derived.Laws.Closers25
import Derived.Laws.Closers25b
import Derived.BigCall
import Derived.BigGuard
namespace Go.Proofs.YtnhgejmdcfpeaaaDoor
open Go.RowKit
set_option linter.unusedVariables false
set_option linter.unusedSimpArgs false

theorem lower_any (c : UInt8) (w : World) : Calls Tryd.prog 33 #[.int .u8 (c.toNat : Int)] w fun e w' => e = .returned (.int .u8 (lowB c.toNat : Int)) ∧ w = w' :=
  (Tryd.internal_strconv_lower (c.toNat : Int) w).mono fun _ _ ⟨he, hw⟩ => ⟨by rw [he, low_eq], hw.symm⟩

theorem lower_95 (w : World) : Calls Tryd.prog 33 #[.int .u8 95] w fun e w' => e = .returned (.int .u8 127) ∧ w = w' :=
  (Tryd.internal_strconv_lower 95 w).mono fun _ _ ⟨he, hw⟩ => ⟨by rw [he, show bits .or .u8 95 32 = 127 by decide +kernel], hw.symm⟩

set_option maxHeartbeats 8000000 in
set_option maxRecDepth 100000 in
theorem iparse_any (t : ByteArray) (hne : t.size ≠ 0) (hmax : t.size ≤ 9223372036854775806) (w : World) :
    Calls Tryd.prog 27 #[.string t, .int .i64 16, .int .i64 64] w fun e w' => e = .returned (Lib.uintTuple 55 (p16 0 t.data.toList)) ∧ w' = Lib.bytesWorld w 5 t := by
  have hemp : t.toList.isEmpty = false := by
    rw [← decide_eq_emptyBytes]
    exact decide_eq_false (fun h => hne (by rw [h]; rfl))
  have hcv := Lib.run_convert_string_bytes (P := Tryd.prog) w 9 29 5 t (u := .string) Tryd.underlying9 Tryd.underlying29 Tryd.underlying5
  have hB : ∀ j, j < t.size → (Lib.bytesWorld w 5 t).cell? ⟨w.heap.size, j, none⟩ = some (.int .u8 (t.data.toList.getD j 0).toNat) := fun j hj => Lib.bytesWorld_cell w 5 t j hj
  obtain ⟨W1, hW1⟩ : ∃ W1, W1 = Lib.bytesWorld w 5 t := ⟨_, rfl⟩
  rw [← hW1] at hcv hB ⊢
  clear hW1
  obtain ⟨bs, hL⟩ : ∃ bs, bs = t.data.toList := ⟨_, rfl⟩
  have hLn : bs.length = t.size := by rw [hL, Lib.size_eq]
  rw [← hL] at hB ⊢
  clear hL
  have hmv : IntKind.u64.wrap (IntKind.u64.wrap 18446744073709551616 - 1) = 18446744073709551615 := by
    rw [IntKind.wrap_u64, IntKind.wrap_u64]
    decide
  go_enter Tryd.func27, Tryd.ntmps27
  go_wp2
  go_loop [12, 13, 101] (fun vu vn vi => ∃ (k acc : Nat) (a : Int), vu = .bool false ∧ vn = .int .u64 a ∧ vi = .int .i64 k ∧ k ≤ t.size ∧ Hid (a = (acc : Int) ∧ acc < 18446744073709551616 ∧ p16 0 bs = p16 acc (bs.drop k)))
    (fun _ _ vi => t.size - (intOf vi).toNat)
  case atStart => exact ⟨0, 0, 0, rfl, rfl, rfl, by omega, rfl, by omega, rfl⟩
  case round =>
    obtain ⟨k, acc, a, rfl, rfl, rfl, hk, hh⟩ := hrel
    obtain ⟨ha, hacc, hdec⟩ := hh.out
    clear hh
    have a0 : 0 ≤ a := by omega
    have a1 : a < 18446744073709551616 := by omega
    by_cases hkn : k < t.size
    · have hc := hB k hkn
      have hdrop : bs.drop k = bs[k]'(by omega) :: bs.drop (k + 1) := List.drop_eq_getElem_cons (by omega)
      have hget : bs.getD k 0 = bs[k]'(by omega) := by simp [List.getD, List.getElem?_eq_getElem (show k < bs.length by omega)]
      rw [hdrop] at hdec
      rw [hget] at hc
      generalize bs[k]'(by omega) = c at hc hdec
      have hc256 : c.toNat < 256 := c.toNat_lt
      clear hB hdrop hget
      rcases low_class c with ⟨hd0, hd1, hv⟩ | ⟨hd0, h95, hl0, hl1, hv⟩ | ⟨hd0, h95, hl0, hl1, hv⟩ | ⟨hd0, hl0, hl1, hv⟩
      · by_cases hcut : 1152921504606846976 ≤ acc
        · have hF : p16 acc (c :: bs.drop (k + 1)) = .range := by rw [p16, if_neg (by omega), if_pos hcut]
          rw [hF] at hdec
          have icut : 1152921504606846976 ≤ a := by omega
          clear hcut hacc hF ha hv
          go_wp2
          go_ret2
          first | exact ⟨rfl, rfl⟩ | exact ⟨by rw [hdec]; rfl, rfl⟩
        · have hF : p16 acc (c :: bs.drop (k + 1)) = p16 (acc * 16 + (c.toNat - 48)) (bs.drop (k + 1)) := by rw [p16, if_neg (by omega), if_neg hcut, hv]
          have HN : Hid (a * 16 + ((c.toNat : Int) - 48) = ((acc * 16 + (c.toNat - 48) : Nat) : Int) ∧ acc * 16 + (c.toNat - 48) < 18446744073709551616 ∧ p16 0 bs = p16 (acc * 16 + (c.toNat - 48)) (bs.drop (k + 1))) := Lib.hid ⟨by omega, by omega, hdec.trans hF⟩
          have icut : a < 1152921504606846976 := by omega
          clear hcut hacc hF hdec ha hv
          go_wp2
          refine ⟨⟨k + 1, acc * 16 + (c.toNat - 48), a * 16 + ((c.toNat : Int) - 48), rfl, (by first | rfl | (congr 1; omega)), (by first | rfl | (congr 1; omega)), by omega, HN⟩, by simp [intOf]; omega⟩
      · have HLow := Lib.hid (fun W => lower_any c W)
        generalize lowB c.toNat = v at *
        by_cases hcut : 1152921504606846976 ≤ acc
        · have hF : p16 acc (c :: bs.drop (k + 1)) = .range := by rw [p16, if_neg (by omega), if_pos hcut]
          rw [hF] at hdec
          have icut : 1152921504606846976 ≤ a := by omega
          clear hcut hacc hF ha hv
          go_wp2_with (go_at_call 33; refine (HLow.out _).mono ?_; rintro e w' ⟨rfl, rfl⟩)
          go_ret2
          first | exact ⟨rfl, rfl⟩ | exact ⟨by rw [hdec]; rfl, rfl⟩
        · have hF : p16 acc (c :: bs.drop (k + 1)) = p16 (acc * 16 + (v - 87)) (bs.drop (k + 1)) := by rw [p16, if_neg (by omega), if_neg hcut, hv]
          have HN : Hid (a * 16 + ((v : Int) - 97 + 10) = ((acc * 16 + (v - 87) : Nat) : Int) ∧ acc * 16 + (v - 87) < 18446744073709551616 ∧ p16 0 bs = p16 (acc * 16 + (v - 87)) (bs.drop (k + 1))) := Lib.hid ⟨by omega, by omega, hdec.trans hF⟩
          have icut : a < 1152921504606846976 := by omega
          clear hcut hacc hF hdec ha hv
          go_wp2_with (go_at_call 33; refine (HLow.out _).mono ?_; rintro e w' ⟨rfl, rfl⟩)
          refine ⟨⟨k + 1, acc * 16 + (v - 87), a * 16 + ((v : Int) - 97 + 10), rfl, (by first | rfl | (congr 1; omega)), (by first | rfl | (congr 1; omega)), by omega, HN⟩, by simp [intOf]; omega⟩
      · have HLow := Lib.hid (fun W => lower_any c W)
        generalize lowB c.toNat = v at *
        have hF : p16 acc (c :: bs.drop (k + 1)) = .syntax := by rw [p16, if_pos hv]
        rw [hF] at hdec
        clear hacc hF ha hv
        go_wp2_with (go_at_call 33; refine (HLow.out _).mono ?_; rintro e w' ⟨rfl, rfl⟩)
        go_ret2
        first | exact ⟨rfl, rfl⟩ | exact ⟨by rw [hdec]; rfl, rfl⟩
      · have HLow := Lib.hid (fun W => lower_any c W)
        generalize lowB c.toNat = v at *
        have hF : p16 acc (c :: bs.drop (k + 1)) = .syntax := by rw [p16, if_pos hv]
        rw [hF] at hdec
        clear hacc hF ha hv
        by_cases h95 : c.toNat = 95
        · have hc95 : W1.cell? ⟨w.heap.size, k, none⟩ = some (.int .u8 95) := by rw [hc, h95]; rfl
          have HL95 := Lib.hid lower_95
          clear hc h95 hd0 hl0 hl1 hc256 HLow
          go_wp2_with (go_at_call 33; refine (HL95.out _).mono ?_; rintro e w' ⟨rfl, rfl⟩)
          go_ret2
          first | exact ⟨rfl, rfl⟩ | exact ⟨by rw [hdec]; rfl, rfl⟩
        · rcases hd0 with hd0 | hd0 <;> rcases hl0 with hl0 | hl0
          all_goals go_wp2_with (go_at_call 33; refine (HLow.out _).mono ?_; rintro e w' ⟨rfl, rfl⟩)
          all_goals go_ret2
          all_goals first | exact ⟨rfl, rfl⟩ | exact ⟨by rw [hdec]; rfl, rfl⟩
    · have hkk : k = t.size := by omega
      subst hkk
      have hF : p16 acc (bs.drop t.size) = .ok acc := by rw [List.drop_eq_nil_of_le (by omega)]; rfl
      rw [hF] at hdec
      subst ha
      clear hacc hF a0 a1
      go_wp2
      go_ret2
      exact ⟨rfl, rfl⟩
end Go.Proofs.YtnhgejmdcfpeaaaDoor
