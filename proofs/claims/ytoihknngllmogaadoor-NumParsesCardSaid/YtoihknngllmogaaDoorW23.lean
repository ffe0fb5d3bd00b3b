/- The reference's Digits of the num package. -/
import Derived.Test.YtoihknngllmogaaDoorW22
namespace Go.Proofs.YtoihknngllmogaaDoor
open Go.RowKit
set_option linter.unusedVariables false
set_option linter.unusedSimpArgs false

theorem conv1 (c : Int) (b : Nat) (W : World) (hb : b = W.heap.size) : (convert 57 9 (.slice (some ⟨b, 0, none⟩) 1 1)).run Tryd.prog (W.alloc (.cells #[.int .u8 c] 5)) = .ok (.string (strOfNums [c])) (W.alloc (.cells #[.int .u8 c] 5)) := by
  subst hb
  exact run_convert_bytes_arg (P := Tryd.prog) (W.alloc (.cells #[.int .u8 c] 5)) 57 5 Tryd.underlying57 Tryd.underlying5 W.heap.size 0 1 1 [c] rfl (fun i hi => by
    obtain rfl : i = 0 := by omega
    rw [Nat.zero_add, World.cell?_alloc_new]; rfl) 9 Tryd.underlying9

theorem one_str (m : Nat) (mi : Int) (h : mi = m) (hm : m < 10) : strOfNums [48 + mi] = str [UInt8.ofNat (48 + m)] := by
  subst h
  unfold strOfNums str
  rfl
theorem one_size (c : Int) : (strOfNums [c]).size ≤ 1 := by unfold strOfNums; exact Nat.le_refl _

set_option maxHeartbeats 1000000 in
theorem rdigits_any (n : Nat) (hn : Hid (n < 18446744073709551616)) (w : World) :
    Calls Tryd.prog 38 #[.int .u64 n] w fun e w' => e = .returned (.string (str (Lib.decDigits n))) ∧ Below w.heap.size w w' := by
  have hcv := conv1
  have hlen := Lib.hid (dec_len n hn)
  obtain ⟨ni, hni, hni0, hni1⟩ : ∃ ni : Int, Hid ((n : Int) = ni) ∧ 0 ≤ ni ∧ ni ≤ 18446744073709551615 := ⟨n, rfl, by omega, by have := hn.out; omega⟩
  rw [hni.out]
  go_enter Tryd.func38, Tryd.ntmps38
  go_wp2
  go_loopw [0, 3] (fun u t wr => ∃ (m : Nat) (mi : Int) (b : ByteArray), u = .int .u64 mi ∧ t = .string b ∧ 0 ≤ mi ∧ mi ≤ 18446744073709551615 ∧ b.size ≤ 20 ∧ Hid (mi = m ∧ str (Lib.decDigits n) = str (Lib.decDigits m) ++ b) ∧ Below w.heap.size w wr) (fun u _ _ => (intOf u).toNat)
  case atStart => exact ⟨n, ni, _, rfl, rfl, hni0, hni1, by decide, ⟨hni.out.symm, by have := str_append (Lib.decDigits n) []; rw [List.append_nil] at this; exact this.symm⟩, Below.refl _ _⟩
  case round =>
    obtain ⟨m, mi, b, rfl, rfl, hm0, hm1, hbz, hm, hb⟩ := hrel
    by_cases hlt : 9 < mi
    · have hs1 := one_size (48 + mi % 10)
      go_wp2
      go_roundw
      case rel =>
        have hm' := hm.out
        have e1 : Lib.decDigits m = Lib.decDigits (m / 10) ++ [UInt8.ofNat (48 + m % 10)] := by
          rw [Lib.decDigits]; rw [dif_neg (by omega)]
        have e2 : str (Lib.decDigits n) = str (Lib.decDigits (m / 10)) ++ (strOfNums [48 + mi % 10] ++ b) := by
          rw [hm'.2, e1, ← str_append, one_str (m % 10) (mi % 10) (by omega) (by omega), ByteArray.append_assoc]
        refine ⟨m / 10, mi / 10, _, rfl, rfl, by omega, by omega, ?_, ⟨by omega, e2⟩, hb.trans ((Below.refl _ _).alloc hb.size _)⟩
        have e3 := congrArg ByteArray.size e2
        rw [ByteArray.size_append, str_size, str_size] at e3
        have := hlen.out
        omega
      case measure => simp [intOf]; omega
    · have hs1 := one_size (48 + mi)
      go_wp2
      go_ret
      have hm' := hm.out
      have e1 : Lib.decDigits m = [UInt8.ofNat (48 + m)] := by
        rw [Lib.decDigits]; rw [dif_pos (by omega)]
      refine ⟨?_, hb.trans ((Below.refl _ _).alloc hb.size _)⟩
      rw [hm'.2, e1, ← one_str m mi hm'.1 (by omega)]
      rfl
end Go.Proofs.YtoihknngllmogaaDoor
