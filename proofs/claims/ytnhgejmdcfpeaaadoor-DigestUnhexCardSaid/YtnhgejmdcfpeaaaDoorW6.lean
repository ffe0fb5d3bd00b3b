/- Walks of the law DigestMixes. -/
import Derived.Test.YtnhgejmdcfpeaaaDoorW3
import Derived.LoopN
import Derived.Laws.BytesArg
namespace Go.Proofs.YtnhgejmdcfpeaaaDoor
open Go.RowKit
set_option linter.unusedVariables false
set_option linter.unusedSimpArgs false

def Z8 : Array Value := #[.int .u8 0, .int .u8 0, .int .u8 0, .int .u8 0, .int .u8 0, .int .u8 0, .int .u8 0, .int .u8 0]
theorem zero47 (w : World) : (zeroValue 47).run Tryd.prog w = .ok (.agg #[.int .u8 0, .int .u8 0, .int .u8 0, .int .u8 0, .int .u8 0, .int .u8 0, .int .u8 0, .int .u8 0]) w := by kernel_rfl

def e8 (n : Int) : List Int := [n % 256, n / 256 % 256, n / 65536 % 256, n / 16777216 % 256, n / 4294967296 % 256, n / 1099511627776 % 256, n / 281474976710656 % 256, n / 72057594037927936 % 256]

theorem conv8 (n : Int) (w : World) : (convert 29 9 (.slice (some ⟨w.heap.size, 0, none⟩) 8 8)).run Tryd.prog (w.alloc (.cells #[.int .u8 (n % 256), .int .u8 (n / 256 % 256), .int .u8 (n / 65536 % 256), .int .u8 (n / 16777216 % 256), .int .u8 (n / 4294967296 % 256), .int .u8 (n / 1099511627776 % 256), .int .u8 (n / 281474976710656 % 256), .int .u8 (n / 72057594037927936 % 256)] 47)) =
    .ok (.string (strOfNums (e8 n))) (w.alloc (.cells #[.int .u8 (n % 256), .int .u8 (n / 256 % 256), .int .u8 (n / 65536 % 256), .int .u8 (n / 16777216 % 256), .int .u8 (n / 4294967296 % 256), .int .u8 (n / 1099511627776 % 256), .int .u8 (n / 281474976710656 % 256), .int .u8 (n / 72057594037927936 % 256)] 47)) :=
  run_convert_bytes_arg (P := Tryd.prog) _ 29 5 Tryd.underlying29 Tryd.underlying5 w.heap.size 0 8 8 (e8 n) rfl (fun i hi => by
    rw [Nat.zero_add, World.cell?_alloc_new]
    obtain rfl | rfl | rfl | rfl | rfl | rfl | rfl | rfl : i = 0 ∨ i = 1 ∨ i = 2 ∨ i = 3 ∨ i = 4 ∨ i = 5 ∨ i = 6 ∨ i = 7 := by omega
    all_goals rfl) 9 Tryd.underlying9

set_option maxHeartbeats 1000000 in
theorem bytes_any (n : Nat) (w : World) (hn : Hid (n < 18446744073709551616)) :
    Calls Tryd.prog 21 #[.int .u64 n] w fun e w' => e = .returned (.string (strOfNums (e8 n))) ∧ Below w.heap.size w w' := by
  have z47 := zero47
  have hcv := conv8 n w
  go_enter Tryd.func21, Tryd.ntmps21
  go_wp2
  clear z47
  refine wp_loop_rounds 9 ?_
  iterate 9 (rw [rounds_succ]; go_wp2)
  go_ret
  exact ⟨rfl, (Below.refl _ _).alloc (Nat.le_refl _) _⟩

theorem conv1i (c : Int) (b : Nat) (W : World) (hb : b = W.heap.size) : (convert 29 9 (.slice (some ⟨b, 0, none⟩) 1 1)).run Tryd.prog (W.alloc (.cells #[.int .u8 c] 5)) = .ok (.string (strOfNums [c])) (W.alloc (.cells #[.int .u8 c] 5)) := by
  subst hb
  exact run_convert_bytes_arg (P := Tryd.prog) (W.alloc (.cells #[.int .u8 c] 5)) 29 5 Tryd.underlying29 Tryd.underlying5 W.heap.size 0 1 1 [c] rfl (fun i hi => by
    obtain rfl : i = 0 := by omega
    rw [Nat.zero_add, World.cell?_alloc_new]; rfl) 9 Tryd.underlying9

theorem e8_take (n i : Nat) (hi : i < 8) : (e8 n).take (i + 1) = (e8 n).take i ++ [((n / 256 ^ i % 256 : Nat) : Int)] := by
  obtain rfl | rfl | rfl | rfl | rfl | rfl | rfl | rfl : i = 0 ∨ i = 1 ∨ i = 2 ∨ i = 3 ∨ i = 4 ∨ i = 5 ∨ i = 6 ∨ i = 7 := by omega
  all_goals simp [e8]

theorem strOfNums_append (a b : List Int) : strOfNums a ++ strOfNums b = strOfNums (a ++ b) := by
  apply ByteArray.ext
  rw [ByteArray.data_append]
  simp [strOfNums]

set_option maxHeartbeats 1000000 in
theorem eight_any (n : Nat) (w : World) (hn : Hid (n < 18446744073709551616)) :
    Calls Tryd.prog 22 #[.int .u64 n] w fun e w' => e = .returned (.string (strOfNums (e8 n))) ∧ Below w.heap.size w w' := by
  have hcv := conv1i
  go_enter Tryd.func22, Tryd.ntmps22
  go_wp2
  go_loopw [0, 3, 4] (fun u t i wr => ∃ (k m : Nat) (b : ByteArray), k ≤ 8 ∧ u = .int .u64 m ∧ i = .int .i64 k ∧ t = .string b ∧ Hid (m = n / 256 ^ k ∧ b = strOfNums ((e8 n).take k)) ∧ b.size ≤ k ∧ Below w.heap.size w wr) (fun _ _ i _ => 8 - (intOf i).toNat)
  case atStart => exact ⟨0, n, _, by omega, rfl, rfl, rfl, ⟨by simp, rfl⟩, Nat.le_refl _, Below.refl _ _⟩
  case round =>
    obtain ⟨k, m, b, hk, rfl, rfl, rfl, hm, hbz, hb⟩ := hrel
    have hq : IntKind.u64.wrap ((m : Int) / 256) = ((m / 256 : Nat) : Int) := by
      have h1 := hm.1
      have h2 : n / 256 ^ k ≤ n := Nat.div_le_self _ _
      have h3 : n < 18446744073709551616 := hn
      rw [IntKind.wrap_u64]
      omega
    have hs1 : (strOfNums [(m : Int) % 256]).size ≤ 1 := by rw [strOfNums_size]; simp
    by_cases hlt : k < 8
    · go_wp2
      go_roundw
      case rel =>
        refine ⟨k + 1, m / 256, b ++ strOfNums [(m : Int) % 256], by omega, rfl, by go_num, rfl, ⟨?_, ?_⟩, ?_, ?_⟩
        · rw [hm.1, Nat.pow_succ, Nat.div_div_eq_div_mul]
        · rw [e8_take n k hlt, ← strOfNums_append, ← hm.2, ← hm.1]
          rfl
        · rw [ByteArray.size_append, strOfNums_size]
          show b.size + 1 ≤ k + 1
          omega
        · exact hb.alloc hb.size _
      case measure => simp [intOf]; omega
    · go_wp2
      go_ret
      refine ⟨?_, hb⟩
      have hk8 : k = 8 := by omega
      rw [hm.2, hk8]
      rfl

theorem e8_size (n : Int) : (strOfNums (e8 n)).size ≤ 1000000 := by
  rw [strOfNums_size]
  simp [e8]

def mx (a b : Int) : Int := ext (ext 14695981039346656037 (strOfNums (e8 a)).data.toList) (strOfNums (e8 b)).data.toList

theorem mix_any (a b : Nat) (w : World) (ha : Hid (a < 18446744073709551616)) (hb : Hid (b < 18446744073709551616)) :
    Calls Tryd.prog 14 #[.int .u64 a, .int .u64 b] w fun e w' => e = .returned (.int .u64 (mx a b)) ∧ Below w.heap.size w w' := by
  go_enter Tryd.func14, Tryd.ntmps14
  go_wp2_with fail
  refine (bytes_any _ _ ha).mono ?_
  rintro e w1 ⟨rfl, hb1⟩
  go_wp2_with fail
  refine (extend_any _ _ _ (e8_size _)).mono ?_
  rintro e w2 ⟨rfl, hb2⟩
  go_wp2_with fail
  refine (bytes_any _ _ hb).mono ?_
  rintro e w3 ⟨rfl, hb3⟩
  go_wp2_with fail
  refine (extend_any _ _ _ (e8_size _)).mono ?_
  rintro e w4 ⟨rfl, hb4⟩
  go_wp2_with fail
  go_ret
  have h2 := hb1.trans (hb2.mono hb1.size)
  have h3 := h2.trans (hb3.mono h2.size)
  exact ⟨rfl, h3.trans (hb4.mono h3.size)⟩

theorem rmix_any (a b : Nat) (w : World) (ha : Hid (a < 18446744073709551616)) (hb : Hid (b < 18446744073709551616)) :
    Calls Tryd.prog 15 #[.int .u64 a, .int .u64 b] w fun e w' => e = .returned (.int .u64 (mx a b)) ∧ Below w.heap.size w w' := by
  go_enter Tryd.func15, Tryd.ntmps15
  go_wp2_with fail
  refine (eight_any _ _ ha).mono ?_
  rintro e w1 ⟨rfl, hb1⟩
  go_wp2_with fail
  refine (rextend_any _ _ _ (e8_size _)).mono ?_
  rintro e w2 ⟨rfl, rfl⟩
  go_wp2_with fail
  refine (eight_any _ _ hb).mono ?_
  rintro e w3 ⟨rfl, hb3⟩
  go_wp2_with fail
  refine (rextend_any _ _ _ (e8_size _)).mono ?_
  rintro e w4 ⟨rfl, rfl⟩
  go_wp2_with fail
  go_ret
  exact ⟨rfl, hb1.trans (hb3.mono hb1.size)⟩

theorem mixes_any (a b : Nat) (w : World) (ha : Hid (a < 18446744073709551616)) (hb : Hid (b < 18446744073709551616)) (hc : w.cell? ⟨4, 15, none⟩ = some (.int .u8 4)) (hz : 4 < w.heap.size) :
    Calls Tryd.prog 6 #[.int .u64 a, .int .u64 b] w fun e w' => e = .returned (.bool true) ∧ Below w.heap.size w w' := by
  go_enter Tryd.func6, Tryd.ntmps6
  go_wp2_with fail
  refine (mix_any _ _ _ ha hb).mono ?_
  rintro e w1 ⟨rfl, hb1⟩
  go_wp2_with fail
  refine (rmix_any _ _ _ ha hb).mono ?_
  rintro e w2 ⟨rfl, hb2⟩
  have h2 := hb1.trans (hb2.mono hb1.size)
  have hz2 : 4 < w2.heap.size := Nat.lt_of_lt_of_le hz h2.size
  have hc2 := hc_below h2 hc hz
  go_wp2_with fail
  refine (alive_any _ hc2 hz2).mono ?_
  rintro e w3 ⟨rfl, hb3⟩
  go_wp2_with fail
  go_ret
  exact ⟨rfl, h2.trans (hb3.mono h2.size)⟩

theorem u64_nat (a : Int) (wa : (Lit.int .u64 a).wf = true) : ∃ n : Nat, a = n ∧ n < 18446744073709551616 := by
  simp [Lit.wf, IntKind.min, IntKind.max, IntKind.signed, IntKind.bits] at wa
  exact ⟨a.toNat, by omega, by omega⟩

theorem w_DigestMixes (a : Int) (wa : (Lit.int .u64 a).wf = true) (b : Int) (wb : (Lit.int .u64 b).wf = true) (w : World) (hc : w.cell? ⟨4, 15, none⟩ = some (.int .u8 4)) :
    Calls Tryd.prog 6 #[.int .u64 a, .int .u64 b] w fun e w' => e = .returned (.bool true) ∧ Below w.heap.size w w' := by
  have hz : 4 < w.heap.size := World.block_lt_of_cell? w ⟨4, 15, none⟩ hc
  obtain ⟨n, rfl, hn⟩ := u64_nat a wa
  obtain ⟨m, rfl, hm⟩ := u64_nat b wb
  exact mixes_any n m w hn hm hc hz
end Go.Proofs.YtnhgejmdcfpeaaaDoor
