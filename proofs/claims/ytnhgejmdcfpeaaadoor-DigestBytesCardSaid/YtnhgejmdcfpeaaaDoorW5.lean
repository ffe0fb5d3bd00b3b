/- Walks of the law DigestBytes. -/
import Derived.Test.YtnhgejmdcfpeaaaDoorW3
import Derived.Test.YtnhgejmdcfpeaaaDoorPlainFnv
import Derived.RegionTactic
import Derived.ChangeAlike
import Derived.BigRegion
namespace Go.Proofs.YtnhgejmdcfpeaaaDoor
open Go.RowKit
set_option linter.unusedVariables false
set_option linter.unusedSimpArgs false

theorem conv1 (c : UInt8) (W : World) : (convert 29 9 (.slice (some ⟨W.heap.size, 0, none⟩) 1 1)).run Tryd.prog (W.alloc (.cells #[.int .u8 (c.toNat : Int)] 5)) = .ok (.string ⟨#[c]⟩) (W.alloc (.cells #[.int .u8 (c.toNat : Int)] 5)) := by
  have := run_convert_bytes_arg (P := Tryd.prog) (W.alloc (.cells #[.int .u8 (c.toNat : Int)] 5)) 29 5 Tryd.underlying29 Tryd.underlying5 W.heap.size 0 1 1 [(c.toNat : Int)] rfl (fun i hi => by
    obtain rfl : i = 0 := by omega
    rw [Nat.zero_add, World.cell?_alloc_new]; rfl) 9 Tryd.underlying9
  rw [this]
  simp [strOfNums]

set_option maxHeartbeats 400000 in
theorem bytes_small (s : ByteArray) (a : Nat) (c : UInt8) (w : World) (h0 : 0 < s.size) (hs : s.size ≤ 10000) (ha : a ≤ 65535) (hc : w.cell? ⟨4, 15, none⟩ = some (.int .u8 4)) (hz : 4 < w.heap.size) :
    Calls Tryd.prog 5 #[.string s, .int .u16 a, .int .u8 (c.toNat : Int)] w fun e w' => e = .returned (.bool true) ∧ Below w.heap.size w w' := by
  have hk : a % s.size < s.size := Nat.mod_lt _ h0
  have h00 : ((s.size : Int) == 0) = false := by
    rw [beq_eq_false_iff_ne]; omega
  have ek : (a : Int) % (s.size : Int) = ((a % s.size : Nat) : Int) := rfl
  have EK := Lib.hid ek
  clear ek
  go_enter Tryd.func5, Tryd.ntmps5
  go_wp2_with fail
  rw [EK.out]
  clear EK
  generalize a % s.size = k at *
  have hcv : (convert 29 9 (.slice (some ⟨w.heap.size, 0, none⟩) 1 1)).run Tryd.prog (w.alloc (.cells #[.int .u8 (c.toNat : Int)] 5)).drew = .ok (.string ⟨#[c]⟩) (w.alloc (.cells #[.int .u8 (c.toNat : Int)] 5)).drew := conv1 c w.drew
  have k0 : (0 : Int) ≤ k := by omega
  have k1 : (k : Int) ≤ s.size := by omega
  have k2 : (0 : Int) ≤ (k : Int) + 1 := by omega
  have k3 : (k : Int) + 1 ≤ s.size := by omega
  go_region
  obtain ⟨t, ht⟩ : ∃ t, t = s.extract 0 k ++ ⟨#[c]⟩ ++ s.extract (k + 1) s.size := ⟨_, rfl⟩
  obtain ⟨b, hkey1, hkey2⟩ := bytes_bool s k hk c t ht
  have hts : t.size ≤ 1000000 := by
    rw [ht]
    simp only [ByteArray.size_append, ByteArray.size_extract]
    show _ + 1 + _ ≤ _
    omega
  rw [← ht]
  have HK1 := Lib.hid hkey1
  have HK2 := Lib.hid hkey2
  clear hkey1 hkey2 ht hcv
  have hb0 : Below w.heap.size w (w.alloc (.cells #[.int .u8 (c.toNat : Int)] 5)).drew := ((Below.refl _ _).alloc (Nat.le_refl _) _).drew
  generalize (w.alloc (.cells #[.int .u8 (c.toNat : Int)] 5)).drew = w0 at *
  go_wp2_with fail
  refine (fnv_any _ _ hts).mono ?_
  rintro e w1 ⟨rfl, hb1⟩
  go_wp2_with fail
  refine (fnv_any _ _ (by omega)).mono ?_
  rintro e w2 ⟨rfl, hb2⟩
  have hb02 := (hb0.trans (hb1.mono hb0.size)).trans (hb2.mono (Nat.le_trans hb0.size hb1.size))
  have hz2 : 4 < w2.heap.size := Nat.lt_of_lt_of_le hz hb02.size
  have hc2 := hc_below hb02 hc hz
  have e1 := HK1.out
  have e2 := HK2.out
  clear HK1 HK2
  cases b
  all_goals
    go_wp2_with fail
    refine (alive_any _ hc2 hz2).mono ?_
    rintro e w4 ⟨rfl, hb4⟩
    go_wp2_with fail
    go_ret
    exact ⟨rfl, hb02.trans (hb4.mono hb02.size)⟩

theorem bytes_zero (s : ByteArray) (a : Nat) (c : UInt8) (w : World) (h0 : s.size = 0) (hc : w.cell? ⟨4, 15, none⟩ = some (.int .u8 4)) (hz : 4 < w.heap.size) :
    Calls Tryd.prog 5 #[.string s, .int .u16 a, .int .u8 (c.toNat : Int)] w fun e w' => e = .returned (.bool true) ∧ Below w.heap.size w w' := by
  have h00 : ((s.size : Int) == 0) = true := by rw [h0]; rfl
  clear h0
  go_enter Tryd.func5, Tryd.ntmps5
  go_wp2_with fail
  refine (alive_any _ hc hz).mono ?_
  rintro e w4 ⟨rfl, hb4⟩
  go_wp2_with fail
  go_ret
  exact ⟨rfl, hb4⟩

theorem bytes_big (s : ByteArray) (a : Nat) (c : UInt8) (w : World) (h0 : 10000 < s.size) (hc : w.cell? ⟨4, 15, none⟩ = some (.int .u8 4)) (hz : 4 < w.heap.size) :
    Calls Tryd.prog 5 #[.string s, .int .u16 a, .int .u8 (c.toNat : Int)] w fun e w' => e = .returned (.bool true) ∧ Below w.heap.size w w' := by
  have h00 : ((s.size : Int) == 0) = false := by
    rw [beq_eq_false_iff_ne]; omega
  go_enter Tryd.func5, Tryd.ntmps5
  go_wp2_with fail
  refine (alive_any _ hc hz).mono ?_
  rintro e w4 ⟨rfl, hb4⟩
  go_wp2_with fail
  go_ret
  exact ⟨rfl, hb4⟩

theorem w_DigestBytes (s : ByteArray) (_hl : s.size ≤ 140737488351232) (a : Int) (wa : (Lit.int .u16 a).wf = true) (c : Int) (wc : (Lit.int .u8 c).wf = true) (w : World) (hc : w.cell? ⟨4, 15, none⟩ = some (.int .u8 4)) :
    Calls Tryd.prog 5 #[.string s, .int .u16 a, .int .u8 c] w fun e w' => e = .returned (.bool true) ∧ Below w.heap.size w w' := by
  have hz : 4 < w.heap.size := World.block_lt_of_cell? w ⟨4, 15, none⟩ hc
  have ba : 0 ≤ a ∧ a ≤ 65535 := by simp [Lit.wf, IntKind.min, IntKind.max, IntKind.signed, IntKind.bits] at wa; omega
  have bc : 0 ≤ c ∧ c ≤ 255 := by simp [Lit.wf, IntKind.min, IntKind.max, IntKind.signed, IntKind.bits] at wc; omega
  obtain ⟨n, rfl⟩ : ∃ n : Nat, a = n := ⟨a.toNat, by omega⟩
  obtain ⟨u, rfl⟩ : ∃ u : UInt8, c = (u.toNat : Int) := ⟨UInt8.ofNat c.toNat, by simp; omega⟩
  by_cases h0 : s.size = 0
  · exact bytes_zero s n u w h0 hc hz
  · by_cases h1 : s.size ≤ 10000
    · exact bytes_small s n u w (by omega) h1 (by omega) hc hz
    · exact bytes_big s n u w (by omega) hc hz
end Go.Proofs.YtnhgejmdcfpeaaaDoor
