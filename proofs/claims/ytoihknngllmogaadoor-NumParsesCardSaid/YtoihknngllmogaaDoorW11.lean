/- Walks: FormatUint at base 10. -/
import Derived.Test.YtoihknngllmogaaDoorW10
import Derived.Lib.AppendIntMem
import Derived.Lib.ItoaMem
namespace Go.Proofs.YtoihknngllmogaaDoor
open Go.RowKit Go.Sort Go.Lib
set_option linter.unusedVariables false
set_option linter.unusedSimpArgs false

theorem zero73 (w : World) : (zeroValue 73).run Tryd.prog w = .ok (.agg Lib.zeros24) w := by kernel_rfl
theorem arr73 : Tryd.prog.arrayLen 73 = 24 := by kernel_rfl
theorem und73 : Tryd.prog.underlying 73 = some (.array (Tryd.prog.arrayLen 73) (Tryd.prog.elem 73)) := by kernel_rfl
theorem sl73 (b k : Nat) (hk : k ≤ 23) (w : World) : (Instr.sliceAt 73 (.pointer (some ⟨b, 0, none⟩)) none (some (.int .i64 k)) none).run Tryd.prog w = .ok (.slice (some ⟨b, 0, none⟩) k 24) w := by
  have h1 : (sizeOf (Tryd.prog.elem 73)).run Tryd.prog w = .ok 1 w := by kernel_rfl
  rw [run_sliceAt_array_h w 73 _ und73 .i64 k (by omega) (by rw [arr73]; omega), h1, arr73]
  simp only [Result.andThen, slicedAt, Int.toNat_natCast]
  rw [if_neg (by omega), Addr.add_lit]
  simp

theorem below_grow (w : World) (k : Nat) (os : Array Obj) : Below w.heap.size w (grow (w.drewN k) os) :=
  ⟨rfl, rfl, rfl, by simp [grow, World.drewN], fun i hi => by
    show (w.heap ++ os)[i]? = _
    exact Array.getElem?_append_left hi⟩

set_option maxHeartbeats 6400000 in
set_option maxRecDepth 100000 in
theorem ifmt_any (u : Nat) (hu64 : u < 18446744073709551616) (w : World) (htab : Lib.TabIs Tryd.prog w "internal/strconv.uint64pow10" .u64 Lib.pow10Tab) :
    Calls Tryd.prog 40 #[.int .u64 u, .int .i64 10] w fun e w' => e = .returned (.string ⟨(Lib.decDigits u).toArray⟩) ∧ Below w.heap.size w w' := by
  by_cases hs : u < 100
  · have HS := Lib.hid (fun W => Tryd.internal_strconv_small u hs W)
    clear hu64 htab
    go_enter Tryd.func40, Tryd.ntmps40
    go_wp2_with fail
    refine (HS.out _).mono ?_
    rintro e w' ⟨rfl, rfl⟩
    go_wp2_with fail
    go_ret
    exact ⟨rfl, Below.refl _ _⟩
  · have hu1 : 1 ≤ u := by omega
    have hnd20 : Lib.nDigits u ≤ 20 := by have := Lib.numDigits_eq u hu1 hu64; split at this <;> omega
    have hb3 : Lib.nDigits u ≤ 23 := by omega
    have hH0 := Lib.holds_zero0 w 73 (Lib.nDigits u) (by omega)
    have hfmt := Tryd.internal_strconv_formatBase10 w.heap.size 0 24 u (Array.replicate (Lib.nDigits u) 0) (w.alloc (.cells Lib.zeros24 73)) hH0 (by rw [Array.size_replicate]; exact Lib.lt_pow_nDigits u) hu64 (by rw [Array.size_replicate]; omega)
    rw [Array.size_replicate] at hfmt
    have HN := Lib.hid (fun W h => Tryd.internal_strconv_numDigits u hu1 hu64 W h)
    have HT := Lib.hid htab
    have HH0 := Lib.hid hH0
    have HF := Lib.hid hfmt
    have z73 := zero73
    have hsl := sl73 w.heap.size (Lib.nDigits u) hb3
    clear hH0 hfmt htab hu64 hnd20
    generalize hnd : Lib.nDigits u = nd at *
    have HND := Lib.hid hnd
    clear hnd
    go_enter Tryd.func40, Tryd.ntmps40
    go_wp2_with fail
    refine (HN.out _ (Lib.tabIs_alloc HT.out _)).mono ?_
    rintro e w' ⟨rfl, rfl⟩
    go_wp2_with fail
    refine HF.out.mono ?_
    rintro e w' ⟨rfl, k, v', dk, rfl, hF⟩
    have hcv : (convert 57 9 (.slice (some ⟨w.heap.size, 0, none⟩) nd 24)).run Tryd.prog ((putRow (fun (b : UInt8) => Value.int .u8 (b.toNat : Int)) (w.alloc (.cells Lib.zeros24 73)) w.heap.size 0 dk).drewN k) = .ok (.string ⟨(Lib.decDigits u).toArray⟩) ((putRow (fun (b : UInt8) => Value.int .u8 (b.toNat : Int)) (w.alloc (.cells Lib.zeros24 73)) w.heap.size 0 dk).drewN k) := by
      have hF2 : FmtInv (Lib.nDigits u) u 0 v' dk := by rw [HND.out]; exact hF
      have h := run_convert_bytes_back (P := Tryd.prog) ((putRow (fun (b : UInt8) => Value.int .u8 (b.toNat : Int)) (w.alloc (.cells Lib.zeros24 73)) w.heap.size 0 dk).drewN k) 57 9 5 ⟨w.heap.size, 0, none⟩ 24 (Lib.decDigits u) Tryd.underlying57 Tryd.underlying5 Tryd.underlying9 (fun j hj => by
        rw [Lib.row_is_numeral hF2 j hj, Lib.add_plain, World.cell?_drewN]
        exact cell?_putRow (fun (b : UInt8) => Value.int .u8 (b.toNat : Int)) _ w.heap.size 0 _ dk HH0.out (by rw [hF.size, Array.size_replicate]) j (by rw [hF.size]; rw [Lib.decDigits_length, HND.out] at hj; exact hj))
      rw [Lib.decDigits_length, HND.out] at h
      exact h
    have HFF := Lib.hid hF
    clear hF
    go_wp2_with fail
    go_ret
    obtain ⟨os, eo⟩ := Lib.fin_at w (.cells Lib.zeros24 73) dk k 0
    refine ⟨rfl, ?_⟩
    rw [eo]
    exact below_grow w k os

theorem fmt_any (u : Nat) (hu64 : Hid (u < 18446744073709551616)) (w : World) (htab : Lib.TabIs Tryd.prog w "internal/strconv.uint64pow10" .u64 Lib.pow10Tab) :
    Calls Tryd.prog 30 #[.int .u64 u, .int .i64 10] w fun e w' => e = .returned (.string ⟨(Lib.decDigits u).toArray⟩) ∧ Below w.heap.size w w' := by
  have HI := Lib.hid (ifmt_any u hu64 w htab)
  clear htab
  go_enter Tryd.func30, Tryd.ntmps30
  go_wp2_with fail
  refine HI.out.mono ?_
  rintro e w1 ⟨rfl, hb⟩
  go_wp2_with fail
  go_ret
  exact ⟨rfl, hb⟩
end Go.Proofs.YtoihknngllmogaaDoor
