/- Walks: Unhex of the digest package. -/
import Derived.Test.YtnhgejmdcfpeaaaDoorW7
namespace Go.Proofs.YtnhgejmdcfpeaaaDoor
open Go.RowKit
set_option linter.unusedVariables false
set_option linter.unusedSimpArgs false

def pres (s : ByteArray) : Option Nat := if s.size = 0 then none else match p16 0 s.data.toList with
  | .ok u => some u
  | _ => none

set_option maxRecDepth 100000 in
theorem iparse_zero (t : ByteArray) (h0 : t.size = 0) (w : World) :
    Calls Tryd.prog 27 #[.string t, .int .i64 16, .int .i64 64] w fun e w' => e = .returned (.tuple #[.int .u64 0, .iface 55 (.int .i64 2)]) ∧ w = w' := by
  have hemp : t.toList.isEmpty = true := by
    rw [ByteArray.toList_eq, List.isEmpty_iff_length_eq_zero, Lib.size_eq] at *
    exact h0
  go_enter Tryd.func27, Tryd.ntmps27
  go_wp2
  go_ret2
  exact ⟨rfl, rfl⟩

def Err2 (B : Nat) (w : World) (e : Ending) (w' : World) : Prop := ∃ v t p, e = .returned (.tuple #[.int .u64 v, .iface t p]) ∧ Below B w w'

theorem iparse_ok (s : ByteArray) (u : Nat) (h : pres s = some u) (hm : s.size ≤ 1000000) (w : World) :
    Calls Tryd.prog 27 #[.string s, .int .i64 16, .int .i64 64] w fun e w' => e = .returned (.tuple #[.int .u64 u, .nilIface]) ∧ Below w.heap.size w w' := by
  unfold pres at h
  by_cases h0 : s.size = 0
  · rw [if_pos h0] at h; cases h
  · rw [if_neg h0] at h
    refine (iparse_any s h0 (by omega) w).mono fun e w' ⟨he, hw⟩ => ?_
    rw [he, hw]
    refine ⟨?_, Lib.bytesWorld_below _ _ _⟩
    cases hp : p16 0 s.data.toList with
    | ok n => rw [hp] at h; cases h; rfl
    | «syntax» => rw [hp] at h; cases h
    | range => rw [hp] at h; cases h

theorem parse_ok (s : ByteArray) (u : Nat) (h : pres s = some u) (hm : s.size ≤ 1000000) (w : World) :
    Calls Tryd.prog 24 #[.string s, .int .i64 16, .int .i64 64] w fun e w' => e = .returned (.tuple #[.int .u64 u, .nilIface]) ∧ Below w.heap.size w w' := by
  have HI := Lib.hid (iparse_ok s u h hm w)
  clear h
  go_enter Tryd.func24, Tryd.ntmps24
  go_wp2_with fail
  refine HI.out.mono ?_
  rintro e w1 ⟨rfl, hb⟩
  go_wp2_with fail
  go_ret2
  exact ⟨rfl, hb⟩

theorem parse_syntax_zero (s : ByteArray) (h : s.size = 0) (w : World) (ev : Value) (hev : ev = .nilIface ∨ ∃ te pe, ev = .iface te pe) (hc : w.cell? ⟨1, 0, none⟩ = some ev) :
    Calls Tryd.prog 24 #[.string s, .int .i64 16, .int .i64 64] w (Err2 w.heap.size w) := by
  have hs : s.size ≤ 281474976710656 := by omega
  have HS := Lib.hid hs
  have HI := Lib.hid (iparse_zero s h w)
  have HV := Lib.hid hev
  have HC := Lib.hid hc
  clear h hs hev hc
  go_enter Tryd.func24, Tryd.ntmps24
  go_wp2_with fail
  refine HI.out.mono ?_
  rintro e w1 ⟨rfl, rfl⟩
  go_wp2_with fail
  refine (Tryd.strconv_toError_syntax _ s 16 64 ev _ HS.out HC.out HV.out).mono ?_
  rintro e w2 ⟨N, rfl, hN, hh, hb⟩
  clear hh
  go_wp2_with fail
  go_ret2
  exact ⟨_, _, _, rfl, hb⟩

theorem parse_syntax (s : ByteArray) (h0 : s.size ≠ 0) (h : p16 0 s.data.toList = .«syntax») (hm : s.size ≤ 1000000) (w : World) (ev : Value) (hev : ev = .nilIface ∨ ∃ te pe, ev = .iface te pe) (hc : w.cell? ⟨1, 0, none⟩ = some ev) :
    Calls Tryd.prog 24 #[.string s, .int .i64 16, .int .i64 64] w (Err2 w.heap.size w) := by
  have hI : Calls Tryd.prog 27 #[.string s, .int .i64 16, .int .i64 64] w fun e w' => e = .returned (.tuple #[.int .u64 0, .iface 55 (.int .i64 2)]) ∧ Below w.heap.size w w' :=
    (iparse_any s h0 (by omega) w).mono fun e w' ⟨he, hw⟩ => ⟨by rw [he, h]; rfl, by rw [hw]; exact Lib.bytesWorld_below _ _ _⟩
  have HI := Lib.hid hI
  have HV := Lib.hid hev
  have HC := Lib.hid hc
  have HZ := World.block_lt_of_cell? w ⟨1, 0, none⟩ hc
  clear hI hev hc h
  go_enter Tryd.func24, Tryd.ntmps24
  go_wp2_with fail
  refine HI.out.mono ?_
  rintro e w1 ⟨rfl, hb1⟩
  go_wp2_with fail
  refine (Tryd.strconv_toError_syntax _ s 16 64 ev _ (by omega) (by rw [hb1.cell (p := ⟨1, 0, none⟩) HZ]; exact HC.out) HV.out).mono ?_
  rintro e w2 ⟨N, rfl, hN, hh, hb⟩
  clear hh
  go_wp2_with fail
  go_ret2
  exact ⟨_, _, _, rfl, hb1.trans (hb.mono hb1.size)⟩

theorem parse_range (s : ByteArray) (h0 : s.size ≠ 0) (h : p16 0 s.data.toList = .range) (hm : s.size ≤ 1000000) (w : World) (ev : Value) (hev : ev = .nilIface ∨ ∃ te pe, ev = .iface te pe) (hc : w.cell? ⟨2, 0, none⟩ = some ev) :
    Calls Tryd.prog 24 #[.string s, .int .i64 16, .int .i64 64] w (Err2 w.heap.size w) := by
  have hI : Calls Tryd.prog 27 #[.string s, .int .i64 16, .int .i64 64] w fun e w' => e = .returned (.tuple #[.int .u64 18446744073709551615, .iface 55 (.int .i64 1)]) ∧ Below w.heap.size w w' :=
    (iparse_any s h0 (by omega) w).mono fun e w' ⟨he, hw⟩ => ⟨by rw [he, h]; rfl, by rw [hw]; exact Lib.bytesWorld_below _ _ _⟩
  have HI := Lib.hid hI
  have HV := Lib.hid hev
  have HC := Lib.hid hc
  have HZ := World.block_lt_of_cell? w ⟨2, 0, none⟩ hc
  clear hI hev hc h
  go_enter Tryd.func24, Tryd.ntmps24
  go_wp2_with fail
  refine HI.out.mono ?_
  rintro e w1 ⟨rfl, hb1⟩
  go_wp2_with fail
  refine (Tryd.strconv_toError_range _ s 16 64 ev _ (by omega) (by rw [hb1.cell (p := ⟨2, 0, none⟩) HZ]; exact HC.out) HV.out).mono ?_
  rintro e w2 ⟨N, rfl, hN, hh, hb⟩
  clear hh
  go_wp2_with fail
  go_ret2
  exact ⟨_, _, _, rfl, hb1.trans (hb.mono hb1.size)⟩

/-- What the rows list of the two sentinel errors. -/
structure Sent (w : World) : Prop where
  syn : ∃ te pe, w.cell? ⟨1, 0, none⟩ = some (.iface te pe)
  ran : ∃ te pe, w.cell? ⟨2, 0, none⟩ = some (.iface te pe)

theorem parse_bad (s : ByteArray) (h : pres s = none) (hm : s.size ≤ 1000000) (w : World) (hs : Sent w) :
    Calls Tryd.prog 24 #[.string s, .int .i64 16, .int .i64 64] w (Err2 w.heap.size w) := by
  obtain ⟨⟨t1, p1, h1⟩, ⟨t2, p2, h2⟩⟩ := hs
  unfold pres at h
  by_cases h0 : s.size = 0
  · exact parse_syntax_zero s h0 w _ (.inr ⟨t1, p1, rfl⟩) h1
  · rw [if_neg h0] at h
    cases hp : p16 0 s.data.toList with
    | ok n => rw [hp] at h; cases h
    | «syntax» => exact parse_syntax s h0 hp hm w _ (.inr ⟨t1, p1, rfl⟩) h1
    | range => exact parse_range s h0 hp hm w _ (.inr ⟨t2, p2, rfl⟩) h2

theorem unhex_bad (s : ByteArray) (h : pres s = none) (hm : s.size ≤ 1000000) (w : World) (hs : Sent w) :
    Calls Tryd.prog 17 #[.string s] w fun e w' => e = .returned (.tuple #[.int .u64 0, .int .i64 5]) ∧ Below w.heap.size w w' := by
  have HI := Lib.hid (parse_bad s h hm w hs)
  clear h hs
  go_enter Tryd.func17, Tryd.ntmps17
  go_wp2_with fail
  refine HI.out.mono ?_
  rintro e w1 ⟨v, t, p, rfl, hb⟩
  go_wp2_with fail
  go_ret2
  exact ⟨rfl, hb⟩

theorem unhex_ok (s : ByteArray) (u : Nat) (h : pres s = some u) (hu : Hid (u < 18446744073709551616)) (hm : s.size ≤ 1000000) (w : World) (he : ((hex16 u).toList == s.toList) = true) (hc : w.cell? ⟨4, 15, none⟩ = some (.int .u8 4)) (hz : 4 < w.heap.size) :
    Calls Tryd.prog 17 #[.string s] w fun e w' => e = .returned (.tuple #[.int .u64 u, .int .i64 0]) ∧ Below w.heap.size w w' := by
  have HI := Lib.hid (parse_ok s u h hm w)
  clear h
  go_enter Tryd.func17, Tryd.ntmps17
  go_wp2_with fail
  refine HI.out.mono ?_
  rintro e w1 ⟨rfl, hb⟩
  have hc2 := hc_below hb hc hz
  have hz2 : 4 < w1.heap.size := Nat.lt_of_lt_of_le hz hb.size
  go_wp2_with fail
  refine (hex_any u _ hu hc2 hz2).mono ?_
  rintro e w2 ⟨rfl, hb2⟩
  go_wp2_with fail
  go_ret2
  exact ⟨rfl, hb.trans (hb2.mono hb.size)⟩

theorem unhex_other (s : ByteArray) (u : Nat) (h : pres s = some u) (hu : Hid (u < 18446744073709551616)) (hm : s.size ≤ 1000000) (w : World) (he : ((hex16 u).toList == s.toList) = false) (hc : w.cell? ⟨4, 15, none⟩ = some (.int .u8 4)) (hz : 4 < w.heap.size) :
    Calls Tryd.prog 17 #[.string s] w fun e w' => e = .returned (.tuple #[.int .u64 0, .int .i64 5]) ∧ Below w.heap.size w w' := by
  have HI := Lib.hid (parse_ok s u h hm w)
  clear h
  go_enter Tryd.func17, Tryd.ntmps17
  go_wp2_with fail
  refine HI.out.mono ?_
  rintro e w1 ⟨rfl, hb⟩
  have hc2 := hc_below hb hc hz
  have hz2 : 4 < w1.heap.size := Nat.lt_of_lt_of_le hz hb.size
  go_wp2_with fail
  refine (hex_any u _ hu hc2 hz2).mono ?_
  rintro e w2 ⟨rfl, hb2⟩
  go_wp2_with fail
  go_ret2
  exact ⟨rfl, hb.trans (hb2.mono hb.size)⟩
end Go.Proofs.YtnhgejmdcfpeaaaDoor
