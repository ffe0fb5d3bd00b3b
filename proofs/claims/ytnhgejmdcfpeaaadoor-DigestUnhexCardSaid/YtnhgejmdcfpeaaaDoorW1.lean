/- Walks: letters, Extend, FNV of the digest package. -/
import Derived.Test.YtnhgejmdcfpeaaaDoorProg
import Derived.Test.YtnhgejmdcfpeaaaDoorPlain
import Derived.WalkKit
import Derived.WalkSpells
import Derived.WalkLawsBesides
import Derived.Lib.Hide
import Derived.Deep.OwnRows
import Derived.Laws.Cover4
import Derived.Laws.RangeAny
namespace Go.Proofs.YtnhgejmdcfpeaaaDoor
open Go.RowKit
set_option linter.unusedVariables false
set_option linter.unusedSimpArgs false

theorem lenB (s : ByteArray) : s.data.toList.length = s.size := by rw [Array.length_toList]; rfl

theorem Tryd.info21 : (Tryd.prog.info? 21).map (fun i => (i.zero, i.size, i.bytes)) = some (some (.int .i32 0), 1, 4) := by kernel_rfl

def lrel (s : ByteArray) (k : Nat) (cs : Array Value) : Prop := cs.size = s.size ∧ (∀ j, j < k → cs[j]? = some (.int .i32 ((s.data.toList.map fun c => (c.toNat : Int)).getD j 0))) ∧ (∀ j, j < s.size → ∃ n, cs[j]? = some (.int .i32 n))

theorem lrel_step (s : ByteArray) (k : Nat) (cs : Array Value) (h : lrel s k cs) (hk : k < s.size) : lrel s (k + 1) (cs.setIfInBounds k (.int .i32 (s[k].toNat : Int))) := by
  obtain ⟨h1, h2, h3⟩ := h
  refine ⟨by simp [h1], fun j hj => ?_, fun j hj => ?_⟩
  · by_cases e : k = j
    · subst e
      simp [h1, hk, Array.getElem?_setIfInBounds]
      rfl
    · simp only [Array.getElem?_setIfInBounds, if_neg e]
      exact h2 j (by omega)
  · by_cases e : k = j
    · subst e
      exact ⟨_, by simp [h1, hk, Array.getElem?_setIfInBounds]; rfl⟩
    · simp only [Array.getElem?_setIfInBounds, if_neg e]
      exact h3 j hj

theorem lrel_zero (s : ByteArray) : lrel s 0 (madeCells #[.int .i32 0] s.size) := by
  refine ⟨size_madeCells _ _, fun j hj => absurd hj (Nat.not_lt_zero _), fun j hj => ⟨0, ?_⟩⟩
  simp [madeCells, hj, Nat.mod_one]

set_option maxHeartbeats 400000 in
theorem letters_any (s : ByteArray) (w : World) (hs : s.size ≤ 1000000) :
    Calls Tryd.prog 20 #[.string s] w fun e w' => e = .returned (.string (ltr s.data.toList)) ∧ Below w.heap.size w w' := by
  have hmk := Go.run_make_row' (P := Tryd.prog) 46 21 (.int .i32 0) 4 Tryd.underlying46 Tryd.info21 rfl .i64 .i64 s.size (by omega) (by omega)
  go_enter Tryd.func20, Tryd.ntmps20
  go_wp2
  go_loopw [10] (fun i wr => ∃ (k : Nat) (cs : Array Value), k ≤ s.size ∧ i = .int .i64 k ∧ wr = w.alloc (.cells cs 21) ∧ lrel s k cs) (fun i _ => s.size - (intOf i).toNat)
  case atStart => exact ⟨0, _, Nat.zero_le _, rfl, rfl, lrel_zero s⟩
  case round =>
    obtain ⟨k, cs, hk, rfl, rfl, hl⟩ := hrel
    by_cases hlt : k < s.size
    · obtain ⟨n0, hn0⟩ := hl.2.2 k hlt
      have hc : (w.alloc (.cells cs 21)).cell? ⟨w.heap.size, k, none⟩ = some (.int .i32 n0) := by rw [World.cell?_alloc_new]; exact hn0
      clear hn0 hmk
      have HL := Lib.hid hl
      clear hl
      go_wp2
      go_roundw
      case rel =>
        have hw : wrap32 (s[k].toNat : Int) = (s[k].toNat : Int) := by
          have := s[k].toNat_lt
          unfold wrap32; omega
        exact ⟨k + 1, _, by omega, by go_num, rfl, by rw [hw]; exact lrel_step s k cs HL.out hlt⟩
      case measure => simp [intOf]; omega
    · have hcv := run_convert_runes (P := Tryd.prog) (w.alloc (.cells cs 21)) 46 9 21 ⟨w.heap.size, 0, none⟩ s.size s.size (s.data.toList.map fun c => (c.toNat : Int)) (by rw [List.length_map, lenB]; omega) Tryd.underlying46 Tryd.underlying21 Tryd.underlying9 (by
        intro j hj
        have hj' : j < s.size := by rw [List.length_map, lenB] at hj; exact hj
        rw [Addr.add_lit, World.cell?_alloc_new]
        have := hl.2.1 j (by omega)
        simpa using this)
      have ht : (s.data.toList.map fun c => (c.toNat : Int)).take s.size = s.data.toList.map fun c => (c.toNat : Int) := List.take_of_length_le (by rw [List.length_map, lenB]; omega)
      rw [ht] at hcv
      clear ht hmk
      have HL := Lib.hid hl
      clear hl
      go_wp2
      go_ret
      exact ⟨rfl, (Below.refl _ _).alloc (Nat.le_refl _) _⟩

def stp (h : Int) (c : UInt8) : Int := IntKind.u64.wrap (bits .xor .u64 h (c.toNat : Int) * 1099511628211)
def ext (h : Int) (l : List UInt8) : Int := l.foldl stp h

theorem ext_snoc (h : Int) (l : List UInt8) (c : UInt8) : ext h (l ++ [c]) = stp (ext h l) c := by simp [ext]
theorem u64_byte (c : UInt8) : IntKind.u64.wrap (c.toNat : Int) = (c.toNat : Int) := by
  have := c.toNat_lt
  rw [IntKind.wrap_u64]; omega

set_option maxHeartbeats 400000 in
theorem extend_any (s : ByteArray) (h : Int) (w : World) (hs : s.size ≤ 1000000) :
    Calls Tryd.prog 12 #[.int .u64 h, .string s] w fun e w' => e = .returned (.int .u64 (ext h s.data.toList)) ∧ Below w.heap.size w w' := by
  go_enter Tryd.func12, Tryd.ntmps12
  go_wp2_with (go_at_call 20; refine (letters_any _ _ hs).mono ?_; rintro e w1 ⟨rfl, hb⟩)
  generalize hL : s.data.toList = L at *
  have HL := Lib.hid hL
  clear hL
  go_loopw [0] (fun g wr => ∃ k : Nat, k ≤ L.length ∧ g = .int .u64 (ext h (L.take k)) ∧ wr = w1.iter (ltr L) (ltr (L.take k)).size) (fun _ wr => (ltr L).size - wr.iterPos w1.heap.size)
  case atStart => exact ⟨0, Nat.zero_le _, rfl, rfl⟩
  case round =>
    obtain ⟨k, hk, rfl, rfl⟩ := hrel
    by_cases hp : k < L.length
    · have hsplit : L = L.take k ++ L[k] :: L.drop (k + 1) := by rw [List.getElem_cons_drop, List.take_append_drop]
      have hd : Utf8.decode (ltr L) (ltr (L.take k)).size = (L[k].toNat, (Utf8.encode (L[k].toNat : Int)).size) := by
        conv => lhs; rw [hsplit]
        rw [show L.take k ++ L[k] :: L.drop (k + 1) = L.take k ++ L[k] :: L.drop (k + 1) from rfl]
        have := decode_ltr (L.take k) (L.drop (k + 1)) L[k]
        rw [← hsplit] at this ⊢
        exact this
      have hsz : (ltr (L.take (k + 1))).size = (ltr (L.take k)).size + (Utf8.encode (L[k].toNat : Int)).size := by
        rw [List.take_succ_eq_append_getElem hp, ltr_append, ltr_cons]
        simp [ByteArray.size_append, ltr, runesBytes]
      have hlt : (ltr (L.take k)).size < (ltr L).size := by
        have h1 := congrArg (fun l => (ltr l).size) (List.take_append_drop (k + 1) L)
        simp only [ltr_append, ByteArray.size_append] at h1
        have := ltr_size_pos L[k]
        omega
      have hwd := ltr_size_pos L[k]
      have hnx : ∀ ty, (Instr.next (.pointer (some ⟨w1.heap.size, 0, none⟩)) true ty).run Tryd.prog (w1.iter (ltr L) (ltr (L.take k)).size) = _ := fun ty => run_next_any w1 (ltr L) (ltr (L.take k)).size ty hlt
      rw [hd] at hnx
      simp only [← hsz] at hnx
      have HS := Lib.hid hsz
      have HD := Lib.hid hd
      have HP := Lib.hid hsplit
      clear hsz hd hsplit
      go_wp2
      go_roundw
      case rel =>
        have hw : IntKind.u64.wrap (L[k].toNat : Int) = (L[k].toNat : Int) := u64_byte _
        exact ⟨k + 1, by omega, by rw [hw, List.take_succ_eq_append_getElem hp, ext_snoc]; rfl, rfl⟩
      case measure =>
        have := HS.out
        simp
        omega
    · have hn : ¬ (ltr (L.take k)).size < (ltr L).size := by
        rw [List.take_of_length_le (by omega)]; omega
      have hnx : ∀ ty, (Instr.next (.pointer (some ⟨w1.heap.size, 0, none⟩)) true ty).run Tryd.prog (w1.iter (ltr L) (ltr (L.take k)).size) = _ := fun ty => run_next_end w1 (ltr L) (ltr (L.take k)).size ty hn
      go_wp2
      go_ret
      refine ⟨?_, hb.trans (((Below.refl _ _).alloc (Nat.le_refl _) _).mono hb.size)⟩
      rw [List.take_of_length_le (by omega), HL.out]
      rfl

theorem fnv_any (s : ByteArray) (w : World) (hs : s.size ≤ 1000000) :
    Calls Tryd.prog 10 #[.string s] w fun e w' => e = .returned (.int .u64 (ext 14695981039346656037 s.data.toList)) ∧ Below w.heap.size w w' := by
  go_enter Tryd.func10, Tryd.ntmps10
  go_wp2_with (go_at_call 12; refine (extend_any _ _ _ hs).mono ?_; rintro e w1 ⟨rfl, hb⟩)
  go_ret
  exact ⟨rfl, hb⟩

set_option maxHeartbeats 400000 in
theorem rextend_any (s : ByteArray) (h : Int) (w : World) (hs : s.size ≤ 1000000) :
    Calls Tryd.prog 13 #[.int .u64 h, .string s] w fun e w' => e = .returned (.int .u64 (ext h s.data.toList)) ∧ w = w' := by
  go_enter Tryd.func13, Tryd.ntmps13
  go_wp2
  generalize hL : s.data.toList = L
  have hlen : L.length = s.size := by rw [← hL, lenB]
  have HL := Lib.hid hL
  clear hL
  go_loop [0, 5] (fun g i => ∃ k : Nat, k ≤ s.size ∧ i = .int .i64 k ∧ g = .int .u64 (ext h (L.take k))) (fun _ i => s.size - (intOf i).toNat)
  case atStart => exact ⟨0, Nat.zero_le _, rfl, rfl⟩
  case round =>
    obtain ⟨k, hk, rfl, rfl⟩ := hrel
    have H1 := Lib.hid hlen
    clear hlen
    by_cases hlt : k < s.size
    · go_wp2
      go_round
      case rel =>
        have hp : k < L.length := by rw [H1.out]; exact hlt
        have he : L[k] = s[k] := by
          have : L[k]? = s.data.toList[k]? := by rw [HL.out]
          have h2 : s.data.toList[k]? = some s[k] := by
            rw [List.getElem?_eq_getElem (by rw [lenB]; exact hlt)]; rfl
          rw [h2, List.getElem?_eq_getElem hp] at this
          exact Option.some.inj this
        have hw : IntKind.u64.wrap (s[k].toNat : Int) = (s[k].toNat : Int) := u64_byte _
        exact ⟨k + 1, by omega, by go_num, by rw [hw, List.take_succ_eq_append_getElem hp, ext_snoc, he]; rfl⟩
      case measure => simp [intOf]; omega
    · go_wp2
      go_ret
      refine ⟨?_, rfl⟩
      rw [List.take_of_length_le (by have := H1.out; omega), HL.out]
      rfl

theorem rfnv_any (s : ByteArray) (w : World) (hs : s.size ≤ 1000000) :
    Calls Tryd.prog 11 #[.string s] w fun e w' => e = .returned (.int .u64 (ext 14695981039346656037 s.data.toList)) ∧ w = w' := by
  go_enter Tryd.func11, Tryd.ntmps11
  go_wp2_with (go_at_call 13; refine (rextend_any _ _ _ hs).mono ?_; rintro e w1 ⟨rfl, rfl⟩)
  go_ret
  exact ⟨rfl, rfl⟩
end Go.Proofs.YtnhgejmdcfpeaaaDoor
