/- Walks: a line of numbers. -/
import Derived.Test.YtmiceolkmiiahaaGreatDoorW15
import Derived.Test.YtmiceolkmiiahaaGreatDoorBld
import Derived.Lib.AppendIntMem
import Derived.Lib.ItoaLen
namespace Go.Proofs.YtmiceolkmiiahaaGreatDoor
open Go.RowKit
set_option linter.unusedVariables false
set_option linter.unusedSimpArgs false
set_option maxRecDepth 100000
set_option maxHeartbeats 8000000

def Tab (w : World) : Prop := Lib.TabIs Tryz.prog w "internal/strconv.uint64pow10" .u64 Lib.pow10Tab
theorem Tab.below {w w' : World} (hb : Below w.heap.size w w') (h : Tab w) : Tab w' := tab_below hb h
def I64 (n : Int) : Prop := -9223372036854775808 ≤ n ∧ n ≤ 9223372036854775807
theorem itoa_any (n : Int) (hn : I64 n) (w : World) (ht : Tab w) : KB 53 #[.int .i64 n] (.string (str (Lib.itoa n))) w :=
  (Tryz.strconv_Itoa n hn.1 hn.2 w ht).mono fun e w' ⟨he, k, os, hw⟩ => ⟨he, by rw [hw]; exact Lib.below_grow _ w (Nat.le_refl _) k os⟩
abbrev IntAt (w : World) (a : Addr) (ns : List Int) : Prop := SlAt 1 (fun n : Int => [Value.int .i64 n]) w a ns
theorem intAt {w : World} {a : Addr} {ns : List Int} (h : IntAt w a ns) (i : Nat) (hi : i < ns.length) : w.cell? (a.add i) = some (.int .i64 ns[i]) := by
  have := h i hi 0 (by decide)
  rw [Nat.mul_one] at this
  exact this
def numsL (ns : List Int) : List UInt8 := ns.flatMap fun n => 32 :: Lib.itoa n
def lineL (l : List UInt8) (ns : List Int) : List UInt8 := l ++ numsL ns ++ [10]
def LineRel (w : World) (l : List UInt8) (ns : List Int) (n : Nat) (s i : Value) (wr : World) : Prop := ∃ k : Nat, k ≤ n ∧ s = .string (str (l ++ numsL (ns.take k))) ∧ i = .int .i64 (k : Int) ∧ Below w.heap.size w wr
theorem numsL_take (ns : List Int) (k : Nat) (hk : k < ns.length) : numsL (ns.take (k + 1)) = numsL (ns.take k) ++ 32 :: Lib.itoa ns[k] := by
  unfold numsL
  rw [List.take_succ_eq_append_getElem hk, List.flatMap_append, List.flatMap_cons, List.flatMap_nil, List.append_nil]
theorem numsL_len (ns : List Int) (hb : ∀ x ∈ ns, I64 x) : (numsL ns).length ≤ 22 * ns.length := by
  induction ns with
  | nil => simp [numsL]
  | cons n ns ih =>
    have h1 := Lib.itoa_length_le n (hb n (by simp)).1 (hb n (by simp)).2
    have h2 := ih (fun x hx => hb x (by simp [hx]))
    have h3 : numsL (n :: ns) = (32 :: Lib.itoa n) ++ numsL ns := rfl
    rw [h3, List.length_append, List.length_cons, List.length_cons]
    omega
theorem line_any (l : List UInt8) (a : Addr) (n ca : Nat) (ns : List Int) (hn : ns.length = n) (hz : n ≤ 1000) (hll : l.length ≤ 100000) (hb : ∀ x ∈ ns, I64 x) (w : World) (ht : Tab w) (ha : IntAt w a ns) :
    KB 19 #[.string (str l), .slice (some a) n ca] (.string (str (lineL l ns))) w := by
  have HT := Lib.hid ht; have HA := Lib.hid ha; have HN := Lib.hid hn; have HB := Lib.hid hb
  clear ht ha hn hb
  unfold KB
  go_enter Tryz.func19, Tryz.ntmps19
  go_wp2_with fail
  go_loopw [0, 9] (fun s i wr => LineRel w l ns n s i wr) (fun _ i _ => n - (intOf i).toNat)
  case atStart => exact ⟨0, by omega, by simp [numsL], rfl, Below.refl _ _⟩
  case round =>
    obtain ⟨k, hk, rfl, rfl, hbel⟩ := hrel
    have HE := Lib.hid hbel
    have hzz := hbel.size
    by_cases hkn : k < n
    · have hkl : k < ns.length := by have := HN.out; omega
      have c0 := intAt (HA.out.below (fun _ => rfl) hbel) k hkl
      have hbk := HB.out _ (List.getElem_mem hkl)
      have hst : str (l ++ numsL (ns.take k)) ++ (⟨#[32]⟩ ++ str (Lib.itoa ns[k])) = str (l ++ numsL (ns.take (k + 1))) := by
        rw [numsL_take ns k hkl, show (⟨#[32]⟩ : ByteArray) = str [32] from rfl, str_append, str_append]
        simp
      have HST := Lib.hid hst
      clear hst
      obtain ⟨x, hx⟩ : ∃ x, ns[k] = x := ⟨_, rfl⟩
      rw [hx] at c0 hbk HST
      have z1 : (str (l ++ numsL (ns.take k))).size ≤ 130000 := by
        rw [str_size, List.length_append]
        have := numsL_len (ns.take k) (fun x hx => HB.out x (List.mem_of_mem_take hx))
        rw [List.length_take] at this
        omega
      have z2 : (str (Lib.itoa x)).size ≤ 21 := by rw [str_size]; exact Lib.itoa_length_le x hbk.1 hbk.2
      have HI := Lib.hid (itoa_any x hbk wr (HT.out.below hbel))
      obtain ⟨s1, hs1⟩ : ∃ s, str (l ++ numsL (ns.take k)) = s := ⟨_, rfl⟩
      obtain ⟨s2, hs2⟩ : ∃ s, str (Lib.itoa x) = s := ⟨_, rfl⟩
      obtain ⟨s3, hs3⟩ : ∃ s, str (l ++ numsL (ns.take (k + 1))) = s := ⟨_, rfl⟩
      rw [hs1, hs2, hs3] at HST
      rw [hs1]
      rw [hs2] at HI z2
      rw [hs1] at z1
      have HS3 := Lib.hid hs3
      have e1 : (0 : Int) ≤ ((k : Int)) := by omega
      have e2 : (k : Int) < (n : Int) := by omega
      clear hbel hx hs1 hs2 hs3 hbk
      go_wp2_with fail
      refine HI.out.mono ?_
      rintro e w1 ⟨rfl, hb⟩
      go_wp2_with fail
      go_roundw
      case rel => exact ⟨k + 1, by omega, by rw [HS3.out, ← HST.out], by go_num, HE.out.trans (hb.mono (by omega))⟩
      case measure => simp [intOf]; omega
    · have hst : str (l ++ numsL (ns.take k)) ++ ⟨#[10]⟩ = str (lineL l ns) := by
        rw [List.take_of_length_le (by have := HN.out; omega), show (⟨#[10]⟩ : ByteArray) = str [10] from rfl, str_append]
        rfl
      have HST := Lib.hid hst
      have z1 : (str (l ++ numsL (ns.take k))).size ≤ 130000 := by
        rw [str_size, List.length_append]
        have := numsL_len (ns.take k) (fun x hx => HB.out x (List.mem_of_mem_take hx))
        rw [List.length_take] at this
        omega
      obtain ⟨s1, hs1⟩ : ∃ s, str (l ++ numsL (ns.take k)) = s := ⟨_, rfl⟩
      rw [hs1] at HST z1 ⊢
      clear hst hbel hs1
      go_wp2_with fail
      go_ret
      exact ⟨by rw [← HST.out]; rfl, HE.out⟩
end Go.Proofs.YtmiceolkmiiahaaGreatDoor
