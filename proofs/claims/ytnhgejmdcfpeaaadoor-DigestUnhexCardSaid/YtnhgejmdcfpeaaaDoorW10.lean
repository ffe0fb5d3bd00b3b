/- Walks: the reference's Unhex; the laws DigestHex and DigestUnhex. -/
import Derived.Test.YtnhgejmdcfpeaaaDoorW9
namespace Go.Proofs.YtnhgejmdcfpeaaaDoor
open Go.RowKit
set_option linter.unusedVariables false
set_option linter.unusedSimpArgs false

def uval : Option Nat → Value
  | some u => .tuple #[.int .u64 u, .int .i64 0]
  | none => .tuple #[.int .u64 0, .int .i64 5]

theorem runhex_len (s : ByteArray) (hs : s.size ≠ 16) (hm : s.size ≤ 1000000) (w : World) :
    Calls Tryd.prog 19 #[.string s] w fun e w' => e = .returned (.tuple #[.int .u64 0, .int .i64 5]) ∧ w = w' := by
  have h1 : ((s.size : Int) == 16) = false := by rw [beq_eq_false_iff_ne]; omega
  have h2 : ((s.size : Int) != 16) = true := by rw [bne_iff_ne]; omega
  go_enter Tryd.func19, Tryd.ntmps19
  go_wp2
  go_ret2
  exact ⟨rfl, rfl⟩

set_option maxHeartbeats 1000000 in
theorem runhex_16 (s : ByteArray) (hs : s.size = 16) (w : World) :
    Calls Tryd.prog 19 #[.string s] w fun e w' => e = .returned (uval (pl16 0 s.data.toList)) ∧ w = w' := by
  have h1 : ((s.size : Int) == 16) = true := by rw [hs]; rfl
  have h2 : ((s.size : Int) != 16) = false := by rw [hs]; rfl
  have hz1 : s.size ≤ 16 := by omega
  have hz2 : 16 ≤ s.size := by omega
  have hL : s.data.toList.length = s.size := lenB s
  obtain ⟨L, hLe⟩ : ∃ L, L = s.data.toList := ⟨_, rfl⟩
  have hB : ∀ k (h : k < s.size) (h' : k < L.length), s[k] = L[k] := by subst hLe; intro k h h'; rfl
  rw [← hLe] at hL ⊢
  have HB := Lib.hid hB
  have HLen : L.length ≤ 16 ∧ 16 ≤ L.length := by omega
  obtain ⟨hl1, hl2⟩ := HLen
  clear hB hLe hs hL
  go_enter Tryd.func19, Tryd.ntmps19
  go_wp2
  go_loop [4, 5] (fun u i => ∃ (k acc : Nat), k ≤ 16 ∧ u = .int .u64 acc ∧ i = .int .i64 k ∧ Hid (acc < 16 ^ k ∧ pl16 0 L = pl16 acc (L.drop k))) (fun _ i => 16 - (intOf i).toNat)
  case atStart => exact ⟨0, 0, by omega, rfl, rfl, by simp, rfl⟩
  case round =>
    obtain ⟨k, acc, hk, rfl, rfl, hm⟩ := hrel
    by_cases hlt : k < 16
    · have hkL : k < L.length := by omega
      have hks : k < s.size := by omega
      have hdrop : L.drop k = L[k] :: L.drop (k + 1) := List.drop_eq_getElem_cons hkL
      have hsk : s[k] = L[k] := HB.out k hks hkL
      generalize L[k] = c at *
      have hw : IntKind.u64.wrap (IntKind.u64.wrap ((acc : Int) * 16) + (lv c : Int)) = ((acc * 16 + lv c : Nat) : Int) ∧ acc * 16 + lv c < 16 ^ (k + 1) ∨ lv c > 15 := by
        by_cases h : lv c > 15
        · exact .inr h
        · have ha := hm.1
          have hp : (16 : Nat) ^ k ≤ 16 ^ 15 := Nat.pow_le_pow_right (by omega) (by omega)
          rw [Nat.pow_succ]
          refine .inl ⟨?_, by omega⟩
          rw [IntKind.wrap_u64, IntKind.wrap_u64]
          omega
      have hstep : pl16 acc (L.drop k) = if lv c > 15 then none else pl16 (acc * 16 + lv c) (L.drop (k + 1)) := by rw [hdrop, pl16]
      have HST := Lib.hid hstep
      have HV := Lib.hid (fun W => value_any c W)
      clear hdrop hstep
      by_cases hv : lv c > 15
      · clear hw
        generalize lv c = v at *
        go_wp2_with fail
        refine (HV.out _).mono ?_
        rintro e w2 ⟨rfl, rfl⟩
        go_wp2_with fail
        go_ret2
        refine ⟨?_, rfl⟩
        rw [hm.2, HST.out, if_pos hv]
        rfl
      · have hw' : IntKind.u64.wrap (IntKind.u64.wrap ((acc : Int) * 16) + (lv c : Int)) = ((acc * 16 + lv c : Nat) : Int) ∧ acc * 16 + lv c < 16 ^ (k + 1) := hw.resolve_right hv
        obtain ⟨hw1, hw2⟩ := hw'
        have HW2 := Lib.hid hw2
        clear hw hw2
        generalize lv c = v at *
        go_wp2_with fail
        refine (HV.out _).mono ?_
        rintro e w2 ⟨rfl, rfl⟩
        go_wp2_with fail
        go_round
        case rel =>
          refine ⟨k + 1, acc * 16 + v, by omega, by first | rfl | simp, by go_num, HW2.out, ?_⟩
          rw [hm.2, HST.out, if_neg hv]
        case measure => simp [intOf]; omega
    · go_wp2
      go_ret2
      refine ⟨?_, rfl⟩
      have hk : k = 16 := by omega
      subst hk
      rw [hm.2, List.drop_eq_nil_of_le hl1]
      rfl

theorem runhex_any (s : ByteArray) (hm : s.size ≤ 1000000) (w : World) :
    Calls Tryd.prog 19 #[.string s] w fun e w' => e = .returned (uval (rU s)) ∧ w = w' := by
  unfold rU
  by_cases hs : s.size = 16
  · rw [if_pos hs]; exact runhex_16 s hs w
  · rw [if_neg hs]; exact runhex_len s hs hm w

theorem unhex_any (s : ByteArray) (hm : s.size ≤ 1000000) (w : World) (hS : Sent w) (hc : w.cell? ⟨4, 15, none⟩ = some (.int .u8 4)) (hz : 4 < w.heap.size) :
    Calls Tryd.prog 17 #[.string s] w fun e w' => e = .returned (uval (dU s)) ∧ Below w.heap.size w w' := by
  unfold dU
  cases hp : pres s with
  | none => exact unhex_bad s hp hm w hS
  | some u =>
    have hu := pres_lt s u hp
    simp only
    by_cases he : hex16 u = s
    · rw [if_pos he]
      exact unhex_ok s u hp hu hm w (by rw [he]; simp) hc hz
    · rw [if_neg he]
      exact unhex_other s u hp hu hm w (by rw [beq_eq_false_iff_ne]; intro h; rw [ByteArray.toList_eq, ByteArray.toList_eq] at h; exact he (ByteArray.ext (Array.toList_inj.1 h))) hc hz

theorem sent_below {w w' : World} (hb : Below w.heap.size w w') (h : Sent w) : Sent w' := by
  obtain ⟨⟨t1, p1, h1⟩, ⟨t2, p2, h2⟩⟩ := h
  exact ⟨⟨t1, p1, (hb.cell (p := ⟨1, 0, none⟩) (World.block_lt_of_cell? w _ h1)).trans h1⟩, ⟨t2, p2, (hb.cell (p := ⟨2, 0, none⟩) (World.block_lt_of_cell? w _ h2)).trans h2⟩⟩

theorem unhexes_small (s : ByteArray) (hs : s.size ≤ 1000) (w : World) (hS : Sent w) (hc : w.cell? ⟨4, 15, none⟩ = some (.int .u8 4)) (hz : 4 < w.heap.size) :
    Calls Tryd.prog 8 #[.string s] w fun e w' => e = .returned (.bool true) ∧ Below w.heap.size w w' := by
  have HU := Lib.hid (unhex_any s (by omega) w hS hc hz)
  have HR := Lib.hid (fun W => runhex_any s (by omega) W)
  rw [rU_dU s] at HR
  generalize dU s = o at *
  clear hS
  go_enter Tryd.func8, Tryd.ntmps8
  go_wp2_with fail
  refine HU.out.mono ?_
  rintro e w1 ⟨rfl, hb⟩
  have hc2 := hc_below hb hc hz
  have hz2 : 4 < w1.heap.size := Nat.lt_of_lt_of_le hz hb.size
  cases o
  all_goals
    unfold uval
    unfold uval at HR
    go_wp2_with fail
    refine (HR.out _).mono ?_
    rintro e w2 ⟨rfl, rfl⟩
    go_wp2_with fail
    refine (alive_any _ hc2 hz2).mono ?_
    rintro e w3 ⟨rfl, hb3⟩
    go_wp2_with fail
    go_ret
    exact ⟨rfl, hb.trans (hb3.mono hb.size)⟩

theorem unhexes_big (s : ByteArray) (hs : 1000 < s.size) (hl : s.size ≤ 140737488351232) (w : World) (hc : w.cell? ⟨4, 15, none⟩ = some (.int .u8 4)) (hz : 4 < w.heap.size) :
    Calls Tryd.prog 8 #[.string s] w fun e w' => e = .returned (.bool true) ∧ Below w.heap.size w w' := by
  go_enter Tryd.func8, Tryd.ntmps8
  go_wp2_with fail
  refine (alive_any _ hc hz).mono ?_
  rintro e w3 ⟨rfl, hb3⟩
  go_wp2_with fail
  go_ret
  exact ⟨rfl, hb3⟩

theorem w_DigestUnhex (s : ByteArray) (hl : s.size ≤ 140737488351232) (w : World) (hc : w.cell? ⟨4, 15, none⟩ = some (.int .u8 4)) (hS : Sent w) :
    Calls Tryd.prog 8 #[.string s] w fun e w' => e = .returned (.bool true) ∧ Below w.heap.size w w' := by
  have hz : 4 < w.heap.size := World.block_lt_of_cell? w ⟨4, 15, none⟩ hc
  by_cases hs : s.size ≤ 1000
  · exact unhexes_small s hs w hS hc hz
  · exact unhexes_big s (by omega) hl w hc hz

theorem hexes_any (n : Nat) (hn : Hid (n < 18446744073709551616)) (w : World) (hS : Sent w) (hc : w.cell? ⟨4, 15, none⟩ = some (.int .u8 4)) (hz : 4 < w.heap.size) :
    Calls Tryd.prog 7 #[.int .u64 n] w fun e w' => e = .returned (.bool true) ∧ Below w.heap.size w w' := by
  have hrd := hex16_read n hn
  have hd : dU (hex16 n) = some n := by rw [← rU_dU, rU, if_pos hrd.1, hrd.2]
  have HU : ∀ W, Sent W → W.cell? ⟨4, 15, none⟩ = some (.int .u8 4) → 4 < W.heap.size → Calls Tryd.prog 17 #[.string (hex16 n)] W fun e w' => e = .returned (uval (some n)) ∧ Below W.heap.size W w' := by
    intro W h1 h2 h3
    have := unhex_any (hex16 n) (by omega) W h1 h2 h3
    rw [hd] at this
    exact this
  have HX := Lib.hid HU
  have HS := Lib.hid hS
  have HH := Lib.hid (fun W => hex_any n W hn)
  have HR := Lib.hid (fun W => rhex_any n W hn)
  clear HU hrd hd hS
  generalize hex16 n = x at *
  go_enter Tryd.func7, Tryd.ntmps7
  go_wp2_with fail
  refine (HH.out _ hc hz).mono ?_
  rintro e w1 ⟨rfl, hb⟩
  have hc1 := hc_below hb hc hz
  have hz1 : 4 < w1.heap.size := Nat.lt_of_lt_of_le hz hb.size
  go_wp2_with fail
  refine (HX.out _ (sent_below hb HS.out) hc1 hz1).mono ?_
  rintro e w2 ⟨rfl, hb2⟩
  have hb02 := hb.trans (hb2.mono hb.size)
  have hc2 := hc_below hb02 hc hz
  have hz2 : 4 < w2.heap.size := Nat.lt_of_lt_of_le hz hb02.size
  unfold uval
  go_wp2_with fail
  refine (HR.out _).mono ?_
  rintro e w3 ⟨rfl, rfl⟩
  go_wp2_with fail
  refine (alive_any _ hc2 hz2).mono ?_
  rintro e w4 ⟨rfl, hb4⟩
  go_wp2_with fail
  go_ret
  exact ⟨rfl, hb02.trans (hb4.mono hb02.size)⟩

theorem w_DigestHex (a : Int) (wa : (Lit.int .u64 a).wf = true) (w : World) (hc : w.cell? ⟨4, 15, none⟩ = some (.int .u8 4)) (hS : Sent w) :
    Calls Tryd.prog 7 #[.int .u64 a] w fun e w' => e = .returned (.bool true) ∧ Below w.heap.size w w' := by
  have hz : 4 < w.heap.size := World.block_lt_of_cell? w ⟨4, 15, none⟩ hc
  obtain ⟨n, rfl, hn⟩ := u64_nat a wa
  exact hexes_any n hn w hS hc hz
end Go.Proofs.YtnhgejmdcfpeaaaDoor
