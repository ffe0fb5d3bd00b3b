/- Walks: one of the reference of the lexer, at a mark or at none. -/
import Derived.Test.YtpddneplkbdedaaDoorW15
namespace Go.Proofs.YtpddneplkbdedaaDoor
open Go.RowKit
set_option linter.unusedVariables false
set_option linter.unusedSimpArgs false

theorem pre_take (l m : List UInt8) (e : l.take m.length = m) : Lib.hasPrefix l m = true := by
  unfold Lib.hasPrefix
  rw [List.isPrefixOf_iff_prefix]
  refine ⟨l.drop m.length, ?_⟩
  have := List.take_append_drop m.length l
  rw [e] at this
  exact this
theorem pre_false (l m : List UInt8) (h : Lib.hasPrefix l m = false) : l.length < m.length ∨ (m.length ≤ l.length ∧ ¬ l.take m.length = m) := by
  by_cases hl : l.length < m.length
  · exact Or.inl hl
  · refine Or.inr ⟨by omega, fun e => ?_⟩
    rw [pre_take l m e] at h
    cases h
theorem pre_true (l m : List UInt8) (h : Lib.hasPrefix l m = true) : m.length ≤ l.length ∧ l.take m.length = m := by
  unfold Lib.hasPrefix at h
  rw [List.isPrefixOf_iff_prefix] at h
  obtain ⟨r, rfl⟩ := h
  exact ⟨by simp, by simp⟩

theorem below_dN {B : Nat} {a w : World} (h : Below B a w) (n : Nat) : Below B a (w.drewN n) := ⟨h.os, h.tape, h.output, h.size, h.block⟩
def MW (w : World) : World := (w.alloc tok0).alloc (rowOf marksL)
theorem MW_row (w : World) : RowAt (MW w) (w.heap.size + 1) marksL := by
  have := rowAt_alloc marksL (w.alloc tok0)
  rw [tok_size] at this
  exact this
theorem MW_size (w : World) : (MW w).heap.size = w.heap.size + 2 := by unfold MW; rw [tok_size, tok_size]
theorem MW_tok (w : World) : ((MW w).cell? ⟨w.heap.size, 0, none⟩ = some (.int .i64 0) ∧ (MW w).cell? ⟨w.heap.size, 1, none⟩ = some (.int .i64 0) ∧ (MW w).cell? ⟨w.heap.size, 2, none⟩ = some (.string { data := #[] })) ∧
    ((MW w).frozen? ⟨w.heap.size, 0, none⟩ = false ∧ (MW w).frozen? ⟨w.heap.size, 1, none⟩ = false ∧ (MW w).frozen? ⟨w.heap.size, 2, none⟩ = false) ∧ w.heap.size < (MW w).heap.size :=
  tok_kept ((Below.refl _ _).alloc (Nat.le_refl _) _)
theorem MW_below (w : World) : Below w.heap.size w (MW w) := ((Below.refl _ _).alloc (Nat.le_refl _) _).alloc (by rw [tok_size]; omega) _

set_option maxRecDepth 100000 in
theorem one_none (s : ByteArray) (l : List UInt8) (n : Nat) (hs : str l = s) (hsz : 0 < s.size) (z : s.size ≤ 1000000) (h0 : KC 34 #[.string s] (.int .i64 n)) (h1 : KC 33 #[.int .u8 ((s[0]'hsz).toNat : Int)] (.bool false))
    (h4 : KC 50 #[.int .u8 ((s[0]'hsz).toNat : Int)] (.bool false)) (x34 : (((s[0]'hsz).toNat : Int) == 34) = false) (e : Nat) (he : e ≤ 18)
    (hno : ∀ j (hj : j < marksL.length), j < e → Lib.hasPrefix l marksL[j] = false) (v : Value)
    (hx : (18 ≤ e ∧ v = .tuple #[tokV 0 0 ⟨#[]⟩, .int .i64 0, .int .i64 5]) ∨ (∃ h : e < marksL.length, Lib.hasPrefix l marksL[e] = true ∧ v = .tuple #[tokV 4 0 (str marksL[e]), .int .i64 (str marksL[e]).size, .int .i64 0])) (w : World) :
    KB 22 #[.string s] v w := by
  have H0 := Lib.hid h0; have H1 := Lib.hid h1; have H4 := Lib.hid h4; have HX := Lib.hid hx; have HN := Lib.hid hno
  have HS := Lib.hid hs
  have hml : marksL.length = 18 := rfl
  have HM := Lib.hid hml
  clear h0 h1 h4 hx hno hs hml
  unfold KB
  go_enter Tryd.func22, Tryd.ntmps22
  go_wp2_with fail
  refine (H0.out _).mono ?_
  rintro e1 w1 ⟨rfl, rfl⟩
  go_wp2_with fail
  refine (H1.out _).mono ?_
  rintro e1 w1 ⟨rfl, rfl⟩
  go_wp2_with fail
  refine (H4.out _).mono ?_
  rintro e1 w1 ⟨rfl, rfl⟩
  go_wp2_with fail
  refine (rmarks_any _).mono ?_
  rintro e1 w1 ⟨rfl, hw1⟩
  obtain rfl : w1 = MW w := hw1
  obtain ⟨⟨c0, c1, c2⟩, ⟨f0, f1, f2⟩, hz⟩ := MW_tok w
  have HR := Lib.hid (MW_row w)
  have hB := Lib.hid (MW_below w)
  have HZ := Lib.hid (MW_size w)
  go_wp2_with fail
  go_loopw [8] (fun i wr => ∃ k q : Nat, k ≤ e ∧ i = .int .i64 (k : Int) ∧ wr = (MW w).drewN q) (fun i _ => 18 - (intOf i).toNat)
  case atStart => exact ⟨0, 0, by omega, rfl, rfl⟩
  case round =>
    obtain ⟨k, q, hk, rfl, rfl⟩ := hrel
    by_cases hkn : k < 18
    · have hkl : k < marksL.length := by have := HM.out; omega
      have hc := HR.out k hkl
      have hk0 : (0 : Int) ≤ (k : Int) := by omega
      have hk1 : (k : Int) < 18 := by omega
      have hsz1 : s.size = l.length := by rw [← HS.out]; exact str_size l
      by_cases hke : k < e
      · have hp := pre_false l _ (HN.out k hkl hke)
        rcases hp with hp | ⟨hp, hq⟩
        · have hlt : decide ((str marksL[k]).size ≤ s.size) = false := by rw [decide_eq_false_iff_not, str_size]; omega
          clear hsz1 hp
          generalize str marksL[k] = x at *
          go_wp2_with fail
          go_quiet (fail)
          go_wp2_with fail
          go_roundw
          case rel => exact ⟨k + 1, _, by omega, by go_num, rfl⟩
          case measure => simp [intOf]; omega
        · have hlt : decide ((str marksL[k]).size ≤ s.size) = true := by rw [decide_eq_true_iff, str_size]; omega
          have hle : (str marksL[k]).size ≤ s.size := by rw [str_size]; omega
          have hne : ((s.extract 0 (str marksL[k]).size).toList == (str marksL[k]).toList) = false := by
            refine ne_beq _ _ fun h => hq ?_
            rw [← HS.out, str_size, str_take] at h
            have := congrArg (fun b : ByteArray => b.data.toList) h
            rw [str_data, str_data] at this
            exact this
          clear hsz1 hp hq
          generalize str marksL[k] = x at *
          go_wp2_with fail
          go_quiet (fail)
          go_wp2_with fail
          go_roundw
          case rel => exact ⟨k + 1, _, by omega, by go_num, rfl⟩
          case measure => simp [intOf]; omega
      · obtain rfl : k = e := by omega
        obtain ⟨hpt, hv⟩ : Lib.hasPrefix l marksL[k] = true ∧ v = .tuple #[tokV 4 0 (str marksL[k]), .int .i64 (str marksL[k]).size, .int .i64 0] := by
          rcases HX.out with ⟨h, _⟩ | ⟨h, h1, h2⟩
          · omega
          · exact ⟨h1, h2⟩
        obtain ⟨hp, hq⟩ := pre_true _ _ hpt
        have hlt : decide ((str marksL[k]).size ≤ s.size) = true := by rw [decide_eq_true_iff, str_size]; omega
        have hle : (str marksL[k]).size ≤ s.size := by rw [str_size]; omega
        have hne : ((s.extract 0 (str marksL[k]).size).toList == (str marksL[k]).toList) = true := by
          rw [← HS.out, str_size, str_take, hq]; exact BEq.rfl
        have HV := Lib.hid hv
        clear hsz1 hp hq hpt hv
        generalize str marksL[k] = x at *
        go_wp2_with fail
        go_quiet (fail)
        go_wp2_with fail
        go_region_held3 (fun w' => w'.cell? ⟨w.heap.size + 1, k, none⟩ = some (.string x)) (go_keep) (first | fail)
        go_wp2_with fail
        rw [HV.out]
        exact bodyPost_ret (v := .tuple #[tokV 4 0 x, .int .i64 x.size, .int .i64 0]) (by simp [results, Tryd.results22, go_sem, tokV, c0, c1, c2, f0, f1, f2, hz]) rfl ⟨rfl, by repeat' (first | exact MW_below w | refine below_dN ?_ _ | refine Below.drew ?_ | refine Below.setCell ?_ (by exact Nat.le_refl _) _)⟩
    · obtain rfl : k = e := by omega
      have hv : v = .tuple #[tokV 0 0 ⟨#[]⟩, .int .i64 0, .int .i64 5] := by
        rcases HX.out with ⟨_, h⟩ | ⟨h, h1, h2⟩
        · exact h
        · have := HM.out; omega
      have HV := Lib.hid hv
      clear hv
      go_wp2_with fail
      rw [HV.out]
      exact bodyPost_ret (v := .tuple #[tokV 0 0 ⟨#[]⟩, .int .i64 0, .int .i64 5]) (by simp [results, Tryd.results22, go_sem, tokV, c0, c1, c2, f0, f1, f2, hz]) rfl ⟨rfl, by repeat' (first | exact MW_below w | refine below_dN ?_ _ | refine Below.drew ?_ | refine Below.setCell ?_ (by exact Nat.le_refl _) _)⟩
end Go.Proofs.YtpddneplkbdedaaDoor
