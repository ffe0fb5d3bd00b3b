/- The laws' walks of the num package: NumParses. -/
import Derived.Test.YtoihknngllmogaaDoorW32
namespace Go.Proofs.YtoihknngllmogaaDoor
open Go.RowKit
set_option linter.unusedVariables false
set_option linter.unusedSimpArgs false

theorem parses_long (s : ByteArray) (hs : 200 < s.size) (hs2 : s.size ≤ 140737488351232) (W : World) (hC : Ctx W) :
    Calls Tryd.prog 9 #[.string s] W fun e W' => e = .returned (.bool true) ∧ Below W.heap.size W W' := by
  have HA : Hid AwakeK := Lib.hid awake_any; have HC := Lib.hid hC
  clear hC
  go_enter Tryd.func9, Tryd.ntmps9
  go_wp2_with fail
  refine (HA.out _ HC.out).mono ?_
  rintro e w4 ⟨rfl, hb4⟩
  go_wp2_with fail
  go_ret
  exact ⟨rfl, hb4⟩

theorem parses_bad (s : ByteArray) (v k : Int) (hs : s.size ≤ 200) (h1 : KB 23 #[.string s] (.tuple #[.int .i64 v, .int .i64 k])) (h2 : KC 25 #[.string s] (.tuple #[.int .i64 v, .int .i64 k])) (hk : k = 3 ∨ k = 5) (W : World) (hC : Ctx W) :
    Calls Tryd.prog 9 #[.string s] W fun e W' => e = .returned (.bool true) ∧ Below W.heap.size W W' := by
  rcases hk with rfl | rfl
  all_goals
    have H1 := Lib.hid h1; have H2 := Lib.hid h2; have HA : Hid AwakeK := Lib.hid awake_any; have HC := Lib.hid hC
    clear h1 h2 hC
    go_enter Tryd.func9, Tryd.ntmps9
    go_wp2_with fail
    refine (H1.out _ HC.out).mono ?_
    rintro e w1 ⟨rfl, hb1⟩
    have C1 := Lib.hid (HC.out.below hb1)
    go_wp2_with fail
    refine (H2.out _).mono ?_
    rintro e w2 ⟨rfl, rfl⟩
    go_wp2_with fail
    refine (HA.out _ C1.out).mono ?_
    rintro e w4 ⟨rfl, hb4⟩
    go_wp2_with fail
    go_ret
    exact ⟨rfl, hb1.trans (hb4.mono hb1.size)⟩

theorem parses_ok (s : ByteArray) (v : Int) (hs : s.size ≤ 200) (h1 : KB 23 #[.string s] (.tuple #[.int .i64 v, .int .i64 0])) (h2 : KC 25 #[.string s] (.tuple #[.int .i64 v, .int .i64 0])) (h3 : KB 22 #[.int .i64 v] (.string s)) (W : World) (hC : Ctx W) :
    Calls Tryd.prog 9 #[.string s] W fun e W' => e = .returned (.bool true) ∧ Below W.heap.size W W' := by
  have H1 := Lib.hid h1; have H2 := Lib.hid h2; have H3 := Lib.hid h3; have HA : Hid AwakeK := Lib.hid awake_any; have HC := Lib.hid hC
  clear h1 h2 h3 hC
  go_enter Tryd.func9, Tryd.ntmps9
  go_wp2_with fail
  refine (H1.out _ HC.out).mono ?_
  rintro e w1 ⟨rfl, hb1⟩
  have C1 := Lib.hid (HC.out.below hb1)
  go_wp2_with fail
  refine (H2.out _).mono ?_
  rintro e w2 ⟨rfl, rfl⟩
  go_wp2_with fail
  refine (H3.out _ C1.out).mono ?_
  rintro e w3 ⟨rfl, hb3⟩
  have C3 := Lib.hid (C1.out.below hb3)
  go_wp2_with fail
  refine (HA.out _ C3.out).mono ?_
  rintro e w4 ⟨rfl, hb4⟩
  go_wp2_with fail
  go_ret
  have k1 := hb1.size
  have k3 := hb3.size
  exact ⟨rfl, (hb1.trans (hb3.mono k1)).trans (hb4.mono (Nat.le_trans k1 k3))⟩

theorem pVal_two (l : List UInt8) (h : ¬ (pVal l).2 = 0) : (pVal l).2 = 3 ∨ (pVal l).2 = 5 := by
  unfold pVal at h ⊢
  by_cases g1 : PBad l
  · rw [if_pos g1]; exact Or.inr rfl
  rw [if_neg g1] at h ⊢
  by_cases g2 : 36028797018963968 < valF 0 (pA l)
  · rw [if_pos g2]; exact Or.inl rfl
  rw [if_neg g2] at h ⊢
  by_cases g3 : pN l = true
  · rw [if_pos g3] at h ⊢
    by_cases g4 : pNum l ≤ 9223372036854775808
    · rw [if_pos g4] at h; exact absurd rfl h
    · rw [if_neg g4]; exact Or.inl rfl
  · rw [if_neg g3] at h ⊢
    by_cases g4 : pNum l ≤ 9223372036854775807
    · rw [if_pos g4] at h; exact absurd rfl h
    · rw [if_neg g4]; exact Or.inl rfl

theorem w_NumParses (s : ByteArray) (hz : s.size ≤ 140737488351232) (W : World) (hC : Ctx W) :
    Calls Tryd.prog 9 #[.string s] W fun e W' => e = .returned (.bool true) ∧ Below W.heap.size W W' := by
  by_cases hs : 200 < s.size
  · exact parses_long s hs hz W hC
  · obtain ⟨l, rfl⟩ : ∃ l, s = str l := ⟨s.data.toList, by apply ByteArray.ext; simp [str]⟩
    have hlen : l.length ≤ 200 := by have := str_size l; omega
    have h1 : KB 23 #[.string (str l)] (.tuple #[.int .i64 (pVal l).1, .int .i64 (pVal l).2]) := fun w hw => parse_any l (by omega) w hw
    have h2 : KC 25 #[.string (str l)] (.tuple #[.int .i64 (pVal l).1, .int .i64 (pVal l).2]) := fun w => rparse_any l (by omega) w
    by_cases hk : (pVal l).2 = 0
    · obtain ⟨f1, f2, f3⟩ := fmt_pval l hk
      rw [hk] at h1 h2
      refine parses_ok (str l) (pVal l).1 (by omega) h1 h2 (fun w hw => ?_) W hC
      have := format_any (pVal l).1 f2 f3 w hw.1
      rw [f1] at this
      exact this
    · exact parses_bad (str l) (pVal l).1 (pVal l).2 (by omega) h1 h2 (pVal_two l hk) W hC
end Go.Proofs.YtoihknngllmogaaDoor
