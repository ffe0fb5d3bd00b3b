/- Walks: how an instruction changes the depth, both sides. -/
import Derived.Test.YtcicbijpiffbkaaW5
import Derived.Test.YtcicbijpiffbkaaP2
namespace Go.Proofs.Ytcicbijpiffbkaa
open Go.RowKit
set_option linter.unusedVariables false
set_option linter.unusedSimpArgs false
set_option maxRecDepth 100000
set_option maxHeartbeats 16000000

theorem arN_le (a : Int) : -1 ≤ arN a ∧ arN a ≤ 3 := by
  unfold arN
  split
  · omega
  · split
    · omega
    · split
      · omega
      · split <;> omega
theorem delta_le (x : Ins) : -3 ≤ delta x ∧ delta x ≤ 2 := by
  unfold delta putN takeN
  have := arN_le x.a
  split <;> (try split) <;> (try split) <;> (try split) <;> omega
theorem sumD_le (l : List Ins) : -3 * (l.length : Int) ≤ sumD l ∧ sumD l ≤ 2 * (l.length : Int) := by
  induction l with
  | nil => simp [sumD]
  | cons x l ih =>
    have := delta_le x
    simp only [sumD, List.length_cons]
    omega
theorem change_any (x : Ins) (w : World) : KB 24 #[x.v] (.int .i64 (delta x)) w := by
  obtain ⟨op, a, n, s⟩ := x
  unfold KB Ins.v
  have HA := Lib.hid (Arity_any a)
  unfold KB at HA
  have hal := arN_le a
  obtain ⟨N, hN⟩ : ∃ N, arN a = N := ⟨_, rfl⟩
  rw [hN] at HA hal
  have HN := Lib.hid hN
  clear hN
  generalize arT a = AT at *
  generalize arQ a = AQ at *
  generalize str s = S
  dsimp only
  obtain ⟨l1, l2⟩ := hal
  rcases op_cases op with rfl | rfl | rfl | rfl | rfl | rfl | rfl | rfl | ⟨n1, n2, n3, n6, n9, n4, n7, n8⟩
  · rw [show delta ⟨1, a, n, s⟩ = 1 by simp [delta, putN, takeN]]
    go_enter Try.func24, Try.ntmps24
    clear HA
    go_wp2_with fail
    go_ret
    exact ⟨rfl, below_new _ _⟩
  · rw [show delta ⟨2, a, n, s⟩ = 1 by simp [delta, putN, takeN]]
    go_enter Try.func24, Try.ntmps24
    clear HA
    go_wp2_with fail
    go_ret
    exact ⟨rfl, below_new _ _⟩
  · rw [show delta ⟨3, a, n, s⟩ = -1 by simp [delta, putN, takeN]]
    go_enter Try.func24, Try.ntmps24
    clear HA
    go_wp2_with fail
    go_ret
    exact ⟨rfl, below_new _ _⟩
  · rw [show delta ⟨6, a, n, s⟩ = -1 by simp [delta, putN, takeN]]
    go_enter Try.func24, Try.ntmps24
    clear HA
    go_wp2_with fail
    go_ret
    exact ⟨rfl, below_new _ _⟩
  · rw [show delta ⟨9, a, n, s⟩ = -1 by simp [delta, putN, takeN]]
    go_enter Try.func24, Try.ntmps24
    clear HA
    go_wp2_with fail
    go_ret
    exact ⟨rfl, below_new _ _⟩
  · have hc : a = 8 ∨ a = 17 ∨ ((a == 8) = false ∧ (a == 17) = false) := by
      simp only [beq_eq_false_iff_ne]
      omega
    rcases hc with rfl | rfl | ⟨m1, m2⟩
    · rw [show delta ⟨4, 8, n, s⟩ = 0 by simp [delta, putN, takeN]]
      go_enter Try.func24, Try.ntmps24
      clear HA
      go_wp2_with fail
      go_ret
      exact ⟨rfl, below_new _ _⟩
    · rw [show delta ⟨4, 17, n, s⟩ = 0 by simp [delta, putN, takeN]]
      go_enter Try.func24, Try.ntmps24
      clear HA
      go_wp2_with fail
      go_ret
      exact ⟨rfl, below_new _ _⟩
    · rw [show delta ⟨4, a, n, s⟩ = -1 by simp only [beq_eq_false_iff_ne] at m1 m2; simp [delta, putN, takeN, m1, m2]]
      go_enter Try.func24, Try.ntmps24
      clear HA
      go_wp2_with fail
      go_ret
      exact ⟨rfl, below_new _ _⟩
  · rw [show delta ⟨7, a, n, s⟩ = 1 - N by simp [delta, putN, takeN, HN.out]]
    go_enter Try.func24, Try.ntmps24
    go_wp2_with fail
    refine (HA.out _).mono ?_
    rintro e w1 ⟨rfl, hb⟩
    have HB := Lib.hid ((below_new w _).trans (hb.mono (by simp)))
    clear hb
    go_wp2_with fail
    go_ret
    exact ⟨rfl, HB.out⟩
  · rw [show delta ⟨8, a, n, s⟩ = -N by simp [delta, putN, takeN, HN.out]]
    go_enter Try.func24, Try.ntmps24
    go_wp2_with fail
    refine (HA.out _).mono ?_
    rintro e w1 ⟨rfl, hb⟩
    have HB := Lib.hid ((below_new w _).trans (hb.mono (by simp)))
    clear hb
    go_wp2_with fail
    go_ret
    exact ⟨rfl, HB.out⟩
  · have e1 : delta ⟨op, a, n, s⟩ = 0 := by
      have m := And.intro n1 (And.intro n2 (And.intro n3 (And.intro n6 (And.intro n9 (And.intro n4 (And.intro n7 n8))))))
      simp only [beq_eq_false_iff_ne] at m
      obtain ⟨m1, m2, m3, m6, m9, m4, m7, m8⟩ := m
      simp [delta, takeN, putN, m1, m2, m3, m6, m9, m4, m7, m8]
    rw [e1]
    clear e1
    go_enter Try.func24, Try.ntmps24
    clear HA
    go_wp2_with fail
    go_ret
    exact ⟨rfl, below_new _ _⟩
theorem reffect39_any (x : Ins) (w : World) : KB 51 #[x.v] (.int .i64 (delta x)) w := by
  obtain ⟨op, a, n, s⟩ := x
  unfold KB Ins.v
  have HA := Lib.hid (rArity_any a)
  unfold KC at HA
  have hal := arN_le a
  obtain ⟨N, hN⟩ : ∃ N, arN a = N := ⟨_, rfl⟩
  rw [hN] at HA hal
  have HN := Lib.hid hN
  clear hN
  generalize arT a = AT at *
  generalize arQ a = AQ at *
  generalize str s = S
  dsimp only
  obtain ⟨l1, l2⟩ := hal
  rcases op_cases op with rfl | rfl | rfl | rfl | rfl | rfl | rfl | rfl | ⟨n1, n2, n3, n6, n9, n4, n7, n8⟩
  · rw [show delta ⟨1, a, n, s⟩ = 1 by simp [delta, putN, takeN]]
    go_enter Try.func51, Try.ntmps51
    go_wp2_with fail
    refine (HA.out _).mono ?_
    rintro e w1 ⟨rfl, rfl⟩
    go_wp2_with fail
    go_ret
    exact ⟨rfl, below_new _ _⟩
  · rw [show delta ⟨2, a, n, s⟩ = 1 by simp [delta, putN, takeN]]
    go_enter Try.func51, Try.ntmps51
    go_wp2_with fail
    refine (HA.out _).mono ?_
    rintro e w1 ⟨rfl, rfl⟩
    go_wp2_with fail
    go_ret
    exact ⟨rfl, below_new _ _⟩
  · rw [show delta ⟨3, a, n, s⟩ = -1 by simp [delta, putN, takeN]]
    go_enter Try.func51, Try.ntmps51
    go_wp2_with fail
    refine (HA.out _).mono ?_
    rintro e w1 ⟨rfl, rfl⟩
    go_wp2_with fail
    go_ret
    exact ⟨rfl, below_new _ _⟩
  · rw [show delta ⟨6, a, n, s⟩ = -1 by simp [delta, putN, takeN]]
    go_enter Try.func51, Try.ntmps51
    go_wp2_with fail
    refine (HA.out _).mono ?_
    rintro e w1 ⟨rfl, rfl⟩
    go_wp2_with fail
    go_ret
    exact ⟨rfl, below_new _ _⟩
  · rw [show delta ⟨9, a, n, s⟩ = -1 by simp [delta, putN, takeN]]
    go_enter Try.func51, Try.ntmps51
    go_wp2_with fail
    refine (HA.out _).mono ?_
    rintro e w1 ⟨rfl, rfl⟩
    go_wp2_with fail
    go_ret
    exact ⟨rfl, below_new _ _⟩
  · have hc : a = 8 ∨ a = 17 ∨ ((a == 8) = false ∧ (a == 17) = false) := by
      simp only [beq_eq_false_iff_ne]
      omega
    rcases hc with rfl | rfl | ⟨m1, m2⟩
    · rw [show delta ⟨4, 8, n, s⟩ = 0 by simp [delta, putN, takeN]]
      go_enter Try.func51, Try.ntmps51
      go_wp2_with fail
      refine (HA.out _).mono ?_
      rintro e w1 ⟨rfl, rfl⟩
      go_wp2_with fail
      go_ret
      exact ⟨rfl, below_new _ _⟩
    · rw [show delta ⟨4, 17, n, s⟩ = 0 by simp [delta, putN, takeN]]
      go_enter Try.func51, Try.ntmps51
      go_wp2_with fail
      refine (HA.out _).mono ?_
      rintro e w1 ⟨rfl, rfl⟩
      go_wp2_with fail
      go_ret
      exact ⟨rfl, below_new _ _⟩
    · rw [show delta ⟨4, a, n, s⟩ = -1 by simp only [beq_eq_false_iff_ne] at m1 m2; simp [delta, putN, takeN, m1, m2]]
      have m3 : (a != 8) = true := by rw [bne, m1]; rfl
      have m4 : (a != 17) = true := by rw [bne, m2]; rfl
      go_enter Try.func51, Try.ntmps51
      go_wp2_with fail
      refine (HA.out _).mono ?_
      rintro e w1 ⟨rfl, rfl⟩
      go_wp2_with fail
      go_ret
      exact ⟨rfl, below_new _ _⟩
  · rw [show delta ⟨7, a, n, s⟩ = 1 - N by simp [delta, putN, takeN, HN.out]]
    go_enter Try.func51, Try.ntmps51
    go_wp2_with fail
    refine (HA.out _).mono ?_
    rintro e w1 ⟨rfl, rfl⟩
    go_wp2_with fail
    go_ret
    exact ⟨rfl, below_new _ _⟩
  · rw [show delta ⟨8, a, n, s⟩ = -N by simp [delta, putN, takeN, HN.out]]
    go_enter Try.func51, Try.ntmps51
    go_wp2_with fail
    refine (HA.out _).mono ?_
    rintro e w1 ⟨rfl, rfl⟩
    go_wp2_with fail
    go_ret
    exact ⟨rfl, below_new _ _⟩
  · have e1 : delta ⟨op, a, n, s⟩ = 0 := by
      have m := And.intro n1 (And.intro n2 (And.intro n3 (And.intro n6 (And.intro n9 (And.intro n4 (And.intro n7 n8))))))
      simp only [beq_eq_false_iff_ne] at m
      obtain ⟨m1, m2, m3, m6, m9, m4, m7, m8⟩ := m
      simp [delta, takeN, putN, m1, m2, m3, m6, m9, m4, m7, m8]
    rw [e1]
    clear e1
    go_enter Try.func51, Try.ntmps51
    go_wp2_with fail
    refine (HA.out _).mono ?_
    rintro e w1 ⟨rfl, rfl⟩
    go_wp2_with fail
    go_ret
    exact ⟨rfl, below_new _ _⟩
end Go.Proofs.Ytcicbijpiffbkaa
