/- Walks: what an instruction takes and gives, on both sides. -/
import Derived.Test.YtcicbijpiffbkaaW4
namespace Go.Proofs.Ytcicbijpiffbkaa
open Go.RowKit
set_option linter.unusedVariables false
set_option linter.unusedSimpArgs false
set_option maxRecDepth 100000
set_option maxHeartbeats 16000000

theorem op_cases (op : Int) : op = 1 ∨ op = 2 ∨ op = 3 ∨ op = 6 ∨ op = 9 ∨ op = 4 ∨ op = 7 ∨ op = 8 ∨ ((op == 1) = false ∧ (op == 2) = false ∧ (op == 3) = false ∧ (op == 6) = false ∧ (op == 9) = false ∧ (op == 4) = false ∧ (op == 7) = false ∧ (op == 8) = false) := by
  simp only [beq_eq_false_iff_ne]
  omega
theorem ceffect_any (x : Ins) (w : World) : KB 69 #[x.v] (.tuple #[.int .i64 (takeN x), .int .i64 (putN x)]) w := by
  obtain ⟨op, a, n, s⟩ := x
  unfold KB Ins.v
  have HA := Lib.hid (Arity_any a)
  generalize str s = S
  dsimp only
  rcases op_cases op with rfl | rfl | rfl | rfl | rfl | rfl | rfl | rfl | ⟨n1, n2, n3, n6, n9, n4, n7, n8⟩
  · rw [show takeN ⟨1, a, n, s⟩ = 0 by simp [takeN], show putN ⟨1, a, n, s⟩ = 1 by simp [putN]]
    clear HA
    go_enter Try.func69, Try.ntmps69
    go_wp2_with fail
    go_ret2
    exact ⟨rfl, below_new _ _⟩
  · rw [show takeN ⟨2, a, n, s⟩ = 0 by simp [takeN], show putN ⟨2, a, n, s⟩ = 1 by simp [putN]]
    clear HA
    go_enter Try.func69, Try.ntmps69
    go_wp2_with fail
    go_ret2
    exact ⟨rfl, below_new _ _⟩
  · rw [show takeN ⟨3, a, n, s⟩ = 1 by simp [takeN], show putN ⟨3, a, n, s⟩ = 0 by simp [putN]]
    clear HA
    go_enter Try.func69, Try.ntmps69
    go_wp2_with fail
    go_ret2
    exact ⟨rfl, below_new _ _⟩
  · rw [show takeN ⟨6, a, n, s⟩ = 1 by simp [takeN], show putN ⟨6, a, n, s⟩ = 0 by simp [putN]]
    clear HA
    go_enter Try.func69, Try.ntmps69
    go_wp2_with fail
    go_ret2
    exact ⟨rfl, below_new _ _⟩
  · rw [show takeN ⟨9, a, n, s⟩ = 1 by simp [takeN], show putN ⟨9, a, n, s⟩ = 0 by simp [putN]]
    clear HA
    go_enter Try.func69, Try.ntmps69
    go_wp2_with fail
    go_ret2
    exact ⟨rfl, below_new _ _⟩
  · rw [show putN ⟨4, a, n, s⟩ = 1 by simp [putN]]
    have hc : a = 8 ∨ a = 17 ∨ ((a == 8) = false ∧ (a == 17) = false) := by
      simp only [beq_eq_false_iff_ne]
      omega
    clear HA
    rcases hc with rfl | rfl | ⟨m1, m2⟩
    · rw [show takeN ⟨4, 8, n, s⟩ = 1 by simp [takeN]]
      go_enter Try.func69, Try.ntmps69
      go_wp2_with fail
      go_ret2
      exact ⟨rfl, below_new _ _⟩
    · rw [show takeN ⟨4, 17, n, s⟩ = 1 by simp [takeN]]
      go_enter Try.func69, Try.ntmps69
      go_wp2_with fail
      go_ret2
      exact ⟨rfl, below_new _ _⟩
    · rw [show takeN ⟨4, a, n, s⟩ = 2 by simp only [beq_eq_false_iff_ne] at m1 m2; simp [takeN, m1, m2]]
      go_enter Try.func69, Try.ntmps69
      go_wp2_with fail
      go_ret2
      exact ⟨rfl, below_new _ _⟩
  · rw [show takeN ⟨7, a, n, s⟩ = arN a by simp [takeN], show putN ⟨7, a, n, s⟩ = 1 by simp [putN]]
    generalize arN a = N at *
    generalize arT a = T at *
    generalize arQ a = Q at *
    unfold KB at HA
    go_enter Try.func69, Try.ntmps69
    go_wp2_with fail
    refine (HA.out _).mono ?_
    rintro e w1 ⟨rfl, hb⟩
    have HB := Lib.hid ((below_new w _).trans (hb.mono (by simp)))
    clear hb
    go_wp2_with fail
    go_ret2
    exact ⟨rfl, HB.out⟩
  · rw [show takeN ⟨8, a, n, s⟩ = arN a by simp [takeN], show putN ⟨8, a, n, s⟩ = 0 by simp [putN]]
    generalize arN a = N at *
    generalize arT a = T at *
    generalize arQ a = Q at *
    unfold KB at HA
    go_enter Try.func69, Try.ntmps69
    go_wp2_with fail
    refine (HA.out _).mono ?_
    rintro e w1 ⟨rfl, hb⟩
    have HB := Lib.hid ((below_new w _).trans (hb.mono (by simp)))
    clear hb
    go_wp2_with fail
    go_ret2
    exact ⟨rfl, HB.out⟩
  · have e1 : takeN ⟨op, a, n, s⟩ = 0 ∧ putN ⟨op, a, n, s⟩ = 0 := by
      have m := And.intro n1 (And.intro n2 (And.intro n3 (And.intro n6 (And.intro n9 (And.intro n4 (And.intro n7 n8))))))
      simp only [beq_eq_false_iff_ne] at m
      obtain ⟨m1, m2, m3, m6, m9, m4, m7, m8⟩ := m
      exact ⟨by simp [takeN, m3, m6, m9, m4, m7, m8], by simp [putN, m1, m2, m4, m7]⟩
    rw [e1.1, e1.2]
    clear e1
    clear HA
    go_enter Try.func69, Try.ntmps69
    go_wp2_with fail
    go_ret2
    exact ⟨rfl, below_new _ _⟩
theorem reffect_any (x : Ins) (ha : I64 x.a) (h7 : x.op = 7 → arQ x.a = true) (h8 : x.op = 8 → arD x.a = true) (w : World) : KB 53 #[x.v] (.tuple #[.int .i64 (takeN x), .int .i64 (putN x)]) w := by
  obtain ⟨op, a, n, s⟩ := x
  unfold KB Ins.v
  dsimp only at ha h7 h8
  have HQ := Lib.hid (fun (h : arQ a = true) w' => show KB 71 #[.bool false, .int .i64 a] (.tuple #[.int .i64 (arN a), .bool (arT a), .bool true]) w' from by
    have h1 := Args_any false a ha w'
    have h2 : okA false a = true := h
    rw [h2, if_pos rfl] at h1
    simpa using h1)
  have HD := Lib.hid (fun (h : arD a = true) w' => show KB 71 #[.bool true, .int .i64 a] (.tuple #[.int .i64 (arN a), .bool (arT a), .bool true]) w' from by
    have h1 := Args_any true a ha w'
    have h2 : okA true a = true := h
    rw [h2, if_pos rfl] at h1
    simpa using h1)
  generalize str s = S
  dsimp only
  rcases op_cases op with rfl | rfl | rfl | rfl | rfl | rfl | rfl | rfl | ⟨n1, n2, n3, n6, n9, n4, n7, n8⟩
  · rw [show takeN ⟨1, a, n, s⟩ = 0 by simp [takeN], show putN ⟨1, a, n, s⟩ = 1 by simp [putN]]
    clear HQ HD ha h7 h8
    go_enter Try.func53, Try.ntmps53
    go_wp2_with fail
    go_ret2
    exact ⟨rfl, below_new _ _⟩
  · rw [show takeN ⟨2, a, n, s⟩ = 0 by simp [takeN], show putN ⟨2, a, n, s⟩ = 1 by simp [putN]]
    clear HQ HD ha h7 h8
    go_enter Try.func53, Try.ntmps53
    go_wp2_with fail
    go_ret2
    exact ⟨rfl, below_new _ _⟩
  · rw [show takeN ⟨3, a, n, s⟩ = 1 by simp [takeN], show putN ⟨3, a, n, s⟩ = 0 by simp [putN]]
    clear HQ HD ha h7 h8
    go_enter Try.func53, Try.ntmps53
    go_wp2_with fail
    go_ret2
    exact ⟨rfl, below_new _ _⟩
  · rw [show takeN ⟨6, a, n, s⟩ = 1 by simp [takeN], show putN ⟨6, a, n, s⟩ = 0 by simp [putN]]
    clear HQ HD ha h7 h8
    go_enter Try.func53, Try.ntmps53
    go_wp2_with fail
    go_ret2
    exact ⟨rfl, below_new _ _⟩
  · rw [show takeN ⟨9, a, n, s⟩ = 1 by simp [takeN], show putN ⟨9, a, n, s⟩ = 0 by simp [putN]]
    clear HQ HD ha h7 h8
    go_enter Try.func53, Try.ntmps53
    go_wp2_with fail
    go_ret2
    exact ⟨rfl, below_new _ _⟩
  · rw [show putN ⟨4, a, n, s⟩ = 1 by simp [putN]]
    have hc : a = 8 ∨ a = 17 ∨ ((a == 8) = false ∧ (a == 17) = false) := by
      simp only [beq_eq_false_iff_ne]
      omega
    clear HQ HD ha h7 h8
    rcases hc with rfl | rfl | ⟨m1, m2⟩
    · rw [show takeN ⟨4, 8, n, s⟩ = 1 by simp [takeN]]
      go_enter Try.func53, Try.ntmps53
      go_wp2_with fail
      go_ret2
      exact ⟨rfl, below_new _ _⟩
    · rw [show takeN ⟨4, 17, n, s⟩ = 1 by simp [takeN]]
      go_enter Try.func53, Try.ntmps53
      go_wp2_with fail
      go_ret2
      exact ⟨rfl, below_new _ _⟩
    · rw [show takeN ⟨4, a, n, s⟩ = 2 by simp only [beq_eq_false_iff_ne] at m1 m2; simp [takeN, m1, m2]]
      go_enter Try.func53, Try.ntmps53
      go_wp2_with fail
      go_ret2
      exact ⟨rfl, below_new _ _⟩
  · rw [show takeN ⟨7, a, n, s⟩ = arN a by simp [takeN], show putN ⟨7, a, n, s⟩ = 1 by simp [putN]]
    have HA := Lib.hid (HQ.out (h7 rfl))
    clear HQ HD ha h7 h8
    generalize arN a = N at *
    generalize arT a = T at *
    unfold KB at HA
    go_enter Try.func53, Try.ntmps53
    go_wp2_with fail
    refine (HA.out _).mono ?_
    rintro e w1 ⟨rfl, hb⟩
    have HB := Lib.hid ((below_new w _).trans (hb.mono (by simp)))
    clear hb
    go_wp2_with fail
    go_ret2
    exact ⟨rfl, HB.out⟩
  · rw [show takeN ⟨8, a, n, s⟩ = arN a by simp [takeN], show putN ⟨8, a, n, s⟩ = 0 by simp [putN]]
    have HA := Lib.hid (HD.out (h8 rfl))
    clear HQ HD ha h7 h8
    generalize arN a = N at *
    generalize arT a = T at *
    unfold KB at HA
    go_enter Try.func53, Try.ntmps53
    go_wp2_with fail
    refine (HA.out _).mono ?_
    rintro e w1 ⟨rfl, hb⟩
    have HB := Lib.hid ((below_new w _).trans (hb.mono (by simp)))
    clear hb
    go_wp2_with fail
    go_ret2
    exact ⟨rfl, HB.out⟩
  · have e1 : takeN ⟨op, a, n, s⟩ = 0 ∧ putN ⟨op, a, n, s⟩ = 0 := by
      have m := And.intro n1 (And.intro n2 (And.intro n3 (And.intro n6 (And.intro n9 (And.intro n4 (And.intro n7 n8))))))
      simp only [beq_eq_false_iff_ne] at m
      obtain ⟨m1, m2, m3, m6, m9, m4, m7, m8⟩ := m
      exact ⟨by simp [takeN, m3, m6, m9, m4, m7, m8], by simp [putN, m1, m2, m4, m7]⟩
    rw [e1.1, e1.2]
    clear e1
    clear HQ HD ha h7 h8
    go_enter Try.func53, Try.ntmps53
    go_wp2_with fail
    go_ret2
    exact ⟨rfl, below_new _ _⟩
end Go.Proofs.Ytcicbijpiffbkaa
