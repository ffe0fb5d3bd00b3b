/- Walks: a cell's test, a map's form. -/
import Derived.Test.YtmiceolkmiiahaaGreatDoorW1
namespace Go.Proofs.YtmiceolkmiiahaaGreatDoor
open Go.RowKit
set_option linter.unusedVariables false
set_option linter.unusedSimpArgs false
set_option maxRecDepth 100000

def nearI (n : Int) : Int := if n < -1048576 then -1048576 else if 1048576 < n then 1048576 else n
theorem nearI_in (n : Int) : -1048576 ≤ nearI n ∧ nearI n ≤ 1048576 := by unfold nearI; split <;> (try split) <;> omega
theorem nearI_of (n : Int) (h1 : -1048576 ≤ n) (h2 : n ≤ 1048576) : nearI n = n := by unfold nearI; rw [if_neg (by omega), if_neg (by omega)]

theorem Clamp_any (n : Int) : KC 106 #[.int .i64 n, .int .i64 (-1048576), .int .i64 1048576] (.int .i64 (nearI n)) := by
  intro w
  by_cases h1 : n < -1048576
  · have e : nearI n = -1048576 := by unfold nearI; rw [if_pos h1]
    rw [e]
    go_enter Tryz.func106, Tryz.ntmps106
    go_wp2
    go_ret
    exact ⟨rfl, rfl⟩
  · by_cases h2 : 1048576 < n
    · have e : nearI n = 1048576 := by unfold nearI; rw [if_neg h1, if_pos h2]
      rw [e]
      go_enter Tryz.func106, Tryz.ntmps106
      go_wp2
      go_ret
      exact ⟨rfl, rfl⟩
    · have e : nearI n = n := by unfold nearI; rw [if_neg h1, if_neg h2]
      rw [e]
      by_cases h3 : n = -1048576
      · subst h3
        go_enter Tryz.func106, Tryz.ntmps106
        go_wp2
        go_ret
        exact ⟨rfl, rfl⟩
      · have h4 : -1048576 < n := by omega
        go_enter Tryz.func106, Tryz.ntmps106
        go_wp2
        go_ret
        exact ⟨rfl, rfl⟩
theorem near_any (n : Int) : KC 89 #[.int .i64 n] (.int .i64 (nearI n)) := by
  intro w
  have H := Lib.hid (Clamp_any n)
  go_enter Tryz.func89, Tryz.ntmps89
  go_wp2_with fail
  refine (H.out _).mono ?_
  rintro e w1 ⟨rfl, rfl⟩
  go_wp2_with fail
  go_ret
  exact ⟨rfl, rfl⟩
theorem r6near_any (n : Int) : KC 92 #[.int .i64 n] (.int .i64 (nearI n)) := by
  intro w
  by_cases h1 : n < -1048576
  · have e : nearI n = -1048576 := by unfold nearI; rw [if_pos h1]
    rw [e]
    go_enter Tryz.func92, Tryz.ntmps92
    go_wp2
    go_ret
    exact ⟨rfl, rfl⟩
  · by_cases h2 : 1048576 < n
    · have e : nearI n = 1048576 := by unfold nearI; rw [if_neg h1, if_pos h2]
      rw [e]
      go_enter Tryz.func92, Tryz.ntmps92
      go_wp2
      go_ret
      exact ⟨rfl, rfl⟩
    · have e : nearI n = n := by unfold nearI; rw [if_neg h1, if_neg h2]
      rw [e]
      by_cases h3 : n = -1048576
      · subst h3
        go_enter Tryz.func92, Tryz.ntmps92
        go_wp2
        go_ret
        exact ⟨rfl, rfl⟩
      · have h4 : -1048576 < n := by omega
        go_enter Tryz.func92, Tryz.ntmps92
        go_wp2
        go_ret
        exact ⟨rfl, rfl⟩

set_option maxHeartbeats 4000000 in
theorem validCell_any (c : Cel) (w : World) : KB 59 #[c.v] (.bool (celB c)) w := by
  obtain ⟨k, h, a⟩ := c
  unfold KB Cel.v
  by_cases h1 : 1 ≤ k
  · by_cases h2 : k ≤ 5
    · by_cases h3 : 0 ≤ h
      · by_cases h4 : h ≤ 3
        · by_cases h5 : 0 ≤ a
          · by_cases h6 : a ≤ 1000000
            · have e : celB ⟨k, h, a⟩ = (decide (0 < a) == (k == 4 || k == 5)) := by unfold celB richB; simp [h1, h2, h3, h4, h5, h6]
              rw [e]
              by_cases h7 : k = 4
              · subst h7
                go_enter Tryz.func59, Tryz.ntmps59
                go_wp2
                go_ret
                exact ⟨by show Ending.returned (.bool (decide (0 < a))) = _; simp, below_new _ _⟩
              · go_enter Tryz.func59, Tryz.ntmps59
                go_wp2
                go_ret
                exact ⟨rfl, below_new _ _⟩
            · have e : celB ⟨k, h, a⟩ = false := by unfold celB; simp [h1, h2, h3, h4, h5, h6]
              rw [e]
              go_enter Tryz.func59, Tryz.ntmps59
              go_wp2
              go_ret
              exact ⟨rfl, below_new _ _⟩
          · have e : celB ⟨k, h, a⟩ = false := by unfold celB; simp [h1, h2, h3, h4, h5]
            rw [e]
            go_enter Tryz.func59, Tryz.ntmps59
            go_wp2
            go_ret
            exact ⟨rfl, below_new _ _⟩
        · have e : celB ⟨k, h, a⟩ = false := by unfold celB; simp [h1, h2, h3, h4]
          rw [e]
          go_enter Tryz.func59, Tryz.ntmps59
          go_wp2
          go_ret
          exact ⟨rfl, below_new _ _⟩
      · have e : celB ⟨k, h, a⟩ = false := by unfold celB; simp [h1, h2, h3]
        rw [e]
        go_enter Tryz.func59, Tryz.ntmps59
        go_wp2
        go_ret
        exact ⟨rfl, below_new _ _⟩
    · have e : celB ⟨k, h, a⟩ = false := by unfold celB; simp [h1, h2]
      rw [e]
      go_enter Tryz.func59, Tryz.ntmps59
      go_wp2
      go_ret
      exact ⟨rfl, below_new _ _⟩
  · have e : celB ⟨k, h, a⟩ = false := by unfold celB; simp [h1]
    rw [e]
    go_enter Tryz.func59, Tryz.ntmps59
    go_wp2
    go_ret
    exact ⟨rfl, below_new _ _⟩
set_option maxHeartbeats 4000000 in
theorem r7ValidCell_any (c : Cel) (w : World) : KB 63 #[c.v] (.bool (celB c)) w := by
  obtain ⟨k, h, a⟩ := c
  unfold KB Cel.v
  by_cases h1 : 1 ≤ k
  · by_cases h2 : k ≤ 5
    · by_cases h3 : 0 ≤ h
      · by_cases h4 : h ≤ 3
        · by_cases h5 : 0 ≤ a
          · by_cases h6 : a ≤ 1000000
            · have e : celB ⟨k, h, a⟩ = (decide (0 < a) == (k == 4 || k == 5)) := by unfold celB richB; simp [h1, h2, h3, h4, h5, h6]
              rw [e]
              by_cases h7 : k = 4
              · subst h7
                go_enter Tryz.func63, Tryz.ntmps63
                go_wp2
                go_ret
                exact ⟨by show Ending.returned (.bool (decide (0 < a))) = _; simp, below_new _ _⟩
              · go_enter Tryz.func63, Tryz.ntmps63
                go_wp2
                go_ret
                exact ⟨rfl, below_new _ _⟩
            · have e : celB ⟨k, h, a⟩ = false := by unfold celB; simp [h1, h2, h3, h4, h5, h6]
              rw [e]
              go_enter Tryz.func63, Tryz.ntmps63
              go_wp2
              go_ret
              exact ⟨rfl, below_new _ _⟩
          · have e : celB ⟨k, h, a⟩ = false := by unfold celB; simp [h1, h2, h3, h4, h5]
            rw [e]
            go_enter Tryz.func63, Tryz.ntmps63
            go_wp2
            go_ret
            exact ⟨rfl, below_new _ _⟩
        · have e : celB ⟨k, h, a⟩ = false := by unfold celB; simp [h1, h2, h3, h4]
          rw [e]
          go_enter Tryz.func63, Tryz.ntmps63
          go_wp2
          go_ret
          exact ⟨rfl, below_new _ _⟩
      · have e : celB ⟨k, h, a⟩ = false := by unfold celB; simp [h1, h2, h3]
        rw [e]
        go_enter Tryz.func63, Tryz.ntmps63
        go_wp2
        go_ret
        exact ⟨rfl, below_new _ _⟩
    · have e : celB ⟨k, h, a⟩ = false := by unfold celB; simp [h1, h2]
      rw [e]
      go_enter Tryz.func63, Tryz.ntmps63
      go_wp2
      go_ret
      exact ⟨rfl, below_new _ _⟩
  · have e : celB ⟨k, h, a⟩ = false := by unfold celB; simp [h1]
    rw [e]
    go_enter Tryz.func63, Tryz.ntmps63
    go_wp2
    go_ret
    exact ⟨rfl, below_new _ _⟩

def fmB (W H : Int) (n : Nat) : Bool := gvB W H && ((n : Int) == W * H)
theorem formed_any (W H : Int) (ao : Option Addr) (n c : Nat) (w : World) : KB 56 #[mapV W H (.slice ao n c)] (.bool (fmB W H n)) w := by
  unfold KB mapV
  have H1 := Lib.hid (gValid_any W H)
  by_cases h1 : gvB W H = true
  · have e : fmB W H n = ((n : Int) == W * H) := by unfold fmB; rw [h1]; rfl
    rw [e]
    rw [h1] at H1
    obtain ⟨a1, a2, a3, a4⟩ := (gvB_iff W H).1 h1
    have hm1 : 0 ≤ W * H := Int.mul_nonneg (by omega) (by omega)
    have hm2 : W * H ≤ 32 * 32 := Int.mul_le_mul a2 a4 (by omega) (by omega)
    have hm : wrap64 (W * H) = W * H := by unfold wrap64; omega
    clear h1 e
    go_enter Tryz.func56, Tryz.ntmps56
    go_wp2_with fail
    refine (H1.out _).mono ?_
    rintro e w1 ⟨rfl, rfl⟩
    go_wp2_with fail
    go_ret
    exact ⟨rfl, below_new _ _⟩
  · have h1' : gvB W H = false := by simpa using h1
    have e : fmB W H n = false := by unfold fmB; rw [h1']; rfl
    rw [e]
    rw [h1'] at H1
    clear h1 e h1'
    go_enter Tryz.func56, Tryz.ntmps56
    go_wp2_with fail
    refine (H1.out _).mono ?_
    rintro e w1 ⟨rfl, rfl⟩
    go_wp2_with fail
    go_ret
    exact ⟨rfl, below_new _ _⟩
theorem r7Formed_any (W H : Int) (ao : Option Addr) (n c : Nat) (w : World) : KB 62 #[mapV W H (.slice ao n c)] (.bool (fmB W H n)) w := by
  unfold KB mapV
  have H1 := Lib.hid (r6Valid_any W H)
  by_cases h1 : gvB W H = true
  · have e : fmB W H n = ((n : Int) == W * H) := by unfold fmB; rw [h1]; rfl
    rw [e]
    rw [h1] at H1
    obtain ⟨a1, a2, a3, a4⟩ := (gvB_iff W H).1 h1
    have hm1 : 0 ≤ W * H := Int.mul_nonneg (by omega) (by omega)
    have hm2 : W * H ≤ 32 * 32 := Int.mul_le_mul a2 a4 (by omega) (by omega)
    have hm : wrap64 (W * H) = W * H := by unfold wrap64; omega
    clear h1 e
    go_enter Tryz.func62, Tryz.ntmps62
    go_wp2_with fail
    refine (H1.out _).mono ?_
    rintro e w1 ⟨rfl, rfl⟩
    go_wp2_with fail
    go_ret
    exact ⟨rfl, below_new _ _⟩
  · have h1' : gvB W H = false := by simpa using h1
    have e : fmB W H n = false := by unfold fmB; rw [h1']; rfl
    rw [e]
    rw [h1'] at H1
    clear h1 e h1'
    go_enter Tryz.func62, Tryz.ntmps62
    go_wp2_with fail
    refine (H1.out _).mono ?_
    rintro e w1 ⟨rfl, rfl⟩
    go_wp2_with fail
    go_ret
    exact ⟨rfl, below_new _ _⟩
end Go.Proofs.YtmiceolkmiiahaaGreatDoor
