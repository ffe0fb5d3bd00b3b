/- Walks: the small tests of grids and cells. -/
import Derived.Test.YtmiceolkmiiahaaGreatDoorKit
namespace Go.Proofs.YtmiceolkmiiahaaGreatDoor
open Go.RowKit
set_option linter.unusedVariables false
set_option linter.unusedSimpArgs false
set_option maxRecDepth 100000

structure Cel where
  k : Int
  h : Int
  a : Int
deriving DecidableEq
structure Po where
  x : Int
  y : Int
deriving DecidableEq
def Cel.l (c : Cel) : List Value := [.int .i64 c.k, .int .i64 c.h, .int .i64 c.a]
def Po.l (p : Po) : List Value := [.int .i64 p.x, .int .i64 p.y]
def Cel.v (c : Cel) : Value := .agg #[.int .i64 c.k, .int .i64 c.h, .int .i64 c.a]
def Po.v (p : Po) : Value := .agg #[.int .i64 p.x, .int .i64 p.y]
theorem Cel.l_len (c : Cel) : c.l.length = 3 := rfl
theorem Po.l_len (p : Po) : p.l.length = 2 := rfl
def mapV (W H : Int) (cs : Value) : Value := .agg #[.int .i64 W, .int .i64 H, cs]
def fileV (n : ByteArray) (W H : Int) (cs ps : Value) : Value := .agg #[.string n, .int .i64 W, .int .i64 H, cs, ps]

def gvB (w h : Int) : Bool := decide (1 ≤ w) && decide (w ≤ 32) && decide (1 ≤ h) && decide (h ≤ 32)
def inB (w h : Int) (p : Po) : Bool := decide (0 ≤ p.x) && decide (p.x < w) && decide (0 ≤ p.y) && decide (p.y < h)
def richB (k : Int) : Bool := k == 4 || k == 5
def celB (c : Cel) : Bool := decide (1 ≤ c.k) && decide (c.k ≤ 5) && decide (0 ≤ c.h) && decide (c.h ≤ 3) && decide (0 ≤ c.a) && decide (c.a ≤ 1000000) && (decide (0 < c.a) == richB c.k)

theorem gvB_iff (w h : Int) : gvB w h = true ↔ 1 ≤ w ∧ w ≤ 32 ∧ 1 ≤ h ∧ h ≤ 32 := by unfold gvB; simp [and_assoc]
theorem inB_iff (w h : Int) (p : Po) : inB w h p = true ↔ 0 ≤ p.x ∧ p.x < w ∧ 0 ≤ p.y ∧ p.y < h := by unfold inB; simp [and_assoc]

theorem gValid_any (a b : Int) : KC 75 #[.int .i64 a, .int .i64 b] (.bool (gvB a b)) := by
  intro w
  by_cases h1 : 1 ≤ a
  · by_cases h2 : a ≤ 32
    · by_cases h3 : 1 ≤ b
      · by_cases h4 : b ≤ 32
        · have e : gvB a b = true := by unfold gvB; simp [h1, h2, h3, h4]
          rw [e]
          go_enter Tryz.func75, Tryz.ntmps75
          go_wp2
          go_ret
          exact ⟨rfl, rfl⟩
        · have e : gvB a b = false := by unfold gvB; simp [h1, h2, h3, h4]
          rw [e]
          go_enter Tryz.func75, Tryz.ntmps75
          go_wp2
          go_ret
          exact ⟨rfl, rfl⟩
      · have e : gvB a b = false := by unfold gvB; simp [h1, h2, h3]
        rw [e]
        go_enter Tryz.func75, Tryz.ntmps75
        go_wp2
        go_ret
        exact ⟨rfl, rfl⟩
    · have e : gvB a b = false := by unfold gvB; simp [h1, h2]
      rw [e]
      go_enter Tryz.func75, Tryz.ntmps75
      go_wp2
      go_ret
      exact ⟨rfl, rfl⟩
  · have e : gvB a b = false := by unfold gvB; simp [h1]
    rw [e]
    go_enter Tryz.func75, Tryz.ntmps75
    go_wp2
    go_ret
    exact ⟨rfl, rfl⟩
theorem r6Valid_any (a b : Int) : KC 79 #[.int .i64 a, .int .i64 b] (.bool (gvB a b)) := by
  intro w
  by_cases h1 : 1 ≤ a
  · by_cases h2 : a ≤ 32
    · by_cases h3 : 1 ≤ b
      · by_cases h4 : b ≤ 32
        · have e : gvB a b = true := by unfold gvB; simp [h1, h2, h3, h4]
          rw [e]
          go_enter Tryz.func79, Tryz.ntmps79
          go_wp2
          go_ret
          exact ⟨rfl, rfl⟩
        · have e : gvB a b = false := by unfold gvB; simp [h1, h2, h3, h4]
          rw [e]
          go_enter Tryz.func79, Tryz.ntmps79
          go_wp2
          go_ret
          exact ⟨rfl, rfl⟩
      · have e : gvB a b = false := by unfold gvB; simp [h1, h2, h3]
        rw [e]
        go_enter Tryz.func79, Tryz.ntmps79
        go_wp2
        go_ret
        exact ⟨rfl, rfl⟩
    · have e : gvB a b = false := by unfold gvB; simp [h1, h2]
      rw [e]
      go_enter Tryz.func79, Tryz.ntmps79
      go_wp2
      go_ret
      exact ⟨rfl, rfl⟩
  · have e : gvB a b = false := by unfold gvB; simp [h1]
    rw [e]
    go_enter Tryz.func79, Tryz.ntmps79
    go_wp2
    go_ret
    exact ⟨rfl, rfl⟩

theorem In_any (a b : Int) (p : Po) (w : World) : KB 87 #[.int .i64 a, .int .i64 b, p.v] (.bool (inB a b p)) w := by
  obtain ⟨x, y⟩ := p
  unfold KB Po.v
  by_cases h1 : 0 ≤ x
  · by_cases h2 : x < a
    · by_cases h3 : 0 ≤ y
      · by_cases h4 : y < b
        · have e : inB a b ⟨x, y⟩ = true := by unfold inB; simp [h1, h2, h3, h4]
          rw [e]
          go_enter Tryz.func87, Tryz.ntmps87
          go_wp2
          go_ret
          exact ⟨rfl, below_new _ _⟩
        · have e : inB a b ⟨x, y⟩ = false := by unfold inB; simp [h1, h2, h3, h4]
          rw [e]
          go_enter Tryz.func87, Tryz.ntmps87
          go_wp2
          go_ret
          exact ⟨rfl, below_new _ _⟩
      · have e : inB a b ⟨x, y⟩ = false := by unfold inB; simp [h1, h2, h3]
        rw [e]
        go_enter Tryz.func87, Tryz.ntmps87
        go_wp2
        go_ret
        exact ⟨rfl, below_new _ _⟩
    · have e : inB a b ⟨x, y⟩ = false := by unfold inB; simp [h1, h2]
      rw [e]
      go_enter Tryz.func87, Tryz.ntmps87
      go_wp2
      go_ret
      exact ⟨rfl, below_new _ _⟩
  · have e : inB a b ⟨x, y⟩ = false := by unfold inB; simp [h1]
    rw [e]
    go_enter Tryz.func87, Tryz.ntmps87
    go_wp2
    go_ret
    exact ⟨rfl, below_new _ _⟩
theorem r6In_any (a b : Int) (p : Po) (w : World) : KB 90 #[.int .i64 a, .int .i64 b, p.v] (.bool (inB a b p)) w := by
  obtain ⟨x, y⟩ := p
  unfold KB Po.v
  by_cases h1 : 0 ≤ x
  · by_cases h2 : x < a
    · by_cases h3 : 0 ≤ y
      · by_cases h4 : y < b
        · have e : inB a b ⟨x, y⟩ = true := by unfold inB; simp [h1, h2, h3, h4]
          rw [e]
          go_enter Tryz.func90, Tryz.ntmps90
          go_wp2
          go_ret
          exact ⟨rfl, below_new _ _⟩
        · have e : inB a b ⟨x, y⟩ = false := by unfold inB; simp [h1, h2, h3, h4]
          rw [e]
          go_enter Tryz.func90, Tryz.ntmps90
          go_wp2
          go_ret
          exact ⟨rfl, below_new _ _⟩
      · have e : inB a b ⟨x, y⟩ = false := by unfold inB; simp [h1, h2, h3]
        rw [e]
        go_enter Tryz.func90, Tryz.ntmps90
        go_wp2
        go_ret
        exact ⟨rfl, below_new _ _⟩
    · have e : inB a b ⟨x, y⟩ = false := by unfold inB; simp [h1, h2]
      rw [e]
      go_enter Tryz.func90, Tryz.ntmps90
      go_wp2
      go_ret
      exact ⟨rfl, below_new _ _⟩
  · have e : inB a b ⟨x, y⟩ = false := by unfold inB; simp [h1]
    rw [e]
    go_enter Tryz.func90, Tryz.ntmps90
    go_wp2
    go_ret
    exact ⟨rfl, below_new _ _⟩

theorem rich_any (k : Int) : KC 25 #[.int .i64 k] (.bool (richB k)) := by
  intro w
  by_cases h1 : k = 4
  · subst h1
    go_enter Tryz.func25, Tryz.ntmps25
    go_wp2
    go_ret
    exact ⟨rfl, rfl⟩
  · go_enter Tryz.func25, Tryz.ntmps25
    go_wp2
    go_ret
    exact ⟨rfl, rfl⟩
theorem rresource_any (c : Cel) (w : World) : KB 29 #[c.v] (.bool (richB c.k)) w := by
  obtain ⟨k, h, a⟩ := c
  unfold KB Cel.v
  by_cases h1 : k = 4
  · subst h1
    go_enter Tryz.func29, Tryz.ntmps29
    go_wp2
    go_ret
    exact ⟨rfl, below_new _ _⟩
  · go_enter Tryz.func29, Tryz.ntmps29
    go_wp2
    go_ret
    exact ⟨rfl, below_new _ _⟩
end Go.Proofs.YtmiceolkmiiahaaGreatDoor
