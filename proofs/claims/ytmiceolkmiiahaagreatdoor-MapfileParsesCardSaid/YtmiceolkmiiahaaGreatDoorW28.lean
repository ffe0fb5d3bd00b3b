/- Walks: a line of characters, whatever the reader's state; what a row of cells keeps. -/
import Derived.Test.YtmiceolkmiiahaaGreatDoorW27
import Derived.Deep.AppendLies
namespace Go.Proofs.YtmiceolkmiiahaaGreatDoor
open Go.RowKit
set_option linter.unusedVariables false
set_option linter.unusedSimpArgs false
set_option maxRecDepth 100000
set_option maxHeartbeats 8000000

/-- One line of characters is read, then f goes on. -/
def lineS (P : UInt8 → Bool) (W : Int) (f : List UInt8 → List (List UInt8) → Nat → Res) (L : List (List UInt8)) (a : Nat) : Res :=
  match nxt L with
  | none => .bad (a + 1) 4
  | some (l, L') => if (l.length : Int) = W ∧ l.all P = true then f l L' (a + 1) else .bad (a + 1) 5
theorem sKinds_step (n : List UInt8) (W H : Int) (f : Nat) (cs : List Cel) (L : List (List UInt8)) (a : Nat) : sKinds n W H (f + 1) cs L a = lineS isKind W (fun l L' a' => sKinds n W H f (cs ++ kcs l) L' a') L a := rfl
theorem sHigh_step (n : List UInt8) (W H : Int) (f y : Nat) (cs : List Cel) (L : List (List UInt8)) (a : Nat) : sHigh n W H (f + 1) y cs L a = lineS isHigh W (fun l L' a' => sHigh n W H f (y + 1) (hset cs (y * W.toNat) l) L' a') L a := rfl

theorem ownsRow_fr {w w1 : World} {g h base e size n : Nat} {v : Value} {xs : List Value} (o : w.ownsRow base e size v n xs) (x : Fr g h w w1) (hg : g < base) (hh : h < base) : w1.ownsRow base e size v n xs := by
  refine ⟨o.1, ?_⟩
  rcases o.2 with h2 | ⟨g', cap, cur, h1, h2, h3, h4⟩
  · exact Or.inl h2
  · exact Or.inr ⟨g', cap, cur, h1, h2, x.at (by omega) (by omega) h3, h4⟩
theorem Fr.grown {g h : Nat} {a b c : World} {row : Option Nat} (x : Fr g h a b) (y : b.grownBy c row) (hr : ∀ k, row = some k → a.heap.size ≤ k) : Fr g h a c :=
  ⟨y.os.trans x.os, y.tape.trans x.tape, y.output.trans x.output, Nat.le_trans x.size y.size, fun k hk h1 h2 => (y.block k (Nat.lt_of_lt_of_le hk x.size) (fun e => by have := hr k e.symm; omega)).trans (x.block k hk h1 h2)⟩
theorem cells_at {cs : List Cel} {k : Nat} (h : k < cs.length) (j : Nat) (hj : j < 3) : (cellsOf Cel.l cs)[k * 3 + j]? = (Cel.l cs[k])[j]? := cellsOf_get (C := 3) Cel.l_len cs k h j hj
theorem cells_set (cs : List Cel) (k : Nat) (q : Cel) (h : cs[k]? = some q) (j : Nat) (hj : j < 3) (v : Value) (q' : Cel) (hq : Cel.l q' = (Cel.l q).set j v) : (cellsOf Cel.l cs).set (k * 3 + j) v = cellsOf Cel.l (cs.set k q') := by
  induction cs generalizing k with
  | nil => simp at h
  | cons c cs ih =>
    have e : cellsOf Cel.l (c :: cs) = Cel.l c ++ cellsOf Cel.l cs := rfl
    cases k with
    | zero =>
      simp at h
      subst h
      rw [e, List.set_cons_zero]
      show _ = Cel.l q' ++ cellsOf Cel.l cs
      rw [hq, List.set_append_left _ _ (by rw [Cel.l_len]; omega), Nat.zero_mul, Nat.zero_add]
    | succ k =>
      rw [e, List.set_cons_succ]
      show _ = Cel.l c ++ cellsOf Cel.l (cs.set k q')
      rw [List.set_append_right _ _ (by rw [Cel.l_len]; omega), Cel.l_len, show (k + 1) * 3 + j - 3 = k * 3 + j by omega, ih k (by simpa using h)]

theorem line_cells1 (g kb kr : Nat) (W : Int) (hW : 1 ≤ W) (R : List UInt8) (a : Nat) (e : Int) (hR : e = 0 → a + R.length ≤ 50000) (f : List UInt8 → List (List UInt8) → Nat → Res) (r : Res) (w : World) (ho : Own w g g) (hr : w.heap[g]? = some (rdO R a e)) (hk1 : w.cell? ⟨kb, 0, none⟩ = some (.map (some kr))) (hk2 : w.heap[kr]? = some (.map kindEs 5)) (hkg : kb ≠ g ∧ kr ≠ g)
    (h0 : e = 0 → lineS isKind W f (sp 10 R) a = r) (h1 : e ≠ 0 → r = .bad a e) :
    ∃ s a1 E, s.length ≤ 50000 ∧ (E = 0 → e = 0 ∧ (s.length : Int) = W ∧ s.all isKind = true) ∧ (E ≠ 0 → r = .bad a1 E) ∧
    Calls Tryz.prog 68 #[rdP g, .int .i64 W, .func (.func 69) #[] #[.pointer (some ⟨kb, 0, none⟩)]] w fun en w' => en = .returned (.string (str s)) ∧ (∃ R1, (E = 0 → a1 + R1.length ≤ 50000 ∧ f s (sp 10 R1) a1 = r) ∧ w'.heap[g]? = some (rdO R1 a1 E)) ∧ Fr g g w w' := by
  by_cases he : e = 0
  · subst he
    replace h0 := h0 rfl
    replace hR := hR rfl
    cases hx : nxt (sp 10 R) with
    | none =>
      unfold lineS at h0
      rw [hx] at h0
      have hE : charsE isKind W 4 [] = 4 := by unfold charsE; rw [if_pos (by decide)]
      have hc := chars_cells1 g kb kr W [] (fun _ => True) (a + 1) 4 (by simp) w hk1 hk2 hkg ((next_end g R a (by omega) (by omega) hx w ho hr).mono fun en w' ⟨x1, x2, x3⟩ => ⟨x1, ⟨R, trivial, x2⟩, x3⟩)
      rw [hE] at hc
      exact ⟨[], a + 1, 4, by simp, fun h => absurd h (by decide), fun _ => h0.symm, hc.mono fun en w' ⟨x1, ⟨R1, _, x2⟩, x3⟩ => ⟨x1, ⟨R1, fun h => absurd h (by decide), x2⟩, x3⟩⟩
    | some p =>
      obtain ⟨l, L⟩ := p
      unfold lineS at h0
      rw [hx] at h0
      replace h0 : (if (l.length : Int) = W ∧ l.all isKind = true then f l L (a + 1) else .bad (a + 1) 5) = r := h0
      obtain ⟨r', h2, _, _⟩ := nxt_some R l L hx
      have hll : l.length ≤ R.length := by rw [h2]; simp
      have hc := chars_cells1 g kb kr W l (fun R1 => R1.length < R.length ∧ sp 10 R1 = L) (a + 1) 0 (by omega) w hk1 hk2 hkg ((next_ok g R l L a (by omega) (by omega) hx w ho hr).mono fun en w' ⟨x1, ⟨R', y1, y2, x2⟩, x3⟩ => ⟨x1, ⟨R', ⟨y1, y2⟩, x2⟩, x3⟩)
      by_cases hok : (l.length : Int) = W ∧ l.all isKind = true
      · have hE : charsE isKind W 0 l = 0 := by unfold charsE; rw [if_neg (by simp), if_pos hok]
        rw [hE] at hc
        rw [if_pos hok] at h0
        exact ⟨l, a + 1, 0, by omega, fun _ => ⟨rfl, hok⟩, fun h => absurd rfl h, hc.mono fun en w' ⟨x1, ⟨R1, ⟨y1, y2⟩, x2⟩, x3⟩ => ⟨x1, ⟨R1, fun _ => ⟨by omega, by rw [y2]; exact h0⟩, x2⟩, x3⟩⟩
      · have hE : charsE isKind W 0 l = 5 := by unfold charsE; rw [if_neg (by simp), if_neg hok]
        rw [hE] at hc
        rw [if_neg hok] at h0
        exact ⟨l, a + 1, 5, by omega, fun h => absurd h (by decide), fun _ => h0.symm, hc.mono fun en w' ⟨x1, ⟨R1, _, x2⟩, x3⟩ => ⟨x1, ⟨R1, fun h => absurd h (by decide), x2⟩, x3⟩⟩
  · have hE : charsE isKind W e [] = e := by unfold charsE; rw [if_pos he]
    have hc := chars_cells1 g kb kr W [] (fun _ => True) a e (by simp) w hk1 hk2 hkg ((next_bad g R a e he w hr).mono fun en w' ⟨x1, x2, x3⟩ => ⟨x1, ⟨R, trivial, x2⟩, x3⟩)
    rw [hE] at hc
    exact ⟨[], a, e, by simp, fun h => absurd h he, h1, hc.mono fun en w' ⟨x1, ⟨R1, _, x2⟩, x3⟩ => ⟨x1, ⟨R1, fun h => absurd h he, x2⟩, x3⟩⟩

theorem line_cells2 (g : Nat) (W : Int) (hW : 1 ≤ W) (R : List UInt8) (a : Nat) (e : Int) (hR : e = 0 → a + R.length ≤ 50000) (f : List UInt8 → List (List UInt8) → Nat → Res) (r : Res) (w : World) (ho : Own w g g) (hr : w.heap[g]? = some (rdO R a e)) 
    (h0 : e = 0 → lineS isHigh W f (sp 10 R) a = r) (h1 : e ≠ 0 → r = .bad a e) :
    ∃ s a1 E, s.length ≤ 50000 ∧ (E = 0 → e = 0 ∧ (s.length : Int) = W ∧ s.all isHigh = true) ∧ (E ≠ 0 → r = .bad a1 E) ∧
    Calls Tryz.prog 68 #[rdP g, .int .i64 W, .func (.func 70) #[] #[]] w fun en w' => en = .returned (.string (str s)) ∧ (∃ R1, (E = 0 → a1 + R1.length ≤ 50000 ∧ f s (sp 10 R1) a1 = r) ∧ w'.heap[g]? = some (rdO R1 a1 E)) ∧ Fr g g w w' := by
  by_cases he : e = 0
  · subst he
    replace h0 := h0 rfl
    replace hR := hR rfl
    cases hx : nxt (sp 10 R) with
    | none =>
      unfold lineS at h0
      rw [hx] at h0
      have hE : charsE isHigh W 4 [] = 4 := by unfold charsE; rw [if_pos (by decide)]
      have hc := chars_cells2 g W [] (fun _ => True) (a + 1) 4 (by simp) w ((next_end g R a (by omega) (by omega) hx w ho hr).mono fun en w' ⟨x1, x2, x3⟩ => ⟨x1, ⟨R, trivial, x2⟩, x3⟩)
      rw [hE] at hc
      exact ⟨[], a + 1, 4, by simp, fun h => absurd h (by decide), fun _ => h0.symm, hc.mono fun en w' ⟨x1, ⟨R1, _, x2⟩, x3⟩ => ⟨x1, ⟨R1, fun h => absurd h (by decide), x2⟩, x3⟩⟩
    | some p =>
      obtain ⟨l, L⟩ := p
      unfold lineS at h0
      rw [hx] at h0
      replace h0 : (if (l.length : Int) = W ∧ l.all isHigh = true then f l L (a + 1) else .bad (a + 1) 5) = r := h0
      obtain ⟨r', h2, _, _⟩ := nxt_some R l L hx
      have hll : l.length ≤ R.length := by rw [h2]; simp
      have hc := chars_cells2 g W l (fun R1 => R1.length < R.length ∧ sp 10 R1 = L) (a + 1) 0 (by omega) w ((next_ok g R l L a (by omega) (by omega) hx w ho hr).mono fun en w' ⟨x1, ⟨R', y1, y2, x2⟩, x3⟩ => ⟨x1, ⟨R', ⟨y1, y2⟩, x2⟩, x3⟩)
      by_cases hok : (l.length : Int) = W ∧ l.all isHigh = true
      · have hE : charsE isHigh W 0 l = 0 := by unfold charsE; rw [if_neg (by simp), if_pos hok]
        rw [hE] at hc
        rw [if_pos hok] at h0
        exact ⟨l, a + 1, 0, by omega, fun _ => ⟨rfl, hok⟩, fun h => absurd rfl h, hc.mono fun en w' ⟨x1, ⟨R1, ⟨y1, y2⟩, x2⟩, x3⟩ => ⟨x1, ⟨R1, fun _ => ⟨by omega, by rw [y2]; exact h0⟩, x2⟩, x3⟩⟩
      · have hE : charsE isHigh W 0 l = 5 := by unfold charsE; rw [if_neg (by simp), if_neg hok]
        rw [hE] at hc
        rw [if_neg hok] at h0
        exact ⟨l, a + 1, 5, by omega, fun h => absurd h (by decide), fun _ => h0.symm, hc.mono fun en w' ⟨x1, ⟨R1, _, x2⟩, x3⟩ => ⟨x1, ⟨R1, fun h => absurd h (by decide), x2⟩, x3⟩⟩
  · have hE : charsE isHigh W e [] = e := by unfold charsE; rw [if_pos he]
    have hc := chars_cells2 g W [] (fun _ => True) a e (by simp) w ((next_bad g R a e he w hr).mono fun en w' ⟨x1, x2, x3⟩ => ⟨x1, ⟨R, trivial, x2⟩, x3⟩)
    rw [hE] at hc
    exact ⟨[], a, e, by simp, fun h => absurd h he, h1, hc.mono fun en w' ⟨x1, ⟨R1, _, x2⟩, x3⟩ => ⟨x1, ⟨R1, fun h => absurd h he, x2⟩, x3⟩⟩

theorem number_any (g : Nat) (R : List UInt8) (a : Nat) (e : Int) (s : List UInt8) (hs : s.length ≤ 100000) (lo hi : Int) (h0 : 0 ≤ lo) (h1 : hi ≤ 1000000) (w : World) (ho : Own w g g) (hr : w.heap[g]? = some (rdO R a e)) :
    Calls Tryz.prog 39 #[rdP g, .string (str s), .int .i64 lo, .int .i64 hi] w fun en w' => (∃ v, en = .returned (.int .i64 v) ∧ (numOk s lo hi → v = numT s)) ∧ (∃ e', w'.heap[g]? = some (rdO R a e') ∧ (numOk s lo hi → e' = e) ∧ (¬ numOk s lo hi → e' = if e = 0 then 5 else e)) ∧ Fr g g w w' := by
  by_cases h : numOk s lo hi
  · refine (number_ok g s lo hi h0 h1 h w ho.ctx).mono ?_
    rintro en w' ⟨h2, h3⟩
    exact ⟨⟨_, h2, fun _ => rfl⟩, ⟨e, block_below h3 hr, fun _ => rfl, fun hh => absurd h hh⟩, Fr.of h3 (Nat.le_refl _)⟩
  · refine (number_bad g R a e s hs lo hi h0 h1 h w ho hr).mono ?_
    rintro en w' ⟨⟨v, h2⟩, h3, h4⟩
    exact ⟨⟨v, h2, fun hh => absurd hh h⟩, ⟨_, h3, fun hh => absurd hh h, fun _ => rfl⟩, h4⟩
end Go.Proofs.YtmiceolkmiiahaaGreatDoor
