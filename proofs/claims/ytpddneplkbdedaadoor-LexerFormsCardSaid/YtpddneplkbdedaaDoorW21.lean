/- What Tokenize computes, told by lists. -/
import Derived.Test.YtpddneplkbdedaaDoorW20
namespace Go.Proofs.YtpddneplkbdedaaDoor
open Go.RowKit
set_option linter.unusedVariables false
set_option linter.unusedSimpArgs false

/-- A token: kind, line, text. -/
abbrev Tk := Int × Int × List UInt8
def tkCells (t : Tk) : List Value := [.int .i64 t.1, .int .i64 t.2.1, .string (str t.2.2)]
def cellsT (ts : List Tk) : List Value := ts.flatMap tkCells
theorem cellsT_len (ts : List Tk) : (cellsT ts).length = ts.length * 3 := by
  induction ts with
  | nil => rfl
  | cons t ts ih =>
    have : cellsT (t :: ts) = tkCells t ++ cellsT ts := rfl
    rw [this, List.length_append, ih, List.length_cons]
    have : (tkCells t).length = 3 := rfl
    omega
theorem cellsT_snoc (ts : List Tk) (t : Tk) : cellsT (ts ++ [t]) = cellsT ts ++ tkCells t := by unfold cellsT; simp

theorem nextT_ok (l : List UInt8) (h1 : l ≠ []) (h : (nextT l).2.2.2 = 0) : 1 ≤ (nextT l).2.2.1 ∧ (nextT l).2.2.1 ≤ l.length ∧ (nextT l).2.1.length ≤ l.length := by
  cases l with
  | nil => exact absurd rfl h1
  | cons c r =>
    have hpl := tw_len isPt (c :: r)
    have hpos : isPt c = true → 1 ≤ ((c :: r).takeWhile isPt).length := fun hp => by rw [List.takeWhile_cons, if_pos hp, List.length_cons]; omega
    unfold nextT at h ⊢
    dsimp only at h ⊢
    by_cases h2 : isLc c = true
    · rw [if_pos h2] at h ⊢
      have := hpos (part_lc c h2)
      by_cases h3 : isWord ((c :: r).takeWhile isPt) = true
      · rw [if_pos h3] at h ⊢
        exact ⟨this, hpl, hpl⟩
      · rw [if_neg h3] at h ⊢
        by_cases h4 : 12 < ((c :: r).takeWhile isPt).length
        · rw [if_pos h4] at h; simp at h
        · rw [if_neg h4] at h ⊢
          exact ⟨this, hpl, hpl⟩
    · rw [if_neg h2] at h ⊢
      by_cases h3 : isDg c = true
      · rw [if_pos h3] at h ⊢
        exact ⟨hpos (part_dg c h3), hpl, hpl⟩
      · rw [if_neg h3] at h ⊢
        by_cases h4 : c = 34
        · rw [if_pos h4] at h ⊢
          by_cases h5 : r[(r.takeWhile isPr).length]? = some 34
          · rw [if_pos h5] at h ⊢
            obtain ⟨h6, _⟩ := List.getElem?_eq_some_iff.1 h5
            simp only [List.length_cons]
            omega
          · rw [if_neg h5] at h; simp at h
        · rw [if_neg h4] at h ⊢
          by_cases h5 : firstPre marksL (c :: r) = []
          · rw [if_pos h5] at h; simp at h
          · rw [if_neg h5] at h ⊢
            have h6 : (firstPre marksL (c :: r)).length ≤ (c :: r).length := by
              unfold firstPre at h5 ⊢
              cases hf : marksL.find? (fun m => Lib.hasPrefix (c :: r) m) with
              | none => simp
              | some m =>
                have := List.find?_some hf
                exact (pre_true _ _ this).1
            refine ⟨?_, h6, h6⟩
            rcases Nat.lt_or_ge 0 (firstPre marksL (c :: r)).length with h7 | h7
            · exact h7
            · exact absurd (List.length_eq_zero_iff.1 (by omega)) h5

abbrev TRes := List Tk × Int × Int
def tokF : Nat → Int → List UInt8 → List Tk → TRes
  | 0, _, _, _ => ([], 0, 0)
  | f + 1, line, l, acc =>
    if l.drop (skip false l) = [] then (acc, 0, 0)
    else if (nextT (l.drop (skip false l))).2.2.2 = 0 then
      tokF f (line + (Lib.countByte (l.take (skip false l)) 10 : Int)) ((l.drop (skip false l)).drop (nextT (l.drop (skip false l))).2.2.1)
        (acc ++ [((nextT (l.drop (skip false l))).1, line + (Lib.countByte (l.take (skip false l)) 10 : Int), (nextT (l.drop (skip false l))).2.1)])
    else ([], line + (Lib.countByte (l.take (skip false l)) 10 : Int), (nextT (l.drop (skip false l))).2.2.2)
/-- What Tokenize hands back. -/
def tokL (l : List UInt8) : TRes := if 4096 < l.length then ([], 0, 2) else tokF (l.length + 1) 1 l []

theorem count_le (l : List UInt8) (n : Nat) (c : UInt8) : Lib.countByte (l.take n) c ≤ n := by
  unfold Lib.countByte
  exact Nat.le_trans List.count_le_length (by rw [List.length_take]; omega)

theorem ownsRow_below {w w1 : World} {base e size n : Nat} {v : Value} {xs : List Value} (h : w.ownsRow base e size v n xs) (hb : Below w.heap.size w w1) : w1.ownsRow base e size v n xs := by
  refine ⟨h.1, ?_⟩
  rcases h.2 with h2 | ⟨g, cap, cur, h1, h2, h3, h4⟩
  · exact Or.inl h2
  · refine Or.inr ⟨g, cap, cur, h1, h2, ?_, h4⟩
    have hlt : g < w.heap.size := by
      rcases Nat.lt_or_ge g w.heap.size with h' | h'
      · exact h'
      · rw [Array.getElem?_eq_none h'] at h3; cases h3
    rw [hb.block g hlt]
    exact h3

def szOf : Value → Nat | .string s => s.size | _ => 0
def TokPost (w : World) (R : TRes) (e : Ending) (w' : World) : Prop :=
  ∃ v, e = .returned (.tuple #[v, .int .i64 R.2.1, .int .i64 R.2.2]) ∧ w'.ownsRow w.heap.size 34 3 v R.1.length (cellsT R.1) ∧ Below w.heap.size w w'
end Go.Proofs.YtpddneplkbdedaaDoor
