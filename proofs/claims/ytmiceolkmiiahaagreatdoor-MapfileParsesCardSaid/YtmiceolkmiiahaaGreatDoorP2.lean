/- Plain: what the text of a map says. -/
import Derived.Test.YtmiceolkmiiahaaGreatDoorP1
import Derived.Test.YtmiceolkmiiahaaGreatDoorW18
namespace Go.Proofs.YtmiceolkmiiahaaGreatDoor
open Go.RowKit
set_option linter.unusedVariables false
set_option linter.unusedSimpArgs false

/-- The next line of the pieces, and what follows it; none where the last piece is reached. -/
def nxt : List (List UInt8) → Option (List UInt8 × List (List UInt8))
  | l :: l2 :: L => some (l, l2 :: L)
  | _ => none
theorem nxt_none (s : List UInt8) (h : nxt (sp 10 s) = none) : 10 ∉ s ∧ sp 10 s = [s] := by
  rcases sp_cases 10 s with h1 | ⟨l, r, h1, h2, h3⟩
  · exact h1
  · rw [h3] at h
    cases hr : sp 10 r with
    | nil => exact absurd hr (sp_ne 10 r)
    | cons a b => rw [hr] at h; cases h
theorem nxt_some (s l : List UInt8) (L : List (List UInt8)) (h : nxt (sp 10 s) = some (l, L)) : ∃ r, s = l ++ 10 :: r ∧ 10 ∉ l ∧ sp 10 r = L := by
  rcases sp_cases 10 s with h1 | ⟨l', r, h1, h2, h3⟩
  · rw [h1.2] at h; cases h
  · rw [h3] at h
    cases hr : sp 10 r with
    | nil => exact absurd hr (sp_ne 10 r)
    | cons a b =>
      rw [hr] at h
      injection h with h
      injection h with h4 h5
      exact ⟨r, by rw [← h4]; exact h1, by rw [← h4]; exact h2, by rw [hr, h5]⟩

inductive Res where
  | bad (line : Nat) (e : Int)
  | good (n : List UInt8) (W H : Int) (cs : List Cel) (ps : List Po)

def kindI (c : UInt8) : Int := if c = 46 then 1 else if c = 126 then 2 else if c = 35 then 3 else if c = 84 then 4 else if c = 42 then 5 else 0
def isKind (c : UInt8) : Bool := kindI c != 0
def isHigh (c : UInt8) : Bool := decide (48 ≤ c.toNat) && decide (c.toNat ≤ 51)
def highI (c : UInt8) : Int := (c.toNat : Int) - 48
def kcs (l : List UInt8) : List Cel := l.map fun c => ⟨kindI c, 0, 0⟩
/-- The cells with the heights of a line, from place i on. -/
def hset : List Cel → Nat → List UInt8 → List Cel
  | cs, _, [] => cs
  | cs, i, c :: l => hset (match cs[i]? with | some q => cs.set i ⟨q.k, highI c, q.a⟩ | none => cs) (i + 1) l
def aset (cs : List Cel) (i : Nat) (a : Int) : List Cel := match cs[i]? with | some q => cs.set i ⟨q.k, q.h, a⟩ | none => cs

def wMap : List UInt8 := [109, 97, 112]
def wAmount : List UInt8 := [97, 109, 111, 117, 110, 116]
def wStart : List UInt8 := [115, 116, 97, 114, 116]
def firstP (l : List UInt8) : Option (List UInt8 × Int × Int) :=
  match sp 32 l with
  | [a, b, c, d] => if a = wMap ∧ nameB (str b) = true ∧ (1 ≤ numT c ∧ numT c ≤ 32) ∧ (1 ≤ numT d ∧ numT d ≤ 32) then some (b, numT c, numT d) else none
  | _ => none
def amtP (W : Int) (i : Nat) (l : List UInt8) : Option Int :=
  match sp 32 l with
  | [a, b, c, d] => if a = wAmount ∧ numT b = (i : Int) % W ∧ numT c = (i : Int) / W ∧ 1 ≤ numT d then some (numT d) else none
  | _ => none
def startP (l : List UInt8) : Option Po :=
  match sp 32 l with
  | [a, b, c] => if a = wStart ∧ (0 ≤ numT b ∧ numT b < 32) ∧ (0 ≤ numT c ∧ numT c < 32) then some ⟨numT b, numT c⟩ else none
  | _ => none
section
variable (n : List UInt8) (W H : Int)
def fin (cs : List Cel) (ps : List Po) : Res := if validT (str n) W H cs ps = 0 then .good n W H cs ps else .bad 0 (validT (str n) W H cs ps)
def sStarts (cs : List Cel) : List (List UInt8) → Nat → List Po → Res
  | [], at', ps => .bad (at' + 1) 4
  | [t], at', ps => if t = [] then fin n W H cs ps else .bad (at' + 1) 4
  | l :: l2 :: L, at', ps => match startP l with
    | none => .bad (at' + 1) 5
    | some p => sStarts cs (l2 :: L) (at' + 1) (ps ++ [p])
def sAmts : Nat → Nat → List Cel → List (List UInt8) → Nat → Res
  | 0, _, cs, L, at' => sStarts n W H cs L at' []
  | f + 1, i, cs, L, at' =>
    if richB ((cs[i]?.map Cel.k).getD 0) then
      match nxt L with
      | none => .bad (at' + 1) 4
      | some (l, L') => match amtP W i l with
        | none => .bad (at' + 1) 5
        | some a => sAmts f (i + 1) (aset cs i a) L' (at' + 1)
    else sAmts f (i + 1) cs L at'
def sHigh : Nat → Nat → List Cel → List (List UInt8) → Nat → Res
  | 0, _, cs, L, at' => sAmts n W H cs.length 0 cs L at'
  | f + 1, y, cs, L, at' => match nxt L with
    | none => .bad (at' + 1) 4
    | some (l, L') => if (l.length : Int) = W ∧ l.all isHigh = true then sHigh f (y + 1) (hset cs (y * W.toNat) l) L' (at' + 1) else .bad (at' + 1) 5
def sKinds : Nat → List Cel → List (List UInt8) → Nat → Res
  | 0, cs, L, at' => sHigh n W H H.toNat 0 cs L at'
  | f + 1, cs, L, at' => match nxt L with
    | none => .bad (at' + 1) 4
    | some (l, L') => if (l.length : Int) = W ∧ l.all isKind = true then sKinds f (cs ++ kcs l) L' (at' + 1) else .bad (at' + 1) 5
end
def parseS (s : List UInt8) : Res :=
  if 32768 < s.length then .bad 0 2 else
  match nxt (sp 10 s) with
  | none => .bad 1 4
  | some (l, L) => match firstP l with
    | none => .bad 1 5
    | some (n, W, H) => sKinds n W H H.toNat [] L 1
end Go.Proofs.YtmiceolkmiiahaaGreatDoor
