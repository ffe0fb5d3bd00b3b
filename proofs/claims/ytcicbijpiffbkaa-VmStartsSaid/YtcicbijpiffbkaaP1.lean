/- Plain: what code is valid; no program in sight. -/
import Derived.Test.YtcicbijpiffbkaaKit
namespace Go.Proofs.Ytcicbijpiffbkaa
open Go.RowKit
set_option linter.unusedVariables false
set_option linter.unusedSimpArgs false

structure Ent where
  n : List UInt8
  at' : Int
  sl : Int
deriving DecidableEq
structure Ins where
  op : Int
  a : Int
  n : Int
  s : List UInt8
deriving DecidableEq
def Ent.l (e : Ent) : List Value := [.string (str e.n), .int .i64 e.at', .int .i64 e.sl]
def Ins.l (x : Ins) : List Value := [.int .i64 x.op, .int .i64 x.a, .int .i64 x.n, .string (str x.s)]
def Ent.v (e : Ent) : Value := .agg #[.string (str e.n), .int .i64 e.at', .int .i64 e.sl]
def Ins.v (x : Ins) : Value := .agg #[.int .i64 x.op, .int .i64 x.a, .int .i64 x.n, .string (str x.s)]
theorem Ent.l_len (e : Ent) : e.l.length = 3 := rfl
theorem Ins.l_len (x : Ins) : x.l.length = 4 := rfl

def nmI (f : Bool) (c : Int) : Bool := (decide (97 ≤ c) && decide (c ≤ 122)) || (!f && ((decide (48 ≤ c) && decide (c ≤ 57)) || c == 95))
def nameB (s : ByteArray) : Bool := decide (∀ k (h : k < s.size), nmI (k == 0) (s[k].toNat : Int) = true) && (decide (1 ≤ s.size) && decide (s.size ≤ 12))

/-- The numbers, the text and whether it is a query, of a function. -/
def arN (f : Int) : Int := if f = 1 ∨ f = 2 ∨ f = 3 ∨ f = 4 ∨ f = 11 then 0 else if f = 5 ∨ f = 6 ∨ f = 7 ∨ f = 8 ∨ f = 9 ∨ f = 10 ∨ f = 25 ∨ f = 26 ∨ f = 27 then 1 else if f = 22 then 2 else if f = 21 ∨ f = 23 ∨ f = 24 then 3 else -1
def arT (f : Int) : Bool := decide (f = 4 ∨ f = 11 ∨ f = 5 ∨ f = 24 ∨ f = 25 ∨ f = 26)
def arQ (f : Int) : Bool := decide (1 ≤ f) && decide (f ≤ 11)
def arD (f : Int) : Bool := decide (21 ≤ f) && decide (f ≤ 27)

def entB (es : List Ent) (s : List UInt8) : Bool := es.any fun e => e.n == s
/-- The forms of an instruction in the segment from f up to t. -/
def formB (es : List Ent) (slots f t : Int) (x : Ins) : Bool :=
  if x.op = 1 then x.a == 0 && x.s == []
  else if x.op = 2 ∨ x.op = 3 then decide (0 ≤ x.a) && decide (x.a < slots) && x.n == 0 && x.s == []
  else if x.op = 4 then decide (3 ≤ x.a) && decide (x.a ≤ 17) && x.n == 0 && x.s == []
  else if x.op = 5 ∨ x.op = 6 then decide (f ≤ x.a) && decide (x.a < t) && x.n == 0 && x.s == []
  else if x.op = 7 then arQ x.a && x.n == 0 && ((arT x.a && nameB (str x.s)) || (!arT x.a && x.s == []))
  else if x.op = 8 then arD x.a && x.n == 0 && ((arT x.a && nameB (str x.s)) || (!arT x.a && x.s == []))
  else if x.op = 9 ∨ x.op = 11 then x.a == 0 && x.n == 0 && x.s == []
  else if x.op = 10 then x.a == 0 && x.n == 0 && entB es x.s
  else false
def takeN (x : Ins) : Int := if x.op = 3 ∨ x.op = 6 ∨ x.op = 9 then 1 else if x.op = 4 then (if x.a = 8 ∨ x.a = 17 then 1 else 2) else if x.op = 7 ∨ x.op = 8 then arN x.a else 0
def putN (x : Ins) : Int := if x.op = 1 ∨ x.op = 2 ∨ x.op = 4 ∨ x.op = 7 then 1 else 0
def delta (x : Ins) : Int := putN x - takeN x
/-- The depth behind a list of instructions. -/
def sumD : List Ins → Int
  | [] => 0
  | x :: l => delta x + sumD l
theorem sumD_append (a b : List Ins) : sumD (a ++ b) = sumD a + sumD b := by
  induction a with
  | nil => simp [sumD]
  | cons x a ih => simp only [List.cons_append, sumD, ih]; omega
theorem sumD_take {l : List Ins} {k : Nat} (h : k < l.length) : sumD (l.take (k + 1)) = sumD (l.take k) + delta l[k] := by
  rw [List.take_succ_eq_append_getElem h, sumD_append]
  simp [sumD]
def stmB (op : Int) : Bool := !(op == 1 || op == 2 || op == 4 || op == 7)
def jmpB (op : Int) : Bool := op == 5 || op == 6
/-- A step at a depth. -/
def stepB (d : Int) (x : Ins) : Bool := decide (takeN x ≤ d) && decide (d + delta x ≤ 32) && (!stmB x.op || d + delta x == 0)
def segL (is : List Ins) (f t : Nat) : List Ins := (is.drop f).take (t - f)
/-- A segment is as it must be. -/
def segB (es : List Ent) (is : List Ins) (slots : Int) (f t : Nat) : Bool :=
  decide (∀ k (h : k < (segL is f t).length), formB es slots f t (segL is f t)[k] = true ∧ stepB (sumD ((segL is f t).take k)) (segL is f t)[k] = true ∧ (jmpB (segL is f t)[k].op = true → sumD ((segL is f t).take ((segL is f t)[k].a - f).toNat) = 0)) &&
  ((is[t - 1]?.map Ins.op) == some 11)
/-- Where the segment of entry i ends. -/
def toI (es : List Ent) (m : Nat) (i : Nat) : Int := if h : i + 1 < es.length then es[i + 1].at' else (m : Int)
/-- An entry's numbers. -/
def numB (es : List Ent) (m : Nat) (i : Nat) (h : i < es.length) : Bool :=
  (decide (i ≠ 0) || es[i].at' == 0) && decide (0 ≤ es[i].at') && decide (es[i].at' < toI es m i) && decide (toI es m i ≤ m) && decide (0 ≤ es[i].sl) && decide (es[i].sl ≤ 32)
def allB (es : List Ent) (is : List Ins) : Bool :=
  decide (∀ i (h : i < es.length), numB es is.length i h = true ∧ segB es is es[i].sl es[i].at'.toNat (toI es is.length i).toNat = true)
def dupB (es : List Ent) : Bool := decide (∃ i, ∃ (h : i < es.length), ∃ k, ∃ (h2 : k < i), es[k].n = es[i].n)
def codeE (es : List Ent) (is : List Ins) : Int :=
  if es.length < 1 ∨ 8 < es.length ∨ is.length < 1 ∨ 2048 < is.length then 2
  else if es.all (fun e => nameB (str e.n)) = false then 6
  else if dupB es = true then 7
  else if allB es is = true then 0 else 20
end Go.Proofs.Ytcicbijpiffbkaa
