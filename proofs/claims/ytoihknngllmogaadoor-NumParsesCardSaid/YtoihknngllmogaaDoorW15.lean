/- Walks: Parse of the num package. -/
import Derived.Test.YtoihknngllmogaaDoorW14
namespace Go.Proofs.YtoihknngllmogaaDoor
open Go.RowKit
set_option linter.unusedVariables false
set_option linter.unusedSimpArgs false

/-- What the laid variables hold, as far as the walks ask for it. -/
def Ctx (w : World) : Prop :=
  Lib.TabIs Tryd.prog w "internal/strconv.uint64pow10" .u64 Lib.pow10Tab ∧ (∃ m, w.cell? ⟨1, 0, none⟩ = some (.int .i64 m)) ∧
  (∃ tp p, w.var? Tryd.prog "strconv.ErrRange" = some #[.iface tp p])

theorem cell_below {w w' : World} {n : Nat} {v : Value} (hb : Below w.heap.size w w') (h : w.cell? ⟨n, 0, none⟩ = some v) : w'.cell? ⟨n, 0, none⟩ = some v := by
  have hlt : n < w.heap.size := by
    rcases Nat.lt_or_ge n w.heap.size with h' | h'
    · exact h'
    · unfold World.cell? at h
      rw [Array.getElem?_eq_none h'] at h; simp at h
  unfold World.cell? at *
  rw [hb.block n hlt]
  exact h

theorem var_below {w w' : World} {name : String} {v : Array Value} (hb : Below w.heap.size w w') (h : w.var? Tryd.prog name = some v) : w'.var? Tryd.prog name = some v := by
  unfold World.var? at *
  cases hg : Tryd.prog.globalNamed name with
  | none => simp [hg] at h
  | some g =>
    simp only [hg, Option.bind_some] at h ⊢
    have hlt : g < w.heap.size := by
      rcases Nat.lt_or_ge g w.heap.size with h' | h'
      · exact h'
      · rw [Array.getElem?_eq_none h'] at h; simp at h
    rw [hb.block g hlt]
    exact h

theorem Ctx.below {w w' : World} (h : Ctx w) (hb : Below w.heap.size w w') : Ctx w' := by
  obtain ⟨h1, ⟨m, h2⟩, tp, p, h3⟩ := h
  exact ⟨tab_below hb h1, ⟨m, cell_below hb h2⟩, tp, p, var_below hb h3⟩

def C33 (s R : ByteArray) (N : Bool) : Prop := ∀ W, Calls Tryd.prog 33 #[.string s, .string ⟨#[45]⟩] W fun e w' => e = .returned (.tuple #[.string R, .bool N]) ∧ w' = W
def C34 (R A B : ByteArray) (D : Bool) : Prop := ∀ W, Ctx W → Calls Tryd.prog 34 #[.string R, .string ⟨#[46]⟩] W fun e w' => e = .returned (.tuple #[.string A, .string B, .bool D]) ∧ Below W.heap.size W w'
def C35 (A : ByteArray) (G : Bool) : Prop := ∀ W, Calls Tryd.prog 35 #[.string A] W fun e w' => e = .returned (.bool G) ∧ W = w'
def C36 (B : ByteArray) (F : Int) (O : Bool) : Prop := ∀ W, Calls Tryd.prog 36 #[.string B] W fun e w' => e = .returned (.tuple #[.int .u64 F, .bool O]) ∧ W = w'
def C37 (A : ByteArray) (V : Int) : Prop := ∀ W, Ctx W → Calls Tryd.prog 37 #[.string A, .int .i64 10, .int .i64 64] W fun e w' => e = .returned (.tuple #[.int .u64 V, .nilIface]) ∧ Below W.heap.size W w'
def C37r (A : ByteArray) : Prop := ∀ W, Ctx W → Calls Tryd.prog 37 #[.string A, .int .i64 10, .int .i64 64] W fun e w' => ∃ N, e = .returned (.tuple #[.int .u64 18446744073709551615, .iface 89 (.pointer (some ⟨N, 0, none⟩))]) ∧ Below W.heap.size W w'

def PRet (w : World) (v k : Int) (e : Ending) (w' : World) : Prop := e = .returned (.tuple #[.int .i64 v, .int .i64 k]) ∧ Below w.heap.size w w'

theorem p_bad1 (s R A B : ByteArray) (N D : Bool) (h1 : C33 s R N) (h2 : C34 R A B D) (h3 : C35 A false) (w : World) (hc : Ctx w) :
    Calls Tryd.prog 23 #[.string s] w (PRet w 0 5) := by
  have hC := Lib.hid hc
  clear hc
  have H1 := Lib.hid h1; have H2 := Lib.hid h2; have H3 := Lib.hid h3
  clear h1 h2 h3
  go_enter Tryd.func23, Tryd.ntmps23
  go_wp2_with fail
  refine (H1.out _).mono ?_
  rintro e w1 ⟨rfl, rfl⟩
  go_wp2_with fail
  refine (H2.out _ hC.out).mono ?_
  rintro e w2 ⟨rfl, hb⟩
  go_wp2_with fail
  refine (H3.out _).mono ?_
  rintro e w3 ⟨rfl, rfl⟩
  go_wp2_with fail
  go_ret2
  exact ⟨rfl, hb⟩

theorem p_bad2 (s R A B : ByteArray) (N D : Bool) (h1 : C33 s R N) (h2 : C34 R A B D) (h3 : C35 A true) (hs : 1 < A.size) (hz : ((A[0].toNat : Int) == 48) = true) (w : World) (hc : Ctx w) :
    Calls Tryd.prog 23 #[.string s] w (PRet w 0 5) := by
  have hC := Lib.hid hc
  clear hc
  have H1 := Lib.hid h1; have H2 := Lib.hid h2; have H3 := Lib.hid h3
  clear h1 h2 h3
  go_enter Tryd.func23, Tryd.ntmps23
  go_wp2_with fail
  refine (H1.out _).mono ?_
  rintro e w1 ⟨rfl, rfl⟩
  go_wp2_with fail
  refine (H2.out _ hC.out).mono ?_
  rintro e w2 ⟨rfl, hb⟩
  go_wp2_with fail
  refine (H3.out _).mono ?_
  rintro e w3 ⟨rfl, rfl⟩
  go_wp2_with fail
  go_ret2
  exact ⟨rfl, hb⟩

/-- No zero ahead of other digits. -/
def NoZero (A : ByteArray) : Prop := ¬ 1 < A.size ∨ ∃ h : 1 < A.size, ((A[0].toNat : Int) == 48) = false

theorem p_bad3 (s R A B : ByteArray) (N : Bool) (F : Int) (h1 : C33 s R N) (h2 : C34 R A B true) (h3 : C35 A true) (hs : NoZero A) (h4 : C36 B F false) (w : World) (hc : Ctx w) :
    Calls Tryd.prog 23 #[.string s] w (PRet w 0 5) := by
  have hC := Lib.hid hc
  clear hc
  have H1 := Lib.hid h1; have H2 := Lib.hid h2; have H3 := Lib.hid h3; have H4 := Lib.hid h4
  clear h1 h2 h3 h4
  rcases hs with hs | ⟨hs, hz⟩
  all_goals
    go_enter Tryd.func23, Tryd.ntmps23
    go_wp2_with fail
    refine (H1.out _).mono ?_
    rintro e w1 ⟨rfl, rfl⟩
    go_wp2_with fail
    refine (H2.out _ hC.out).mono ?_
    rintro e w2 ⟨rfl, hb⟩
    go_wp2_with fail
    refine (H3.out _).mono ?_
    rintro e w3 ⟨rfl, rfl⟩
    go_wp2_with fail
    refine (H4.out _).mono ?_
    rintro e w3 ⟨rfl, rfl⟩
    go_wp2_with fail
    go_ret2
    exact ⟨rfl, hb⟩

theorem p_bad4 (s R B : ByteArray) (D : Bool) (h1 : C33 s R true) (h2 : C34 R ⟨#[48]⟩ B D) (h3 : C35 ⟨#[48]⟩ true) (h4 : C36 B 0 true) (w : World) (hc : Ctx w) :
    Calls Tryd.prog 23 #[.string s] w (PRet w 0 5) := by
  have hC := Lib.hid hc
  clear hc
  have H1 := Lib.hid h1; have H2 := Lib.hid h2; have H3 := Lib.hid h3; have H4 := Lib.hid h4
  clear h1 h2 h3 h4
  cases D
  · go_enter Tryd.func23, Tryd.ntmps23
    go_wp2_with fail
    refine (H1.out _).mono ?_
    rintro e w1 ⟨rfl, rfl⟩
    go_wp2_with fail
    refine (H2.out _ hC.out).mono ?_
    rintro e w2 ⟨rfl, hb⟩
    go_wp2_with fail
    refine (H3.out _).mono ?_
    rintro e w3 ⟨rfl, rfl⟩
    go_wp2_with fail
    go_ret2
    exact ⟨rfl, hb⟩
  · go_enter Tryd.func23, Tryd.ntmps23
    go_wp2_with fail
    refine (H1.out _).mono ?_
    rintro e w1 ⟨rfl, rfl⟩
    go_wp2_with fail
    refine (H2.out _ hC.out).mono ?_
    rintro e w2 ⟨rfl, hb⟩
    go_wp2_with fail
    refine (H3.out _).mono ?_
    rintro e w3 ⟨rfl, rfl⟩
    go_wp2_with fail
    refine (H4.out _).mono ?_
    rintro e w3 ⟨rfl, rfl⟩
    go_wp2_with fail
    go_ret2
    exact ⟨rfl, hb⟩
end Go.Proofs.YtoihknngllmogaaDoor
