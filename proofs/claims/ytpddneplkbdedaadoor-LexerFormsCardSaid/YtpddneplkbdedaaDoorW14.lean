/- Walks: next of the lexer, a way each. -/
import Derived.Test.YtpddneplkbdedaaDoorW13
namespace Go.Proofs.YtpddneplkbdedaaDoor
open Go.RowKit
set_option linter.unusedVariables false
set_option linter.unusedSimpArgs false

/-- A token as a value. -/
def tokV (k : Int) (l : Int) (t : ByteArray) : Value := .agg #[.int .i64 k, .int .i64 l, .string t]
def KB (f : Nat) (xs : Array Value) (v : Value) (w : World) : Prop := Calls Tryd.prog f xs w fun e w' => e = .returned v ∧ Below w.heap.size w w'
abbrev tok0 : Obj := Obj.cells #[Value.int IntKind.i64 0, Value.int IntKind.i64 0, Value.string { data := #[] }] 34

theorem tok_size (w : World) (o : Obj) : (w.alloc o).heap.size = w.heap.size + 1 := World.size_alloc w o
theorem tok_kept {w w1 : World} (hb : Below (w.alloc tok0).heap.size (w.alloc tok0) w1) :
    (w1.cell? ⟨w.heap.size, 0, none⟩ = some (.int .i64 0) ∧ w1.cell? ⟨w.heap.size, 1, none⟩ = some (.int .i64 0) ∧ w1.cell? ⟨w.heap.size, 2, none⟩ = some (.string { data := #[] })) ∧
    (w1.frozen? ⟨w.heap.size, 0, none⟩ = false ∧ w1.frozen? ⟨w.heap.size, 1, none⟩ = false ∧ w1.frozen? ⟨w.heap.size, 2, none⟩ = false) ∧ w.heap.size < w1.heap.size := by
  have hz := tok_size w tok0
  have hn : (w.alloc tok0).heap[w.heap.size]? = some tok0 := heap_alloc_new w _
  refine ⟨⟨?_, ?_, ?_⟩, ⟨?_, ?_, ?_⟩, ?_⟩
  · rw [hb.cell (p := ⟨w.heap.size, 0, none⟩) (by show w.heap.size < _; omega), Lib.cell_of_heap hn]; rfl
  · rw [hb.cell (p := ⟨w.heap.size, 1, none⟩) (by show w.heap.size < _; omega), Lib.cell_of_heap hn]; rfl
  · rw [hb.cell (p := ⟨w.heap.size, 2, none⟩) (by show w.heap.size < _; omega), Lib.cell_of_heap hn]; rfl
  · rw [hb.frozen (p := ⟨w.heap.size, 0, none⟩) (by show w.heap.size < _; omega), Lib.frozen_of_heap hn]
  · rw [hb.frozen (p := ⟨w.heap.size, 1, none⟩) (by show w.heap.size < _; omega), Lib.frozen_of_heap hn]
  · rw [hb.frozen (p := ⟨w.heap.size, 2, none⟩) (by show w.heap.size < _; omega), Lib.frozen_of_heap hn]
  · have := hb.size; omega

theorem next_word (Q : World → Prop) (s P : ByteArray) (c : Int) (h0 : KC 38 #[.string s, .int .i64 0] (.int .i32 c)) (h1 : KC 44 #[.int .i32 c] (.bool true)) (h2 : KC 39 #[.string s, .func (.func 45) #[] #[]] (.string P)) (h3 : ∀ w, Q w → KB 13 #[.string P] (.bool true) w) (w : World) (hB : ∀ w', Below w.heap.size w w' → Q w') :
    KB 21 #[.string s] (.tuple #[tokV 5 0 P, .int .i64 P.size, .int .i64 0]) w := by
  have H0 := Lib.hid h0
  have H1 := Lib.hid h1
  have H2 := Lib.hid h2
  have H3 := Lib.hid h3
  have HB := Lib.hid hB
  clear h0 h1 h2 h3 hB
  unfold KB
  go_enter Tryd.func21, Tryd.ntmps21
  go_wp2_with fail
  refine (H0.out _).mono ?_
  rintro e w1 ⟨rfl, rfl⟩
  go_wp2_with fail
  refine (H1.out _).mono ?_
  rintro e w1 ⟨rfl, rfl⟩
  go_wp2_with fail
  refine (H2.out _).mono ?_
  rintro e w1 ⟨rfl, rfl⟩
  go_wp2_with fail
  refine (H3.out _ (HB.out _ ((Below.refl _ _).alloc (Nat.le_refl _) _))).mono ?_
  rintro e w1 ⟨rfl, hb1⟩
  obtain ⟨⟨c0, c1, c2⟩, ⟨f0, f1, f2⟩, hz⟩ := tok_kept hb1
  go_wp2_with fail
  exact bodyPost_ret (v := .tuple #[tokV 5 0 P, .int .i64 P.size, .int .i64 0]) (by simp [results, Tryd.results21, go_sem, tokV, c0, c1, c2, f0, f1, f2, hz]) rfl ⟨rfl, ((((((Below.refl _ _).alloc (Nat.le_refl _) _).trans (hb1.mono (by rw [tok_size]; omega))).setCell (Nat.le_refl _) _).setCell (Nat.le_refl _) _).setCell (Nat.le_refl _) _)⟩

theorem next_long (Q : World → Prop) (s P : ByteArray) (c : Int) (h0 : KC 38 #[.string s, .int .i64 0] (.int .i32 c)) (h1 : KC 44 #[.int .i32 c] (.bool true)) (h2 : KC 39 #[.string s, .func (.func 45) #[] #[]] (.string P)) (h3 : ∀ w, Q w → KB 13 #[.string P] (.bool false) w) (l : 12 < P.size) (z : P.size ≤ 1000000) (w : World) (hB : ∀ w', Below w.heap.size w w' → Q w') :
    KB 21 #[.string s] (.tuple #[tokV 0 0 ⟨#[]⟩, .int .i64 0, .int .i64 6]) w := by
  have H0 := Lib.hid h0
  have H1 := Lib.hid h1
  have H2 := Lib.hid h2
  have H3 := Lib.hid h3
  have HB := Lib.hid hB
  clear h0 h1 h2 h3 hB
  unfold KB
  go_enter Tryd.func21, Tryd.ntmps21
  go_wp2_with fail
  refine (H0.out _).mono ?_
  rintro e w1 ⟨rfl, rfl⟩
  go_wp2_with fail
  refine (H1.out _).mono ?_
  rintro e w1 ⟨rfl, rfl⟩
  go_wp2_with fail
  refine (H2.out _).mono ?_
  rintro e w1 ⟨rfl, rfl⟩
  go_wp2_with fail
  refine (H3.out _ (HB.out _ ((Below.refl _ _).alloc (Nat.le_refl _) _))).mono ?_
  rintro e w1 ⟨rfl, hb1⟩
  obtain ⟨⟨c0, c1, c2⟩, ⟨f0, f1, f2⟩, hz⟩ := tok_kept hb1
  go_wp2_with fail
  exact bodyPost_ret (v := .tuple #[tokV 0 0 ⟨#[]⟩, .int .i64 0, .int .i64 6]) (by simp [results, Tryd.results21, go_sem, tokV, c0, c1, c2, f0, f1, f2, hz]) rfl ⟨rfl, ((((((Below.refl _ _).alloc (Nat.le_refl _) _).trans (hb1.mono (by rw [tok_size]; omega))).setCell (Nat.le_refl _) _).setCell (Nat.le_refl _) _).setCell (Nat.le_refl _) _)⟩

theorem next_name (Q : World → Prop) (s P : ByteArray) (c : Int) (h0 : KC 38 #[.string s, .int .i64 0] (.int .i32 c)) (h1 : KC 44 #[.int .i32 c] (.bool true)) (h2 : KC 39 #[.string s, .func (.func 45) #[] #[]] (.string P)) (h3 : ∀ w, Q w → KB 13 #[.string P] (.bool false) w) (l : P.size ≤ 12) (w : World) (hB : ∀ w', Below w.heap.size w w' → Q w') :
    KB 21 #[.string s] (.tuple #[tokV 1 0 P, .int .i64 P.size, .int .i64 0]) w := by
  have H0 := Lib.hid h0
  have H1 := Lib.hid h1
  have H2 := Lib.hid h2
  have H3 := Lib.hid h3
  have HB := Lib.hid hB
  clear h0 h1 h2 h3 hB
  unfold KB
  go_enter Tryd.func21, Tryd.ntmps21
  go_wp2_with fail
  refine (H0.out _).mono ?_
  rintro e w1 ⟨rfl, rfl⟩
  go_wp2_with fail
  refine (H1.out _).mono ?_
  rintro e w1 ⟨rfl, rfl⟩
  go_wp2_with fail
  refine (H2.out _).mono ?_
  rintro e w1 ⟨rfl, rfl⟩
  go_wp2_with fail
  refine (H3.out _ (HB.out _ ((Below.refl _ _).alloc (Nat.le_refl _) _))).mono ?_
  rintro e w1 ⟨rfl, hb1⟩
  obtain ⟨⟨c0, c1, c2⟩, ⟨f0, f1, f2⟩, hz⟩ := tok_kept hb1
  go_wp2_with fail
  exact bodyPost_ret (v := .tuple #[tokV 1 0 P, .int .i64 P.size, .int .i64 0]) (by simp [results, Tryd.results21, go_sem, tokV, c0, c1, c2, f0, f1, f2, hz]) rfl ⟨rfl, ((((((Below.refl _ _).alloc (Nat.le_refl _) _).trans (hb1.mono (by rw [tok_size]; omega))).setCell (Nat.le_refl _) _).setCell (Nat.le_refl _) _).setCell (Nat.le_refl _) _)⟩

theorem next_int (Q : World → Prop) (s P : ByteArray) (c : Int) (h0 : KC 38 #[.string s, .int .i64 0] (.int .i32 c)) (h1 : KC 44 #[.int .i32 c] (.bool false)) (h4 : KC 46 #[.int .i32 c] (.bool true)) (h2 : KC 39 #[.string s, .func (.func 45) #[] #[]] (.string P)) (r : Int) (h5 : ∀ w, Q w → KB 47 #[.string P] (.int .i64 r) w) (w : World) (hB : ∀ w', Below w.heap.size w w' → Q w') :
    KB 21 #[.string s] (.tuple #[tokV 2 0 P, .int .i64 P.size, .int .i64 r]) w := by
  have H0 := Lib.hid h0
  have H1 := Lib.hid h1
  have H4 := Lib.hid h4
  have H2 := Lib.hid h2
  have H5 := Lib.hid h5
  have HB := Lib.hid hB
  clear h0 h1 h4 h2 h5 hB
  unfold KB
  go_enter Tryd.func21, Tryd.ntmps21
  go_wp2_with fail
  refine (H0.out _).mono ?_
  rintro e w1 ⟨rfl, rfl⟩
  go_wp2_with fail
  refine (H1.out _).mono ?_
  rintro e w1 ⟨rfl, rfl⟩
  go_wp2_with fail
  refine (H4.out _).mono ?_
  rintro e w1 ⟨rfl, rfl⟩
  go_wp2_with fail
  refine (H2.out _).mono ?_
  rintro e w1 ⟨rfl, rfl⟩
  go_wp2_with fail
  refine (H5.out _ (HB.out _ ((Below.refl _ _).alloc (Nat.le_refl _) _))).mono ?_
  rintro e w1 ⟨rfl, hb1⟩
  obtain ⟨⟨c0, c1, c2⟩, ⟨f0, f1, f2⟩, hz⟩ := tok_kept hb1
  go_wp2_with fail
  exact bodyPost_ret (v := .tuple #[tokV 2 0 P, .int .i64 P.size, .int .i64 r]) (by simp [results, Tryd.results21, go_sem, tokV, c0, c1, c2, f0, f1, f2, hz]) rfl ⟨rfl, ((((((Below.refl _ _).alloc (Nat.le_refl _) _).trans (hb1.mono (by rw [tok_size]; omega))).setCell (Nat.le_refl _) _).setCell (Nat.le_refl _) _).setCell (Nat.le_refl _) _)⟩

theorem next_strbad (Q : World → Prop) (s P : ByteArray) (c : Int) (h0 : KC 38 #[.string s, .int .i64 0] (.int .i32 c)) (h1 : KC 44 #[.int .i32 c] (.bool false)) (h4 : KC 46 #[.int .i32 c] (.bool false)) (c34 : (c == 34) = true) (T : ByteArray) (z : s.size ≤ 1000000) (z1 : 1 ≤ s.size) (zT : T.size ≤ 1000000) (h6 : KC 39 #[.string (s.extract 1 s.size), .func (.func 48) #[] #[]] (.string P)) (zP : P.size ≤ 1000000) (d : Int) (h7 : KC 38 #[.string s, .int .i64 (1 + P.size)] (.int .i32 d)) (x : (d != 34) = true) (w : World) (hB : ∀ w', Below w.heap.size w w' → Q w') :
    KB 21 #[.string s] (.tuple #[tokV 0 0 ⟨#[]⟩, .int .i64 0, .int .i64 5]) w := by
  have H0 := Lib.hid h0
  have H1 := Lib.hid h1
  have H4 := Lib.hid h4
  have H6 := Lib.hid h6
  have H7 := Lib.hid h7
  have HB := Lib.hid hB
  clear h0 h1 h4 h6 h7 hB
  unfold KB
  go_enter Tryd.func21, Tryd.ntmps21
  go_wp2_with fail
  refine (H0.out _).mono ?_
  rintro e w1 ⟨rfl, rfl⟩
  go_wp2_with fail
  refine (H1.out _).mono ?_
  rintro e w1 ⟨rfl, rfl⟩
  go_wp2_with fail
  refine (H4.out _).mono ?_
  rintro e w1 ⟨rfl, rfl⟩
  go_wp2_with fail
  refine (H6.out _).mono ?_
  rintro e w1 ⟨rfl, rfl⟩
  go_wp2_with fail
  refine (H7.out _).mono ?_
  rintro e w1 ⟨rfl, rfl⟩
  go_wp2_with fail
  exact bodyPost_ret (v := .tuple #[tokV 0 0 ⟨#[]⟩, .int .i64 0, .int .i64 5]) (by simp [results, Tryd.results21, go_sem, tokV]) rfl ⟨rfl, (Below.refl _ _).alloc (Nat.le_refl _) _⟩

theorem next_str (Q : World → Prop) (s P : ByteArray) (c : Int) (h0 : KC 38 #[.string s, .int .i64 0] (.int .i32 c)) (h1 : KC 44 #[.int .i32 c] (.bool false)) (h4 : KC 46 #[.int .i32 c] (.bool false)) (c34 : (c == 34) = true) (T : ByteArray) (z : s.size ≤ 1000000) (z1 : 1 ≤ s.size) (zT : T.size ≤ 1000000) (h6 : KC 39 #[.string (s.extract 1 s.size), .func (.func 48) #[] #[]] (.string P)) (zP : P.size ≤ 1000000) (d : Int) (h7 : KC 38 #[.string s, .int .i64 (1 + P.size)] (.int .i32 d)) (x : (d != 34) = false) (w : World) (hB : ∀ w', Below w.heap.size w w' → Q w') :
    KB 21 #[.string s] (.tuple #[tokV 3 0 P, .int .i64 (P.size + 2), .int .i64 0]) w := by
  have H0 := Lib.hid h0
  have H1 := Lib.hid h1
  have H4 := Lib.hid h4
  have H6 := Lib.hid h6
  have H7 := Lib.hid h7
  have HB := Lib.hid hB
  clear h0 h1 h4 h6 h7 hB
  unfold KB
  go_enter Tryd.func21, Tryd.ntmps21
  go_wp2_with fail
  refine (H0.out _).mono ?_
  rintro e w1 ⟨rfl, rfl⟩
  go_wp2_with fail
  refine (H1.out _).mono ?_
  rintro e w1 ⟨rfl, rfl⟩
  go_wp2_with fail
  refine (H4.out _).mono ?_
  rintro e w1 ⟨rfl, rfl⟩
  go_wp2_with fail
  refine (H6.out _).mono ?_
  rintro e w1 ⟨rfl, rfl⟩
  go_wp2_with fail
  refine (H7.out _).mono ?_
  rintro e w1 ⟨rfl, rfl⟩
  go_wp2_with fail
  exact bodyPost_ret (v := .tuple #[tokV 3 0 P, .int .i64 (P.size + 2), .int .i64 0]) (by simp [results, Tryd.results21, go_sem, tokV]) rfl ⟨rfl, (Below.refl _ _).alloc (Nat.le_refl _) _⟩

theorem next_none (Q : World → Prop) (s P : ByteArray) (c : Int) (h0 : KC 38 #[.string s, .int .i64 0] (.int .i32 c)) (h1 : KC 44 #[.int .i32 c] (.bool false)) (h4 : KC 46 #[.int .i32 c] (.bool false)) (c34 : (c == 34) = false) (h8 : ∀ w, Q w → KB 49 #[.string s] (.string P) w) (x : P.toList = []) (x1 : P.toList.isEmpty = true) (w : World) (hB : ∀ w', Below w.heap.size w w' → Q w') :
    KB 21 #[.string s] (.tuple #[tokV 0 0 ⟨#[]⟩, .int .i64 0, .int .i64 5]) w := by
  have H0 := Lib.hid h0
  have H1 := Lib.hid h1
  have H4 := Lib.hid h4
  have H8 := Lib.hid h8
  have HB := Lib.hid hB
  clear h0 h1 h4 h8 hB
  unfold KB
  go_enter Tryd.func21, Tryd.ntmps21
  go_wp2_with fail
  refine (H0.out _).mono ?_
  rintro e w1 ⟨rfl, rfl⟩
  go_wp2_with fail
  refine (H1.out _).mono ?_
  rintro e w1 ⟨rfl, rfl⟩
  go_wp2_with fail
  refine (H4.out _).mono ?_
  rintro e w1 ⟨rfl, rfl⟩
  go_wp2_with fail
  refine (H8.out _ (HB.out _ ((Below.refl _ _).alloc (Nat.le_refl _) _))).mono ?_
  rintro e w1 ⟨rfl, hb1⟩
  obtain ⟨⟨c0, c1, c2⟩, ⟨f0, f1, f2⟩, hz⟩ := tok_kept hb1
  go_wp2_with fail
  exact bodyPost_ret (v := .tuple #[tokV 0 0 ⟨#[]⟩, .int .i64 0, .int .i64 5]) (by simp [results, Tryd.results21, go_sem, tokV, c0, c1, c2, f0, f1, f2, hz]) rfl ⟨rfl, ((((((Below.refl _ _).alloc (Nat.le_refl _) _).trans (hb1.mono (by rw [tok_size]; omega))).setCell (Nat.le_refl _) _).setCell (Nat.le_refl _) _).setCell (Nat.le_refl _) _)⟩

theorem next_mark (Q : World → Prop) (s P : ByteArray) (c : Int) (h0 : KC 38 #[.string s, .int .i64 0] (.int .i32 c)) (h1 : KC 44 #[.int .i32 c] (.bool false)) (h4 : KC 46 #[.int .i32 c] (.bool false)) (c34 : (c == 34) = false) (h8 : ∀ w, Q w → KB 49 #[.string s] (.string P) w) (x : ¬ P.toList = []) (x1 : P.toList.isEmpty = false) (w : World) (hB : ∀ w', Below w.heap.size w w' → Q w') :
    KB 21 #[.string s] (.tuple #[tokV 4 0 P, .int .i64 P.size, .int .i64 0]) w := by
  have H0 := Lib.hid h0
  have H1 := Lib.hid h1
  have H4 := Lib.hid h4
  have H8 := Lib.hid h8
  have HB := Lib.hid hB
  clear h0 h1 h4 h8 hB
  unfold KB
  go_enter Tryd.func21, Tryd.ntmps21
  go_wp2_with fail
  refine (H0.out _).mono ?_
  rintro e w1 ⟨rfl, rfl⟩
  go_wp2_with fail
  refine (H1.out _).mono ?_
  rintro e w1 ⟨rfl, rfl⟩
  go_wp2_with fail
  refine (H4.out _).mono ?_
  rintro e w1 ⟨rfl, rfl⟩
  go_wp2_with fail
  refine (H8.out _ (HB.out _ ((Below.refl _ _).alloc (Nat.le_refl _) _))).mono ?_
  rintro e w1 ⟨rfl, hb1⟩
  obtain ⟨⟨c0, c1, c2⟩, ⟨f0, f1, f2⟩, hz⟩ := tok_kept hb1
  go_wp2_with fail
  exact bodyPost_ret (v := .tuple #[tokV 4 0 P, .int .i64 P.size, .int .i64 0]) (by simp [results, Tryd.results21, go_sem, tokV, c0, c1, c2, f0, f1, f2, hz]) rfl ⟨rfl, ((((((Below.refl _ _).alloc (Nat.le_refl _) _).trans (hb1.mono (by rw [tok_size]; omega))).setCell (Nat.le_refl _) _).setCell (Nat.le_refl _) _).setCell (Nat.le_refl _) _)⟩
end Go.Proofs.YtpddneplkbdedaaDoor
