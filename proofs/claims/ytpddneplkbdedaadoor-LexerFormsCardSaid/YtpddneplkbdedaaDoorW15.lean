/- Walks: one of the reference of the lexer, a way each. -/
import Derived.Test.YtpddneplkbdedaaDoorW14
import Derived.StillTailTactics
import Derived.Deep.RegionHeld3
namespace Go.Proofs.YtpddneplkbdedaaDoor
open Go.RowKit
set_option linter.unusedVariables false
set_option linter.unusedSimpArgs false

theorem KC.quiet {f : Nat} {xs : Array Value} {v : Value} (h : KC f xs v) (w : World) (n : Nat) : Calls Tryd.prog f xs (w.drewN n) fun e w'' => e = .returned v ∧ ∃ m, w'' = w.drewN m :=
  Calls.quiet_of_same ((h _).mono fun _ _ ⟨he, hw⟩ => ⟨he, hw.symm⟩)
theorem KC.still {f : Nat} {xs : Array Value} {v : Value} (h : KC f xs v) (w : World) : Calls Tryd.prog f xs w fun e w' => e = .returned v ∧ w' = w :=
  (h _).mono fun _ _ ⟨he, hw⟩ => ⟨he, hw.symm⟩

set_option maxRecDepth 100000 in
theorem one_word (s P : ByteArray) (n : Nat) (hsz : 0 < s.size) (z : s.size ≤ 1000000) (zn : n ≤ s.size) (h0 : KC 34 #[.string s] (.int .i64 n)) (h1 : KC 33 #[.int .u8 ((s[0]'hsz).toNat : Int)] (.bool true)) (h3 : ∀ w, KB 14 #[.string (s.extract 0 n)] (.bool true) w) (w : World) :
    KB 22 #[.string s] (.tuple #[tokV 5 0 (s.extract 0 n), .int .i64 n, .int .i64 0]) w := by
  have H0 := Lib.hid h0
  have H1 := Lib.hid h1
  have H3 := Lib.hid h3
  clear h0 h1 h3
  unfold KB
  go_enter Tryd.func22, Tryd.ntmps22
  go_wp2_with fail
  refine (H0.out _).mono ?_
  rintro e w1 ⟨rfl, rfl⟩
  go_wp2_with fail
  refine (H1.out _).mono ?_
  rintro e w1 ⟨rfl, rfl⟩
  go_wp2_with fail
  refine (H3.out _).mono ?_
  rintro e w1 ⟨rfl, hb1⟩
  obtain ⟨⟨c0, c1, c2⟩, ⟨f0, f1, f2⟩, hz⟩ := tok_kept hb1
  go_wp2_with fail
  exact bodyPost_ret (v := .tuple #[tokV 5 0 (s.extract 0 n), .int .i64 n, .int .i64 0]) (by simp [results, Tryd.results22, go_sem, tokV, c0, c1, c2, f0, f1, f2, hz]) rfl ⟨rfl, ((((((Below.refl _ _).alloc (Nat.le_refl _) _).trans (hb1.mono (by rw [tok_size]; omega))).setCell (Nat.le_refl _) _).setCell (Nat.le_refl _) _).setCell (Nat.le_refl _) _)⟩

set_option maxRecDepth 100000 in
theorem one_long (s P : ByteArray) (n : Nat) (hsz : 0 < s.size) (z : s.size ≤ 1000000) (zn : n ≤ s.size) (h0 : KC 34 #[.string s] (.int .i64 n)) (h1 : KC 33 #[.int .u8 ((s[0]'hsz).toNat : Int)] (.bool true)) (h3 : ∀ w, KB 14 #[.string (s.extract 0 n)] (.bool false) w) (l : 12 < n) (w : World) :
    KB 22 #[.string s] (.tuple #[tokV 0 0 ⟨#[]⟩, .int .i64 0, .int .i64 6]) w := by
  have H0 := Lib.hid h0
  have H1 := Lib.hid h1
  have H3 := Lib.hid h3
  clear h0 h1 h3
  unfold KB
  go_enter Tryd.func22, Tryd.ntmps22
  go_wp2_with fail
  refine (H0.out _).mono ?_
  rintro e w1 ⟨rfl, rfl⟩
  go_wp2_with fail
  refine (H1.out _).mono ?_
  rintro e w1 ⟨rfl, rfl⟩
  go_wp2_with fail
  refine (H3.out _).mono ?_
  rintro e w1 ⟨rfl, hb1⟩
  obtain ⟨⟨c0, c1, c2⟩, ⟨f0, f1, f2⟩, hz⟩ := tok_kept hb1
  go_wp2_with fail
  exact bodyPost_ret (v := .tuple #[tokV 0 0 ⟨#[]⟩, .int .i64 0, .int .i64 6]) (by simp [results, Tryd.results22, go_sem, tokV, c0, c1, c2, f0, f1, f2, hz]) rfl ⟨rfl, ((((((Below.refl _ _).alloc (Nat.le_refl _) _).trans (hb1.mono (by rw [tok_size]; omega))).setCell (Nat.le_refl _) _).setCell (Nat.le_refl _) _).setCell (Nat.le_refl _) _)⟩

set_option maxRecDepth 100000 in
theorem one_name (s P : ByteArray) (n : Nat) (hsz : 0 < s.size) (z : s.size ≤ 1000000) (zn : n ≤ s.size) (h0 : KC 34 #[.string s] (.int .i64 n)) (h1 : KC 33 #[.int .u8 ((s[0]'hsz).toNat : Int)] (.bool true)) (h3 : ∀ w, KB 14 #[.string (s.extract 0 n)] (.bool false) w) (l : n ≤ 12) (w : World) :
    KB 22 #[.string s] (.tuple #[tokV 1 0 (s.extract 0 n), .int .i64 n, .int .i64 0]) w := by
  have H0 := Lib.hid h0
  have H1 := Lib.hid h1
  have H3 := Lib.hid h3
  clear h0 h1 h3
  unfold KB
  go_enter Tryd.func22, Tryd.ntmps22
  go_wp2_with fail
  refine (H0.out _).mono ?_
  rintro e w1 ⟨rfl, rfl⟩
  go_wp2_with fail
  refine (H1.out _).mono ?_
  rintro e w1 ⟨rfl, rfl⟩
  go_wp2_with fail
  refine (H3.out _).mono ?_
  rintro e w1 ⟨rfl, hb1⟩
  obtain ⟨⟨c0, c1, c2⟩, ⟨f0, f1, f2⟩, hz⟩ := tok_kept hb1
  go_wp2_with fail
  exact bodyPost_ret (v := .tuple #[tokV 1 0 (s.extract 0 n), .int .i64 n, .int .i64 0]) (by simp [results, Tryd.results22, go_sem, tokV, c0, c1, c2, f0, f1, f2, hz]) rfl ⟨rfl, ((((((Below.refl _ _).alloc (Nat.le_refl _) _).trans (hb1.mono (by rw [tok_size]; omega))).setCell (Nat.le_refl _) _).setCell (Nat.le_refl _) _).setCell (Nat.le_refl _) _)⟩

set_option maxRecDepth 100000 in
theorem one_int (s P : ByteArray) (n : Nat) (hsz : 0 < s.size) (z : s.size ≤ 1000000) (zn : n ≤ s.size) (h0 : KC 34 #[.string s] (.int .i64 n)) (h1 : KC 33 #[.int .u8 ((s[0]'hsz).toNat : Int)] (.bool false)) (h4 : KC 50 #[.int .u8 ((s[0]'hsz).toNat : Int)] (.bool true)) (r : Int) (h5 : KC 35 #[.string (s.extract 0 n)] (.int .i64 r)) (w : World) :
    KB 22 #[.string s] (.tuple #[tokV 2 0 (s.extract 0 n), .int .i64 n, .int .i64 r]) w := by
  have H0 := Lib.hid h0
  have H1 := Lib.hid h1
  have H4 := Lib.hid h4
  have H5 := Lib.hid h5
  clear h0 h1 h4 h5
  unfold KB
  go_enter Tryd.func22, Tryd.ntmps22
  go_wp2_with fail
  refine (H0.out _).mono ?_
  rintro e w1 ⟨rfl, rfl⟩
  go_wp2_with fail
  refine (H1.out _).mono ?_
  rintro e w1 ⟨rfl, rfl⟩
  go_wp2_with fail
  refine (H4.out _).mono ?_
  rintro e w1 ⟨rfl, rfl⟩
  go_wp2_with fail
  go_region_held3 (fun w' => w'.heap.size = w.heap.size + 1) (go_keep) (first | (go_at_call 35; refine (H5.out.still _).mono ?_; rintro e w' ⟨rfl, rfl⟩))
  go_wp2_with fail
  exact bodyPost_ret (v := .tuple #[tokV 2 0 (s.extract 0 n), .int .i64 n, .int .i64 r]) (by simp [results, Tryd.results22, go_sem, tokV]) rfl ⟨rfl, ((Below.refl _ _).alloc (Nat.le_refl _) _).drew⟩

set_option maxRecDepth 100000 in
theorem one_strno (s P : ByteArray) (n : Nat) (hsz : 0 < s.size) (z : s.size ≤ 1000000) (zn : n ≤ s.size) (h0 : KC 34 #[.string s] (.int .i64 n)) (h1 : KC 33 #[.int .u8 ((s[0]'hsz).toNat : Int)] (.bool false)) (h4 : KC 50 #[.int .u8 ((s[0]'hsz).toNat : Int)] (.bool false)) (x34 : (((s[0]'hsz).toNat : Int) == 34) = true) (h6 : KC 51 #[.string (s.extract 1 s.size)] (.int .i64 (-1))) (w : World) :
    KB 22 #[.string s] (.tuple #[tokV 0 0 ⟨#[]⟩, .int .i64 0, .int .i64 5]) w := by
  have H0 := Lib.hid h0
  have H1 := Lib.hid h1
  have H4 := Lib.hid h4
  have H6 := Lib.hid h6
  clear h0 h1 h4 h6
  unfold KB
  go_enter Tryd.func22, Tryd.ntmps22
  go_wp2_with fail
  refine (H0.out _).mono ?_
  rintro e w1 ⟨rfl, rfl⟩
  go_wp2_with fail
  refine (H1.out _).mono ?_
  rintro e w1 ⟨rfl, rfl⟩
  go_wp2_with fail
  refine (H4.out _).mono ?_
  rintro e w1 ⟨rfl, rfl⟩
  go_wp2_with fail
  refine (H6.out _).mono ?_
  rintro e w1 ⟨rfl, rfl⟩
  go_wp2_with fail
  exact bodyPost_ret (v := .tuple #[tokV 0 0 ⟨#[]⟩, .int .i64 0, .int .i64 5]) (by simp [results, Tryd.results22, go_sem, tokV]) rfl ⟨rfl, (Below.refl _ _).alloc (Nat.le_refl _) _⟩

set_option maxRecDepth 100000 in
theorem one_strbad (s P : ByteArray) (n : Nat) (hsz : 0 < s.size) (z : s.size ≤ 1000000) (zn : n ≤ s.size) (h0 : KC 34 #[.string s] (.int .i64 n)) (h1 : KC 33 #[.int .u8 ((s[0]'hsz).toNat : Int)] (.bool false)) (h4 : KC 50 #[.int .u8 ((s[0]'hsz).toNat : Int)] (.bool false)) (x34 : (((s[0]'hsz).toNat : Int) == 34) = true) (k : Nat) (zk : 1 + k < s.size) (h6 : KC 51 #[.string (s.extract 1 s.size)] (.int .i64 k)) (h7 : KC 36 #[.string (s.extract 1 (1 + k))] (.bool false)) (w : World) :
    KB 22 #[.string s] (.tuple #[tokV 0 0 ⟨#[]⟩, .int .i64 0, .int .i64 5]) w := by
  have H0 := Lib.hid h0
  have H1 := Lib.hid h1
  have H4 := Lib.hid h4
  have H6 := Lib.hid h6
  have H7 := Lib.hid h7
  clear h0 h1 h4 h6 h7
  unfold KB
  go_enter Tryd.func22, Tryd.ntmps22
  go_wp2_with fail
  refine (H0.out _).mono ?_
  rintro e w1 ⟨rfl, rfl⟩
  go_wp2_with fail
  refine (H1.out _).mono ?_
  rintro e w1 ⟨rfl, rfl⟩
  go_wp2_with fail
  refine (H4.out _).mono ?_
  rintro e w1 ⟨rfl, rfl⟩
  go_wp2_with fail
  refine (H6.out _).mono ?_
  rintro e w1 ⟨rfl, rfl⟩
  go_wp2_with fail
  refine (H7.out _).mono ?_
  rintro e w1 ⟨rfl, rfl⟩
  go_wp2_with fail
  exact bodyPost_ret (v := .tuple #[tokV 0 0 ⟨#[]⟩, .int .i64 0, .int .i64 5]) (by simp [results, Tryd.results22, go_sem, tokV]) rfl ⟨rfl, (Below.refl _ _).alloc (Nat.le_refl _) _⟩

set_option maxRecDepth 100000 in
theorem one_str (s P : ByteArray) (n : Nat) (hsz : 0 < s.size) (z : s.size ≤ 1000000) (zn : n ≤ s.size) (h0 : KC 34 #[.string s] (.int .i64 n)) (h1 : KC 33 #[.int .u8 ((s[0]'hsz).toNat : Int)] (.bool false)) (h4 : KC 50 #[.int .u8 ((s[0]'hsz).toNat : Int)] (.bool false)) (x34 : (((s[0]'hsz).toNat : Int) == 34) = true) (k : Nat) (zk : 1 + k < s.size) (h6 : KC 51 #[.string (s.extract 1 s.size)] (.int .i64 k)) (h7 : KC 36 #[.string (s.extract 1 (1 + k))] (.bool true)) (w : World) :
    KB 22 #[.string s] (.tuple #[tokV 3 0 (s.extract 1 (1 + k)), .int .i64 (k + 2), .int .i64 0]) w := by
  have H0 := Lib.hid h0
  have H1 := Lib.hid h1
  have H4 := Lib.hid h4
  have H6 := Lib.hid h6
  have H7 := Lib.hid h7
  clear h0 h1 h4 h6 h7
  unfold KB
  go_enter Tryd.func22, Tryd.ntmps22
  go_wp2_with fail
  refine (H0.out _).mono ?_
  rintro e w1 ⟨rfl, rfl⟩
  go_wp2_with fail
  refine (H1.out _).mono ?_
  rintro e w1 ⟨rfl, rfl⟩
  go_wp2_with fail
  refine (H4.out _).mono ?_
  rintro e w1 ⟨rfl, rfl⟩
  go_wp2_with fail
  refine (H6.out _).mono ?_
  rintro e w1 ⟨rfl, rfl⟩
  go_wp2_with fail
  refine (H7.out _).mono ?_
  rintro e w1 ⟨rfl, rfl⟩
  go_wp2_with fail
  exact bodyPost_ret (v := .tuple #[tokV 3 0 (s.extract 1 (1 + k)), .int .i64 (k + 2), .int .i64 0]) (by simp [results, Tryd.results22, go_sem, tokV]) rfl ⟨rfl, (Below.refl _ _).alloc (Nat.le_refl _) _⟩
end Go.Proofs.YtpddneplkbdedaaDoor
