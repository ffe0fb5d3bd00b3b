/- Walks: Form of the reference of the lexer. -/
import Derived.Test.YtpddneplkbdedaaDoorW27
namespace Go.Proofs.YtpddneplkbdedaaDoor
open Go.RowKit
set_option linter.unusedVariables false
set_option linter.unusedSimpArgs false

theorem form_no (k line : Int) (s : ByteArray) (h3 : (k == 3) = false) (h1 : (k == 1) = false) (h2 : (k == 2) = false) (h4 : (k == 4) = false) (h5 : (k == 5) = false) (w : World) :
    KB 18 #[.agg #[.int .i64 k, .int .i64 line, .string s]] (.bool false) w := by
  unfold KB
  go_enter Tryd.func18, Tryd.ntmps18
  go_wp2_with fail
  go_ret
  exact ⟨rfl, (Below.refl _ _).alloc (Nat.le_refl _) _⟩
theorem form_int (line : Int) (s : ByteArray) (er : Int) (r : Bool) (h : KC 35 #[.string s] (.int .i64 er)) (hr : (er == 0) = r) (w : World) :
    KB 18 #[.agg #[.int .i64 2, .int .i64 line, .string s]] (.bool r) w := by
  have H := Lib.hid h
  clear h
  unfold KB
  cases r
  all_goals
    go_enter Tryd.func18, Tryd.ntmps18
    go_wp2_with fail
    refine (H.out _).mono ?_
    rintro e w1 ⟨rfl, rfl⟩
    go_wp2_with fail
    go_ret
    exact ⟨rfl, (Below.refl _ _).alloc (Nat.le_refl _) _⟩
theorem form_str (line : Int) (s : ByteArray) (r : Bool) (h : KC 36 #[.string s] (.bool r)) (w : World) :
    KB 18 #[.agg #[.int .i64 3, .int .i64 line, .string s]] (.bool r) w := by
  have H := Lib.hid h
  clear h
  unfold KB
  go_enter Tryd.func18, Tryd.ntmps18
  go_wp2_with fail
  refine (H.out _).mono ?_
  rintro e w1 ⟨rfl, rfl⟩
  go_wp2_with fail
  go_ret
  exact ⟨rfl, (Below.refl _ _).alloc (Nat.le_refl _) _⟩
theorem form_word (line : Int) (s : ByteArray) (r : Bool) (h : ∀ w, KB 14 #[.string s] (.bool r) w) (w : World) :
    KB 18 #[.agg #[.int .i64 5, .int .i64 line, .string s]] (.bool r) w := by
  have H := Lib.hid h
  clear h
  unfold KB
  go_enter Tryd.func18, Tryd.ntmps18
  go_wp2_with fail
  refine (H.out _).mono ?_
  rintro e w1 ⟨rfl, hb⟩
  go_wp2_with fail
  go_ret
  exact ⟨rfl, ((Below.refl _ _).alloc (Nat.le_refl _) _).trans (hb.mono (by rw [tok_size]; omega))⟩
set_option maxRecDepth 100000 in
theorem form_mark (line : Int) (l : List UInt8) (w : World) :
    KB 18 #[.agg #[.int .i64 4, .int .i64 line, .string (str l)]] (.bool (marksL.contains l)) w := by
  have hrow : RowAt (((w.alloc (tokO 4 line (str l))).alloc (rowOf marksL)).drew) (w.heap.size + 1) marksL := by
    have := rowAt_alloc marksL (w.alloc (tokO 4 line (str l)))
    rw [tok_size] at this
    exact this
  have HI := Lib.hid (rin_any (w.heap.size + 1) marksL l 18 rfl (by omega) _ hrow)
  clear hrow
  unfold KB
  obtain ⟨r, hr⟩ : ∃ r, marksL.contains l = r := ⟨_, rfl⟩
  rw [hr] at HI ⊢
  clear hr
  generalize str l = s at *
  go_enter Tryd.func18, Tryd.ntmps18
  go_wp2_with fail
  go_region_held3 (fun w' => w'.cell? ⟨w.heap.size, 2, none⟩ = some (.string s)) (go_keep) (first | (go_at_call 37; refine (rmarks_any _).mono ?_; rintro e w' ⟨rfl, rfl⟩) | (go_at_call 25; refine HI.out.mono ?_; rintro e w' ⟨rfl, rfl⟩))
  go_wp2_with fail
  go_ret
  exact ⟨rfl, by repeat' (first | exact Below.refl _ _ | refine below_dN ?_ _ | refine Below.drew ?_ | refine Below.alloc ?_ (by simp) _)⟩

theorem form_empty (line : Int) (s : ByteArray) (h0 : s.size = 0) (w : World) :
    KB 18 #[.agg #[.int .i64 1, .int .i64 line, .string s]] (.bool false) w := by
  have h1 : decide (0 < s.size) = false := by rw [h0]; rfl
  clear h0
  unfold KB
  go_enter Tryd.func18, Tryd.ntmps18
  go_wp2_with fail
  go_quiet (fail)
  go_wp2_with fail
  go_ret
  exact ⟨rfl, below_dN ((Below.refl _ _).alloc (Nat.le_refl _) _) _⟩
theorem form_long (line : Int) (s : ByteArray) (h0 : 0 < s.size) (h1 : 12 < s.size) (hs : s.size ≤ 1000000) (w : World) :
    KB 18 #[.agg #[.int .i64 1, .int .i64 line, .string s]] (.bool false) w := by
  have d1 : decide (0 < s.size) = true := decide_eq_true h0
  have d2 : decide ((s.size : Int) ≤ 12) = false := decide_eq_false (by omega)
  unfold KB
  go_enter Tryd.func18, Tryd.ntmps18
  go_wp2_with fail
  go_quiet (fail)
  go_wp2_with fail
  go_ret
  exact ⟨rfl, below_dN ((Below.refl _ _).alloc (Nat.le_refl _) _) _⟩
theorem form_head (line : Int) (s : ByteArray) (h0 : 0 < s.size) (h1 : s.size ≤ 12) (h : KC 33 #[.int .u8 ((s[0]'h0).toNat : Int)] (.bool false)) (w : World) :
    KB 18 #[.agg #[.int .i64 1, .int .i64 line, .string s]] (.bool false) w := by
  have d1 : decide (0 < s.size) = true := decide_eq_true h0
  have d2 : decide ((s.size : Int) ≤ 12) = true := decide_eq_true (by omega)
  have H := Lib.hid h
  clear h
  unfold KB
  go_enter Tryd.func18, Tryd.ntmps18
  go_wp2_with fail
  go_quiet ((go_at_call 33; exact KC.quiet H.out _ _))
  go_wp2_with fail
  go_ret
  exact ⟨rfl, below_dN ((Below.refl _ _).alloc (Nat.le_refl _) _) _⟩
theorem form_run (line : Int) (s : ByteArray) (n : Nat) (h0 : 0 < s.size) (h1 : s.size ≤ 12) (h : KC 33 #[.int .u8 ((s[0]'h0).toNat : Int)] (.bool true)) (h2 : KC 34 #[.string s] (.int .i64 n)) (hn : ((n : Int) == (s.size : Int)) = false) (hn' : (n == s.size) = false) (w : World) :
    KB 18 #[.agg #[.int .i64 1, .int .i64 line, .string s]] (.bool false) w := by
  have d1 : decide (0 < s.size) = true := decide_eq_true h0
  have d2 : decide ((s.size : Int) ≤ 12) = true := decide_eq_true (by omega)
  have H := Lib.hid h; have H2 := Lib.hid h2
  clear h h2
  unfold KB
  go_enter Tryd.func18, Tryd.ntmps18
  go_wp2_with fail
  go_quiet (first | (go_at_call 33; exact KC.quiet H.out _ _) | (go_at_call 34; exact KC.quiet H2.out _ _))
  go_wp2_with fail
  go_ret
  exact ⟨rfl, below_dN ((Below.refl _ _).alloc (Nat.le_refl _) _) _⟩
set_option maxRecDepth 100000 in
theorem form_name (line : Int) (s : ByteArray) (n : Nat) (r : Bool) (h0 : 0 < s.size) (h1 : s.size ≤ 12) (h : KC 33 #[.int .u8 ((s[0]'h0).toNat : Int)] (.bool true)) (h2 : KC 34 #[.string s] (.int .i64 n)) (hn : ((n : Int) == (s.size : Int)) = true) (hn' : (n == s.size) = true)
    (h3 : ∀ w, KB 14 #[.string s] (.bool r) w) (w : World) :
    KB 18 #[.agg #[.int .i64 1, .int .i64 line, .string s]] (.bool (!r)) w := by
  have d1 : decide (0 < s.size) = true := decide_eq_true h0
  have d2 : decide ((s.size : Int) ≤ 12) = true := decide_eq_true (by omega)
  have H := Lib.hid h; have H2 := Lib.hid h2; have H3 := Lib.hid h3
  clear h h2 h3
  unfold KB
  go_enter Tryd.func18, Tryd.ntmps18
  go_wp2_with fail
  go_region_held3 (fun w' => w'.cell? ⟨w.heap.size, 2, none⟩ = some (.string s)) (first | go_keep | (rw [(hb.cell (p := ⟨w.heap.size, 2, none⟩) (by simp))]; go_keep))
    (first | (go_at_call 33; refine (H.out _).mono ?_; rintro e w' ⟨rfl, rfl⟩) | (go_at_call 34; refine (H2.out _).mono ?_; rintro e w' ⟨rfl, rfl⟩) | (go_at_call 14; refine (H3.out _).mono ?_; rintro e w' ⟨rfl, hb⟩))
  go_wp2_with fail
  go_ret
  exact ⟨rfl, (((Below.refl _ _).alloc (Nat.le_refl _) _).drew).trans (hb.mono (by simp))⟩

/-- Form's answer. -/
def formT (k : Int) (tx : List UInt8) : Bool :=
  if k = 1 then decide (0 < tx.length) && (decide (tx.length ≤ 12) && ((tx.head?.map isLc == some true) && (((tx.takeWhile isPt).length == tx.length) && !isWord tx)))
  else if k = 2 then intE tx == 0
  else if k = 3 then tx.all isPr
  else if k = 4 then marksL.contains tx
  else if k = 5 then isWord tx
  else false

theorem form_any (k line : Int) (tx : List UInt8) (hl : tx.length ≤ 100000) (w : World) : KB 18 #[.agg #[.int .i64 k, .int .i64 line, .string (str tx)]] (.bool (formT k tx)) w := by
  unfold formT
  by_cases h1 : k = 1
  · subst h1
    rw [if_pos rfl]
    cases tx with
    | nil => exact form_empty line _ rfl w
    | cons c r =>
      have h0 : 0 < (str (c :: r)).size := by rw [str_size]; simp
      rw [decide_eq_true (show 0 < (c :: r).length by simp), Bool.true_and]
      by_cases h12 : (c :: r).length ≤ 12
      · rw [decide_eq_true h12, Bool.true_and]
        have hlc : ∀ w, Calls Tryd.prog 33 #[.int .u8 (((str (c :: r))[0]'h0).toNat : Int)] w fun e w' => e = .returned (.bool (isLc c)) ∧ w = w' := fun w => rletter_any _ w
        show KB 18 _ (.bool ((some (isLc c) == some true) && _)) w
        cases hc : isLc c
        · rw [hc] at hlc
          exact form_head line _ h0 (by rw [str_size]; exact h12) hlc w
        · rw [hc] at hlc
          rw [show (some true == some true) = true from rfl, Bool.true_and]
          have hr := run_list (c :: r) (by omega)
          by_cases hn : ((c :: r).takeWhile isPt).length = (c :: r).length
          · have b1 : (((c :: r).takeWhile isPt).length == (c :: r).length) = true := by simpa using hn
            rw [b1, Bool.true_and]
            exact form_name line _ _ _ h0 (by rw [str_size]; exact h12) hlc hr (by rw [str_size, beq_iff_eq]; omega) (by rw [str_size]; exact b1) (fun w => rword_any (c :: r) w) w
          · have b1 : (((c :: r).takeWhile isPt).length == (c :: r).length) = false := beq_eq_false_iff_ne.2 hn
            rw [b1, Bool.false_and]
            exact form_run line _ _ h0 (by rw [str_size]; exact h12) hlc hr (by rw [str_size, beq_eq_false_iff_ne]; omega) (by rw [str_size]; exact b1) w
      · rw [decide_eq_false h12, Bool.false_and]
        exact form_long line _ h0 (by rw [str_size]; omega) (by rw [str_size]; omega) w
  · rw [if_neg h1]
    by_cases h2 : k = 2
    · subst h2
      rw [if_pos rfl]
      exact form_int line _ _ _ (rint_any tx (by omega)) rfl w
    · rw [if_neg h2]
      by_cases h3 : k = 3
      · subst h3
        rw [if_pos rfl]
        exact form_str line _ _ (plain_list tx (by omega)) w
      · rw [if_neg h3]
        by_cases h4 : k = 4
        · subst h4
          rw [if_pos rfl]
          exact form_mark line tx w
        · rw [if_neg h4]
          by_cases h5 : k = 5
          · subst h5
            rw [if_pos rfl]
            exact form_word line _ _ (fun w => rword_any tx w) w
          · rw [if_neg h5]
            have key : ∀ n : Int, k ≠ n → (k == n) = false := fun n h => by simpa using h
            exact form_no k line _ (key 3 h3) (key 1 h1) (key 2 h2) (key 4 h4) (key 5 h5) w
end Go.Proofs.YtpddneplkbdedaaDoor
