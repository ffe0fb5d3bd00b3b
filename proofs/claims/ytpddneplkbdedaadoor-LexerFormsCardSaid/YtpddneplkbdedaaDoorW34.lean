/- Plain: joined tokens are tokenized to the same tokens; the tokens of a text are valid. -/
import Derived.Test.YtpddneplkbdedaaDoorW33
namespace Go.Proofs.YtpddneplkbdedaaDoor
open Go.RowKit
set_option linter.unusedVariables false
set_option linter.unusedSimpArgs false

def tokTx (k : Int) (tx : List UInt8) : List UInt8 := if k = 3 then 34 :: (tx ++ [34]) else tx
def pieces : Bool → Int → List Tk → List UInt8
  | _, _, [] => []
  | b, line, t :: ts => piece b line t ++ pieces true t.2.1 ts
def Blank (l : List UInt8) : Prop := l = [] ∨ ∃ c r, l = c :: r ∧ (c = 10 ∨ c = 32)

theorem joinB_ok (ts : List Tk) : ∀ b line acc s, acc.length ≤ 4096 → joinB b line acc ts = (s, 0) → s = acc ++ pieces b line ts ∧ s.length ≤ 4096 := by
  induction ts with
  | nil =>
    intro b line acc s h hj
    rw [joinB] at hj
    injection hj with hj _
    subst hj
    exact ⟨by simp [pieces], h⟩
  | cons t ts ih =>
    intro b line acc s h hj
    rw [joinB] at hj
    by_cases hg : 4096 < t.2.1 - line
    · rw [if_pos hg] at hj; injection hj with _ hj; exact absurd hj (by decide)
    · rw [if_neg hg] at hj
      by_cases hl : 4096 < (acc ++ piece b line t).length
      · rw [if_pos hl] at hj; injection hj with _ hj; exact absurd hj (by decide)
      · rw [if_neg hl] at hj
        obtain ⟨h1, h2⟩ := ih _ _ _ _ (by omega) hj
        refine ⟨?_, h2⟩
        rw [h1, pieces, List.append_assoc]
theorem joinB_err (ts : List Tk) : ∀ b line acc, (joinB b line acc ts).2 = 0 ∨ joinB b line acc ts = ([], 2) := by
  induction ts with
  | nil => intro b line acc; exact Or.inl rfl
  | cons t ts ih =>
    intro b line acc
    rw [joinB]
    by_cases hg : 4096 < t.2.1 - line
    · rw [if_pos hg]; exact Or.inr rfl
    · rw [if_neg hg]
      by_cases hl : 4096 < (acc ++ piece b line t).length
      · rw [if_pos hl]; exact Or.inr rfl
      · rw [if_neg hl]; exact ih _ _ _

theorem pre_blank (p : List UInt8) : ∀ (m : List UInt8) (c : UInt8) (r : List UInt8), (∀ x ∈ p, x ≠ c) → p.isPrefixOf (m ++ c :: r) = p.isPrefixOf m := by
  induction p with
  | nil => intro m c r _; simp
  | cons x p ih =>
    intro m c r h
    cases m with
    | nil =>
      have hx : (x == c) = false := by simpa using h x (by simp)
      simp [List.isPrefixOf, hx]
    | cons y m =>
      rw [List.cons_append]
      simp only [List.isPrefixOf]
      rw [ih m c r fun z hz => h z (by simp [hz])]
theorem marks_noblank : ∀ m ∈ marksL, ∀ x ∈ m, x ≠ 10 ∧ x ≠ 32 := by decide +kernel
theorem firstPre_blank (m : List UInt8) (c : UInt8) (r : List UInt8) (hc : c = 10 ∨ c = 32) : firstPre marksL (m ++ c :: r) = firstPre marksL m := by
  unfold firstPre
  congr 1
  have key : ∀ L : List (List UInt8), (∀ p ∈ L, ∀ x ∈ p, x ≠ 10 ∧ x ≠ 32) → L.find? (fun p => Lib.hasPrefix (m ++ c :: r) p) = L.find? (fun p => Lib.hasPrefix m p) := by
    intro L
    induction L with
    | nil => intro _; rfl
    | cons p L ih =>
      intro h
      have hp : Lib.hasPrefix (m ++ c :: r) p = Lib.hasPrefix m p := pre_blank p m c r fun x hx e => by
        have := h p (by simp) x hx
        rcases hc with hc | hc
        · exact this.1 (e.trans hc)
        · exact this.2 (e.trans hc)
      rw [List.find?_cons, List.find?_cons, hp, ih fun q hq => h q (by simp [hq])]
  exact key _ marks_noblank

theorem tw_blank (l : List UInt8) (h : l.takeWhile isPt = l) (rest : List UInt8) (hr : Blank rest) : (l ++ rest).takeWhile isPt = l := by
  have ha : l.all isPt = true := by rw [← h]; exact List.all_takeWhile
  rcases hr with rfl | ⟨c, r, rfl, hc⟩
  · rw [List.append_nil]; exact h
  · refine tw_eq isPt l r c ha ?_
    rcases hc with rfl | rfl <;> decide

theorem next_str_tail (tx rest : List UInt8) (h : tx.all isPr = true) : nextT (34 :: (tx ++ 34 :: rest)) = (3, tx, tx.length + 2, 0) := by
  unfold nextT
  dsimp only
  have ht : (tx ++ 34 :: rest).takeWhile isPr = tx := tw_eq isPr tx rest 34 h (by decide)
  rw [if_neg (by decide), if_neg (by decide), if_pos rfl, ht, if_pos (by simp)]

theorem next_tail (k : Int) (tx rest : List UInt8) (h : nextT tx = (k, tx, tx.length, 0)) (hne : tx ≠ []) (hr : Blank rest) : nextT (tx ++ rest) = (k, tx, tx.length, 0) := by
  cases tx with
  | nil => exact absurd rfl hne
  | cons c r =>
    have hw := h
    unfold nextT at hw
    dsimp only at hw
    rw [List.cons_append]
    unfold nextT
    dsimp only
    rw [← List.cons_append]
    by_cases h2 : isLc c = true
    · rw [if_pos h2] at hw ⊢
      have e : (c :: r).takeWhile isPt = c :: r := by
        split at hw
        · injection hw with _ hw; injection hw
        · split at hw
          · injection hw with _ hw; injection hw with hw; exact absurd hw.symm (List.cons_ne_nil _ _)
          · injection hw with _ hw; injection hw
      rw [tw_blank _ e _ hr]
      rw [e] at hw
      exact hw
    · rw [if_neg h2] at hw ⊢
      by_cases h3 : isDg c = true
      · rw [if_pos h3] at hw ⊢
        have e : (c :: r).takeWhile isPt = c :: r := by injection hw with _ hw; injection hw
        rw [tw_blank _ e _ hr]
        rw [e] at hw
        exact hw
      · rw [if_neg h3] at hw ⊢
        by_cases h4 : c = 34
        · rw [if_pos h4] at hw
          exfalso
          split at hw
          · have e : r.takeWhile isPr = c :: r := by injection hw with _ hw; injection hw
            have h6 := congrArg List.length e
            have h7 := tw_len isPr r
            rw [List.length_cons] at h6
            omega
          · injection hw with _ hw; injection hw with hw; exact absurd hw.symm (List.cons_ne_nil _ _)
        · rw [if_neg h4] at hw ⊢
          have hf : firstPre marksL ((c :: r) ++ rest) = firstPre marksL (c :: r) := by
            rcases hr with rfl | ⟨d, q, rfl, hd⟩
            · rw [List.append_nil]
            · exact firstPre_blank _ _ _ hd
          rw [hf]
          exact hw

theorem skip_head (c : UInt8) (r : List UInt8) (h10 : c ≠ 10) (h32 : c ≠ 32) (h9 : c ≠ 9) (h35 : c ≠ 35) : skip false (c :: r) = 0 := by
  rw [skip, if_neg h10, if_neg (by simp [h32, h9]), if_neg h35]
theorem mark_heads : ∀ m ∈ marksL, ∀ c ∈ [(10 : UInt8), 32, 9, 35], m ≠ [] ∧ m.head? ≠ some c := by decide +kernel
theorem next_blank (c : UInt8) (r : List UInt8) (hc : c ∈ [(10 : UInt8), 32, 9, 35]) : nextT (c :: r) = (0, [], 0, 5) := by
  have hf : firstPre marksL (c :: r) = [] := by
    unfold firstPre
    rw [List.find?_eq_none.2]
    · rfl
    · intro m hm hp
      obtain ⟨h1, h2⟩ := mark_heads m hm c hc
      obtain ⟨x, q, rfl⟩ : ∃ x q, m = x :: q := by
        cases m with
        | nil => exact absurd rfl h1
        | cons x q => exact ⟨x, q, rfl⟩
      obtain ⟨h3, h4⟩ := pre_true _ _ hp
      rw [List.length_cons, List.take_succ_cons] at h4
      injection h4 with h4 _
      rw [← h4] at h2
      exact h2 rfl
  have key : ∀ c ∈ [(10 : UInt8), 32, 9, 35], isLc c = false ∧ isDg c = false ∧ c ≠ 34 := by decide +kernel
  obtain ⟨k1, k2, k3⟩ := key c hc
  unfold nextT
  dsimp only
  rw [if_neg (by rw [k1]; decide), if_neg (by rw [k2]; decide), if_neg k3, if_pos hf]
theorem valid_next_ok (k : Int) (tx : List UInt8) (hk : k ≠ 3) (h : validT k tx = true) : tx ≠ [] ∧ nextT tx = (k, tx, tx.length, 0) := by
  unfold validT at h
  rw [if_neg hk] at h
  by_cases hkk : k = 1 ∨ k = 2 ∨ k = 4 ∨ k = 5
  · rw [if_pos hkk] at h
    by_cases he : tx = []
    · rw [if_pos he] at h; cases h
    · rw [if_neg he] at h
      exact ⟨he, (whole_iff k tx).1 h⟩
  · rw [if_neg hkk] at h; cases h

/-- A valid token at the beginning of a text that goes on with a blank. -/
theorem tok_tail (k : Int) (tx rest : List UInt8) (h : validT k tx = true) (hr : Blank rest) :
    nextT (tokTx k tx ++ rest) = (k, tx, (tokTx k tx).length, 0) ∧ ∃ c r, tokTx k tx = c :: r ∧ c ≠ 10 ∧ c ≠ 32 ∧ c ≠ 9 ∧ c ≠ 35 := by
  unfold tokTx
  by_cases hk : k = 3
  · subst hk
    rw [if_pos rfl]
    unfold validT at h
    rw [if_pos rfl] at h
    refine ⟨?_, 34, tx ++ [34], rfl, by decide, by decide, by decide, by decide⟩
    have := next_str_tail tx rest h
    rw [List.cons_append, List.append_assoc, List.singleton_append, this]
    simp
  · rw [if_neg hk]
    obtain ⟨hne, hn⟩ := valid_next_ok k tx hk h
    refine ⟨next_tail k tx rest hn hne hr, ?_⟩
    cases tx with
    | nil => exact absurd rfl hne
    | cons c r =>
      have key : ∀ d ∈ [(10 : UInt8), 32, 9, 35], c ≠ d := fun d hd e => by
        subst e
        rw [next_blank c r hd] at hn
        injection hn with _ hn
        injection hn with hn
        exact absurd hn.symm (List.cons_ne_nil _ _)
      exact ⟨c, r, rfl, key 10 (by simp), key 32 (by simp), key 9 (by simp), key 35 (by simp)⟩

theorem skip_lines (g : Nat) (l : List UInt8) : skip false (List.replicate g 10 ++ l) = g + skip false l := by
  induction g with
  | zero => simp
  | succ g ih => rw [List.replicate_succ, List.cons_append, skip, if_pos rfl, ih]; omega
theorem count_lines (g : Nat) (l : List UInt8) (n : Nat) : Lib.countByte ((List.replicate g 10 ++ l).take (g + n)) 10 = g + Lib.countByte (l.take n) 10 := by
  unfold Lib.countByte
  have h1 : (List.replicate g (10 : UInt8) ++ l).take (g + n) = List.replicate g 10 ++ l.take n := by
    have := List.take_length_add_append (l₁ := List.replicate g (10 : UInt8)) (l₂ := l) (i := n)
    rw [List.length_replicate] at this
    exact this
  rw [h1, List.count_append]
  simp

theorem tokF_piece (f : Nat) (b : Bool) (line : Int) (t : Tk) (rest : List UInt8) (acc : List Tk) (hv : validT t.1 t.2.2 = true) (hl : line ≤ t.2.1) (hr : Blank rest) :
    tokF (f + 1) line (piece b line t ++ rest) acc = tokF f t.2.1 rest (acc ++ [t]) := by
  obtain ⟨k, ln, tx⟩ := t
  dsimp only at hv hl ⊢
  obtain ⟨hn, c, r, hc, c10, c32, c9, c35⟩ := tok_tail k tx rest hv hr
  have hp : piece b line (k, ln, tx) = List.replicate (ln - line).toNat 10 ++ ((if b && ln == line then [32] else []) ++ tokTx k tx) := by
    unfold piece tokTx
    rw [List.append_assoc]
  obtain ⟨g, hg⟩ : ∃ g, (ln - line).toNat = g := ⟨_, rfl⟩
  have hgl : line + (g : Int) = ln := by omega
  rw [hp, hg]
  have hs0 : skip false (tokTx k tx ++ rest) = 0 := by rw [hc, List.cons_append]; exact skip_head _ _ c10 c32 c9 c35
  obtain ⟨S, hS⟩ : ∃ S, (if b && ln == line then [32] else ([] : List UInt8)) = S := ⟨_, rfl⟩
  have hSs : skip false (S ++ (tokTx k tx ++ rest)) = S.length ∧ Lib.countByte ((S ++ (tokTx k tx ++ rest)).take S.length) 10 = 0 ∧ (S ++ (tokTx k tx ++ rest)).drop S.length = tokTx k tx ++ rest := by
    by_cases hb : (b && ln == line) = true
    · rw [if_pos hb] at hS
      subst hS
      refine ⟨?_, rfl, rfl⟩
      show skip false (32 :: (tokTx k tx ++ rest)) = 1
      rw [skip, if_neg (by decide), if_pos (by decide), hs0]
    · rw [if_neg hb] at hS
      subst hS
      exact ⟨hs0, rfl, rfl⟩
  obtain ⟨q1, q2, q3⟩ := hSs
  rw [hS, List.append_assoc, List.append_assoc]
  have hsk : skip false (List.replicate g 10 ++ (S ++ (tokTx k tx ++ rest))) = g + S.length := by rw [skip_lines, q1]
  have hcn : Lib.countByte ((List.replicate g 10 ++ (S ++ (tokTx k tx ++ rest))).take (g + S.length)) 10 = g := by rw [count_lines, q2]; omega
  have hdr : (List.replicate g 10 ++ (S ++ (tokTx k tx ++ rest))).drop (g + S.length) = tokTx k tx ++ rest := by
    have := List.drop_length_add_append (l₁ := List.replicate g (10 : UInt8)) (l₂ := S ++ (tokTx k tx ++ rest)) (i := S.length)
    rw [List.length_replicate] at this
    rw [this, q3]
  rw [tokF, hsk, hcn, hdr]
  rw [if_neg (by rw [hc]; exact List.cons_ne_nil _ _), hn]
  dsimp only
  rw [if_pos rfl, hgl]
  congr 1
  exact List.drop_left

theorem pieces_blank (line : Int) (ts : List Tk) (h : okT line ts = true) : Blank (pieces true line ts) := by
  cases ts with
  | nil => exact Or.inl rfl
  | cons t ts =>
    right
    rw [okT, Bool.and_eq_true, Bool.and_eq_true] at h
    have hle : line ≤ t.2.1 := by
      have := h.1.2
      simp at this
      omega
    rw [pieces]
    unfold piece
    by_cases hq : t.2.1 = line
    · have : (true && t.2.1 == line) = true := by simpa using hq
      rw [this, if_pos rfl, hq, Int.sub_self]
      exact ⟨32, _, rfl, Or.inr rfl⟩
    · obtain ⟨g, hg⟩ : ∃ g, (t.2.1 - line).toNat = g + 1 := ⟨(t.2.1 - line).toNat - 1, by omega⟩
      rw [hg, List.replicate_succ]
      exact ⟨10, _, rfl, Or.inl rfl⟩

theorem tokF_pieces (ts : List Tk) : ∀ (f : Nat) (b : Bool) (line : Int) (acc : List Tk), ts.length < f → okT line ts = true → tokF f line (pieces b line ts) acc = (acc ++ ts, 0, 0) := by
  induction ts with
  | nil =>
    intro f b line acc hf _
    obtain ⟨f, rfl⟩ : ∃ g, f = g + 1 := ⟨f - 1, by simp at hf; omega⟩
    rw [pieces, tokF]
    simp
  | cons t ts ih =>
    intro f b line acc hf hok
    obtain ⟨f, rfl⟩ : ∃ g, f = g + 1 := ⟨f - 1, by simp at hf; omega⟩
    rw [okT, Bool.and_eq_true, Bool.and_eq_true] at hok
    have hle : line ≤ t.2.1 := by
      have := hok.1.2
      simp at this
      omega
    rw [pieces, tokF_piece f b line t _ acc hok.1.1 hle (pieces_blank _ _ hok.2), ih f true t.2.1 (acc ++ [t]) (by simp at hf; omega) hok.2]
    simp

theorem pieces_len (ts : List Tk) : ∀ (b : Bool) (line : Int), okT line ts = true → ts.length ≤ (pieces b line ts).length := by
  induction ts with
  | nil => intro b line _; simp
  | cons t ts ih =>
    intro b line hok
    rw [okT, Bool.and_eq_true, Bool.and_eq_true] at hok
    have := ih true t.2.1 hok.2
    obtain ⟨_, c, r, hc, _⟩ := tok_tail t.1 t.2.2 [] hok.1.1 (Or.inl rfl)
    rw [pieces, List.length_append, List.length_cons]
    have h1 : 1 ≤ (piece b line t).length := by
      unfold piece
      unfold tokTx at hc
      rw [hc]
      simp
      omega
    omega

/-- The theorem of the round trip. -/
theorem join_round (ts : List Tk) (s : List UInt8) (h : joinL ts = (s, 0)) : tokL s = (ts, 0, 0) := by
  unfold joinL at h
  by_cases hok : okT 1 ts = true
  · rw [if_pos hok] at h
    obtain ⟨h1, h2⟩ := joinB_ok ts false 1 [] s (by simp) h
    rw [List.nil_append] at h1
    unfold tokL
    rw [if_neg (by omega), h1]
    have := pieces_len ts false 1 hok
    have := tokF_pieces ts ((pieces false 1 ts).length + 1) false 1 [] (by omega) hok
    rw [this, List.nil_append]
  · rw [if_neg hok] at h
    injection h with _ h
    exact absurd h (by decide)
theorem join_err (ts : List Tk) (h : (joinL ts).2 ≠ 0) : (joinL ts).1 = [] := by
  unfold joinL at h ⊢
  by_cases hok : okT 1 ts = true
  · rw [if_pos hok] at h ⊢
    rcases joinB_err ts false 1 [] with h1 | h1
    · exact absurd h1 h
    · rw [h1]
  · rw [if_neg hok]
theorem join_lim (ts : List Tk) (hok : okT 1 ts = true) (h : (joinL ts).2 ≠ 0) : (joinL ts).2 = 2 := by
  unfold joinL at h ⊢
  rw [if_pos hok] at h ⊢
  rcases joinB_err ts false 1 [] with h1 | h1
  · exact absurd h1 h
  · rw [h1]

/-- A token that next returns is valid. -/
theorem next_valid (l : List UInt8) (hne : l ≠ []) (h : (nextT l).2.2.2 = 0) : validT (nextT l).1 (nextT l).2.1 = true := by
  rw [← form_valid]
  cases l with
  | nil => exact absurd rfl hne
  | cons c r =>
    unfold nextT at h ⊢
    dsimp only at h ⊢
    have hpt : ∀ p, p = (c :: r).takeWhile isPt → p.takeWhile isPt = p := fun p hp => by
      apply all_take
      rw [hp]
      exact List.all_takeWhile
    by_cases h2 : isLc c = true
    · rw [if_pos h2] at h ⊢
      have hpc : (c :: r).takeWhile isPt = c :: r.takeWhile isPt := by rw [List.takeWhile_cons, if_pos (part_lc c h2)]
      by_cases h3 : isWord ((c :: r).takeWhile isPt) = true
      · rw [if_pos h3]; exact h3
      · rw [if_neg h3] at h ⊢
        by_cases h4 : 12 < ((c :: r).takeWhile isPt).length
        · rw [if_pos h4] at h; exact absurd h (by decide)
        · rw [if_neg h4]
          have hp := hpt _ rfl
          show (decide (0 < ((c :: r).takeWhile isPt).length) && (decide (((c :: r).takeWhile isPt).length ≤ 12) && ((((c :: r).takeWhile isPt).head?.map isLc == some true) && (((((c :: r).takeWhile isPt).takeWhile isPt).length == ((c :: r).takeWhile isPt).length) && !isWord ((c :: r).takeWhile isPt))))) = true
          rw [hp]
          have hw : isWord ((c :: r).takeWhile isPt) = false := by simpa using h3
          rw [hw, decide_eq_true (show ((c :: r).takeWhile isPt).length ≤ 12 by omega)]
          have hh : (((c :: r).takeWhile isPt).head?.map isLc == some true) = true := by rw [hpc]; show (some (isLc c) == some true) = true; rw [h2]; rfl
          rw [hh, decide_eq_true (by rw [hpc]; simp)]
          simp
    · rw [if_neg h2] at h ⊢
      by_cases h3 : isDg c = true
      · rw [if_pos h3] at h ⊢
        show (intE _ == 0) = true
        simpa using h
      · rw [if_neg h3] at h ⊢
        by_cases h4 : c = 34
        · rw [if_pos h4] at h ⊢
          by_cases h5 : r[(r.takeWhile isPr).length]? = some 34
          · rw [if_pos h5]
            exact List.all_takeWhile
          · rw [if_neg h5] at h; exact absurd h (by decide)
        · rw [if_neg h4] at h ⊢
          by_cases h5 : firstPre marksL (c :: r) = []
          · rw [if_pos h5] at h; exact absurd h (by decide)
          · rw [if_neg h5]
            show marksL.contains _ = true
            unfold firstPre at h5 ⊢
            cases hm : marksL.find? (fun m => Lib.hasPrefix (c :: r) m) with
            | none => rw [hm] at h5; exact absurd rfl h5
            | some m =>
              have := List.mem_of_find?_eq_some hm
              simpa using this

def lastL (a : Int) (ts : List Tk) : Int := ts.foldl (fun _ t => t.2.1) a
theorem okT_snoc (ts : List Tk) : ∀ (a : Int) (t : Tk), okT a (ts ++ [t]) = (okT a ts && (validT t.1 t.2.2 && !decide (t.2.1 < lastL a ts))) := by
  induction ts with
  | nil => intro a t; rw [List.nil_append, okT, okT, okT, Bool.and_true, Bool.true_and]; rfl
  | cons x ts ih =>
    intro a t
    rw [List.cons_append, okT, okT, ih x.2.1 t, ← Bool.and_assoc]
    rfl

theorem tokF_ok (f : Nat) : ∀ (line : Int) (l : List UInt8) (acc R : List Tk) (ln : Int), okT 1 acc = true → lastL 1 acc ≤ line → tokF f line l acc = (R, ln, 0) → okT 1 R = true ∧ ln = 0 := by
  induction f with
  | zero =>
    intro line l acc R ln _ _ h
    rw [tokF] at h
    injection h with h h2
    injection h2 with h2 _
    exact ⟨by rw [← h]; rfl, h2.symm⟩
  | succ f ih =>
    intro line l acc R ln hok hle h
    rw [tokF] at h
    by_cases he : l.drop (skip false l) = []
    · rw [if_pos he] at h
      injection h with h h2
      injection h2 with h2 _
      exact ⟨by rw [← h]; exact hok, h2.symm⟩
    · rw [if_neg he] at h
      by_cases h0 : (nextT (l.drop (skip false l))).2.2.2 = 0
      · rw [if_pos h0] at h
        refine ih _ _ _ R ln ?_ ?_ h
        · rw [okT_snoc, hok, next_valid _ he h0]
          dsimp only
          rw [decide_eq_false (by omega)]
          rfl
        · unfold lastL; rw [List.foldl_append]; exact Int.le_refl _
      · rw [if_neg h0] at h
        injection h with _ h
        injection h with _ h
        exact absurd h h0
theorem tokF_bad (f : Nat) : ∀ (line : Int) (l : List UInt8) (acc : List Tk), (tokF f line l acc).2.2 ≠ 0 → (tokF f line l acc).1 = [] := by
  induction f with
  | zero => intro line l acc h; rw [tokF]
  | succ f ih =>
    intro line l acc h
    rw [tokF] at h ⊢
    by_cases he : l.drop (skip false l) = []
    · rw [if_pos he] at h; exact absurd rfl h
    · rw [if_neg he] at h ⊢
      by_cases h0 : (nextT (l.drop (skip false l))).2.2.2 = 0
      · rw [if_pos h0] at h ⊢; exact ih _ _ _ h
      · rw [if_neg h0]
theorem tokL_ok (l : List UInt8) (h : (tokL l).2.2 = 0) : okT 1 (tokL l).1 = true ∧ (tokL l).2.1 = 0 := by
  unfold tokL at h ⊢
  by_cases hl : 4096 < l.length
  · rw [if_pos hl] at h; exact absurd h (by decide)
  · rw [if_neg hl] at h ⊢
    obtain ⟨⟨R, ln, er⟩, hR⟩ : ∃ R, tokF (l.length + 1) 1 l [] = R := ⟨_, rfl⟩
    rw [hR] at h ⊢
    dsimp only at h
    subst h
    exact tokF_ok _ 1 l [] R ln rfl (Int.le_refl _) hR
theorem tokL_bad (l : List UInt8) (h : (tokL l).2.2 ≠ 0) : (tokL l).1 = [] := by
  unfold tokL at h ⊢
  by_cases hl : 4096 < l.length
  · rw [if_pos hl]
  · rw [if_neg hl] at h ⊢; exact tokF_bad _ _ _ _ h
end Go.Proofs.YtpddneplkbdedaaDoor
