/- Plain: the text of a valid file is accepted, and says the file. -/
import Derived.Test.YtmiceolkmiiahaaGreatDoorP4
namespace Go.Proofs.YtmiceolkmiiahaaGreatDoor
open Go.RowKit
set_option linter.unusedVariables false
set_option linter.unusedSimpArgs false

theorem nxt_line (l r : List UInt8) (h : 10 ∉ l) : nxt (sp 10 (l ++ 10 :: r)) = some (l, sp 10 r) := by
  rw [sp_hit 10 l r h]
  cases hr : sp 10 r with
  | nil => exact absurd hr (sp_ne 10 r)
  | cons a b => rfl
theorem not_dd (c : UInt8) (h : c.toNat < 48) (n : Nat) : c ∉ Lib.decDigits n := fun hm => by
  have := dd_digits n c hm
  omega
theorem not_itoa (c : UInt8) (h : c.toNat < 48) (x : Int) (hx : 0 ≤ x) : c ∉ Lib.itoa x := by
  obtain ⟨n, rfl⟩ : ∃ n : Nat, x = (n : Int) := ⟨x.toNat, by omega⟩
  rw [dec_itoa]
  exact not_dd c h n
theorem numT_itoa (x : Int) (h : 0 ≤ x ∧ x ≤ 1000000) : numT (Lib.itoa x) = x := by
  obtain ⟨n, rfl⟩ : ∃ n : Nat, x = (n : Int) := ⟨x.toNat, by omega⟩
  rw [dec_itoa]
  exact numT_dec n (by omega)
theorem name_no (c : UInt8) (h : c.toNat < 48) (n : List UInt8) (hn : nameB (str n) = true) : c ∉ n := fun hm => by
  unfold nameB at hn
  simp only [Bool.and_eq_true, decide_eq_true_eq] at hn
  obtain ⟨k, hk, hkc⟩ := List.getElem_of_mem hm
  have h1 := hn.1 k hk
  rw [str_get n k hk, hkc] at h1
  unfold nmI at h1
  simp at h1
  omega
theorem first_of {n : List UInt8} {W H : Int} (hn : nameB (str n) = true) (hW : 1 ≤ W ∧ W ≤ 32) (hH : 1 ≤ H ∧ H ≤ 32) : ∃ l, headL n W H = l ++ [10] ∧ 10 ∉ l ∧ firstP l = some (n, W, H) := by
  refine ⟨wMap ++ 32 :: (n ++ 32 :: (Lib.itoa W ++ 32 :: Lib.itoa H)), by simp [headL, lineL, numsL, wMap, mapW], ?_, ?_⟩
  · simp only [List.mem_append, List.mem_cons, not_or]
    exact ⟨by decide, by decide, name_no 10 (by decide) n hn, by decide, not_itoa 10 (by decide) W (by omega), by decide, not_itoa 10 (by decide) H (by omega)⟩
  · unfold firstP
    rw [sp_hit 32 wMap _ (by decide), sp_hit 32 n _ (name_no 32 (by decide) n hn), sp_hit 32 _ _ (not_itoa 32 (by decide) W (by omega)), sp_none 32 _ (not_itoa 32 (by decide) H (by omega))]
    simp only []
    rw [numT_itoa W (by omega), numT_itoa H (by omega), if_pos ⟨trivial, hn, hW, hH⟩]
theorem start_of {x y : Int} (hx : 0 ≤ x ∧ x < 32) (hy : 0 ≤ y ∧ y < 32) : ∃ l, lineL startW [x, y] = l ++ [10] ∧ 10 ∉ l ∧ startP l = some ⟨x, y⟩ := by
  refine ⟨wStart ++ 32 :: (Lib.itoa x ++ 32 :: Lib.itoa y), by simp [lineL, numsL, wStart, startW], ?_, ?_⟩
  · simp only [List.mem_append, List.mem_cons, not_or]
    exact ⟨by decide, by decide, not_itoa 10 (by decide) x (by omega), by decide, not_itoa 10 (by decide) y (by omega)⟩
  · unfold startP
    rw [sp_hit 32 wStart _ (by decide), sp_hit 32 _ _ (not_itoa 32 (by decide) x (by omega)), sp_none 32 _ (not_itoa 32 (by decide) y (by omega))]
    simp only []
    rw [numT_itoa x (by omega), numT_itoa y (by omega), if_pos ⟨trivial, hx, hy⟩]
theorem amt_of {W a : Int} {i : Nat} (hW : 1 ≤ W) (hi : i ≤ 1000000) (ha : 1 ≤ a ∧ a ≤ 1000000) : ∃ l, lineL amountW [(i : Int) % W, (i : Int) / W, a] = l ++ [10] ∧ 10 ∉ l ∧ amtP W i l = some a := by
  have q1 : 0 ≤ (i : Int) % W := Int.emod_nonneg _ (by omega)
  have q2 : (i : Int) % W ≤ i := by
    obtain ⟨m, rfl⟩ : ∃ m : Nat, W = (m : Int) := ⟨W.toNat, by omega⟩
    rw [← Int.natCast_emod]
    have := Nat.mod_le i m
    omega
  have q3 : 0 ≤ (i : Int) / W := Int.ediv_nonneg (by omega) (by omega)
  have q4 : (i : Int) / W ≤ i := Int.ediv_le_self _ (by omega)
  refine ⟨wAmount ++ 32 :: (Lib.itoa ((i : Int) % W) ++ 32 :: (Lib.itoa ((i : Int) / W) ++ 32 :: Lib.itoa a)), by simp [lineL, numsL, wAmount, amountW], ?_, ?_⟩
  · simp only [List.mem_append, List.mem_cons, not_or]
    exact ⟨by decide, by decide, not_itoa 10 (by decide) _ q1, by decide, not_itoa 10 (by decide) _ q3, by decide, not_itoa 10 (by decide) a (by omega)⟩
  · unfold amtP
    rw [sp_hit 32 wAmount _ (by decide), sp_hit 32 _ _ (not_itoa 32 (by decide) _ q1), sp_hit 32 _ _ (not_itoa 32 (by decide) _ q3), sp_none 32 _ (not_itoa 32 (by decide) a (by omega))]
    simp only []
    rw [numT_itoa _ (by omega), numT_itoa _ (by omega), numT_itoa a (by omega), if_pos ⟨trivial, rfl, rfl, ha.1⟩]
theorem starts_back (n : List UInt8) (W H : Int) (cs : List Cel) : ∀ (q : List Po) (a : Nat) (ps : List Po), (∀ p ∈ q, (0 ≤ p.x ∧ p.x < 32) ∧ (0 ≤ p.y ∧ p.y < 32)) → sStarts n W H cs (sp 10 (startsL q)) a ps = fin n W H cs (ps ++ q)
  | [], a, ps, h => by rw [List.append_nil]; exact starts_fin n W H cs ps a
  | p :: q, a, ps, h => by
    obtain ⟨h1, h2⟩ := h p (by simp)
    obtain ⟨l, e1, e2, e3⟩ := start_of h1 h2
    have e : startsL (p :: q) = l ++ 10 :: startsL q := by
      show lineL startW [p.x, p.y] ++ startsL q = _
      rw [e1]; simp
    rw [e, starts_next n W H cs ps a _ l _ (nxt_line l _ e2), e3]
    simp only []
    have ih := starts_back n W H cs q (a + 1) (ps ++ [p]) (fun x hx => h x (by simp [hx]))
    rw [List.append_assoc] at ih
    exact ih
def zA (c : Cel) : Cel := ⟨c.k, c.h, 0⟩
def zHA (c : Cel) : Cel := ⟨c.k, 0, 0⟩
theorem amts_back (n : List UInt8) (W H : Int) (hW : 1 ≤ W) (R : List UInt8) : ∀ (q pre : List Cel) (a : Nat), (∀ c ∈ q, celB c = true) → pre.length + q.length ≤ 1000000 →
    ∃ a', sAmts n W H q.length pre.length (pre ++ q.map zA) (sp 10 (amountsL W pre.length q ++ R)) a = sStarts n W H (pre ++ q) (sp 10 R) a' []
  | [], pre, a, h, hl => ⟨a, rfl⟩
  | c :: q, pre, a, h, hl => by
    have hc := h c (by simp)
    have hq := fun x hx => h x (List.mem_cons_of_mem c hx)
    rw [List.length_cons] at hl
    have hg : (pre ++ (c :: q).map zA)[pre.length]? = some (zA c) := by rw [List.getElem?_append_right (Nat.le_refl _)]; simp
    unfold celB at hc
    simp only [Bool.and_eq_true, decide_eq_true_eq, beq_iff_eq] at hc
    obtain ⟨⟨_, ha0⟩, hrc⟩ := hc
    by_cases hr : richB c.k = true
    · rw [hr] at hrc
      have ha1 : 0 < c.a := by simpa using hrc
      obtain ⟨l, e1, e2, e3⟩ := amt_of (i := pre.length) (a := c.a) hW (by omega) ⟨by omega, ha0⟩
      have e : amountsL W pre.length (c :: q) ++ R = l ++ 10 :: (amountsL W (pre.length + 1) q ++ R) := by
        rw [amountsL, if_pos hr, e1]; simp
      obtain ⟨a', ih⟩ := amts_back n W H hW R q (pre ++ [c]) (a + 1) hq (by simp; omega)
      refine ⟨a', ?_⟩
      rw [e, List.length_cons, amts_ok n W H q.length pre.length _ _ _ l a (zA c) c.a hg hr (nxt_line l _ e2) e3]
      have es : (pre ++ (c :: q).map zA).set pre.length ⟨(zA c).k, (zA c).h, c.a⟩ = pre ++ [c] ++ q.map zA := by
        rw [List.set_append_right _ _ (Nat.le_refl _)]
        simp [zA]
      rw [es]
      rw [List.length_append, List.length_singleton] at ih
      rw [ih]
      simp
    · replace hr : richB c.k = false := by simpa using hr
      rw [hr] at hrc
      have ha1 : c.a = 0 := by
        have h1 : ¬ 0 < c.a := by simpa using hrc
        obtain ⟨_, h2⟩ : True ∧ 0 ≤ c.a := ⟨trivial, by have := h c (by simp); unfold celB at this; simp only [Bool.and_eq_true, decide_eq_true_eq] at this; exact this.1.1.2⟩
        omega
      have ez : zA c = c := by unfold zA; rw [← ha1]
      obtain ⟨a', ih⟩ := amts_back n W H hW R q (pre ++ [c]) a hq (by simp; omega)
      refine ⟨a', ?_⟩
      have e : amountsL W pre.length (c :: q) ++ R = amountsL W (pre.length + 1) q ++ R := by
        rw [amountsL, hr]; simp
      rw [e, List.length_cons, amts_no n W H q.length pre.length _ _ a (zA c) hg hr]
      rw [List.length_append, List.length_singleton] at ih
      have es : pre ++ (c :: q).map zA = pre ++ [c] ++ q.map zA := by rw [List.map_cons, ez]; simp
      rw [es, ih]
      simp
theorem highC_ok {c : Cel} (h : 0 ≤ c.h ∧ c.h ≤ 3) : isHigh (highC c) = true ∧ highI (highC c) = c.h ∧ highC c ≠ 10 := by
  have hv := highC_val c h
  refine ⟨?_, ?_, fun e => ?_⟩
  · unfold isHigh; simp; omega
  · unfold highI; omega
  · rw [e] at hv
    have : ((10 : UInt8).toNat : Int) = 10 := rfl
    omega
theorem kindC_ok {c : Cel} (h : 1 ≤ c.k ∧ c.k ≤ 5) : isKind (kindC c) = true ∧ kindI (kindC c) = c.k ∧ kindC c ≠ 10 := by
  obtain ⟨k, hh, a⟩ := c
  dsimp only at h
  obtain rfl | rfl | rfl | rfl | rfl : k = 1 ∨ k = 2 ∨ k = 3 ∨ k = 4 ∨ k = 5 := by omega
  all_goals exact ⟨rfl, rfl, by show kindC ⟨_, 0, 0⟩ ≠ 10; decide⟩
theorem hset_row : ∀ (row pre post : List Cel), (∀ c ∈ row, 0 ≤ c.h ∧ c.h ≤ 3) → hset (pre ++ (row.map zHA ++ post)) pre.length (row.map highC) = pre ++ (row.map zA ++ post)
  | [], pre, post, _ => rfl
  | c :: row, pre, post, h => by
    have hg : (pre ++ ((c :: row).map zHA ++ post))[pre.length]? = some (zHA c) := by rw [List.getElem?_append_right (Nat.le_refl _)]; simp
    show hset (pre ++ ((c :: row).map zHA ++ post)) pre.length (highC c :: row.map highC) = _
    rw [hset, hg]
    simp only []
    have es : (pre ++ ((c :: row).map zHA ++ post)).set pre.length ⟨(zHA c).k, highI (highC c), (zHA c).a⟩ = (pre ++ [zA c]) ++ (row.map zHA ++ post) := by
      rw [List.set_append_right _ _ (Nat.le_refl _), (highC_ok (h c (by simp))).2.1]
      simp [zA, zHA]
    rw [es]
    have := hset_row row (pre ++ [zA c]) post (fun x hx => h x (by simp [hx]))
    rw [List.length_append, List.length_singleton] at this
    rw [this]
    simp
theorem celB_all {c : Cel} (h : celB c = true) : (1 ≤ c.k ∧ c.k ≤ 5) ∧ (0 ≤ c.h ∧ c.h ≤ 3) ∧ (0 ≤ c.a ∧ c.a ≤ 1000000) := by
  unfold celB at h
  simp only [Bool.and_eq_true, decide_eq_true_eq] at h
  obtain ⟨⟨⟨⟨⟨⟨h1, h2⟩, h3⟩, h4⟩, h5⟩, h6⟩, _⟩ := h
  exact ⟨⟨h1, h2⟩, ⟨h3, h4⟩, h5, h6⟩
theorem split_row (T : List Cel) (m : Nat) (h : m ≤ T.length) : T = T.take m ++ T.drop m ∧ (T.take m).length = m := ⟨(List.take_append_drop m T).symm, by rw [List.length_take]; omega⟩
theorem high_back (n : List UInt8) (m hh : Nat) (hm : 1 ≤ m) (R : List UInt8) : ∀ (f y : Nat) (T pre : List Cel) (a : Nat), hh = y + f → pre.length = y * m → T.length = f * m → (pre ++ T).length ≤ 1000000 → (∀ c ∈ pre ++ T, celB c = true) →
    ∃ a', sHigh n (m : Int) (hh : Int) f y (pre.map zA ++ T.map zHA) (sp 10 (rowsL highC (m : Int) (y * m) T ++ (amountsL (m : Int) 0 (pre ++ T) ++ R))) a = sStarts n (m : Int) (hh : Int) (pre ++ T) (sp 10 R) a' []
  | 0, y, T, pre, a, hy, hp, hT, hl, hc => by
    obtain rfl : T = [] := List.length_eq_zero_iff.1 (by omega)
    obtain ⟨a', h⟩ := amts_back n (m : Int) (hh : Int) (by omega) R pre [] a (fun c hcc => hc c (by simpa using hcc)) (by simpa using hl)
    refine ⟨a', ?_⟩
    simp only [List.append_nil, List.map_nil, rowsL, List.nil_append] at h ⊢
    rw [sHigh]
    rw [List.length_map]
    exact h
  | f + 1, y, T, pre, a, hy, hp, hT, hl, hc => by
    have hmT : m ≤ T.length := by rw [hT, Nat.succ_mul]; omega
    obtain ⟨e1, e2⟩ := split_row T m hmT
    obtain ⟨row, hrow⟩ : ∃ r, T.take m = r := ⟨_, rfl⟩
    obtain ⟨T2, hT2⟩ : ∃ r, T.drop m = r := ⟨_, rfl⟩
    rw [hrow, hT2] at e1
    rw [hrow] at e2
    subst e1
    have hrl : row ≠ [] := fun e => by rw [e] at e2; simp at e2; omega
    have hrc := fun c (hcr : c ∈ row) => (celB_all (hc c (by simp [hcr]))).2.1
    have ht := rowsL_part highC m y hm T2 row 0 hrl (by omega)
    rw [Nat.add_zero] at ht
    have h10 : 10 ∉ row.map highC := fun hm => by
      obtain ⟨c, hcr, hce⟩ := List.mem_map.1 hm
      exact (highC_ok (hrc c hcr)).2.2 hce
    obtain ⟨a', ih⟩ := high_back n m hh hm R f (y + 1) T2 (pre ++ row) (a + 1) (by omega) (by rw [List.length_append, hp, e2, Nat.succ_mul]) (by rw [List.length_append, e2, Nat.succ_mul] at hT; omega) (by simpa using hl) (fun c hcc => hc c (by simpa using hcc))
    refine ⟨a', ?_⟩
    rw [ht, sHigh_step]
    unfold lineS
    have en := nxt_line (row.map highC) (rowsL highC (m : Int) ((y + 1) * m) T2 ++ (amountsL (m : Int) 0 (pre ++ (row ++ T2)) ++ R)) h10
    rw [List.append_assoc, List.cons_append, en]
    simp only []
    rw [if_pos ⟨by rw [List.length_map, e2], List.all_eq_true.2 fun b hb => by obtain ⟨c, hcr, hce⟩ := List.mem_map.1 hb; rw [← hce]; exact (highC_ok (hrc c hcr)).1⟩, Int.toNat_natCast]
    have eh := hset_row row (pre.map zA) (T2.map zHA) hrc
    rw [List.length_map, hp] at eh
    rw [List.map_append, eh]
    rw [List.map_append, List.append_assoc, List.append_assoc] at ih
    rw [ih]
theorem kinds_back (n : List UInt8) (m hh : Nat) (hm : 1 ≤ m) (R : List UInt8) : ∀ (f y : Nat) (T pre : List Cel) (a : Nat), hh = y + f → pre.length = y * m → T.length = f * m → (pre ++ T).length ≤ 1000000 → (∀ c ∈ pre ++ T, celB c = true) →
    ∃ a', sKinds n (m : Int) (hh : Int) f (pre.map zHA) (sp 10 (rowsL kindC (m : Int) (y * m) T ++ (rowsL highC (m : Int) 0 (pre ++ T) ++ (amountsL (m : Int) 0 (pre ++ T) ++ R)))) a = sStarts n (m : Int) (hh : Int) (pre ++ T) (sp 10 R) a' []
  | 0, y, T, pre, a, hy, hp, hT, hl, hc => by
    obtain rfl : T = [] := List.length_eq_zero_iff.1 (by omega)
    have := high_back n m hh hm R hh 0 pre [] a (by omega) (by simp) (by rw [hp, hy, Nat.add_zero]) (by simpa using hl) (fun c hcc => hc c (by simpa using hcc))
    obtain ⟨a', h⟩ := this
    refine ⟨a', ?_⟩
    simp only [List.append_nil, List.map_nil, rowsL, List.nil_append, Nat.zero_mul] at h ⊢
    rw [sKinds, Int.toNat_natCast]
    exact h
  | f + 1, y, T, pre, a, hy, hp, hT, hl, hc => by
    have hmT : m ≤ T.length := by rw [hT, Nat.succ_mul]; omega
    obtain ⟨e1, e2⟩ := split_row T m hmT
    obtain ⟨row, hrow⟩ : ∃ r, T.take m = r := ⟨_, rfl⟩
    obtain ⟨T2, hT2⟩ : ∃ r, T.drop m = r := ⟨_, rfl⟩
    rw [hrow, hT2] at e1
    rw [hrow] at e2
    subst e1
    have hrl : row ≠ [] := fun e => by rw [e] at e2; simp at e2; omega
    have hrc := fun c (hcr : c ∈ row) => (celB_all (hc c (by simp [hcr]))).1
    have ht := rowsL_part kindC m y hm T2 row 0 hrl (by omega)
    rw [Nat.add_zero] at ht
    have h10 : 10 ∉ row.map kindC := fun hm => by
      obtain ⟨c, hcr, hce⟩ := List.mem_map.1 hm
      exact (kindC_ok (hrc c hcr)).2.2 hce
    obtain ⟨a', ih⟩ := kinds_back n m hh hm R f (y + 1) T2 (pre ++ row) (a + 1) (by omega) (by rw [List.length_append, hp, e2, Nat.succ_mul]) (by rw [List.length_append, e2, Nat.succ_mul] at hT; omega) (by simpa using hl) (fun c hcc => hc c (by simpa using hcc))
    refine ⟨a', ?_⟩
    rw [ht, sKinds_step]
    unfold lineS
    have en := nxt_line (row.map kindC) (rowsL kindC (m : Int) ((y + 1) * m) T2 ++ (rowsL highC (m : Int) 0 (pre ++ (row ++ T2)) ++ (amountsL (m : Int) 0 (pre ++ (row ++ T2)) ++ R))) h10
    rw [List.append_assoc, List.cons_append, en]
    simp only []
    rw [if_pos ⟨by rw [List.length_map, e2], List.all_eq_true.2 fun b hb => by obtain ⟨c, hcr, hce⟩ := List.mem_map.1 hb; rw [← hce]; exact (kindC_ok (hrc c hcr)).1⟩]
    have ek : kcs (row.map kindC) = row.map zHA := by
      unfold kcs
      rw [List.map_map]
      apply List.map_congr_left
      intro c hcr
      simp only [Function.comp, zHA]
      rw [(kindC_ok (hrc c hcr)).2.1]
    rw [ek, ← List.map_append]
    rw [List.append_assoc] at ih
    rw [ih]
end Go.Proofs.YtmiceolkmiiahaaGreatDoor
