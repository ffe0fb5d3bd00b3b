/- Plain: a text that is accepted is the text of what it says. -/
import Derived.Test.YtmiceolkmiiahaaGreatDoorW32
namespace Go.Proofs.YtmiceolkmiiahaaGreatDoor
open Go.RowKit
set_option linter.unusedVariables false
set_option linter.unusedSimpArgs false

def jn (c : UInt8) : List (List UInt8) → List UInt8
  | [] => []
  | [p] => p
  | p :: q :: L => p ++ c :: jn c (q :: L)
theorem jn_cons (c : UInt8) (p : List UInt8) (L : List (List UInt8)) (h : L ≠ []) : jn c (p :: L) = p ++ c :: jn c L := by
  cases L with
  | nil => exact absurd rfl h
  | cons q L => rfl
theorem jn_sp (c : UInt8) (s : List UInt8) : jn c (sp c s) = s := by
  induction hn : s.length using Nat.strongRecOn generalizing s with
  | ind n ih =>
    rcases sp_cases c s with ⟨h1, h2⟩ | ⟨l, r, h1, h2, h3⟩
    · rw [h2]; rfl
    · rw [h3, jn_cons c l _ (sp_ne c r), ih r.length (by rw [← hn, h1]; simp; omega) r rfl, ← h1]
theorem jn_nxt {L L' : List (List UInt8)} {l : List UInt8} (h : nxt L = some (l, L')) : jn 10 L = l ++ 10 :: jn 10 L' := by
  match L, h with
  | x :: y :: M, h =>
    simp only [nxt, Option.some.injEq, Prod.mk.injEq] at h
    obtain ⟨rfl, rfl⟩ := h
    rfl
  | [x], h => cases h
  | [], h => cases h
theorem num_itoa {s : List UInt8} (h : 0 ≤ numT s) : Lib.itoa (numT s) = s := by
  obtain ⟨n, _, h2, h3⟩ := numT_is s (by omega)
  rw [h3, dec_itoa, ← h2]
theorem first_text {l n : List UInt8} {W H : Int} (h : firstP l = some (n, W, H)) : l ++ [10] = headL n W H ∧ (1 ≤ W ∧ W ≤ 32) ∧ (1 ≤ H ∧ H ≤ 32) := by
  unfold firstP at h
  split at h
  · rename_i a b c d hs
    split at h
    · rename_i hc
      obtain ⟨rfl, h1, h2, h3⟩ := hc
      simp only [Option.some.injEq, Prod.mk.injEq] at h
      obtain ⟨rfl, rfl, rfl⟩ := h
      have hl := jn_sp 32 l
      rw [hs] at hl
      refine ⟨?_, h2, h3⟩
      rw [← hl]
      simp [jn, headL, lineL, numsL, num_itoa (show 0 ≤ numT c by omega), num_itoa (show 0 ≤ numT d by omega), wMap, mapW]
    · cases h
  · cases h
theorem start_text {l : List UInt8} {p : Po} (h : startP l = some p) : l ++ [10] = lineL startW [p.x, p.y] := by
  unfold startP at h
  split at h
  · rename_i a b c hs
    split at h
    · rename_i hc
      obtain ⟨rfl, h1, h2⟩ := hc
      simp only [Option.some.injEq] at h
      subst h
      have hl := jn_sp 32 l
      rw [hs] at hl
      rw [← hl]
      simp [jn, lineL, numsL, num_itoa (show 0 ≤ numT b by omega), num_itoa (show 0 ≤ numT c by omega), wStart, startW]
    · cases h
  · cases h
theorem amt_text {l : List UInt8} {W v : Int} {i : Nat} (hW : 1 ≤ W) (h : amtP W i l = some v) : l ++ [10] = lineL amountW [(i : Int) % W, (i : Int) / W, v] := by
  unfold amtP at h
  split at h
  · rename_i a b c d hs
    split at h
    · rename_i hc
      obtain ⟨rfl, h1, h2, h3⟩ := hc
      simp only [Option.some.injEq] at h
      subst h
      have hl := jn_sp 32 l
      rw [hs] at hl
      rw [← hl, ← h1, ← h2]
      have q1 : 0 ≤ (i : Int) % W := Int.emod_nonneg _ (by omega)
      have q3 : 0 ≤ (i : Int) / W := Int.ediv_nonneg (by omega) (by omega)
      simp [jn, lineL, numsL, num_itoa (show 0 ≤ numT b by omega), num_itoa (show 0 ≤ numT c by omega), num_itoa (show 0 ≤ numT d by omega), wAmount, amountW]
    · cases h
  · cases h
theorem starts_text (n : List UInt8) (W H : Int) (cs : List Cel) (n' : List UInt8) (W' H' : Int) (cs' : List Cel) (ps' : List Po) : ∀ (L : List (List UInt8)) (a : Nat) (ps : List Po), sStarts n W H cs L a ps = .good n' W' H' cs' ps' →
    n' = n ∧ W' = W ∧ H' = H ∧ cs' = cs ∧ validT (str n) W H cs ps' = 0 ∧ ∃ q, ps' = ps ++ q ∧ jn 10 L = startsL q
  | [], a, ps, h => by cases h
  | [t], a, ps, h => by
    rw [sStarts] at h
    split at h
    · rename_i ht
      unfold fin at h
      split at h
      · rename_i hv
        injection h with h1 h2 h3 h4 h5
        subst h1 h2 h3 h4 h5
        exact ⟨rfl, rfl, rfl, rfl, hv, [], by simp, by rw [ht]; rfl⟩
      · cases h
    · cases h
  | l :: l2 :: L, a, ps, h => by
    rw [sStarts] at h
    split at h
    · cases h
    · rename_i p hp
      obtain ⟨h1, h2, h3, h4, h5, q, h6, h7⟩ := starts_text n W H cs n' W' H' cs' ps' (l2 :: L) (a + 1) (ps ++ [p]) h
      refine ⟨h1, h2, h3, h4, h5, p :: q, by rw [h6]; simp, ?_⟩
      have := start_text hp
      show l ++ 10 :: jn 10 (l2 :: L) = lineL startW [p.x, p.y] ++ startsL q
      rw [h7, ← this]
      simp
theorem amts_text (n : List UInt8) (W H : Int) (hW : 1 ≤ W) (n' : List UInt8) (W' H' : Int) (cs' : List Cel) (ps' : List Po) : ∀ (f i : Nat) (cs : List Cel) (L : List (List UInt8)) (a : Nat), cs.length = i + f → sAmts n W H f i cs L a = .good n' W' H' cs' ps' →
    n' = n ∧ W' = W ∧ H' = H ∧ validT (str n) W H cs' ps' = 0 ∧ cs'.length = cs.length ∧ (∀ j : Nat, j < i → cs'[j]? = cs[j]?) ∧ (∀ j : Nat, cs'[j]?.map Cel.k = cs[j]?.map Cel.k ∧ cs'[j]?.map Cel.h = cs[j]?.map Cel.h) ∧ jn 10 L = amountsL W i (cs'.drop i) ++ startsL ps'
  | 0, i, cs, L, a, hl, h => by
    obtain ⟨h1, h2, h3, h4, h5, q, h6, h7⟩ := starts_text n W H cs n' W' H' cs' ps' L a [] h
    subst h4
    rw [List.nil_append] at h6
    subst h6
    exact ⟨h1, h2, h3, h5, rfl, fun _ _ => rfl, fun _ => ⟨rfl, rfl⟩, by rw [List.drop_eq_nil_of_le (by omega), h7]; rfl⟩
  | f + 1, i, cs, L, a, hl, h => by
    have hi : i < cs.length := by omega
    have hg : cs[i]? = some cs[i] := List.getElem?_eq_getElem hi
    by_cases hr : richB cs[i].k = true
    · cases hx : nxt L with
      | none => rw [amts_end n W H f i cs L a _ hg hr hx] at h; cases h
      | some p =>
        obtain ⟨l, L'⟩ := p
        cases ha : amtP W i l with
        | none => rw [amts_bad n W H f i cs L L' l a _ hg hr hx ha] at h; cases h
        | some v =>
          rw [amts_ok n W H f i cs L L' l a _ v hg hr hx ha] at h
          obtain ⟨h1, h2, h3, h4, h5, h6, h7, h8⟩ := amts_text n W H hW n' W' H' cs' ps' f (i + 1) (cs.set i ⟨cs[i].k, cs[i].h, v⟩) L' (a + 1) (by rw [List.length_set]; omega) h
          rw [List.length_set] at h5
          have e1 : cs'[i]? = some ⟨cs[i].k, cs[i].h, v⟩ := by rw [h6 i (by omega), List.getElem?_set_self hi]
          obtain ⟨hi', e2⟩ := List.getElem?_eq_some_iff.1 e1
          refine ⟨h1, h2, h3, h4, h5, fun j hj => by rw [h6 j (by omega), List.getElem?_set_ne (by omega)], fun j => ?_, ?_⟩
          · obtain ⟨g1, g2⟩ := h7 j
            by_cases hj : i = j
            · subst hj
              rw [e1, hg]; exact ⟨rfl, rfl⟩
            · rw [List.getElem?_set_ne hj] at g1 g2
              exact ⟨g1, g2⟩
          · rw [jn_nxt hx, h8, List.drop_eq_getElem_cons hi', e2, amountsL, if_pos hr]
            have := amt_text hW ha
            simp only []
            rw [← this]
            simp
    · replace hr : richB cs[i].k = false := by simpa using hr
      rw [amts_no n W H f i cs L a _ hg hr] at h
      obtain ⟨h1, h2, h3, h4, h5, h6, h7, h8⟩ := amts_text n W H hW n' W' H' cs' ps' f (i + 1) cs L a (by omega) h
      have e1 : cs'[i]? = some cs[i] := by rw [h6 i (by omega), hg]
      obtain ⟨hi', e2⟩ := List.getElem?_eq_some_iff.1 e1
      refine ⟨h1, h2, h3, h4, h5, fun j hj => h6 j (by omega), h7, ?_⟩
      rw [h8, List.drop_eq_getElem_cons hi', e2, amountsL, hr]
      rfl
theorem rowsL_part (f : Cel → UInt8) (m y : Nat) (hm : 1 ≤ m) (rest : List Cel) : ∀ (row : List Cel) (j : Nat), row ≠ [] → j + row.length = m → rowsL f (m : Int) (y * m + j) (row ++ rest) = row.map f ++ 10 :: rowsL f (m : Int) ((y + 1) * m) rest
  | [], j, h, _ => absurd rfl h
  | c :: row, j, _, hj => by
    rw [List.length_cons] at hj
    have hk : nlB (m : Int) (y * m + j) = decide (j = m - 1) := by
      unfold nlB
      have e : ((y * m + j : Nat) : Int) % (m : Int) = (j : Int) := by
        rw [← Int.natCast_emod]
        congr 1
        rw [Nat.mul_comm, Nat.mul_add_mod]
        exact Nat.mod_eq_of_lt (by omega)
      rw [e]
      by_cases h : j = m - 1
      · rw [decide_eq_true h, beq_iff_eq]; omega
      · rw [decide_eq_false h, beq_eq_false_iff_ne]; omega
    rw [List.cons_append, rowsL, hk]
    by_cases hr : row = []
    · subst hr
      simp at hj
      rw [if_pos (by simp; omega), show y * m + j + 1 = (y + 1) * m by rw [Nat.succ_mul]; omega]
      simp
    · have := List.length_pos_iff.2 hr
      rw [if_neg (by simp; omega), show y * m + j + 1 = y * m + (j + 1) by omega, rowsL_part f m y hm rest row (j + 1) hr (by omega)]
      simp
theorem rowsL_row (f : Cel → UInt8) (m y : Nat) (hm : 1 ≤ m) (cs : List Cel) (h : (y + 1) * m ≤ cs.length) (l : List UInt8) (hl : l.length = m) (hf : ∀ k (hk : k < l.length), ∃ c, cs[y * m + k]? = some c ∧ f c = l[k]) : rowsL f (m : Int) (y * m) (cs.drop (y * m)) = l ++ 10 :: rowsL f (m : Int) ((y + 1) * m) (cs.drop ((y + 1) * m)) := by
  have h1 : cs.drop (y * m) = (cs.drop (y * m)).take m ++ cs.drop ((y + 1) * m) := by
    have := List.take_append_drop m (cs.drop (y * m))
    rw [List.drop_drop] at this
    rw [Nat.succ_mul]
    exact this.symm
  have hlen : ((cs.drop (y * m)).take m).length = m := by
    rw [List.length_take, List.length_drop]
    rw [Nat.succ_mul] at h
    omega
  rw [h1]
  have := rowsL_part f m y hm (cs.drop ((y + 1) * m)) ((cs.drop (y * m)).take m) 0 (fun e => by rw [e] at hlen; simp at hlen; omega) (by rw [hlen]; omega)
  rw [Nat.add_zero] at this
  rw [this]
  congr 1
  apply List.ext_getElem?
  intro k
  by_cases hk : k < l.length
  · obtain ⟨c, hc1, hc2⟩ := hf k hk
    rw [List.getElem?_map, List.getElem?_take, if_pos (by omega), List.getElem?_drop, hc1, List.getElem?_eq_getElem hk, ← hc2]
    rfl
  · rw [List.getElem?_eq_none (by rw [List.length_map, hlen]; omega), List.getElem?_eq_none (by omega)]
theorem hset_k : ∀ (l : List UInt8) (cs : List Cel) (i j : Nat), (hset cs i l)[j]?.map Cel.k = cs[j]?.map Cel.k
  | [], cs, i, j => rfl
  | c :: l, cs, i, j => by
    rw [hset, hset_k l]
    cases hq : cs[i]? with
    | none => rfl
    | some q =>
      by_cases hij : i = j
      · subst hij
        obtain ⟨hi, _⟩ := List.getElem?_eq_some_iff.1 hq
        simp only []
        rw [List.getElem?_set_self hi, hq]
        rfl
      · simp only []
        rw [List.getElem?_set_ne hij]
theorem hset_h_far : ∀ (l : List UInt8) (cs : List Cel) (i j : Nat), j < i → (hset cs i l)[j]? = cs[j]?
  | [], cs, i, j, _ => rfl
  | c :: l, cs, i, j, h => by
    rw [hset, hset_h_far l _ _ _ (by omega)]
    cases hq : cs[i]? with
    | none => rfl
    | some q => simp only []; rw [List.getElem?_set_ne (by omega)]
theorem hset_h_at : ∀ (l : List UInt8) (cs : List Cel) (i k : Nat) (hk : k < l.length), i + l.length ≤ cs.length → (hset cs i l)[i + k]?.map Cel.h = some (highI l[k])
  | [], cs, i, k, hk, _ => absurd hk (by simp)
  | c :: l, cs, i, k, hk, hl => by
    rw [List.length_cons] at hl hk
    have hi : i < cs.length := by omega
    rw [hset, List.getElem?_eq_getElem hi]
    simp only []
    cases k with
    | zero =>
      have e := hset_h_far l (cs.set i ⟨cs[i].k, highI c, cs[i].a⟩) (i + 1) i (by omega)
      rw [List.getElem?_set_self hi] at e
      show Option.map Cel.h (hset (cs.set i ⟨cs[i].k, highI c, cs[i].a⟩) (i + 1) l)[i]? = _
      rw [e]
      rfl
    | succ k =>
      rw [show i + (k + 1) = i + 1 + k by omega, hset_h_at l _ (i + 1) k (by omega) (by rw [List.length_set]; omega)]
      rfl
theorem highC_of {c : Cel} {b : UInt8} (hb : isHigh b = true) (h : c.h = highI b) : highC c = b := by
  unfold isHigh at hb
  simp at hb
  unfold highC
  rw [h]
  unfold highI
  apply UInt8.toNat_inj.1
  simp
  omega
theorem kindC_of {c : Cel} {b : UInt8} (hb : isKind b = true) (h : c.k = kindI b) : kindC c = b := by
  unfold kindC
  rw [h]
  unfold isKind at hb
  unfold kindI at hb ⊢
  by_cases h1 : b = 46
  · subst h1; rfl
  · by_cases h2 : b = 126
    · subst h2; rfl
    · by_cases h3 : b = 35
      · subst h3; rfl
      · by_cases h4 : b = 84
        · subst h4; rfl
        · by_cases h5 : b = 42
          · subst h5; rfl
          · rw [if_neg h1, if_neg h2, if_neg h3, if_neg h4, if_neg h5] at hb; simp at hb
theorem high_text (n : List UInt8) (m hh : Nat) (hm : 1 ≤ m) (n' : List UInt8) (W' H' : Int) (cs' : List Cel) (ps' : List Po) : ∀ (f y : Nat) (cs : List Cel) (L : List (List UInt8)) (a : Nat), hh = y + f → cs.length = hh * m → sHigh n (m : Int) (hh : Int) f y cs L a = .good n' W' H' cs' ps' →
    n' = n ∧ W' = (m : Int) ∧ H' = (hh : Int) ∧ validT (str n) (m : Int) (hh : Int) cs' ps' = 0 ∧ cs'.length = cs.length ∧ (∀ j : Nat, cs'[j]?.map Cel.k = cs[j]?.map Cel.k) ∧ (∀ j : Nat, j < y * m → cs'[j]?.map Cel.h = cs[j]?.map Cel.h) ∧
    jn 10 L = rowsL highC (m : Int) (y * m) (cs'.drop (y * m)) ++ (amountsL (m : Int) 0 cs' ++ startsL ps')
  | 0, y, cs, L, a, hy, hl, h => by
    obtain ⟨h1, h2, h3, h4, h5, h6, h7, h8⟩ := amts_text n (m : Int) (hh : Int) (by omega) n' W' H' cs' ps' cs.length 0 cs L a (by omega) h
    refine ⟨h1, h2, h3, h4, h5, fun j => (h7 j).1, fun j _ => (h7 j).2, ?_⟩
    rw [h8, List.drop_zero, List.drop_eq_nil_of_le (by rw [h5, hl, hy, Nat.add_zero]; omega)]
    rfl
  | f + 1, y, cs, L, a, hy, hl, h => by
    rw [sHigh_step] at h
    unfold lineS at h
    cases hx : nxt L with
    | none => rw [hx] at h; cases h
    | some p =>
      obtain ⟨l, L'⟩ := p
      rw [hx] at h
      replace h : (if (l.length : Int) = (m : Int) ∧ l.all isHigh = true then sHigh n (m : Int) (hh : Int) f (y + 1) (hset cs (y * (m : Int).toNat) l) L' (a + 1) else .bad (a + 1) 5) = _ := h
      split at h
      · rename_i hc
        obtain ⟨hc1, hc2⟩ := hc
        rw [Int.toNat_natCast] at h
        obtain ⟨h1, h2, h3, h4, h5, h6, h7, h8⟩ := high_text n m hh hm n' W' H' cs' ps' f (y + 1) (hset cs (y * m) l) L' (a + 1) (by omega) (by rw [hset_len]; exact hl) h
        rw [hset_len] at h5
        have hyl : (y + 1) * m ≤ cs.length := by rw [hl]; exact Nat.mul_le_mul_right _ (by omega)
        refine ⟨h1, h2, h3, h4, h5, fun j => by rw [h6 j, hset_k], fun j hj => by rw [h7 j (by rw [Nat.succ_mul]; omega), hset_h_far l cs _ j hj], ?_⟩
        rw [jn_nxt hx, h8, rowsL_row highC m y hm cs' (by rw [h5]; exact hyl) l (by omega) (fun k hk => ?_)]
        · simp
        · have hkm : y * m + k < (y + 1) * m := by rw [Nat.succ_mul]; omega
          have e1 := h7 (y * m + k) hkm
          rw [hset_h_at l cs (y * m) k hk (by rw [Nat.succ_mul] at hyl; omega)] at e1
          obtain ⟨c, hc3, hc4⟩ := Option.map_eq_some_iff.1 e1
          exact ⟨c, hc3, highC_of (List.all_eq_true.1 hc2 _ (List.getElem_mem hk)) hc4⟩
      · cases h
theorem kinds_text (n : List UInt8) (m hh : Nat) (hm : 1 ≤ m) (n' : List UInt8) (W' H' : Int) (cs' : List Cel) (ps' : List Po) : ∀ (f y : Nat) (cs : List Cel) (L : List (List UInt8)) (a : Nat), hh = y + f → cs.length = y * m → sKinds n (m : Int) (hh : Int) f cs L a = .good n' W' H' cs' ps' →
    n' = n ∧ W' = (m : Int) ∧ H' = (hh : Int) ∧ validT (str n) (m : Int) (hh : Int) cs' ps' = 0 ∧ cs'.length = hh * m ∧ (∀ j : Nat, j < cs.length → cs'[j]?.map Cel.k = cs[j]?.map Cel.k) ∧
    jn 10 L = rowsL kindC (m : Int) (y * m) (cs'.drop (y * m)) ++ (rowsL highC (m : Int) 0 cs' ++ (amountsL (m : Int) 0 cs' ++ startsL ps'))
  | 0, y, cs, L, a, hy, hl, h => by
    rw [sKinds, Int.toNat_natCast] at h
    obtain ⟨h1, h2, h3, h4, h5, h6, h7, h8⟩ := high_text n m hh hm n' W' H' cs' ps' hh 0 cs L a (by omega) (by rw [hl, hy, Nat.add_zero]) h
    refine ⟨h1, h2, h3, h4, by rw [h5, hl, hy, Nat.add_zero], fun j _ => h6 j, ?_⟩
    rw [h8, Nat.zero_mul, List.drop_zero, List.drop_eq_nil_of_le (by rw [h5, hl]; exact Nat.le_refl _)]
    rfl
  | f + 1, y, cs, L, a, hy, hl, h => by
    rw [sKinds_step] at h
    unfold lineS at h
    cases hx : nxt L with
    | none => rw [hx] at h; cases h
    | some p =>
      obtain ⟨l, L'⟩ := p
      rw [hx] at h
      replace h : (if (l.length : Int) = (m : Int) ∧ l.all isKind = true then sKinds n (m : Int) (hh : Int) f (cs ++ kcs l) L' (a + 1) else .bad (a + 1) 5) = _ := h
      split at h
      · rename_i hc
        obtain ⟨hc1, hc2⟩ := hc
        have hkl : (kcs l).length = m := by unfold kcs; rw [List.length_map]; omega
        obtain ⟨h1, h2, h3, h4, h5, h6, h8⟩ := kinds_text n m hh hm n' W' H' cs' ps' f (y + 1) (cs ++ kcs l) L' (a + 1) (by omega) (by rw [List.length_append, hl, hkl, Nat.succ_mul]) h
        have hyl : (y + 1) * m ≤ cs'.length := by rw [h5]; exact Nat.mul_le_mul_right _ (by omega)
        refine ⟨h1, h2, h3, h4, h5, fun j hj => by rw [h6 j (by rw [List.length_append]; omega), List.getElem?_append_left hj], ?_⟩
        rw [jn_nxt hx, h8, rowsL_row kindC m y hm cs' hyl l (by omega) (fun k hk => ?_)]
        · simp
        · have e1 := h6 (y * m + k) (by rw [List.length_append, hl, hkl]; omega)
          rw [List.getElem?_append_right (by omega), hl, Nat.add_sub_cancel_left] at e1
          unfold kcs at e1
          rw [List.getElem?_map, List.getElem?_eq_getElem hk] at e1
          obtain ⟨c, hc3, hc4⟩ := Option.map_eq_some_iff.1 e1
          exact ⟨c, hc3, kindC_of (List.all_eq_true.1 hc2 _ (List.getElem_mem hk)) hc4⟩
      · cases h
/-- A text that is accepted is the text of what it says, which is valid. -/
theorem parse_text {s n : List UInt8} {W H : Int} {cs : List Cel} {ps : List Po} (h : parseS s = .good n W H cs ps) : printL n W H cs ps = s ∧ validT (str n) W H cs ps = 0 := by
  unfold parseS at h
  split at h
  · cases h
  · cases hx : nxt (sp 10 s) with
    | none => rw [hx] at h; cases h
    | some p =>
      obtain ⟨l, L⟩ := p
      rw [hx] at h
      cases hf : firstP l with
      | none => simp only [hf] at h; cases h
      | some q =>
        obtain ⟨n1, W1, H1⟩ := q
        simp only [hf] at h
        obtain ⟨h1, ⟨h2, h3⟩, h4, h5⟩ := first_text hf
        obtain ⟨m, rfl⟩ : ∃ m : Nat, W1 = (m : Int) := ⟨W1.toNat, by omega⟩
        obtain ⟨hh, rfl⟩ : ∃ m : Nat, H1 = (m : Int) := ⟨H1.toNat, by omega⟩
        rw [Int.toNat_natCast] at h
        obtain ⟨g1, g2, g3, g4, g5, g6, g7⟩ := kinds_text n1 m hh (by omega) n W H cs ps hh 0 [] L 1 (by omega) (by simp) h
        subst g1 g2 g3
        refine ⟨?_, g4⟩
        have hs := jn_sp 10 s
        rw [jn_nxt hx, g7, Nat.zero_mul, List.drop_zero] at hs
        rw [← hs]
        unfold printL
        rw [← h1]
        simp
end Go.Proofs.YtmiceolkmiiahaaGreatDoor
