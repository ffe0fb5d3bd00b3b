/- Walks: the reference's line of an amount. Plain: the reference's parser as a walk over the lines; small laws of memory. -/
import Derived.Test.YtmiceolkmiiahaaGreatDoorV3
namespace Go.Proofs.YtmiceolkmiiahaaGreatDoor
open Go.RowKit
set_option linter.unusedVariables false
set_option linter.unusedSimpArgs false
set_option maxRecDepth 100000
set_option maxHeartbeats 8000000

theorem amtP_none4 {W : Int} {i : Nat} {l : List UInt8} (h : (sp 32 l).length ≠ 4) : amtP W i l = none := by
  unfold amtP
  match hx : sp 32 l with
  | [] | [_] | [_, _] | [_, _, _] => rfl
  | [a, b, c, d] => rw [hx] at h; exact absurd rfl h
  | _ :: _ :: _ :: _ :: _ :: _ => rfl
theorem amtP_four {W : Int} {i : Nat} {l a b c d : List UInt8} (h : sp 32 l = [a, b, c, d]) : amtP W i l = if a = wAmount ∧ numT b = (i : Int) % W ∧ numT c = (i : Int) / W ∧ 1 ≤ numT d then some (numT d) else none := by
  unfold amtP
  rw [h]
/-- What the line of an amount leaves. -/
def AmtRes (B q N c : Nat) (W : Int) (i : Nat) (l : List UInt8) (cs : List Cel) (w : World) (en : Ending) (w' : World) : Prop :=
  (match amtP W i l with
   | none => en = .returned (.bool false)
   | some v => en = .returned (.bool true) ∧ w'.ownsRow B 41 3 (.slice (some ⟨q, 0, none⟩) N c) N (cellsOf Cel.l (aset cs i v))) ∧ Fr q q w w'
theorem amt_bad {B q N c : Nat} {W : Int} {i : Nat} {l : List UInt8} {cs : List Cel} {w : World} {en : Ending} {w' : World} (h : amtP W i l = none) (h2 : en = .returned (.bool false) ∧ Fr q q w w') : AmtRes B q N c W i l cs w en w' := by
  unfold AmtRes
  rw [h]
  exact h2
theorem amt_good {B q N c : Nat} {W : Int} {i : Nat} {l : List UInt8} {cs : List Cel} {w w2 : World} {v : Int} {ad : Addr} (h : amtP W i l = some v) (hi : i < N) (hcl : cs.length = N) (hf : Fr q q w w2)
    (ho : w2.ownsRow B 41 3 (.slice (some ⟨q, 0, none⟩) N c) N (cellsOf Cel.l cs)) (had : (ad.add (i * 3)).block = q ∧ (ad.add (i * 3)).off = i * 3 ∧ ad.add (i * 3) = ⟨q, i * 3, none⟩) :
    AmtRes B q N c W i l cs w (.returned (.bool true)) (w2.setCell ⟨(ad.add (i * 3)).block, (ad.add (i * 3)).off + 2, none⟩ (.int .i64 v)) := by
  unfold AmtRes
  rw [h, had.1, had.2.1]
  have hil : i < cs.length := by omega
  have h2 := (ho.stored (i * 3 + 2) (.int .i64 v)).1
  rw [cells_set cs i _ (List.getElem?_eq_getElem hil) 2 (by omega) _ ⟨cs[i].k, cs[i].h, v⟩ rfl] at h2
  refine ⟨⟨rfl, ?_⟩, hf.setg _ (Or.inl rfl) _⟩
  unfold aset
  rw [List.getElem?_eq_getElem hil]
  exact h2
theorem dec_beq (b : List UInt8) (n : Nat) (hn : n ≤ 1000000) (v : Int) (hv : v = (n : Int)) : ((str b).toList == (str (Lib.decDigits n)).toList) = decide (numT b = v) := by
  rw [str_beq, hv]
  by_cases h : b = Lib.decDigits n
  · rw [decide_eq_true ((numT_eq hn).2 h), h]
    simp
  · rw [decide_eq_false (fun e => h ((numT_eq hn).1 e)), beq_eq_false_iff_ne]
    exact h
theorem word_beq (a : List UInt8) : ((str a).toList == [97, 109, 111, 117, 110, 116]) = decide (a = wAmount) := by
  rw [str_list]
  by_cases h : a = wAmount
  · rw [decide_eq_true h, h]
    rfl
  · rw [decide_eq_false h, beq_eq_false_iff_ne]
    exact h
theorem amt_cases {W : Int} {i : Nat} {l a b c : List UInt8} {x : Int} (hf4 : amtP W i l = if a = wAmount ∧ numT b = (i : Int) % W ∧ numT c = (i : Int) / W ∧ 1 ≤ x then some x else none) {qa qb qc : Bool}
    (hqa : qa = decide (a = wAmount)) (hqb : qb = decide (numT b = (i : Int) % W)) (hqc : qc = decide (numT c = (i : Int) / W)) :
    (Hid (amtP W i l = none) ∧ qa = false) ∨ (Hid (amtP W i l = none) ∧ qa = true ∧ qb = false) ∨ (Hid (amtP W i l = none) ∧ qa = true ∧ qb = true ∧ qc = false) ∨ (Hid (amtP W i l = none) ∧ qa = true ∧ qb = true ∧ qc = true ∧ decide (x < 1) = true) ∨
      (Hid (amtP W i l = some x) ∧ qa = true ∧ qb = true ∧ qc = true ∧ decide (x < 1) = false) := by
  subst hqa hqb hqc
  by_cases k1 : a = wAmount
  · by_cases k2 : numT b = (i : Int) % W
    · by_cases k3 : numT c = (i : Int) / W
      · by_cases k4 : 1 ≤ x
        · exact Or.inr (Or.inr (Or.inr (Or.inr ⟨Lib.hid (by rw [hf4, if_pos ⟨k1, k2, k3, k4⟩]), decide_eq_true k1, decide_eq_true k2, decide_eq_true k3, decide_eq_false (Int.not_lt.2 k4)⟩)))
        · exact Or.inr (Or.inr (Or.inr (Or.inl ⟨Lib.hid (by rw [hf4, if_neg (fun h => k4 h.2.2.2)]), decide_eq_true k1, decide_eq_true k2, decide_eq_true k3, decide_eq_true (Int.not_le.1 k4)⟩)))
      · exact Or.inr (Or.inr (Or.inl ⟨Lib.hid (by rw [hf4, if_neg (fun h => k3 h.2.2.1)]), decide_eq_true k1, decide_eq_true k2, decide_eq_false k3⟩))
    · exact Or.inr (Or.inl ⟨Lib.hid (by rw [hf4, if_neg (fun h => k2 h.2.1)]), decide_eq_true k1, decide_eq_false k2⟩)
  · exact Or.inl ⟨Lib.hid (by rw [hf4, if_neg (fun h => k1 h.1)]), decide_eq_false k1⟩
theorem ramount_any (W H : Int) (W1 : 1 ≤ W) (W2 : W ≤ 32) (q N c B : Nat) (hB : B ≤ q) (cs : List Cel) (hcl : cs.length = N) (i : Nat) (hi : i < N) (hN : N ≤ 1024) (l : List UInt8) (hz : l.length ≤ 100000) (w : World)
    (ho : w.ownsRow B 41 3 (.slice (some ⟨q, 0, none⟩) N c) N (cellsOf Cel.l cs)) :
    Calls Tryz.prog 44 #[mapV W H (.slice (some ⟨q, 0, none⟩) N c), .int .i64 (i : Int), .string (str l)] w (AmtRes B q N c W i l cs w) := by
  have HP := Lib.hid (fun w => rParts_any l hz 32 32 rfl w)
  have hqw : q < w.heap.size := (ho.lt q rfl).2
  obtain ⟨a0, ha0⟩ : ∃ a : Addr, (⟨q, 0, none⟩ : Addr) = a := ⟨_, rfl⟩
  have HA0 := Lib.hid ha0
  have HO := Lib.hid ho; have HCL := Lib.hid hcl
  obtain ⟨S, hS⟩ : ∃ S, str l = S := ⟨_, rfl⟩
  obtain ⟨w1, hw1⟩ : ∃ w1, w.alloc (.cells #[.int .i64 W, .int .i64 H, .slice (some a0) N c] 24) = w1 := ⟨_, rfl⟩
  have HF1 := Lib.hid (show Fr q q w w1 by rw [← hw1]; exact Fr.of (below_new _ _) (Nat.le_refl _))
  have HM1 := Lib.hid (show w1.heap[w.heap.size]? = some (.cells #[.int .i64 W, .int .i64 H, .slice (some a0) N c] 24) by rw [← hw1]; exact tok_new _ _)
  have HO1 := Lib.hid (show w1.ownsRow B 41 3 (.slice (some ⟨q, 0, none⟩) N c) N (cellsOf Cel.l cs) by rw [← hw1]; exact HO.out.alloc _)
  have HZ1 := Lib.hid (show w1.heap.size = w.heap.size + 1 by rw [← hw1, tok_size])
  have HW1 := Lib.hid hw1
  rw [hS] at HP
  rw [hS, ha0]
  have HS := Lib.hid hS
  clear hS hw1 ha0 ho hcl
  rcases four_or (sp 32 l) with h4 | ⟨a, b, cc, d, h4⟩
  · have hf := amtP_none4 (W := W) (i := i) h4
    suffices hsf : Calls Tryz.prog 44 #[mapV W H (.slice (some a0) N c), .int .i64 (i : Int), .string S] w (fun en w' => en = .returned (.bool false) ∧ Fr q q w w') from hsf.mono fun en w' hh => amt_bad hf hh
    unfold mapV
    generalize strVs (sp 32 l) = V at *
    generalize (sp 32 l).length = m at *
    have e4 : ((m : Int) != 4) = true := by rw [bne_iff_ne]; omega
    clear hf h4
    go_enter Tryz.func44, Tryz.ntmps44
    go_wp2_with fail
    rw [HW1.out]
    refine (HP.out _).mono ?_
    rintro e w2 ⟨ao, cap, rfl, hown, hb2⟩
    have HF2 := Lib.hid (HF1.out.trans (Fr.of hb2 (Nat.le_refl _)))
    clear hb2 hown HW1
    go_wp2_with fail
    go_quiet (fail)
    go_wp2_with fail
    go_ret
    exact ⟨rfl, by first | exact HF2.out | exact HF2.out.drew | exact HF2.out.dN _⟩
  · have hf4 := amtP_four (W := W) (i := i) h4
    have hlen : ∀ p ∈ sp 32 l, p.length ≤ 100000 := fun p hp => Nat.le_trans (sp_le 32 l p hp) hz
    rw [h4] at HP hlen
    have HX := Lib.hid (rnumber_any d (hlen d (by simp)))
    have hP4 := Lib.hid (fun (w2 : World) (ao : Option Addr) (cap : Nat) (h : w2.ownsRow w1.heap.size 9 1 (.slice ao 4 cap) 4 (strVs [a, b, cc, d])) => parts4 h)
    have HP4 := Lib.hid (show Calls Tryz.prog 41 #[.string S, .int .u8 32] w1 (fun en w2 => ∃ p cap, en = .returned (.slice (some ⟨p, 0, none⟩) 4 cap) ∧ w1.heap.size ≤ p ∧ Below w1.heap.size w1 w2 ∧ w2.cell? ⟨p, 0, none⟩ = some (.string (str a)) ∧ w2.cell? ⟨p, 1, none⟩ = some (.string (str b)) ∧ w2.cell? ⟨p, 2, none⟩ = some (.string (str cc)) ∧ w2.cell? ⟨p, 3, none⟩ = some (.string (str d))) from (HP.out w1).mono (by
      rintro en w2 ⟨ao, cap, rfl, hown, hb2⟩
      obtain ⟨p, rfl, h1, _, h3⟩ := hP4.out w2 ao cap hown
      exact ⟨p, cap, rfl, h1, hb2, h3⟩))
    obtain ⟨m, hm⟩ : ∃ m, i % W.toNat = m := ⟨_, rfl⟩
    obtain ⟨n, hn⟩ : ∃ n, i / W.toNat = n := ⟨_, rfl⟩
    have hWn : W = (W.toNat : Int) := by omega
    have hmI : (i : Int) % W = (m : Int) := by rw [hWn, ← hm]; exact (Int.natCast_emod i W.toNat).symm
    have hnI : (i : Int) / W = (n : Int) := by rw [hWn, ← hn]; exact (Int.natCast_ediv i W.toNat).symm
    have hmb : m ≤ 1024 := by rw [← hm]; exact Nat.le_trans (Nat.mod_le _ _) (by omega)
    have hnb : n ≤ 1024 := by rw [← hn]; exact Nat.le_trans (Nat.div_le_self _ _) (by omega)
    have hrem : (i : Int).tmod W = (m : Int) := by rw [Int.tmod_eq_emod_of_nonneg (by omega)]; exact hmI
    have hquo : (i : Int).tdiv W = (n : Int) := by rw [Int.tdiv_eq_ediv_of_nonneg (by omega)]; exact hnI
    have hw1 : IntKind.i64.wrap (n : Int) = (n : Int) := by rw [IntKind.wrap_i64]; omega
    have hw2 : wrap64 (n : Int) = (n : Int) := by unfold wrap64; omega
    have hWz : ¬ W = 0 := by omega
    have HT1 := Lib.hid (rText_any m (Nat.le_trans hmb (by decide)))
    have HT2 := Lib.hid (rText_any n (Nat.le_trans hnb (by decide)))
    have hm6 : m ≤ 1000000 := Nat.le_trans hmb (by decide)
    have hn6 : n ≤ 1000000 := Nat.le_trans hnb (by decide)
    have hqb := dec_beq b m hm6 _ hmI
    have hqc := dec_beq cc n hn6 _ hnI
    have hqa := word_beq a
    obtain ⟨x, hx⟩ : ∃ x, numT d = x := ⟨_, rfl⟩
    rw [hx] at HX hf4
    have hcs := amt_cases hf4 hqa hqb hqc
    have HAB := Lib.hid (fun (h : amtP W i l = none) en w' hh => amt_bad (B := B) (q := q) (N := N) (c := c) (cs := cs) (w := w) (en := en) (w' := w') h hh)
    have HAG := Lib.hid (fun (h : amtP W i l = some x) (w2 : World) (hf : Fr q q w w2) ho had => amt_good (B := B) (q := q) (N := N) (c := c) (cs := cs) (w := w) (w2 := w2) (ad := a0) h hi HCL.out hf ho had)
    obtain ⟨hd1, hd1e⟩ : ∃ z : Option Int, amtP W i l = z := ⟨_, rfl⟩
    rw [hd1e] at hcs HAB HAG
    clear hf4 hqa hqb hqc hlen h4 hmI hnI hWn hm hn hP4 HP hx hd1e hm6 hn6 hmb hnb
    generalize AmtRes B q N c W i l cs w = AR at *
    generalize str a = As at *
    generalize str b = Bs at *
    generalize str cc = Cs at *
    generalize str d = Ds at *
    generalize str (Lib.decDigits m) = T1 at *
    generalize str (Lib.decDigits n) = T2 at *
    unfold mapV
    have e1 : (0 : Int) ≤ (i : Int) := by omega
    have e2 : (i : Int) < (N : Int) := by omega
    rcases hcs with ⟨hn, g1⟩ | ⟨hn, g1, g2⟩ | ⟨hn, g1, g2, g3⟩ | ⟨hn, g1, g2, g3, g4⟩ | ⟨hn, g1, g2, g3, g4⟩
    rotate_right
    · obtain ⟨hil, hHAG⟩ : i < cs.length ∧ True := ⟨by have := HCL.out; omega, trivial⟩
      have HAG1 := Lib.hid (HAG.out hn.out)
      clear HAG HAB
      have hadd : (a0.add (i * 3)).block = q ∧ (a0.add (i * 3)).off = i * 3 ∧ a0.add (i * 3) = ⟨q, i * 3, none⟩ := by rw [← HA0.out, add0]; exact ⟨rfl, rfl, rfl⟩
      have HAD := Lib.hid hadd
      have hqn : ¬ (a0.add (i * 3)).block = w.heap.size := by rw [hadd.1]; exact Nat.ne_of_lt hqw
      have hqn2 : ¬ w.heap.size = (a0.add (i * 3)).block := fun e => hqn e.symm
      go_enter Tryz.func44, Tryz.ntmps44
      go_wp2_with fail
      rw [HW1.out]
      refine HP4.out.mono ?_
      rintro e w2 ⟨p, cap, rfl, hp1, hb2, k0, k1, k2, k3⟩
      obtain ⟨⟨m0, m1, m2⟩, _⟩ := cells3 (block_below hb2 HM1.out)
      have HF2 := Lib.hid (HF1.out.trans (Fr.of hb2 (Nat.le_refl _)))
      have HO2 := Lib.hid (ownsRow_below HO1.out hb2)
      have hpn : ¬ (a0.add (i * 3)).block = p := by rw [hadd.1]; have := HZ1.out; omega
      have hpn2 : ¬ p = (a0.add (i * 3)).block := fun e => hpn e.symm
      obtain ⟨⟨gk, gh, ga⟩, hgv⟩ : ∃ t, cs[i] = t := ⟨_, rfl⟩
      have hget : cs[i]? = some ⟨gk, gh, ga⟩ := by rw [List.getElem?_eq_getElem hil, hgv]
      obtain ⟨hcell, hfroz⟩ := tgt HO2.out hget hi hadd
      clear hb2 HW1 hadd hget hHAG hgv hil
      go_wp2_with fail
      go_quiet (first | (go_at_call 27; with_reducible exact (HT1.out.quiet _ _)) | (go_at_call 27; with_reducible exact (HT2.out.quiet _ _)) | (go_at_call 71; with_reducible exact (HX.out.quiet _ _)))
      go_wp2_with fail
      obtain ⟨w3, hw3⟩ : ∃ w3, w2.drewN nq = w3 := ⟨_, rfl⟩
      rw [hw3]
      have HF3 := Lib.hid (show Fr q q w w3 by rw [← hw3]; exact HF2.out.dN _)
      have HO3 := Lib.hid (show w3.ownsRow B 41 3 (.slice (some ⟨q, 0, none⟩) N c) N (cellsOf Cel.l cs) by rw [← hw3]; exact HO2.out)
      replace m2 : w3.cell? ⟨w.heap.size, 2, none⟩ = some (.slice (some a0) N c) := by rw [← hw3]; exact m2
      replace k3 : w3.cell? ⟨p, 3, none⟩ = some (.string Ds) := by rw [← hw3]; exact k3
      replace hcell : w3.cell? ⟨(a0.add (i * 3)).block, (a0.add (i * 3)).off + 2, none⟩ = some (.int .i64 ga) := by rw [← hw3]; exact hcell
      replace hfroz : w3.frozen? ⟨(a0.add (i * 3)).block, (a0.add (i * 3)).off + 2, none⟩ = false := by rw [← hw3]; exact hfroz
      clear hw3 m0 m1 k0 k1 k2 g1 g2 g3 g4 hrem hquo hw1 hw2 hWz HT1 HT2
      go_region_held3 (fun w' => w'.cell? ⟨w.heap.size, 2, none⟩ = some (.slice (some a0) N c) ∧ w'.cell? ⟨p, 3, none⟩ = some (.string Ds)) (refine ⟨?_, ?_⟩ <;> first | (with_reducible assumption) | go_keep) (first | (go_at_call 71; refine (HX.out.still _).mono ?_; rintro e w' ⟨rfl, rfl⟩))
      all_goals
        clear m2 k3 hcell hfroz
        go_wp2_with fail
        try go_ret
        first
          | exact HAG1.out w3.drew HF3.out.drew HO3.out HAD.out
          | exact HAG1.out w3 HF3.out HO3.out HAD.out
    all_goals
      refine Calls.mono (R := fun en w' => en = .returned (.bool false) ∧ Fr q q w w') ?_ (fun en w' hh => HAB.out hn.out en w' hh)
      go_enter Tryz.func44, Tryz.ntmps44
      go_wp2_with fail
      rw [HW1.out]
      refine HP4.out.mono ?_
      rintro e w2 ⟨p, cap, rfl, hp1, hb2, k0, k1, k2, k3⟩
      obtain ⟨⟨m0, m1, m2⟩, _⟩ := cells3 (block_below hb2 HM1.out)
      have HF2 := Lib.hid (HF1.out.trans (Fr.of hb2 (Nat.le_refl _)))
      clear hb2 HW1
      go_wp2_with fail
      go_quiet (first | (go_at_call 27; with_reducible exact (HT1.out.quiet _ _)) | (go_at_call 27; with_reducible exact (HT2.out.quiet _ _)) | (go_at_call 71; with_reducible exact (HX.out.quiet _ _)))
      go_wp2_with fail
      go_ret
      exact ⟨rfl, by first | exact HF2.out | exact HF2.out.drew | exact HF2.out.dN _⟩
set_option linter.unusedVariables false
set_option linter.unusedSimpArgs false

def Q1 (n : List UInt8) (W H : Int) (L : List (List UInt8)) (r : Res) (k : Nat) (C : List Cel) : Prop :=
  (k < H.toNat → ∃ cs, C = cs ++ List.replicate (W.toNat * H.toNat - cs.length) zc ∧ cs.length = k * W.toNat ∧ sKinds n W H (H.toNat - k) cs (L.drop (k + 1)) (k + 1) = r) ∧
  (H.toNat ≤ k → sHigh n W H (2 * H.toNat - k) (k - H.toNat) C (L.drop (k + 1)) (k + 1) = r)
section
variable {n : List UInt8} {W H : Int} {L : List (List UInt8)} {r : Res} {k : Nat} {C : List Cel}
theorem q1_start (hH : 0 < H.toNat) (h : sKinds n W H H.toNat [] (L.drop 1) 1 = r) : Q1 n W H L r 0 (List.replicate (W.toNat * H.toNat) zc) :=
  ⟨fun _ => ⟨[], by simp, by simp, h⟩, fun h => absurd h (by omega)⟩
theorem q1_none (hk : k < 2 * H.toNat) (h : nxt (L.drop (k + 1)) = none) (q : Q1 n W H L r k C) : r = .bad (k + 1 + 1) 4 := by
  by_cases hh : k < H.toNat
  · obtain ⟨cs, _, _, e⟩ := q.1 hh
    rw [show H.toNat - k = (H.toNat - (k + 1)) + 1 by omega] at e
    simp only [sKinds, h] at e
    exact e.symm
  · have e := q.2 (by omega)
    rw [show 2 * H.toNat - k = (2 * H.toNat - (k + 1)) + 1 by omega] at e
    simp only [sHigh, h] at e
    exact e.symm
theorem q1_kbad {l : List UInt8} {L' : List (List UInt8)} (hh : k < H.toNat) (h : nxt (L.drop (k + 1)) = some (l, L')) (hc : ¬ ((l.length : Int) = W ∧ l.all isKind = true)) (q : Q1 n W H L r k C) : r = .bad (k + 1 + 1) 5 := by
  obtain ⟨cs, _, _, e⟩ := q.1 hh
  rw [show H.toNat - k = (H.toNat - (k + 1)) + 1 by omega] at e
  simp only [sKinds, h, if_neg hc] at e
  exact e.symm
theorem q1_hbad {l : List UInt8} {L' : List (List UInt8)} (hk : k < 2 * H.toNat) (hh : H.toNat ≤ k) (h : nxt (L.drop (k + 1)) = some (l, L')) (hc : ¬ ((l.length : Int) = W ∧ l.all isHigh = true)) (q : Q1 n W H L r k C) : r = .bad (k + 1 + 1) 5 := by
  have e := q.2 hh
  rw [show 2 * H.toNat - k = (2 * H.toNat - (k + 1)) + 1 by omega] at e
  simp only [sHigh, h, if_neg hc] at e
  exact e.symm
theorem q1_kok {l : List UInt8} (hW : 0 ≤ W) (hh : k < H.toNat) (h : nxt (L.drop (k + 1)) = some (l, L.drop (k + 1 + 1))) (hc : (l.length : Int) = W ∧ l.all isKind = true) (q : Q1 n W H L r k C) : Q1 n W H L r (k + 1) (kset C (k * W.toNat) l) := by
  obtain ⟨cs, h1, h2, e⟩ := q.1 hh
  rw [show H.toNat - k = (H.toNat - (k + 1)) + 1 by omega] at e
  simp only [sKinds, h, if_pos hc] at e
  have hl : l.length = W.toNat := by omega
  have hm : (k + 1) * W.toNat ≤ H.toNat * W.toNat := Nat.mul_le_mul_right _ hh
  rw [Nat.succ_mul, Nat.mul_comm H.toNat] at hm
  have h3 : kset C (k * W.toNat) l = (cs ++ kcs l) ++ List.replicate (W.toNat * H.toNat - (cs ++ kcs l).length) zc := by
    rw [h1, ← h2, kset_zero l cs _ (by omega)]
    congr 2
    rw [List.length_append]
    have : (kcs l).length = l.length := by unfold kcs; rw [List.length_map]
    omega
  have h4 : (cs ++ kcs l).length = (k + 1) * W.toNat := by
    rw [List.length_append, Nat.succ_mul, h2]
    have : (kcs l).length = l.length := by unfold kcs; rw [List.length_map]
    omega
  refine ⟨fun hk => ⟨cs ++ kcs l, h3, h4, e⟩, fun hk => ?_⟩
  have hk1 : k + 1 = H.toNat := by omega
  rw [h3, h4, hk1, Nat.mul_comm H.toNat W.toNat, Nat.sub_self (W.toNat * H.toNat), Nat.sub_self H.toNat, show 2 * H.toNat - H.toNat = H.toNat by omega]
  rw [hk1, Nat.sub_self] at e
  simp only [sKinds] at e
  simpa using e
theorem q1_hok {l : List UInt8} (hk : k < 2 * H.toNat) (hh : H.toNat ≤ k) (h : nxt (L.drop (k + 1)) = some (l, L.drop (k + 1 + 1))) (hc : (l.length : Int) = W ∧ l.all isHigh = true) (q : Q1 n W H L r k C) : Q1 n W H L r (k + 1) (hset C ((k - H.toNat) * W.toNat) l) := by
  have e := q.2 hh
  rw [show 2 * H.toNat - k = (2 * H.toNat - (k + 1)) + 1 by omega] at e
  simp only [sHigh, h, if_pos hc] at e
  refine ⟨fun hk => absurd hk (by omega), fun _ => ?_⟩
  rw [show k + 1 - H.toNat = k - H.toNat + 1 by omega]
  exact e
theorem q1_end (hH : 0 < H.toNat) (hk : 2 * H.toNat ≤ k) (q : Q1 n W H L r k C) (hk2 : k ≤ 2 * H.toNat) : sAmts n W H C.length 0 C (L.drop (k + 1)) (k + 1) = r := by
  have e := q.2 (by omega)
  rw [show 2 * H.toNat - k = 0 by omega] at e
  simp only [sHigh] at e
  exact e
end
theorem nxt_drop_some {L : List (List UInt8)} {i : Nat} (h : i + 1 < L.length) : nxt (L.drop i) = some (L[i], L.drop (i + 1)) := by rw [nxt_drop, dif_pos h]
theorem nxt_drop_none {L : List (List UInt8)} {i : Nat} (h : ¬ i + 1 < L.length) : nxt (L.drop i) = none := by rw [nxt_drop, dif_neg h]
theorem rst_bad {n : List UInt8} {W H : Int} {C : List Cel} {L : List (List UInt8)} {i : Nat} {ps : List Po} (h : i + 1 < L.length) (h2 : startP L[i] = none) : sStarts n W H C (L.drop i) i ps = .bad (i + 1) 5 := by
  rw [List.drop_eq_getElem_cons (by omega : i < L.length), List.drop_eq_getElem_cons h]
  simp only [sStarts, h2]
theorem rst_ok {n : List UInt8} {W H : Int} {C : List Cel} {L : List (List UInt8)} {i : Nat} {ps : List Po} {p : Po} (h : i + 1 < L.length) (h2 : startP L[i] = some p) : sStarts n W H C (L.drop i) i ps = sStarts n W H C (L.drop (i + 1)) (i + 1) (ps ++ [p]) := by
  rw [List.drop_eq_getElem_cons (by omega : i < L.length), List.drop_eq_getElem_cons h]
  simp only [sStarts, h2]
theorem rst_end {n : List UInt8} {W H : Int} {C : List Cel} {L : List (List UInt8)} {i : Nat} {ps : List Po} (h : i + 1 = L.length) : sStarts n W H C (L.drop i) i ps = if L[i] = [] then fin n W H C ps else .bad (i + 1) 4 := by
  rw [List.drop_eq_getElem_cons (by omega : i < L.length), List.drop_of_length_le (by omega : L.length ≤ i + 1)]
  simp only [sStarts]
theorem row_fr {w w1 : World} {g h B e s q N c n : Nat} {xs : List Value} (o : w.ownsRow B e s (.slice (some ⟨q, 0, none⟩) N c) n xs) (x : Fr g h w w1) (h1 : q ≠ g) (h2 : q ≠ h) : w1.ownsRow B e s (.slice (some ⟨q, 0, none⟩) N c) n xs := by
  refine ⟨o.1, ?_⟩
  rcases o.2 with y | ⟨q', cap, cur, y1, y2, y3, y4⟩
  · exact Or.inl y
  · refine Or.inr ⟨q', cap, cur, y1, y2, ?_, y4⟩
    injection y1 with y1
    injection y1 with y1
    injection y1 with y1
    subst y1
    exact x.at h1 h2 y3
end Go.Proofs.YtmiceolkmiiahaaGreatDoor
