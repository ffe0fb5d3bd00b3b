/- Walks: Parse. -/
import Derived.Test.YtmiceolkmiiahaaGreatDoorW29
namespace Go.Proofs.YtmiceolkmiiahaaGreatDoor
open Go.RowKit
set_option linter.unusedVariables false
set_option linter.unusedSimpArgs false
set_option maxRecDepth 100000
set_option maxHeartbeats 16000000

def file0 : Value := fileV ⟨#[]⟩ 0 0 (.slice none 0 0) (.slice none 0 0)
/-- What Parse hands back. -/
def PRes (r : Res) (en : Ending) (w : World) : Prop := match r with
  | .bad l e => en = .returned (.tuple #[file0, .int .i64 (l : Int), .int .i64 e])
  | .good n W H cs ps => ∃ cv pv, en = .returned (.tuple #[fileV (str n) W H cv pv, .int .i64 0, .int .i64 0]) ∧ CelSl w cv cs ∧ PoSl w pv ps ∧ CapOk pv
/-- The reader and the file between two lines of starts. -/
def S3 (g gf B : Nat) (r : Res) (wr : World) : Prop :=
  ∃ R a e, wr.heap[g]? = some (rdO R a e) ∧ (e ≠ 0 → r = .bad a e) ∧
    (e = 0 → ∃ n W H cs ps ao l c po pl pc, wr.heap[gf]? = some (fO (str n) W H (.slice ao l c) (.slice po pl pc)) ∧ n.length ≤ 100000 ∧ a + R.length ≤ 50000 ∧ ps.length + R.length ≤ 50000 ∧ cs.length ≤ 1024 ∧ sStarts n W H cs (sp 10 R) a ps = r ∧
      wr.ownsRow B 41 3 (.slice ao l c) cs.length (cellsOf Cel.l cs) ∧ wr.ownsRow B 55 2 (.slice po pl pc) ps.length (cellsOf Po.l ps) ∧ (∀ q, (Value.slice po pl pc).ownBlock = some q → (Value.slice ao l c).ownBlock ≠ some q))
def meas (g : Nat) (w : World) : Nat := match w.heap[g]? with
  | some (Obj.cells cs _ _) => match cs.getD 0 .nilIface, cs.getD 2 .nilIface with
    | Value.string s, Value.int _ e => if e = 0 then s.size + 1 else 0
    | _, _ => 0
  | _ => 0
theorem ownsRow_grown {wx w' : World} {row : Option Nat} {base e size n : Nat} {v : Value} {xs : List Value} (o : wx.ownsRow base e size v n xs) (hg : wx.grownBy w' row) (hne : ∀ q, v.ownBlock = some q → row ≠ some q) : w'.ownsRow base e size v n xs := by
  refine ⟨o.1, ?_⟩
  rcases o.2 with h2 | ⟨g', cap, cur, h1, h2, h3, h4⟩
  · exact Or.inl h2
  · refine Or.inr ⟨g', cap, cur, h1, h2, ?_, h4⟩
    rw [hg.block g' (heap_lt h3) (fun e => hne g' (by rw [h1]; rfl) e.symm)]
    exact h3
theorem meas_eq {g : Nat} {w : World} {R : List UInt8} {a : Nat} {e : Int} (h : w.heap[g]? = some (rdO R a e)) : meas g w = if e = 0 then R.length + 1 else 0 := by
  unfold meas
  rw [h]
  rfl
theorem pos_info : ∃ i0, Tryz.prog.info? 55 = some i0 ∧ i0.zero = some (.agg #[.int .i64 0, .int .i64 0]) ∧ i0.size = 2 ∧ i0.bytes = 16 := by
  have hi : (Tryz.prog.info? 55).map (fun i => (i.bytes, i.size, i.zero)) = some (16, 2, some (.agg #[.int .i64 0, .int .i64 0])) := by kernel_rfl
  obtain ⟨i, h1, h2⟩ := Option.map_eq_some_iff.1 hi
  injection h2 with h2 h3
  injection h3 with h3 h4
  exact ⟨i, h1, h4, h3, h2⟩
theorem capOk_owns {w : World} {B e s n : Nat} {v : Value} {xs : List Value} (h : w.ownsRow B e s v n xs) : CapOk v := by
  intro a l c hv
  rcases h.2 with ⟨h1, _⟩ | ⟨g, cap, cur, h1, _, _, h4, _⟩
  · rw [h1] at hv; cases hv
  · rw [h1] at hv; injection hv with _ h5 h6; omega
/-- The first line. -/
theorem first_step (l b c d : List UInt8) (hl : sp 32 l = [wMap, b, c, d]) (v1 v2 e0 e1 e2 : Int) (hn0 : nameB (str b) = true → e0 = 0) (hn1 : nameB (str b) = false → e0 = 5)
    (a0 : numOk c 1 32 → v1 = numT c) (a1 : numOk c 1 32 → e1 = e0) (a2 : ¬ numOk c 1 32 → e1 = if e0 = 0 then 5 else e0)
    (b0 : numOk d 1 32 → v2 = numT d) (b1 : numOk d 1 32 → e2 = e1) (b2 : ¬ numOk d 1 32 → e2 = if e1 = 0 then 5 else e1) :
    (e2 = 0 → (firstP l = some (b, v1, v2) ∧ (1 ≤ v1 ∧ v1 ≤ 32) ∧ (1 ≤ v2 ∧ v2 ≤ 32)) ∧ e0 = 0) ∧ (e2 ≠ 0 → firstP l = none ∧ e2 = 5) := by
  unfold firstP
  rw [hl]
  simp only [true_and]
  by_cases hn : nameB (str b) = true
  · have z0 := hn0 hn
    by_cases o1 : numOk c 1 32
    · have z1 := a1 o1
      by_cases o2 : numOk d 1 32
      · have z2 := b1 o2
        have u1 := a0 o1; have u2 := b0 o2
        rw [if_pos ⟨hn, o1, o2⟩, u1, u2]
        exact ⟨fun _ => ⟨⟨rfl, o1, o2⟩, z0⟩, fun h => absurd (by omega) h⟩
      · have z2 := b2 o2
        rw [if_pos (by omega)] at z2
        rw [if_neg (fun h => o2 h.2.2)]
        exact ⟨fun h => by omega, fun _ => ⟨rfl, z2⟩⟩
    · have z1 := a2 o1
      rw [if_pos z0] at z1
      have z2 : e2 = 5 := by
        by_cases o2 : numOk d 1 32
        · rw [b1 o2, z1]
        · rw [b2 o2, if_neg (by omega), z1]
      rw [if_neg (fun h => o1 h.2.1)]
      exact ⟨fun h => by omega, fun _ => ⟨rfl, z2⟩⟩
  · have z0 := hn1 (by simpa using hn)
    have z1 : e1 = 5 := by
      by_cases o1 : numOk c 1 32
      · rw [a1 o1, z0]
      · rw [a2 o1, if_neg (by omega), z0]
    have z2 : e2 = 5 := by
      by_cases o2 : numOk d 1 32
      · rw [b1 o2, z1]
      · rw [b2 o2, if_neg (by omega), z1]
    rw [if_neg (fun h => hn h.1)]
    exact ⟨fun h => by omega, fun _ => ⟨rfl, z2⟩⟩
theorem len_two {α : Type} {l : List α} (h : l.length = 2) : ∃ a b, l = [a, b] := by
  match l, h with
  | [a, b], _ => exact ⟨a, b, rfl⟩
theorem firstP_bad (l : List UInt8) (h : ∀ rest, sp 32 l = wMap :: rest → rest.length ≠ 3) : firstP l = none := by
  unfold firstP
  split
  · rename_i a b c d he
    rw [if_neg]
    rintro ⟨rfl, _⟩
    exact h _ he rfl
  · rfl
theorem startP_bad (l : List UInt8) (h : ∀ rest, sp 32 l = wStart :: rest → rest.length ≠ 2) : startP l = none := by
  unfold startP
  split
  · rename_i a b c he
    rw [if_neg]
    rintro ⟨rfl, _⟩
    exact h _ he rfl
  · rfl
theorem start_step (l b c : List UInt8) (hl : sp 32 l = [wStart, b, c]) (v1 v2 e1 e2 : Int)
    (a0 : numOk b 0 31 → v1 = numT b) (a1 : numOk b 0 31 → e1 = 0) (a2 : ¬ numOk b 0 31 → e1 = 5)
    (b0 : numOk c 0 31 → v2 = numT c) (b1 : numOk c 0 31 → e2 = e1) (b2 : ¬ numOk c 0 31 → e2 = if e1 = 0 then 5 else e1) :
    (e2 = 0 → startP l = some ⟨v1, v2⟩) ∧ (e2 ≠ 0 → startP l = none ∧ e2 = 5) := by
  unfold startP
  rw [hl]
  simp only [true_and]
  by_cases o1 : numOk b 0 31
  · have z1 := a1 o1
    by_cases o2 : numOk c 0 31
    · have z2 := b1 o2
      have u1 := a0 o1; have u2 := b0 o2
      obtain ⟨p1, p2⟩ := o1
      obtain ⟨p3, p4⟩ := o2
      rw [if_pos ⟨⟨p1, by omega⟩, p3, by omega⟩, u1, u2]
      exact ⟨fun _ => rfl, fun h => absurd (by omega) h⟩
    · have z2 := b2 o2
      rw [if_pos (by omega)] at z2
      rw [if_neg (fun h => o2 ⟨h.2.1, by omega⟩)]
      exact ⟨fun h => by omega, fun _ => ⟨rfl, z2⟩⟩
  · have z1 := a2 o1
    have z2 : e2 = 5 := by
      by_cases o2 : numOk c 0 31
      · rw [b1 o2, z1]
      · rw [b2 o2, if_neg (by omega), z1]
    rw [if_neg (fun h => o1 ⟨h.1.1, by omega⟩)]
    exact ⟨fun h => by omega, fun _ => ⟨rfl, z2⟩⟩
theorem starts_end (n : List UInt8) (W H : Int) (cs : List Cel) (ps : List Po) (a : Nat) (R : List UInt8) (hR : R ≠ []) (h : nxt (sp 10 R) = none) : sStarts n W H cs (sp 10 R) a ps = .bad (a + 1) 4 := by
  rw [(nxt_none R h).2, sStarts, if_neg hR]
theorem starts_next (n : List UInt8) (W H : Int) (cs : List Cel) (ps : List Po) (a : Nat) (R l : List UInt8) (L : List (List UInt8)) (h : nxt (sp 10 R) = some (l, L)) : sStarts n W H cs (sp 10 R) a ps = match startP l with | none => .bad (a + 1) 5 | some p => sStarts n W H cs L (a + 1) (ps ++ [p]) := by
  match hs : sp 10 R, h with
  | x :: y :: M, h =>
    simp only [nxt, Option.some.injEq, Prod.mk.injEq] at h
    obtain ⟨rfl, rfl⟩ := h
    rw [sStarts]
    rfl
  | [x], h => cases h
  | [], h => cases h
theorem starts_fin (n : List UInt8) (W H : Int) (cs : List Cel) (ps : List Po) (a : Nat) : sStarts n W H cs (sp 10 []) a ps = fin n W H cs ps := by
  show sStarts n W H cs [[]] a ps = _
  rw [sStarts, if_pos rfl]

/-- One start more. -/
theorem S3_next {g gf : Nat} (hgf : g + 1 = gf) {r : Res} {n ln R R' : List UInt8} {W H : Int} {cs : List Cel} {ps : List Po} {ao po : Option Addr} {l c pl pc q cap a : Nat} {L' : List (List UInt8)} {v1 v2 e : Int} {w3 w7 w8 : World} {o : Obj} {row : Option Nat} (hz3 : w3.heap.size = gf + 1) (hfr : Fr g gf w3 w7)
    (hx : nxt (sp 10 R) = some (ln, L')) (hL : sp 10 R' = L') (hR : R'.length < R.length) (hn : n.length ≤ 100000) (xa : a + R.length ≤ 50000) (xp : ps.length + R.length ≤ 50000) (xc : cs.length ≤ 1024) (h2 : sStarts n W H cs (sp 10 R) a ps = r)
    (hst : (e = 0 → startP ln = some ⟨v1, v2⟩) ∧ (e ≠ 0 → startP ln = none ∧ e = 5)) (hg : w7.heap[g]? = some (rdO R' (a + 1) e)) (hm : w7.heap[gf]? = some (fO (str n) W H (.slice ao l c) (.slice po pl pc)))
    (x3 : w7.ownsRow (gf + 1) 41 3 (.slice ao l c) cs.length (cellsOf Cel.l cs)) (x4 : w7.ownsRow (gf + 1) 55 2 (.slice po pl pc) ps.length (cellsOf Po.l ps)) (x5 : ∀ q, (Value.slice po pl pc).ownBlock = some q → (Value.slice ao l c).ownBlock ≠ some q)
    (hgrow : (w7.alloc o).grownBy w8 row) (hrow : row = (Value.slice po pl pc).ownBlock) (hown : w8.ownsRow (gf + 1) 55 2 (.slice (some ⟨q, 0, none⟩) (ps.length + 1) cap) (ps.length + 1) (cellsOf Po.l ps ++ [.int .i64 v1, .int .i64 v2])) (hat : (Value.slice po pl pc).ownBlock = some q ∨ q = (w7.alloc o).heap.size) :
    w8.heap[gf]? = some (fO (str n) W H (.slice ao l c) (.slice po pl pc)) ∧ Fr g gf w3 (w8.setCell ⟨gf, 4, none⟩ (.slice (some ⟨q, 0, none⟩) (ps.length + 1) cap)) ∧ S3 g gf (gf + 1) r (w8.setCell ⟨gf, 4, none⟩ (.slice (some ⟨q, 0, none⟩) (ps.length + 1) cap)) ∧ meas g (w8.setCell ⟨gf, 4, none⟩ (.slice (some ⟨q, 0, none⟩) (ps.length + 1) cap)) < R.length + 1 := by
  subst hrow
  have hne : ∀ j, (Value.slice po pl pc).ownBlock = some j → gf + 1 ≤ j := fun j hj => (x4.lt j hj).1
  have g3 := app_keep hgrow (Eq.trans (Below.heap_alloc w7 o g (heap_lt hg)) hg) (fun j hj => by have := hne j hj; omega)
  have m3 := app_keep hgrow (Eq.trans (Below.heap_alloc w7 o gf (heap_lt hm)) hm) (fun j hj => by have := hne j hj; omega)
  have g4 : (w8.setCell ⟨gf, 4, none⟩ (.slice (some ⟨q, 0, none⟩) (ps.length + 1) cap)).heap[g]? = some (rdO R' (a + 1) e) := by
    rw [Below.heap_setCell _ _ _ _ (by simp; omega)]; exact g3
  refine ⟨m3, ?_, ⟨R', a + 1, e, g4, fun he => ?_, fun he => ?_⟩, ?_⟩
  · exact ((hfr.alloc o).grown hgrow (fun j hj => by have := hne j hj; omega)).st2 4 _
  · obtain ⟨h5, h6⟩ := hst.2 he
    rw [starts_next n W H cs ps a R ln L' hx, h5] at h2
    rw [← h2, h6]
  · have h5 := hst.1 he
    rw [starts_next n W H cs ps a R ln L' hx, h5] at h2
    refine ⟨n, W, H, cs, ps ++ [⟨v1, v2⟩], ao, l, c, some ⟨q, 0, none⟩, ps.length + 1, cap, ?_, hn, by omega, by simp; omega, xc, by rw [hL]; exact h2, ?_, ?_, ?_⟩
    · rw [heap_setCell_same _ _ _ _ _ _ m3]; rfl
    · exact ownsRow_setfar (ownsRow_grown (x3.alloc o) hgrow (fun j hj e => x5 j e hj)) _ _ (by simp)
    · rw [List.length_append, List.length_singleton, cellsOf_snoc]
      exact ownsRow_setfar hown _ _ (by simp)
    · intro j hj
      simp [Value.ownBlock] at hj
      subst hj
      rcases hat with h | h
      · exact x5 q h
      · intro h7
        have := (x3.lt q h7).2
        rw [World.size_alloc] at h
        omega
  · rw [meas_eq g4]
    split <;> omega
abbrev st5 (w : World) (rb : Nat) (a b c d e : Value) : World := ((((w.setCell ⟨rb, 0, none⟩ a).setCell ⟨rb, 1, none⟩ b).setCell ⟨rb, 2, none⟩ c).setCell ⟨rb, 3, none⟩ d).setCell ⟨rb, 4, none⟩ e
theorem st5_below {w wv : World} {B rb : Nat} {a b c d e : Value} (h : Below B w wv) (hB : B ≤ rb) : Below B w (st5 wv rb a b c d e) := ((((h.setCell hB _).setCell hB _).setCell hB _).setCell hB _).setCell hB _
theorem st5_row {wv : World} {rb : Nat} {a b c d e : Value} {base el size n : Nat} {v : Value} {xs : List Value} (h : wv.ownsRow base el size v n xs) (hB : rb < base) : (st5 wv rb a b c d e).ownsRow base el size v n xs :=
  ownsRow_setfar (ownsRow_setfar (ownsRow_setfar (ownsRow_setfar (ownsRow_setfar h _ _ hB) _ _ hB) _ _ hB) _ _ hB) _ _ hB
theorem good_end {n : List UInt8} {W H : Int} {cs : List Cel} {ps : List Po} {wv : World} {rb B : Nat} {a b c d e cv pv : Value} (h1 : wv.ownsRow B 41 3 cv cs.length (cellsOf Cel.l cs)) (h2 : wv.ownsRow B 55 2 pv ps.length (cellsOf Po.l ps)) (hB : rb < B) :
    PRes (.good n W H cs ps) (.returned (.tuple #[fileV (str n) W H cv pv, .int .i64 0, .int .i64 0])) (st5 wv rb a b c d e) :=
  ⟨cv, pv, rfl, sl_of_owns Cel.l_len (st5_row h1 hB), sl_of_owns Po.l_len (st5_row h2 hB), capOk_owns h2⟩
theorem Parse_long (s : List UInt8) (h : 32768 < s.length) (hz : s.length ≤ 1000000) (w : World) : Calls Tryz.prog 13 #[.string (str s)] w fun en w' => PRes (parseS s) en w' ∧ Below w.heap.size w w' := by
  unfold parseS PRes
  rw [if_pos h]
  dsimp only
  have hs : (32768 : Int) < ((str s).size : Int) := by rw [str_size]; omega
  generalize str s = S at *
  go_enter Tryz.func13, Tryz.ntmps13
  go_wp2_with fail
  exact bodyPost_ret (v := .tuple #[file0, .int .i64 0, .int .i64 2]) (by simp [results, Tryz.results13, go_sem, file0, fileV]) rfl ⟨rfl, by repeat' (first | exact Below.refl _ _ | refine below_dN ?_ _ | refine Below.drew ?_ | refine Below.setCell ?_ (by simp) _ | refine Below.alloc ?_ (by simp) _)⟩

theorem Parse_any (s : List UInt8) (h : s.length ≤ 32768) (w : World) (hc : Ctx w) : Calls Tryz.prog 13 #[.string (str s)] w fun en w' => PRes (parseS s) en w' ∧ Below w.heap.size w w' := by
  have hs : ¬ (32768 : Int) < ((str s).size : Int) := by rw [str_size]; omega
  obtain ⟨r, hr⟩ : ∃ r, parseS s = r := ⟨_, rfl⟩
  rw [hr]
  have HR := Lib.hid hr; have HC := Lib.hid hc
  clear hr hc
  obtain ⟨S, hS⟩ : ∃ S, str s = S := ⟨_, rfl⟩
  have HS := Lib.hid hS
  rw [hS] at hs ⊢
  clear hS
  go_enter Tryz.func13, Tryz.ntmps13
  go_wp2_with fail
  obtain ⟨w3, hw3⟩ : ∃ w3, ((w.alloc (fO (str []) 0 0 (.slice none 0 0) (.slice none 0 0))).alloc (.cells #[.string S, .int .i64 0, .int .i64 0] 67)).alloc (fO (str []) 0 0 (.slice none 0 0) (.slice none 0 0)) = w3 := ⟨_, rfl⟩
  have hb3 : Below w.heap.size w w3 := by rw [← hw3]; exact (((Below.refl _ _).alloc (Nat.le_refl _) _).alloc (by simp) _).alloc (by simp; omega) _
  have hr3 : w3.heap[w.heap.size]? = some (fO (str []) 0 0 (.slice none 0 0) (.slice none 0 0)) := by rw [← hw3, Below.heap_alloc _ _ _ (by simp; omega), Below.heap_alloc _ _ _ (by simp)]; exact tok_new _ _
  have hg3 : w3.heap[w.heap.size + 1]? = some (rdO s 0 0) := by
    rw [← hw3, Below.heap_alloc _ _ _ (by simp)]
    have h := tok_new (w.alloc (fO (str []) 0 0 (.slice none 0 0) (.slice none 0 0))) (.cells #[.string S, .int .i64 0, .int .i64 0] 67)
    rw [tok_size, ← HS.out] at h
    rw [← HS.out]
    exact h
  have hm3 : w3.heap[w.heap.size + 1 + 1]? = some (fO (str []) 0 0 (.slice none 0 0) (.slice none 0 0)) := by
    have h := tok_new ((w.alloc (fO (str []) 0 0 (.slice none 0 0) (.slice none 0 0))).alloc (.cells #[.string S, .int .i64 0, .int .i64 0] 67)) (fO (str []) 0 0 (.slice none 0 0) (.slice none 0 0))
    rw [tok_size, tok_size, hw3] at h
    exact h
  have hz3 : w3.heap.size = w.heap.size + 1 + 1 + 1 := by rw [← hw3]; simp
  have HO3 := Lib.hid (show Own w3 (w.heap.size + 1) (w.heap.size + 1 + 1) from ⟨w, HC.out, hb3, by omega, by omega⟩)
  have HB3 := Lib.hid hb3; have HR3 := Lib.hid hr3; have HG3 := Lib.hid hg3; have HM3 := Lib.hid hm3
  have hrr := HR.out
  unfold parseS at hrr
  rw [if_neg (by omega)] at hrr
  have hbd : (∃ E : Int, E ≠ 0 ∧ ((nxt (sp 10 s) = none ∧ E = 4) ∨ (∃ l L, nxt (sp 10 s) = some (l, L) ∧ (∀ rest, sp 32 l = wMap :: rest → rest.length ≠ 3) ∧ E = 5)) ∧ r = .bad (0 + 1) E) ∨
      (∃ ln L' l0 l1 l2, nxt (sp 10 s) = some (ln, L') ∧ sp 32 ln = [wMap, l0, l1, l2] ∧ ln.length ≤ s.length ∧ (match firstP ln with | none => Res.bad 1 5 | some (n, W, H) => sKinds n W H H.toNat [] L' 1) = r) := by
    cases hx : nxt (sp 10 s) with
    | none =>
      rw [hx] at hrr
      exact Or.inl ⟨4, by decide, Or.inl ⟨rfl, rfl⟩, hrr.symm⟩
    | some p =>
      obtain ⟨ln, L'⟩ := p
      rw [hx] at hrr
      replace hrr : (match firstP ln with | none => Res.bad 1 5 | some (n, W, H) => sKinds n W H H.toNat [] L' 1) = r := hrr
      by_cases hsh : ∃ rest, sp 32 ln = wMap :: rest ∧ rest.length = 3
      · obtain ⟨rest, h1, h2⟩ := hsh
        obtain ⟨l0, l1, l2, rfl⟩ := len_three h2
        obtain ⟨r', h3, _, _⟩ := nxt_some s ln L' hx
        exact Or.inr ⟨ln, L', l0, l1, l2, rfl, h1, by rw [h3]; simp, hrr⟩
      · have hno : ∀ rest, sp 32 ln = wMap :: rest → rest.length ≠ 3 := fun rest h1 h2 => hsh ⟨rest, h1, h2⟩
        rw [firstP_bad ln hno] at hrr
        exact Or.inl ⟨5, by decide, Or.inr ⟨ln, L', rfl, hno, rfl⟩, hrr.symm⟩
  rw [show ((w.alloc (.cells #[.string ⟨#[]⟩, .int .i64 0, .int .i64 0, .slice none 0 0, .slice none 0 0] 27)).alloc (.cells #[.string S, .int .i64 0, .int .i64 0] 67)).alloc (.cells #[.string ⟨#[]⟩, .int .i64 0, .int .i64 0, .slice none 0 0, .slice none 0 0] 27) = w3 from hw3]
  obtain ⟨g, hg⟩ : ∃ g, w.heap.size + 1 = g := ⟨_, rfl⟩
  obtain ⟨rb, hrb⟩ : ∃ g, w.heap.size = g := ⟨_, rfl⟩
  obtain ⟨gf, hgf⟩ : ∃ gf, g + 1 = gf := ⟨_, rfl⟩
  rw [hg, hgf] at HM3 HO3
  rw [hg] at HG3
  rw [hrb] at HR3
  have HZ3 := Lib.hid (show w3.heap.size = gf + 1 by omega)
  rw [hg, hgf, hrb]
  clear hz3 hw3 hb3 hr3 hg3 hm3 hrr
  rcases hbd with ⟨E, hE, hcond, hrE⟩ | ⟨ln, L', l0, l1, l2, hx, hsp, hlnl, hres⟩
  · have HWD := Lib.hid (show Calls Tryz.prog 37 #[rdP g, .string ⟨#[109, 97, 112]⟩, .int .i64 3] w3 _ from words_no g s wMap 3 0 (by omega) (by omega) E hcond (by omega) w3 HO3.out.one HG3.out)
    have hE' : (E == 0) = false := by simpa using hE
    have hE2 : (E != 0) = true := by simpa using hE
    have HRE := Lib.hid hrE; have HNE := Lib.hid hE
    clear hE hcond hrE
    refine HWD.out.mono ?_
    rintro e wX ⟨⟨v, rfl⟩, ⟨R', hg5⟩, hf5⟩
    obtain ⟨⟨c0, c1, c2⟩, _⟩ := cells3 hg5
    have hS := Lib.hid (show ∃ R a e, wX.heap[g]? = some (rdO R a e) ∧ e ≠ 0 ∧ r = .bad a e from ⟨R', 0 + 1, E, hg5, HNE.out, HRE.out⟩)
    have HFX := Lib.hid (Fr.wide (h := gf) hf5)
    clear hg5 hf5
    go_wp2_with fail
    clear c0 c1 c2
    go_loopw [] (fun wr => wr = wX) (fun wr => 0)
    case atStart => rfl
    case round =>
      obtain ⟨R, a, e, hrg, he, hrr⟩ := hS.out
      subst hrel
      have hrb2 : rb ≠ g ∧ rb ≠ gf := by omega
      have HRB := Lib.hid (HFX.out.at hrb2.1 hrb2.2 HR3.out)
      obtain ⟨⟨r0, r1, r2⟩, _⟩ := cells3 hrg
      obtain ⟨⟨t0, t1, t2, t3, t4⟩, ⟨y0, y1, y2, y3, y4⟩⟩ := cells5 HRB.out
      have HBW := Lib.hid (HB3.out.trans (HFX.out.below (B := w.heap.size) (by omega) (by omega) (by have := HZ3.out; omega)))
      have hzrb := heap_lt HRB.out
      have hrbw : w.heap.size ≤ rb := by omega
      have he' : (e == 0) = false := by simpa using he
      have he2 : (e != 0) = true := by simpa using he
      have hrr := Lib.hid hrr
      clear he hrg hS HFX
      go_wp2_with fail
      go_region
      all_goals
        go_wp2_with fail
        exact bodyPost_ret (v := .tuple #[file0, .int .i64 (a : Int), .int .i64 e]) (by simp [results, Tryz.results13, go_sem, file0, fileV, t0, t1, t2, t3, t4, y0, y1, y2, y3, y4, hzrb]) rfl
          ⟨by rw [hrr.out]; rfl, Below.drew (st5_below HBW.out hrbw)⟩
  · have HWD := Lib.hid (show Calls Tryz.prog 37 #[rdP g, .string ⟨#[109, 97, 112]⟩, .int .i64 3] w3 _ from words_ok g s ln wMap [l0, l1, l2] 3 L' 0 (by omega) (by omega) hx (by omega) hsp rfl (by omega) (by omega) w3 HO3.out.one HG3.out)
    have HSP := Lib.hid hsp; have HRES := Lib.hid hres
    have hls : l0.length ≤ 100000 ∧ l1.length ≤ 100000 ∧ l2.length ≤ 100000 := by
      have h := sp_le 32 ln
      rw [hsp] at h
      exact ⟨Nat.le_trans (h l0 (by simp)) (by omega), Nat.le_trans (h l1 (by simp)) (by omega), Nat.le_trans (h l2 (by simp)) (by omega)⟩
    obtain ⟨z0, z1, z2⟩ := hls
    clear hx hsp hlnl hres
    have hgz : gf < w3.heap.size := heap_lt HM3.out
    have hgg : gf ≠ g := by omega
    have hrbg : rb ≠ g ∧ rb ≠ gf := by omega
    refine HWD.out.mono ?_
    rintro e w5 ⟨⟨b, rfl, hb5, hbz⟩, ⟨R', hR', hL', hg5⟩, hf5⟩
    have hbg : b ≠ g ∧ b ≠ gf := by omega
    have hm5 := hf5.at hgg hgg HM3.out
    obtain ⟨⟨c0, c1, c2⟩, _⟩ := cells3 hg5
    obtain ⟨⟨m0, m1, m2, m3, m4⟩, ⟨n0, n1, n2, n3, n4⟩⟩ := cells5 hm5
    have s1 : w5.cell? ⟨b, 1, none⟩ = some (.string (str l0)) := by rw [Lib.cell_of_heap hb5]; rfl
    have HF5 := Lib.hid (Fr.wide (h := gf) hf5)
    have XR := Lib.hid (show (0 + 1) + R'.length ≤ 50000 ∧ R'.length ≤ 50000 by omega)
    have HL5 := Lib.hid hL'
    obtain ⟨w5s, hw5s⟩ : ∃ w', w5.setCell ⟨gf, 0, none⟩ (.string (str l0)) = w' := ⟨_, rfl⟩
    have HFs := Lib.hid (show Fr g gf w3 w5s by rw [← hw5s]; exact HF5.out.st2 _ _)
    have HGs := Lib.hid (show w5s.heap[g]? = some (rdO R' (0 + 1) 0) by rw [← hw5s, Below.heap_setCell _ _ _ _ (by simp; omega)]; exact hg5)
    have HBs := Lib.hid (show w5s.heap[b]? = some (strsO [wMap, l0, l1, l2]) by rw [← hw5s, Below.heap_setCell _ _ _ _ (by simp; omega)]; exact hb5)
    have HMs := Lib.hid (show w5s.heap[gf]? = some (fO (str l0) 0 0 (.slice none 0 0) (.slice none 0 0)) by rw [← hw5s, heap_setCell_same _ _ _ _ _ _ hm5]; rfl)
    have HWs := Lib.hid hw5s
    have HNM := Lib.hid (name_any (str l0) (by rw [str_size]; omega))
    unfold KC at HNM
    clear hg5 hf5 hm5 hb5 hL' hw5s
    go_wp2_with fail
    rw [HWs.out]
    clear c0 c1 c2 m0 m1 m2 m3 m4 n0 n1 n2 n3 n4 s1 HWs
    obtain ⟨⟨c0, c1, c2⟩, _⟩ := cells3 HGs.out
    have s2 : w5s.cell? ⟨b, 2, none⟩ = some (.string (str l1)) := by rw [Lib.cell_of_heap HBs.out]; rfl
    refine (HNM.out _).mono ?_
    rintro e w5t ⟨rfl, rfl⟩
    by_cases hn : nameB (str l0) = true
    obtain ⟨e0, he0⟩ : ∃ e0 : Int, e0 = 0 := ⟨_, rfl⟩
    have hn0 := Lib.hid (show nameB (str l0) = true → e0 = 0 from fun _ => he0)
    have hn1 := Lib.hid (show nameB (str l0) = false → e0 = 5 from fun h => by rw [hn] at h; cases h)
    have HE0 := Lib.hid he0
    clear he0
    rw [hn]
    rotate_left
    replace hn : nameB (str l0) = false := by simpa using hn
    obtain ⟨e0, he0⟩ : ∃ e0 : Int, e0 = 5 := ⟨_, rfl⟩
    have hn0 := Lib.hid (show nameB (str l0) = true → e0 = 0 from fun h => by rw [hn] at h; cases h)
    have hn1 := Lib.hid (show nameB (str l0) = false → e0 = 5 from fun _ => he0)
    have HE0 := Lib.hid he0
    clear he0
    rw [hn]
    all_goals go_wp2_with fail
    refine (fail_any g R' (0 + 1) 0 5 _ HGs.out).mono ?_
    rintro e w6 ⟨rfl, hw6, hf6⟩
    have HG6 := Lib.hid (show w6.heap[g]? = some (rdO R' (0 + 1) e0) by rw [HE0.out]; exact hw6)
    have HF6 := Lib.hid hf6
    have s2' : w6.cell? ⟨b, 2, none⟩ = some (.string (str l1)) := hf6.cell hbg.1 hbg.1 s2
    clear hw6 hf6
    go_wp2_with fail
    rotate_left
    obtain ⟨w6, hw6⟩ : ∃ w6, w6 = w5s := ⟨_, rfl⟩
    have HG6 := Lib.hid (show w6.heap[g]? = some (rdO R' (0 + 1) e0) by rw [hw6, HE0.out]; exact HGs.out)
    have HF6 := Lib.hid (show Fr g g w5s w6 by rw [hw6]; exact Fr.refl _ _ _)
    rw [← hw6]
    clear hw6
    all_goals
      have HO6 := Lib.hid ((HO3.out.fr HFs.out).one.fr HF6.out)
      have hm6 := HF6.out.at hgg hgg HMs.out
      have hb6 := HF6.out.at hbg.1 hbg.1 HBs.out
      have HM6 := Lib.hid hm6; have HB6 := Lib.hid hb6
      clear hm6 hb6 c0 c1 c2 hn HNM
      refine (number_any g R' (0 + 1) e0 l1 z1 1 32 (by omega) (by omega) w6 HO6.out HG6.out).mono ?_
      rintro e w7 ⟨⟨v1, rfl, hv1⟩, ⟨e1, hw7, hy1, hx1⟩, hf7⟩
      have HV1 := Lib.hid hv1; have HY1 := Lib.hid hy1; have HX1 := Lib.hid hx1
      have hm7 := hf7.at hgg hgg HM6.out
      have hb7 := hf7.at hbg.1 hbg.1 HB6.out
      obtain ⟨w7s, hw7s⟩ : ∃ w', w7.setCell ⟨gf, 1, none⟩ (.int .i64 v1) = w' := ⟨_, rfl⟩
      have HF7 := Lib.hid (show Fr g gf w3 w7s by rw [← hw7s]; exact (HFs.out.trans (HF6.out.trans hf7).wide).st2 _ _)
      have HG7 := Lib.hid (show w7s.heap[g]? = some (rdO R' (0 + 1) e1) by rw [← hw7s, Below.heap_setCell _ _ _ _ (by simp; omega)]; exact hw7)
      have HB7 := Lib.hid (show w7s.heap[b]? = some (strsO [wMap, l0, l1, l2]) by rw [← hw7s, Below.heap_setCell _ _ _ _ (by simp; omega)]; exact hb7)
      have HM7 := Lib.hid (show w7s.heap[gf]? = some (fO (str l0) v1 0 (.slice none 0 0) (.slice none 0 0)) by rw [← hw7s, heap_setCell_same _ _ _ _ _ _ hm7]; rfl)
      have HW7 := Lib.hid hw7s
      obtain ⟨⟨m0, m1, m2, m3, m4⟩, ⟨n0, n1, n2, n3, n4⟩⟩ := cells5 hm7
      have s3 : w7.cell? ⟨b, 3, none⟩ = some (.string (str l2)) := by rw [Lib.cell_of_heap hb7]; rfl
      have hbgf := hbg.2; have hbgf' := hbg.2.symm
      clear hv1 hy1 hx1 hw7 hf7 hm7 hb7 hw7s
      go_wp2_with fail
      rw [HW7.out]
      clear m0 m1 m2 m3 m4 n0 n1 n2 n3 n4 s3 HW7
      refine (number_any g R' (0 + 1) e1 l2 z2 1 32 (by omega) (by omega) w7s (HO3.out.fr HF7.out).one HG7.out).mono ?_
      rintro e w8 ⟨⟨v2, rfl, hv2⟩, ⟨e2, hw8, hy2, hx2⟩, hf8⟩
      have HST := Lib.hid (first_step ln l0 l1 l2 HSP.out v1 v2 e0 e1 e2 hn0.out hn1.out HV1.out HY1.out HX1.out hv2 hy2 hx2)
      have hm8 := hf8.at hgg hgg HM7.out
      obtain ⟨w9, hw9⟩ : ∃ w', w8.setCell ⟨gf, 2, none⟩ (.int .i64 v2) = w' := ⟨_, rfl⟩
      have HF9 := Lib.hid (show Fr g gf w3 w9 by rw [← hw9]; exact (HF7.out.trans hf8.wide).st2 _ _)
      have HG9 := Lib.hid (show w9.heap[g]? = some (rdO R' (0 + 1) e2) by rw [← hw9, Below.heap_setCell _ _ _ _ (by simp; omega)]; exact hw8)
      have HM9 := Lib.hid (show w9.heap[gf]? = some (fO (str l0) v1 v2 (.slice none 0 0) (.slice none 0 0)) by rw [← hw9, heap_setCell_same _ _ _ _ _ _ hm8]; rfl)
      have c2w : (w8.setCell ⟨gf, 2, none⟩ (.int .i64 v2)).cell? ⟨g, 2, none⟩ = some (.int .i64 e2) := by rw [hw9]; exact (cells3 HG9.out).1.2.2
      have HW9 := Lib.hid hw9
      obtain ⟨⟨m0, m1, m2, m3, m4⟩, ⟨n0, n1, n2, n3, n4⟩⟩ := cells5 hm8
      clear hv2 hy2 hx2 hw8 hf8 hm8 hw9 HV1 HY1 HX1 hn0 hn1
      by_cases he : e2 = 0
      · subst he
        first
          | (exfalso; have hx1 := (HST.out.1 rfl).2; have hx2 := HE0.out; rw [hx1] at hx2; exact absurd hx2 (by decide))
          | (skip
             obtain ⟨⟨hfp, hvv1, hvv2⟩, _⟩ := HST.out.1 rfl
             have hres := HRES.out
             rw [hfp] at hres
             replace hres : sKinds l0 v1 v2 v2.toNat [] L' (0 + 1) = r := hres
             rw [← HL5.out] at hres
             have HCA := Lib.hid (cells_any g gf hgg.symm l0 v1 v2 hvv1 hvv2 (.slice none 0 0) R' (0 + 1) XR.out.1 w9 (HO3.out.fr HF9.out) HG9.out HM9.out r hres)
             have hl0 : l0.length ≤ 100000 := z0
             have hVV := Lib.hid (show v1.toNat * v2.toNat ≤ 32 * 32 from Nat.mul_le_mul (by omega) (by omega))
             clear hres hfp
             go_wp2_with fail
             rw [HW9.out]
             clear c2w m0 m1 m2 m3 m4 n0 n1 n2 n3 n4
             refine HCA.out.mono ?_
             rintro e wX ⟨rfl, hcp, hfx⟩
             have HFX := Lib.hid (HF9.out.trans hfx)
             have hS := Lib.hid (show S3 g gf (gf + 1) r wX by
               obtain ⟨R2, a2, e3, cs, ao, l, c, h1, h2, h3, h4⟩ := hcp.mono (show gf + 1 ≤ w9.heap.size from Nat.le_trans (by omega) HF9.out.size)
               refine ⟨R2, a2, e3, h1, h3, fun he => ?_⟩
               obtain ⟨x1, x2, x3, x4⟩ := h4 he
               exact ⟨l0, v1, v2, cs, [], ao, l, c, none, 0, 0, h2, hl0, x1, by simp; omega, by rw [x2]; exact hVV.out, x3, x4, World.ownsRow_nil _ _ _ _, fun q h => by cases h⟩)
             clear hcp hfx
             go_wp2_with fail
             go_loopw [] (fun wr => Fr g gf w3 wr ∧ S3 g gf (gf + 1) r wr) (fun wr => meas g wr)
             case atStart => exact ⟨HFX.out, hS.out⟩
             case round =>
               clear hS HFX
               obtain ⟨hfr, R, a, e, hrg, hbad, hrun⟩ := hrel
               have HE := Lib.hid hfr; have HRG := Lib.hid hrg
               have hgg2 : gf ≠ g := by omega
               have hrb2 : rb ≠ g ∧ rb ≠ gf := by omega
               have HRB := Lib.hid (hfr.at hrb2.1 hrb2.2 HR3.out)
               obtain ⟨⟨r0, r1, r2⟩, _⟩ := cells3 hrg
               obtain ⟨⟨t0, t1, t2, t3, t4⟩, ⟨y0, y1, y2, y3, y4⟩⟩ := cells5 HRB.out
               have hmeas := Lib.hid (meas_eq hrg)
               have HBW := Lib.hid (HB3.out.trans (HE.out.below (B := w.heap.size) (by omega) (by omega) (by have := HZ3.out; omega)))
               have hzrb : rb < wr.heap.size := heap_lt HRB.out
               have hrbw : w.heap.size ≤ rb := by omega
               by_cases he : e = 0
               · subst he
                 obtain ⟨n, W, H, cs, ps, ao, l, c, po, pl, pc, hrf, hn, xa, xp, xc, x2, x3, x4, x5⟩ := hrun rfl
                 have hms0 := Lib.hid (show meas g wr = R.length + 1 by rw [hmeas.out, if_pos rfl])
                 have X2 := Lib.hid x2; have X3 := Lib.hid x3; have X4 := Lib.hid x4; have X5 := Lib.hid x5; have HRF := Lib.hid hrf
                 obtain ⟨⟨m0, m1, m2, m3, m4⟩, _⟩ := cells5 hrf
                 by_cases hR0 : R = []
                 · subst hR0
                   rw [starts_fin] at x2
                   unfold fin at x2
                   have HVA := Lib.hid (Valid_any (str n) W H (.slice ao l c) (.slice po pl pc) cs ps wr (by rw [str_size]; omega) (sl_of_owns Cel.l_len x3) (by omega) (sl_of_owns Po.l_len x4) (by omega) (capOk_owns x4) (HO3.out.fr HE.out).ctx.pass)
                   have hemp : ((str []).toList == (⟨#[]⟩ : ByteArray).toList) = true := by simp
                   unfold KB fileV at HVA
                   by_cases hv : validT (str n) W H cs ps = 0
                   · rw [if_pos hv] at x2
                     rw [hv] at HVA
                     have HX := Lib.hid x2
                     clear hrun hbad hfr hrg hrf x2 x3 x4 x5 hv
                     go_wp2_with fail
                     refine HVA.out.mono ?_
                     rintro e wv ⟨rfl, hbv⟩
                     have X3v := Lib.hid (ownsRow_below X3.out hbv); have X4v := Lib.hid (ownsRow_below X4.out hbv)
                     obtain ⟨⟨t0, t1, t2, t3, t4⟩, ⟨y0, y1, y2, y3, y4⟩⟩ := cells5 (block_below hbv HRB.out)
                     obtain ⟨⟨m0, m1, m2, m3, m4⟩, _⟩ := cells5 (block_below hbv HRF.out)
                     have HBV := Lib.hid (HBW.out.trans (hbv.mono (by omega)))
                     have hzv : rb < wv.heap.size := Nat.lt_of_lt_of_le hzrb hbv.size
                     clear hbv
                     go_wp2_with fail
                     exact bodyPost_ret (v := .tuple #[fileV (str n) W H (.slice ao l c) (.slice po pl pc), .int .i64 0, .int .i64 0]) (by simp [results, Tryz.results13, go_sem, fileV, t0, t1, t2, t3, t4, y0, y1, y2, y3, y4, hzv]) rfl
                       ⟨by rw [← HX.out]; exact good_end X3v.out X4v.out (show rb < gf + 1 by omega), st5_below HBV.out hrbw⟩
                   · rw [if_neg hv] at x2
                     have hv2 : (validT (str n) W H cs ps != 0) = true := by simpa using hv
                     generalize validT (str n) W H cs ps = vt at *
                     have HX := Lib.hid x2
                     clear hrun hbad hfr hrg hrf x2 x3 x4 x5 hv
                     go_wp2_with fail
                     refine HVA.out.mono ?_
                     rintro e wv ⟨rfl, hbv⟩
                     obtain ⟨⟨t0, t1, t2, t3, t4⟩, ⟨y0, y1, y2, y3, y4⟩⟩ := cells5 (block_below hbv HRB.out)
                     have HBV := Lib.hid (HBW.out.trans (hbv.mono (by omega)))
                     have hzv : rb < wv.heap.size := Nat.lt_of_lt_of_le hzrb hbv.size
                     clear hbv
                     go_wp2_with fail
                     exact bodyPost_ret (v := .tuple #[file0, .int .i64 0, .int .i64 vt]) (by simp [results, Tryz.results13, go_sem, file0, fileV, t0, t1, t2, t3, t4, y0, y1, y2, y3, y4, hzv]) rfl
                       ⟨by rw [← HX.out]; rfl, st5_below HBV.out hrbw⟩
                 · have hR1 : ((str R).toList == (⟨#[]⟩ : ByteArray).toList) = false := ne_beq _ _ fun e => hR0 (str_inj (b := []) e)
                   have hR2 : ¬ (str R).toList = [] := by rw [str_list]; exact hR0
                   have hR3 : (str R).toList.isEmpty = false := by rw [str_list]; simpa using hR0
                   have hR4 : R.isEmpty = false := by simpa using hR0
                   have hbd : (∃ E : Int, E ≠ 0 ∧ ((nxt (sp 10 R) = none ∧ E = 4) ∨ (∃ l L, nxt (sp 10 R) = some (l, L) ∧ (∀ rest, sp 32 l = wStart :: rest → rest.length ≠ 2) ∧ E = 5)) ∧ r = .bad (a + 1) E) ∨
                       (∃ ln L' l0 l1, nxt (sp 10 R) = some (ln, L') ∧ sp 32 ln = [wStart, l0, l1] ∧ ln.length ≤ R.length) := by
                     cases hx : nxt (sp 10 R) with
                     | none =>
                       rw [starts_end n W H cs ps a R hR0 hx] at x2
                       exact Or.inl ⟨4, by decide, Or.inl ⟨rfl, rfl⟩, x2.symm⟩
                     | some p =>
                       obtain ⟨ln, L'⟩ := p
                       by_cases hsh : ∃ rest, sp 32 ln = wStart :: rest ∧ rest.length = 2
                       · obtain ⟨rest, h1, h2⟩ := hsh
                         obtain ⟨l0, l1, rfl⟩ := len_two h2
                         obtain ⟨r', h3, _, _⟩ := nxt_some R ln L' hx
                         exact Or.inr ⟨ln, L', l0, l1, rfl, h1, by rw [h3]; simp⟩
                       · have hno : ∀ rest, sp 32 ln = wStart :: rest → rest.length ≠ 2 := fun rest h1 h2 => hsh ⟨rest, h1, h2⟩
                         rw [starts_next n W H cs ps a R ln L' hx, startP_bad ln hno] at x2
                         exact Or.inl ⟨5, by decide, Or.inr ⟨ln, L', rfl, hno, rfl⟩, x2.symm⟩
                   clear hrun hbad x2 x3 x4 x5 hR0
                   rcases hbd with ⟨E, hEE, hcond, hrE⟩ | ⟨ln, L', l0, l1, hx, hsp, hlnl⟩
                   · have HWD := Lib.hid (show Calls Tryz.prog 37 #[rdP g, .string ⟨#[115, 116, 97, 114, 116]⟩, .int .i64 2] wr _ from words_no g R wStart 2 a (by omega) (by omega) E hcond (by omega) wr (HO3.out.fr HE.out).one HRG.out)
                     have hE' : (E == 0) = false := by simpa using hEE
                     have HRE := Lib.hid hrE; have HNE := Lib.hid hEE
                     clear hEE hcond hrE hrg hrf hfr
                     go_wp2_with fail
                     refine HWD.out.mono ?_
                     rintro e w5 ⟨⟨v, rfl⟩, ⟨R', hg5⟩, hf5⟩
                     obtain ⟨⟨c0, c1, c2⟩, _⟩ := cells3 hg5
                     have hK := Lib.hid (show S3 g gf (gf + 1) r w5 from ⟨R', a + 1, E, hg5, fun _ => HRE.out, fun h => absurd h HNE.out⟩)
                     have hms := Lib.hid (meas_eq hg5)
                     have HFF := Lib.hid (HE.out.trans (Fr.wide (h := gf) hf5))
                     clear hg5 hf5
                     go_wp2_with fail
                     go_roundw
                     case rel => exact ⟨HFF.out, hK.out⟩
                     case measure => rw [hms.out, hms0.out, if_neg HNE.out]; omega
                   · have HWD := Lib.hid (show Calls Tryz.prog 37 #[rdP g, .string ⟨#[115, 116, 97, 114, 116]⟩, .int .i64 2] wr _ from words_ok g R ln wStart [l0, l1] 2 L' a (by omega) (by omega) hx (by omega) hsp rfl (by omega) (by omega) wr (HO3.out.fr HE.out).one HRG.out)
                     have HX := Lib.hid hx; have HSP := Lib.hid hsp
                     have hls : l0.length ≤ 100000 ∧ l1.length ≤ 100000 := by
                       have h := sp_le 32 ln
                       rw [hsp] at h
                       exact ⟨Nat.le_trans (h l0 (by simp)) (by omega), Nat.le_trans (h l1 (by simp)) (by omega)⟩
                     obtain ⟨z0, z1⟩ := hls
                     have hgz : g < wr.heap.size := heap_lt hrg
                     have hgfz : gf < wr.heap.size := heap_lt hrf
                     clear hx hsp hlnl hrg hrf hfr
                     go_wp2_with fail
                     refine HWD.out.mono ?_
                     rintro e w5 ⟨⟨b, rfl, hb5, hbz⟩, ⟨R', hR', hL', hg5⟩, hf5⟩
                     have hbg : b ≠ g := by omega
                     obtain ⟨⟨c0, c1, c2⟩, _⟩ := cells3 hg5
                     have s1 : w5.cell? ⟨b, 1, none⟩ = some (.string (str l0)) := by rw [Lib.cell_of_heap hb5]; rfl
                     have HG5 := Lib.hid hg5; have HB5 := Lib.hid hb5; have HF5 := Lib.hid hf5
                     have HO5 := Lib.hid ((HO3.out.fr HE.out).one.fr hf5)
                     have HL5 := Lib.hid hL'
                     clear hg5 hb5 hf5 hL'
                     go_wp2_with fail
                     refine (number_any g R' (a + 1) 0 l0 z0 0 31 (by omega) (by omega) w5 HO5.out HG5.out).mono ?_
                     rintro e w6 ⟨⟨v1, rfl, hv1⟩, ⟨e1, hw6, hy1, hx1⟩, hf6⟩
                     have HV1 := Lib.hid hv1; have HY1 := Lib.hid hy1; have HX1 := Lib.hid hx1
                     have hb6 := hf6.at hbg hbg HB5.out
                     have s2 : w6.cell? ⟨b, 2, none⟩ = some (.string (str l1)) := by rw [Lib.cell_of_heap hb6]; rfl
                     have HG6 := Lib.hid hw6; have HF6 := Lib.hid hf6
                     have HO6 := Lib.hid (HO5.out.fr hf6)
                     clear hv1 hy1 hx1 hw6 hb6 hf6 s1 c0 c1 c2
                     go_wp2_with fail
                     refine (number_any g R' (a + 1) e1 l1 z1 0 31 (by omega) (by omega) w6 HO6.out HG6.out).mono ?_
                     rintro e w7 ⟨⟨v2, rfl, hv2⟩, ⟨e2, hw7, hy2, hx2⟩, hf7⟩
                     have HST := Lib.hid (start_step ln l0 l1 HSP.out v1 v2 e1 e2 HV1.out HY1.out (fun h => by simpa using HX1.out h) hv2 hy2 hx2)
                     have HFA := Lib.hid ((HF5.out.trans HF6.out).trans hf7)
                     have HM7 := Lib.hid (HFA.out.at hgg2 hgg2 HRF.out)
                     have hg1 : g < gf + 1 := by omega
                     have O3 := Lib.hid (ownsRow_fr X3.out HFA.out hg1 hg1)
                     have O4 := Lib.hid (ownsRow_fr X4.out HFA.out hg1 hg1)
                     obtain ⟨⟨m0, m1, m2, m3, m4⟩, ⟨n0, n1, n2, n3, n4⟩⟩ := cells5 HM7.out
                     have hz7 : wr.heap.size ≤ w7.heap.size := HFA.out.size
                     have m4a : ∀ o, (w7.alloc o).cell? ⟨gf, 4, none⟩ = some (.slice po pl pc) := fun o => cell_below (below_new _ _) m4
                     have NX := Lib.hid (fun (o : Obj) (w8 : World) (q cap : Nat) (row : Option Nat) => S3_next (w3 := w3) (w7 := w7) (w8 := w8) (o := o) (row := row) (q := q) (cap := cap) hgf HZ3.out (HE.out.trans (Fr.wide (h := gf) HFA.out)) HX.out HL5.out hR' hn xa xp xc X2.out HST.out hw7 HM7.out O3.out O4.out X5.out)
                     obtain ⟨i1, hi, hz0, hz1, hz2⟩ := pos_info
                     have hpsl : ps.length ≤ 50000 := by omega
                     have hown := O4.out
                     clear hv2 hy2 hx2 hw7 hf7 s2
                     go_wp2_with (at_builtin; go_must (refine wpList_append_lies _ rfl _ _ 25 rfl (gf + 1) 55 i1 (.agg #[.int .i64 0, .int .i64 0]) 2 16 Tryz.underlying25 hi hz0 hz1 hz2 rfl (by decide) _ _ _ rfl (hown.alloc _) ⟨w7.heap.size, 0, none⟩ 1 1 [.int .i64 v1, .int .i64 v2] rfl rfl ?c1 ?c2 (by omega) ?c3 ?c4 ?c5 _ rfl ?_))
                     case c1 =>
                       intro j u hj
                       match j, hj with
                       | 0, hj => simp at hj; subst hj; simp [Addr.add]
                       | 1, hj => simp at hj; subst hj; simp [Addr.add]
                     case c2 => intro u hu; simp at hu; rcases hu with rfl | rfl <;> rfl
                     case c3 => unfold maxLen; omega
                     case c4 => omega
                     case c5 => simp; omega
                     intro q cap w8 hown8 hgrow hat hlt
                     have NN := NX.out _ w8 q cap _ hgrow rfl hown8 (by rw [tok_size]; exact hat)
                     obtain ⟨y6, y7, y8, y9⟩ := NN
                     obtain ⟨⟨k0, k1, k2, k3, k4⟩, ⟨j0, j1, j2, j3, j4⟩⟩ := cells5 y6
                     have Y7 := Lib.hid y7; have Y8 := Lib.hid y8; have Y9 := Lib.hid y9
                     clear hown8 hgrow hat y6 y7 y8 y9 hown m4a m0 m1 m2 m3 m4 n0 n1 n2 n3 n4
                     go_wp2_with fail
                     go_roundw
                     case rel => exact ⟨Y7.out, Y8.out⟩
                     case measure => rw [hms0.out]; exact Y9.out
               · have he' : (e == 0) = false := by simpa using he
                 have he2 : (e != 0) = true := by simpa using he
                 have hrr := Lib.hid (hbad he)
                 clear hrun hbad he hfr hrg
                 go_wp2_with fail
                 go_region
                 all_goals
                   go_wp2_with fail
                   exact bodyPost_ret (v := .tuple #[file0, .int .i64 (a : Int), .int .i64 e]) (by simp [results, Tryz.results13, go_sem, file0, fileV, t0, t1, t2, t3, t4, y0, y1, y2, y3, y4, hzrb]) rfl
                     ⟨by rw [hrr.out]; rfl, Below.drew (st5_below HBW.out hrbw)⟩
             )
      · have he' : (e2 == 0) = false := by simpa using he
        obtain ⟨wX, hwX⟩ : ∃ wX, wX = w9 := ⟨_, rfl⟩
        have HFX := Lib.hid (show Fr g gf w3 wX by rw [hwX]; exact HF9.out)
        have hS := Lib.hid (show ∃ R a e, wX.heap[g]? = some (rdO R a e) ∧ e ≠ 0 ∧ r = .bad a e by
          obtain ⟨hfp, he5⟩ := HST.out.2 he
          have hres := HRES.out
          rw [hfp] at hres
          rw [hwX]
          exact ⟨R', 0 + 1, e2, HG9.out, he, by rw [he5, ← hres]⟩)
        have HWX := Lib.hid hwX
        clear hwX he
        go_wp2_with fail
        rw [HW9.out, ← HWX.out]
        clear c2w m0 m1 m2 m3 m4 n0 n1 n2 n3 n4
        go_loopw [] (fun wr => wr = wX) (fun wr => 0)
        case atStart => rfl
        case round =>
          obtain ⟨R, a, e, hrg, he, hrr⟩ := hS.out
          subst hrel
          have hrb2 : rb ≠ g ∧ rb ≠ gf := by omega
          have HRB := Lib.hid (HFX.out.at hrb2.1 hrb2.2 HR3.out)
          obtain ⟨⟨r0, r1, r2⟩, _⟩ := cells3 hrg
          obtain ⟨⟨t0, t1, t2, t3, t4⟩, ⟨y0, y1, y2, y3, y4⟩⟩ := cells5 HRB.out
          have HBW := Lib.hid (HB3.out.trans (HFX.out.below (B := w.heap.size) (by omega) (by omega) (by have := HZ3.out; omega)))
          have hzrb := heap_lt HRB.out
          have hrbw : w.heap.size ≤ rb := by omega
          have he' : (e == 0) = false := by simpa using he
          have he2 : (e != 0) = true := by simpa using he
          have hrr := Lib.hid hrr
          clear he hrg hS HFX
          go_wp2_with fail
          go_region
          all_goals
            go_wp2_with fail
            exact bodyPost_ret (v := .tuple #[file0, .int .i64 (a : Int), .int .i64 e]) (by simp [results, Tryz.results13, go_sem, file0, fileV, t0, t1, t2, t3, t4, y0, y1, y2, y3, y4, hzrb]) rfl
              ⟨by rw [hrr.out]; rfl, Below.drew (st5_below HBW.out hrbw)⟩
end Go.Proofs.YtmiceolkmiiahaaGreatDoor
