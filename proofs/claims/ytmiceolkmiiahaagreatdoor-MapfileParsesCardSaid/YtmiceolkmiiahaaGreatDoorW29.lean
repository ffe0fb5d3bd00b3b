/- Walks: the reader's cells. -/
import Derived.Test.YtmiceolkmiiahaaGreatDoorW28
import Derived.Deep.RegionLaw
namespace Go.Proofs.YtmiceolkmiiahaaGreatDoor
open Go.RowKit
set_option linter.unusedVariables false
set_option linter.unusedSimpArgs false
set_option maxRecDepth 100000
set_option maxHeartbeats 16000000

abbrev fO (n : ByteArray) (W H : Int) (cv pv : Value) : Obj := .cells #[.string n, .int .i64 W, .int .i64 H, cv, pv] 27
/-- The reader and the map between two rows of kinds. -/
def K1 (g gf B : Nat) (n : List UInt8) (W H : Int) (pv : Value) (r : Res) (y : Nat) (wr : World) : Prop :=
  ∃ R a e cs ao l c, wr.heap[g]? = some (rdO R a e) ∧ wr.heap[gf]? = some (fO (str n) W H (.slice ao l c) pv) ∧ (e ≠ 0 → r = .bad a e) ∧
    (e = 0 → a + R.length ≤ 50000 ∧ cs.length = y * W.toNat ∧ sKinds n W H (H.toNat - y) cs (sp 10 R) a = r ∧ wr.ownsRow B 41 3 (.slice ao l c) cs.length (cellsOf Cel.l cs))
def I1 (g gf B : Nat) (n : List UInt8) (W H : Int) (pv : Value) (cs : List Cel) (s R : List UInt8) (a : Nat) (E : Int) (k : Nat) (wr : World) : Prop :=
  ∃ ao l c, wr.heap[g]? = some (rdO R a E) ∧ wr.heap[gf]? = some (fO (str n) W H (.slice ao l c) pv) ∧ (E ≠ 0 → k = 0) ∧
    (E = 0 → wr.ownsRow B 41 3 (.slice ao l c) (cs.length + k) (cellsOf Cel.l (cs ++ kcs (s.take k))))

theorem cell_info : ∃ i0, Tryz.prog.info? 41 = some i0 ∧ i0.zero = some (.agg #[.int .i64 0, .int .i64 0, .int .i64 0]) ∧ i0.size = 3 ∧ i0.bytes = 24 := by
  have hi : (Tryz.prog.info? 41).map (fun i => (i.bytes, i.size, i.zero)) = some (24, 3, some (.agg #[.int .i64 0, .int .i64 0, .int .i64 0])) := by kernel_rfl
  obtain ⟨i, h1, h2⟩ := Option.map_eq_some_iff.1 hi
  injection h2 with h2 h3
  injection h3 with h3 h4
  exact ⟨i, h1, h4, h3, h2⟩
theorem app_keep {wx w3 : World} {gf : Nat} {row : Option Nat} {o : Obj} (hgrow : wx.grownBy w3 row) (h : wx.heap[gf]? = some o) (hr : ∀ k, row = some k → k ≠ gf) : w3.heap[gf]? = some o := by
  rw [hgrow.block gf (heap_lt h) (fun e => hr gf e.symm rfl)]
  exact h
theorem add0 (g i : Nat) : (⟨g, 0, none⟩ : Addr).add i = ⟨g, i, none⟩ := by
  have := add_add0 g i 0
  rwa [show ((⟨g, 0, none⟩ : Addr).add i).add 0 = (⟨g, 0, none⟩ : Addr).add i from rfl, Nat.add_zero] at this
theorem row_idx (y k : Nat) (W H : Int) (N : Nat) (W1 : 1 ≤ W) (W2 : W ≤ 32) (H1 : 1 ≤ H) (H2 : H ≤ 32) (hN : N = W.toNat * H.toNat) (hy : (y : Int) < H) (hk : (k : Int) < W) :
    ∃ b i : Nat, y * W.toNat = b ∧ (y : Int) * W = (b : Int) ∧ b + k = i ∧ i < N ∧ wrap64 (b : Int) = (b : Int) ∧ wrap64 (i : Int) = (i : Int) ∧ IntKind.i64.wrap (b : Int) = (b : Int) ∧ IntKind.i64.wrap (i : Int) = (i : Int) ∧ (b : Int) + (k : Int) = (i : Int) := by
  obtain ⟨m, rfl⟩ : ∃ m : Nat, W = (m : Int) := ⟨W.toNat, by omega⟩
  obtain ⟨h, rfl⟩ : ∃ h : Nat, H = (h : Int) := ⟨H.toNat, by omega⟩
  rw [Int.toNat_natCast] at hN ⊢
  rw [Int.toNat_natCast] at hN
  have h1 : (y + 1) * m ≤ h * m := Nat.mul_le_mul_right _ (by omega)
  rw [Nat.succ_mul, Nat.mul_comm h] at h1
  have h2 : m * h ≤ 32 * 32 := Nat.mul_le_mul (by omega) (by omega)
  refine ⟨y * m, y * m + k, rfl, (Int.natCast_mul y m).symm, rfl, ?_, ?_, ?_, ?_, ?_, by omega⟩
  · generalize y * m = b at *
    generalize m * h = c at *
    omega
  rotate_left 2
  · generalize y * m = b at *
    generalize m * h = c at *
    rw [IntKind.wrap_i64]; omega
  · generalize y * m = b at *
    generalize m * h = c at *
    rw [IntKind.wrap_i64]; omega
  · generalize y * m = b at *
    generalize m * h = c at *
    unfold wrap64; omega
  · generalize y * m = b at *
    generalize m * h = c at *
    unfold wrap64; omega
theorem idx3 {i N : Nat} (h : i < N) : i * 3 + 1 < N * 3 := by omega
theorem hset_len : ∀ (l : List UInt8) (cs : List Cel) (i : Nat), (hset cs i l).length = cs.length := by
  intro l
  induction l with
  | nil => intro cs i; rfl
  | cons c l ih =>
    intro cs i
    rw [hset, ih]
    cases cs[i]? <;> simp
theorem hset_snoc : ∀ (l : List UInt8) (c : UInt8) (cs : List Cel) (i : Nat), hset cs i (l ++ [c]) = (match (hset cs i l)[i + l.length]? with | some q => (hset cs i l).set (i + l.length) ⟨q.k, highI c, q.a⟩ | none => hset cs i l) := by
  intro l
  induction l with
  | nil => intro c cs i; rfl
  | cons b l ih =>
    intro c cs i
    rw [List.cons_append, hset, ih, hset, List.length_cons, show i + (l.length + 1) = i + 1 + l.length by omega]
/-- The reader and the map between two rows of heights. -/
def K2 (g gf B : Nat) (n : List UInt8) (W H : Int) (pv : Value) (r : Res) (y : Nat) (wr : World) : Prop :=
  ∃ R a e cs ao l c, wr.heap[g]? = some (rdO R a e) ∧ wr.heap[gf]? = some (fO (str n) W H (.slice ao l c) pv) ∧ (e ≠ 0 → r = .bad a e) ∧
    (e = 0 → a + R.length ≤ 50000 ∧ cs.length = W.toNat * H.toNat ∧ sHigh n W H (H.toNat - y) y cs (sp 10 R) a = r ∧ wr.ownsRow B 41 3 (.slice ao l c) cs.length (cellsOf Cel.l cs))
def I2 (g gf B : Nat) (n : List UInt8) (W H : Int) (pv : Value) (cs : List Cel) (i : Nat) (s R : List UInt8) (a : Nat) (E : Int) (k : Nat) (wr : World) : Prop :=
  ∃ ao l c, wr.heap[g]? = some (rdO R a E) ∧ wr.heap[gf]? = some (fO (str n) W H (.slice ao l c) pv) ∧ (E ≠ 0 → k = 0) ∧
    (E = 0 → wr.ownsRow B 41 3 (.slice ao l c) cs.length (cellsOf Cel.l (hset cs i (s.take k))))
theorem ownsRow_setfar {w : World} {base e size n : Nat} {v : Value} {xs : List Value} (o : w.ownsRow base e size v n xs) (p : Addr) (u : Value) (hp : p.block < base) : (w.setCell p u).ownsRow base e size v n xs := by
  refine ⟨o.1, ?_⟩
  rcases o.2 with h2 | ⟨g', cap, cur, h1, h2, h3, h4⟩
  · exact Or.inl h2
  · exact Or.inr ⟨g', cap, cur, h1, h2, by rw [Below.heap_setCell _ _ _ _ (by omega)]; exact h3, h4⟩
theorem kcs_take (s : List UInt8) (k : Nat) (hk : k < s.length) : kcs (s.take (k + 1)) = kcs (s.take k) ++ [⟨kindI s[k], 0, 0⟩] := by
  unfold kcs
  rw [List.take_succ_eq_append_getElem hk, List.map_append]
  rfl
theorem I1_next {g gf B : Nat} (hgf : g ≠ gf) {n : List UInt8} {W H : Int} {pv : Value} {cs : List Cel} {s R : List UInt8} {a k : Nat} {w1 wr w3 : World} {o : Obj} {ao : Option Addr} {l c q cap : Nat} (hk : k < s.length)
    (hB : g < B ∧ gf < B) (hB1 : B = w1.heap.size) (hf : Fr g gf w1 wr) (hg : wr.heap[g]? = some (rdO R a 0)) (hm : wr.heap[gf]? = some (fO (str n) W H (.slice ao l c) pv)) (hown : wr.ownsRow B 41 3 (.slice ao l c) (cs.length + k) (cellsOf Cel.l (cs ++ kcs (s.take k))))
    {row : Option Nat} (hgrow0 : (wr.alloc o).drew.grownBy w3 row) (hrow : row = (Value.slice ao l c).ownBlock) (hown3 : w3.ownsRow B 41 3 (.slice (some ⟨q, 0, none⟩) (cs.length + k + 1) cap) (cs.length + k + 1) (cellsOf Cel.l (cs ++ kcs (s.take k)) ++ [.int .i64 (kindI s[k]), .int .i64 0, .int .i64 0])) :
    Fr g gf w1 (w3.setCell ⟨gf, 3, none⟩ (.slice (some ⟨q, 0, none⟩) (cs.length + k + 1) cap)) ∧ I1 g gf B n W H pv cs s R a 0 (k + 1) (w3.setCell ⟨gf, 3, none⟩ (.slice (some ⟨q, 0, none⟩) (cs.length + k + 1) cap)) := by
  subst hrow
  have hgrow : (wr.alloc o).grownBy w3 (Value.slice ao l c).ownBlock := ⟨hgrow0.os, hgrow0.tape, hgrow0.output, hgrow0.size, hgrow0.block⟩
  have hne : ∀ j, (Value.slice ao l c).ownBlock = some j → B ≤ j := fun j hj => (hown.lt j hj).1
  have hzg := heap_lt hg; have hzm := heap_lt hm
  have g3 := app_keep hgrow (Eq.trans (Below.heap_alloc wr o g hzg) hg) (fun j hj => by have := hne j hj; omega)
  have m3 := app_keep hgrow (Eq.trans (Below.heap_alloc wr o gf hzm) hm) (fun j hj => by have := hne j hj; omega)
  refine ⟨((hf.alloc o).grown hgrow (fun j hj => by have := hne j hj; omega)).st2 _ _, some ⟨q, 0, none⟩, cs.length + k + 1, cap, ?_, ?_, fun h => absurd rfl h, fun _ => ?_⟩
  · rw [Below.heap_setCell _ _ _ _ (by simpa using hgf)]; exact g3
  · rw [heap_setCell_same _ _ _ _ _ _ m3]; rfl
  · rw [kcs_take s k hk, ← List.append_assoc, cellsOf_snoc]
    exact ownsRow_setfar hown3 _ _ hB.2
theorem I2_next {g gf B : Nat} (hgf : g ≠ gf) {n : List UInt8} {W H : Int} {pv : Value} {cs : List Cel} {b i : Nat} {s R : List UInt8} {a k : Nat} {w1 wr : World} {q c : Nat} (hk : k < s.length) (hi : b + k = i) (hil : i < cs.length)
    (hB : g < B ∧ gf < B) (hB1 : B = w1.heap.size) (hf : Fr g gf w1 wr) (hg : wr.heap[g]? = some (rdO R a 0)) (hm : wr.heap[gf]? = some (fO (str n) W H (.slice (some ⟨q, 0, none⟩) cs.length c) pv)) (hq : B ≤ q)
    (hown : wr.ownsRow B 41 3 (.slice (some ⟨q, 0, none⟩) cs.length c) cs.length (cellsOf Cel.l (hset cs b (s.take k)))) (p : Addr) (hp : p.block = q ∧ p.off = i * 3) :
    Fr g gf w1 (wr.setCell ⟨p.block, p.off + 1, none⟩ (.int .i64 (highI s[k]))).drew ∧ I2 g gf B n W H pv cs b s R a 0 (k + 1) (wr.setCell ⟨p.block, p.off + 1, none⟩ (.int .i64 (highI s[k]))).drew := by
  rw [hp.1, hp.2]
  refine ⟨(hf.setg _ (Or.inr (Or.inr (by simp; omega))) _).drew, some ⟨q, 0, none⟩, cs.length, c, ?_, ?_, fun h => absurd rfl h, fun _ => ?_⟩
  · show (wr.setCell _ _).heap[g]? = _
    rw [Below.heap_setCell _ _ _ _ (by simp; omega)]; exact hg
  · show (wr.setCell _ _).heap[gf]? = _
    rw [Below.heap_setCell _ _ _ _ (by simp; omega)]; exact hm
  · have h1 := (hown.stored (i * 3 + 1) (.int .i64 (highI s[k]))).1
    have hil' : i < (hset cs b (s.take k)).length := by rw [hset_len]; exact hil
    rw [cells_set _ i _ (List.getElem?_eq_getElem hil') 1 (by omega) _ ⟨(hset cs b (s.take k))[i].k, highI s[k], (hset cs b (s.take k))[i].a⟩ rfl] at h1
    have h2 := hset_snoc (s.take k) s[k] cs b
    rw [← List.take_succ_eq_append_getElem hk, List.length_take, Nat.min_eq_left (by omega), hi, List.getElem?_eq_getElem hil'] at h2
    rw [h2]
    exact h1
theorem Own.any {w w' : World} {g h : Nat} (o : Own w g h) (h1 : w'.os = w.os) (h2 : w'.tape = w.tape) (h3 : w'.output = w.output) (h4 : w'.heap = w.heap) : Own w' g h :=
  let ⟨w0, c, hb, x, y⟩ := o.c
  ⟨w0, c, ⟨h1.trans hb.os, h2.trans hb.tape, h3.trans hb.output, by rw [h4]; exact hb.size, fun k hk => by rw [h4]; exact hb.block k hk⟩, x, y⟩
theorem words_no (g : Nat) (R first : List UInt8) (n : Nat) (a : Nat) (hR : R.length ≤ 50000) (ha : a ≤ 50000) (E : Int) (h : (nxt (sp 10 R) = none ∧ E = 4) ∨ (∃ l L, nxt (sp 10 R) = some (l, L) ∧ (∀ rest, sp 32 l = first :: rest → rest.length ≠ n) ∧ E = 5)) (hn2 : n ≤ 1000) (w : World) (ho : Own w g g) (hr : w.heap[g]? = some (rdO R a 0)) :
    Calls Tryz.prog 37 #[rdP g, .string (str first), .int .i64 (n : Int)] w fun en w' => (∃ v, en = .returned v) ∧ (∃ R', w'.heap[g]? = some (rdO R' (a + 1) E)) ∧ Fr g g w w' := by
  rcases h with ⟨h1, rfl⟩ | ⟨l, L, h1, h2, rfl⟩
  · exact words_end g R first n a (by omega) (by omega) h1 hn2 w ho hr
  · obtain ⟨r', h3, _, _⟩ := nxt_some R l L h1
    exact words_bad g R l first n L a (by omega) (by omega) h1 (by rw [h3] at hR; simp at hR; omega) h2 hn2 w ho hr
theorem ownsRow_len {w : World} {B e size n : Nat} {ao : Option Addr} {l c : Nat} {xs : List Value} (h : w.ownsRow B e size (.slice ao l c) n xs) : l = n := by
  rcases h.2 with ⟨h1, h2⟩ | ⟨_, _, _, h1, _⟩
  · injection h1 with _ h3 _; omega
  · injection h1
def K3 (g gf B : Nat) (n : List UInt8) (W H : Int) (pv : Value) (r : Res) (N k : Nat) (wr : World) : Prop :=
  ∃ R a e cs ao c, wr.heap[g]? = some (rdO R a e) ∧ wr.heap[gf]? = some (fO (str n) W H (.slice ao N c) pv) ∧ (e ≠ 0 → r = .bad a e) ∧
    (e = 0 → a + R.length ≤ 50000 ∧ cs.length = N ∧ N = W.toNat * H.toNat ∧ sAmts n W H (N - k) k cs (sp 10 R) a = r ∧ wr.ownsRow B 41 3 (.slice ao N c) N (cellsOf Cel.l cs))
/-- What cells leaves behind. -/
def CPost (g gf B : Nat) (n : List UInt8) (W H : Int) (pv : Value) (r : Res) (wr : World) : Prop :=
  ∃ R a e cs ao l c, wr.heap[g]? = some (rdO R a e) ∧ wr.heap[gf]? = some (fO (str n) W H (.slice ao l c) pv) ∧ (e ≠ 0 → r = .bad a e) ∧
    (e = 0 → a + R.length ≤ 50000 ∧ cs.length = W.toNat * H.toNat ∧ sStarts n W H cs (sp 10 R) a [] = r ∧ wr.ownsRow B 41 3 (.slice ao l c) cs.length (cellsOf Cel.l cs))
theorem CPost.mono {g gf B B' : Nat} {n : List UInt8} {W H : Int} {pv : Value} {r : Res} {wr : World} (h : CPost g gf B n W H pv r wr) (hB : B' ≤ B) : CPost g gf B' n W H pv r wr := by
  obtain ⟨R, a, e, cs, ao, l, c, h1, h2, h3, h4⟩ := h
  refine ⟨R, a, e, cs, ao, l, c, h1, h2, h3, fun he => ?_⟩
  obtain ⟨x1, x2, x3, x4⟩ := h4 he
  refine ⟨x1, x2, x3, x4.1, ?_⟩
  rcases x4.2 with y | ⟨q, cap, cur, y1, y2, y3⟩
  · exact Or.inl y
  · exact Or.inr ⟨q, cap, cur, y1, by omega, y3⟩
theorem amts_no (n : List UInt8) (W H : Int) (f k : Nat) (cs : List Cel) (L : List (List UInt8)) (a : Nat) (q : Cel) (hq : cs[k]? = some q) (hr : richB q.k = false) : sAmts n W H (f + 1) k cs L a = sAmts n W H f (k + 1) cs L a := by
  rw [sAmts, hq]
  simp [hr]
theorem amts_end (n : List UInt8) (W H : Int) (f k : Nat) (cs : List Cel) (L : List (List UInt8)) (a : Nat) (q : Cel) (hq : cs[k]? = some q) (hr : richB q.k = true) (h : nxt L = none) : sAmts n W H (f + 1) k cs L a = .bad (a + 1) 4 := by
  rw [sAmts, hq, h]
  simp [hr]
theorem amts_bad (n : List UInt8) (W H : Int) (f k : Nat) (cs : List Cel) (L L' : List (List UInt8)) (l : List UInt8) (a : Nat) (q : Cel) (hq : cs[k]? = some q) (hr : richB q.k = true) (h : nxt L = some (l, L')) (h2 : amtP W k l = none) : sAmts n W H (f + 1) k cs L a = .bad (a + 1) 5 := by
  rw [sAmts, hq, h]
  simp [hr, h2]
theorem amts_ok (n : List UInt8) (W H : Int) (f k : Nat) (cs : List Cel) (L L' : List (List UInt8)) (l : List UInt8) (a : Nat) (q : Cel) (v : Int) (hq : cs[k]? = some q) (hr : richB q.k = true) (h : nxt L = some (l, L')) (h2 : amtP W k l = some v) : sAmts n W H (f + 1) k cs L a = sAmts n W H f (k + 1) (cs.set k ⟨q.k, q.h, v⟩) L' (a + 1) := by
  rw [sAmts, hq, h]
  simp [hr, h2, aset, hq]
theorem len_three {α : Type} {l : List α} (h : l.length = 3) : ∃ a b c, l = [a, b, c] := by
  match l, h with
  | [a, b, c], _ => exact ⟨a, b, c, rfl⟩
theorem tgt {w : World} {B q l c k : Nat} {cs : List Cel} {kk kh ka : Int} {ad : Addr} (h : w.ownsRow B 41 3 (.slice (some ⟨q, 0, none⟩) l c) l (cellsOf Cel.l cs)) (hg : cs[k]? = some ⟨kk, kh, ka⟩) (hk : k < l)
    (had : (ad.add (k * 3)).block = q ∧ (ad.add (k * 3)).off = k * 3 ∧ ad.add (k * 3) = ⟨q, k * 3, none⟩) :
    w.cell? ⟨(ad.add (k * 3)).block, (ad.add (k * 3)).off + 2, none⟩ = some (.int .i64 ka) ∧ w.frozen? ⟨(ad.add (k * 3)).block, (ad.add (k * 3)).off + 2, none⟩ = false := by
  rw [had.1, had.2.1]
  obtain ⟨hk2, hkv⟩ := List.getElem?_eq_some_iff.1 hg
  refine ⟨?_, h.frozenAt _⟩
  rw [h.cellAt _ (by omega), cells_at hk2 2 (by decide), hkv]
  rfl
theorem K3_next {g gf B : Nat} (hgf : g ≠ gf) {n : List UInt8} {W H : Int} {pv : Value} {r : Res} {l k q c a : Nat} {R R' ln : List UInt8} {L' : List (List UInt8)} {cs : List Cel} {kk kh ka v e : Int} {w : World} {ad : Addr} (hk : k < l) (hB : g < B ∧ gf < B)
    (hx : nxt (sp 10 R) = some (ln, L')) (hL : sp 10 R' = L') (hget : cs[k]? = some ⟨kk, kh, ka⟩) (hri : richB kk = true) (hcs : cs.length = l) (hN : l = W.toNat * H.toNat) (h4 : sAmts n W H (l - k) k cs (sp 10 R) a = r)
    (hst : (e = 0 → amtP W k ln = some v) ∧ (e ≠ 0 → amtP W k ln = none ∧ e = 5)) (hb : (a + 1) + R'.length ≤ 50000) (hg : w.heap[g]? = some (rdO R' (a + 1) e)) (hm : w.heap[gf]? = some (fO (str n) W H (.slice (some ⟨q, 0, none⟩) l c) pv))
    (ho : w.ownsRow B 41 3 (.slice (some ⟨q, 0, none⟩) l c) l (cellsOf Cel.l cs)) (hq : B ≤ q) (had : (ad.add (k * 3)).block = q ∧ (ad.add (k * 3)).off = k * 3 ∧ ad.add (k * 3) = ⟨q, k * 3, none⟩) :
    K3 g gf B n W H pv r l (k + 1) (w.setCell ⟨(ad.add (k * 3)).block, (ad.add (k * 3)).off + 2, none⟩ (.int .i64 v)) := by
  rw [had.1, had.2.1]
  rw [show l - k = (l - (k + 1)) + 1 by omega] at h4
  refine ⟨R', a + 1, e, cs.set k ⟨kk, kh, v⟩, some ⟨q, 0, none⟩, c, ?_, ?_, fun he => ?_, fun he => ?_⟩
  · rw [Below.heap_setCell _ _ _ _ (by simp; omega)]; exact hg
  · rw [Below.heap_setCell _ _ _ _ (by simp; omega)]; exact hm
  · obtain ⟨h1, h2⟩ := hst.2 he
    rw [amts_bad n W H _ k cs _ _ _ _ _ hget hri hx h1] at h4
    rw [← h4, h2]
  · have h1 := hst.1 he
    rw [amts_ok n W H _ k cs _ _ _ _ _ v hget hri hx h1] at h4
    refine ⟨hb, by rw [List.length_set]; exact hcs, hN, by rw [hL]; exact h4, ?_⟩
    have h2 := (ho.stored (k * 3 + 2) (.int .i64 v)).1
    rw [cells_set cs k _ hget 2 (by omega) _ ⟨kk, kh, v⟩ rfl] at h2
    exact h2
theorem amtP_bad (W : Int) (k : Nat) (l : List UInt8) (h : ∀ rest, sp 32 l = wAmount :: rest → rest.length ≠ 3) : amtP W k l = none := by
  unfold amtP
  split
  · rename_i a b c d he
    rw [if_neg]
    rintro ⟨rfl, _⟩
    exact h _ he rfl
  · rfl
theorem K3.done {g gf B : Nat} {n : List UInt8} {W H : Int} {pv : Value} {r : Res} {N k : Nat} {wr : World} (h : K3 g gf B n W H pv r N k wr) (hk : N ≤ k) : CPost g gf B n W H pv r wr := by
  obtain ⟨R, a, e, cs, ao, c, h1, h2, h3, h4⟩ := h
  refine ⟨R, a, e, cs, ao, N, c, h1, h2, h3, fun he => ?_⟩
  obtain ⟨x1, x2, x3, x4, x5⟩ := h4 he
  rw [Nat.sub_eq_zero_of_le hk] at x4
  exact ⟨x1, by omega, x4, by rw [x2]; exact x5⟩
theorem K3.of {g gf B : Nat} {n : List UInt8} {W H : Int} {pv : Value} {r : Res} {y : Nat} {wr : World} (h : K2 g gf B n W H pv r y wr) (hy : H.toNat ≤ y) : ∃ N, K3 g gf B n W H pv r N 0 wr := by
  obtain ⟨R, a, e, cs, ao, l, c, h1, h2, h3, h4⟩ := h
  refine ⟨l, R, a, e, cs, ao, c, h1, h2, h3, fun he => ?_⟩
  obtain ⟨x1, x2, x3, x4⟩ := h4 he
  have hl := ownsRow_len x4
  rw [Nat.sub_eq_zero_of_le hy] at x3
  subst hl
  exact ⟨x1, rfl, x2, by rw [Nat.sub_zero]; exact x3, x4⟩
theorem amt_step (W : Int) (k : Nat) (l : List UInt8) (l0 l1 l2 : List UInt8) (hl : sp 32 l = [wAmount, l0, l1, l2]) (px py v e1 e2 e3 : Int) (hx : (k : Int) % W = px) (hy : (k : Int) / W = py)
    (a1 : numOk l0 px px → e1 = 0) (a2 : ¬ numOk l0 px px → e1 = 5) (b1 : numOk l1 py py → e2 = e1) (b2 : ¬ numOk l1 py py → e2 = if e1 = 0 then 5 else e1)
    (c0 : numOk l2 1 1000000 → v = numT l2) (c1 : numOk l2 1 1000000 → e3 = e2) (c2 : ¬ numOk l2 1 1000000 → e3 = if e2 = 0 then 5 else e2) :
    (e3 = 0 → amtP W k l = some v) ∧ (e3 ≠ 0 → amtP W k l = none ∧ e3 = 5) := by
  unfold amtP
  rw [hl, hx, hy]
  have hr := numT_range l2
  simp only [true_and]
  by_cases o0 : numOk l0 px px
  · have z0 : numT l0 = px := by obtain ⟨u1, u2⟩ := o0; omega
    have w0 := a1 o0
    by_cases o1 : numOk l1 py py
    · have z1 : numT l1 = py := by obtain ⟨u1, u2⟩ := o1; omega
      have w1 := b1 o1
      by_cases o2 : numOk l2 1 1000000
      · have w2 := c1 o2
        rw [if_pos ⟨z0, z1, o2.1⟩, c0 o2]
        exact ⟨fun _ => rfl, fun h => absurd (by omega) h⟩
      · have w2 := c2 o2
        rw [if_pos (by omega)] at w2
        rw [if_neg (fun h => o2 ⟨h.2.2, by omega⟩)]
        exact ⟨fun h => by omega, fun _ => ⟨rfl, w2⟩⟩
    · have w1 := b2 o1
      rw [if_pos w0] at w1
      have w2 : e3 = 5 := by
        by_cases o2 : numOk l2 1 1000000
        · rw [c1 o2, w1]
        · rw [c2 o2, if_neg (by omega), w1]
      rw [if_neg (fun h => o1 ⟨by omega, by omega⟩)]
      exact ⟨fun h => by omega, fun _ => ⟨rfl, w2⟩⟩
  · have w0 := a2 o0
    have w1 : e2 = 5 := by
      by_cases o1 : numOk l1 py py
      · rw [b1 o1, w0]
      · rw [b2 o1, if_neg (by omega), w0]
    have w2 : e3 = 5 := by
      by_cases o2 : numOk l2 1 1000000
      · rw [c1 o2, w1]
      · rw [c2 o2, if_neg (by omega), w1]
    rw [if_neg (fun h => o0 ⟨by omega, by omega⟩)]
    exact ⟨fun h => by omega, fun _ => ⟨rfl, w2⟩⟩
theorem cells_any (g gf : Nat) (hgf : g ≠ gf) (n : List UInt8) (W H : Int) (hW : 1 ≤ W ∧ W ≤ 32) (hH : 1 ≤ H ∧ H ≤ 32) (pv : Value) (R : List UInt8) (a : Nat) (hR : a + R.length ≤ 50000) (w : World) (ho : Own w g gf)
    (hr : w.heap[g]? = some (rdO R a 0)) (hf : w.heap[gf]? = some (fO (str n) W H (.slice none 0 0) pv)) (r : Res) (hres : sKinds n W H H.toNat [] (sp 10 R) a = r) :
    Calls Tryz.prog 40 #[rdP g, .pointer (some ⟨gf, 1, none⟩)] w fun en w' => en = .returned (.tuple #[]) ∧ CPost g gf w.heap.size n W H pv r w' ∧ Fr g gf w w' := by
  have HR0 := Lib.hid hr; have HF0 := Lib.hid hf; have HO := Lib.hid ho; have HRES := Lib.hid hres
  have HK := Lib.hid kinds_any
  have hg : g < w.heap.size := heap_lt hr
  have hg2 : gf < w.heap.size := heap_lt hf
  clear hr hf ho hres
  obtain ⟨w1, hw1⟩ : ∃ w1, (w.alloc (.map kindEs 5)).alloc (.cells #[.map (some w.heap.size)] 88) = w1 := ⟨_, rfl⟩
  have hf1 : Fr g gf w w1 := by rw [← hw1]; exact ((Fr.refl _ _ _).alloc _).alloc _
  have hg1 : w1.heap[g]? = some (rdO R a 0) := by rw [← hw1, Below.heap_alloc _ _ _ (by simp; omega), Below.heap_alloc _ _ _ hg]; exact HR0.out
  have hm1 : w1.heap[gf]? = some (fO (str n) W H (.slice none 0 0) pv) := by rw [← hw1, Below.heap_alloc _ _ _ (by simp; omega), Below.heap_alloc _ _ _ hg2]; exact HF0.out
  have hz1 : w1.heap.size = w.heap.size + 1 + 1 := by rw [← hw1]; simp
  have hkr : w1.heap[w.heap.size]? = some (.map kindEs 5) := by rw [← hw1, Below.heap_alloc _ _ _ (by simp)]; exact tok_new _ _
  have hkb : w1.cell? ⟨w.heap.size + 1, 0, none⟩ = some (.map (some w.heap.size)) := by
    have h := tok_new (w.alloc (.map kindEs 5)) (.cells #[.map (some w.heap.size)] 88)
    rw [tok_size, hw1] at h
    rw [Lib.cell_of_heap h]; rfl
  have cH := (cells5 hm1).1.2.2.1
  rw [← hw1] at cH
  have HO1 := Lib.hid (HO.out.fr hf1)
  have h0 := Lib.hid (show K1 g gf w1.heap.size n W H pv r 0 w1 from ⟨R, a, 0, [], none, 0, 0, hg1, hm1, fun h => absurd rfl h, fun _ => ⟨hR, by simp, HRES.out, World.ownsRow_nil _ _ _ _⟩⟩)
  have HF1 := Lib.hid hf1; have HKR := Lib.hid hkr; have HKB := Lib.hid hkb; have HW1 := Lib.hid hw1
  obtain ⟨i0, hi, hz0, hz1, hz2⟩ := cell_info
  obtain ⟨W1, W2⟩ := hW
  obtain ⟨H1, H2⟩ := hH
  clear hf1 hg1 hm1 hkr hkb hw1
  go_enter Tryz.func40, Tryz.ntmps40
  go_wp2_with fail
  refine (HK.out _).mono ?_
  rintro e w1' ⟨rfl, rfl⟩
  go_wp2_with fail
  rw [HW1.out]
  clear HW1 cH
  go_loopw [18] (fun i wr => ∃ y : Nat, (y : Int) ≤ H ∧ i = .int .i64 (y : Int) ∧ Fr g gf w1 wr ∧ K1 g gf w1.heap.size n W H pv r y wr) (fun i _ => H.toNat - (intOf i).toNat)
  case atStart => exact ⟨0, by omega, rfl, Fr.refl _ _ _, h0.out⟩
  case round =>
    clear h0
    obtain ⟨y, hy, rfl, hfr, R0, a0, e0, cs, ao, l, c, hrg, hrf, hbad, hrun⟩ := hrel
    have HE := Lib.hid hfr
    obtain ⟨⟨r0, r1, r2⟩, ⟨f0, f1, f2⟩⟩ := cells3 hrg
    obtain ⟨⟨m0, m1, m2, m3, m4⟩, _⟩ := cells5 hrf
    have HRF := Lib.hid hrf; have HRUN := Lib.hid hrun
    have hzr := hfr.size
    by_cases hyH : (y : Int) < H
    · have e1 : (0 : Int) ≤ ((y : Int)) := by omega
      have HL := line_cells1 g (w.heap.size + 1) w.heap.size W W1 R0 a0 e0 (fun he => (hrun he).1) (fun l L' a' => sKinds n W H (H.toNat - (y + 1)) (cs ++ kcs l) L' a') r wr ((HO1.out.fr hfr).one) hrg
        (hfr.cell (by simp; omega) (by simp; omega) HKB.out) (hfr.at (by omega) (by omega) HKR.out) ⟨by omega, by omega⟩
        (fun he => by
          have h := (hrun he).2.2.1
          rw [show H.toNat - y = (H.toNat - (y + 1)) + 1 by omega, sKinds_step] at h
          exact h) hbad
      obtain ⟨s, a1, E, hs, hE0, hE1, hcall⟩ := HL
      have HC := Lib.hid hcall; have HE0 := Lib.hid hE0; have HE1 := Lib.hid hE1
      obtain ⟨S, hS⟩ : ∃ S, str s = S := ⟨_, rfl⟩
      have HS := Lib.hid hS
      have hsz : (S.size : Int) = (s.length : Int) := by rw [← hS, str_size]
      rw [hS] at HC
      clear hrun hbad hfr hcall hE0 hE1 hS hrg hrf
      go_wp2_with fail
      refine HC.out.mono ?_
      rintro e w2 ⟨rfl, ⟨R1, hR1, hg2⟩, hf2⟩
      have hrf2 := hf2.at hgf.symm hgf.symm HRF.out
      have h1 := Lib.hid (show I1 g gf w1.heap.size n W H pv cs s R1 a1 E 0 w2 from ⟨ao, l, c, hg2, hrf2, fun _ => rfl, fun h => by
        have := (HRUN.out (HE0.out h).1).2.2.2
        simp only [List.take_zero]
        show w2.ownsRow _ _ _ _ _ (cellsOf Cel.l (cs ++ []))
        rw [List.append_nil]
        exact ownsRow_fr this hf2 (by omega) (by omega)⟩)
      have HF2 := Lib.hid (HE.out.trans hf2.wide); have HR1 := Lib.hid hR1
      clear hg2 hrf2 hf2 hR1 r0 r1 r2 f0 f1 f2 m0 m1 m2 m3 m4
      go_wp2_with fail
      go_loopw [6] (fun i wr => ∃ k : Nat, k ≤ s.length ∧ i = .int .i64 (k : Int) ∧ Fr g gf w1 wr ∧ I1 g gf w1.heap.size n W H pv cs s R1 a1 E k wr) (fun i _ => s.length - (intOf i).toNat)
      case atStart => exact ⟨0, by omega, rfl, HF2.out, h1.out⟩
      case round =>
        clear h1
        obtain ⟨k, hk, rfl, hfr, ao, l, c, hrg, hrf, hk0, hrow⟩ := hrel
        have HFR := Lib.hid hfr
        obtain ⟨⟨r0, r1, r2⟩, ⟨f0, f1, f2⟩⟩ := cells3 hrg
        obtain ⟨⟨m0, m1, m2, m3, m4⟩, ⟨g0, g1, g2, g3, g4⟩⟩ := cells5 hrf
        have HRG := Lib.hid hrg; have HRF := Lib.hid hrf; have HROW := Lib.hid hrow; have HK0 := Lib.hid hk0
        have b0 := hfr.cell (by simp; omega) (by simp; omega) HKB.out
        have b1 := hfr.at (by omega) (by omega) HKR.out
        have hzw := hfr.size
        have e2 : (0 : Int) ≤ ((k : Int)) := by omega
        by_cases hkn : k < s.length ∧ E = 0
        · obtain ⟨hkn, hE⟩ := hkn
          subst hE
          have e3 : (k : Int) < (s.length : Int) := by omega
          have hown := hrow rfl
          have hsW := (HE0.out rfl).2.1
          have hcl : cs.length ≤ 32 * 32 := by rw [(HRUN.out (HE0.out rfl).1).2.1]; exact Nat.mul_le_mul (by omega) (by omega)
          have hkS : k < S.size := by omega
          have hge : S[k] = s[k] := by have h := HS.out; subst h; rfl
          have hlk := fun w' hw' => look_kind (s[k]) w' w.heap.size hw'
          rw [← hge] at hlk
          obtain ⟨ch, hch⟩ : ∃ c, S[k] = c := ⟨_, rfl⟩
          rw [hch] at hlk
          have HGE := Lib.hid (hch.symm.trans hge)
          have HLK := Lib.hid hlk
          have hlkw := hlk _ b1
          have hlk2 := hlk wr.drew
          clear hge hrow hk0 hrg hrf hfr hlk
          go_wp2_with fail
          have hlkd := hlk2 b1
          have NX := Lib.hid (fun (o : Obj) (w3 : World) (q cap : Nat) (row : Option Nat) => I1_next (row := row) (o := o) (w3 := w3) (q := q) (cap := cap) hgf hkn ⟨show g < w1.heap.size by omega, by omega⟩ rfl HFR.out HRG.out HRF.out hown)
          rw [← HGE.out] at NX
          have m3a : ∀ o, (wr.alloc o).cell? ⟨gf, 3, none⟩ = some (.slice ao l c) := fun o => cell_below (below_new _ _) m3
--A
          go_region_law (first
            | (refine step_append_lies _ rfl _ _ 22 rfl w1.heap.size 41 i0 (.agg #[.int .i64 0, .int .i64 0, .int .i64 0]) 3 24 Tryz.underlying22 hi hz0 hz1 hz2 rfl (by decide) _ (cs.length + k) (cellsOf Cel.l (cs ++ kcs (s.take k))) rfl (hown.alloc _) ⟨wr.heap.size, 0, none⟩ 1 1 [.int .i64 (kindI ch), .int .i64 0, .int .i64 0] rfl rfl (by intro j u hj; match j, hj with | 0, hj => (simp at hj; subst hj; simp [Addr.add]) | 1, hj => (simp at hj; subst hj; simp [Addr.add]) | 2, hj => (simp at hj; subst hj; simp [Addr.add])) (by intro u hu; simp at hu; rcases hu with rfl | rfl | rfl <;> rfl) (by omega) (by unfold maxLen; omega) (by omega) (by simp; omega) _ rfl ?_; intro q cap w3 hown3 hgrow hat hlt; have s3 := app_keep (gf := gf) hgrow (o := fO (str n) W H (.slice ao l c) pv) (Eq.trans (Below.heap_alloc wr _ gf (by omega)) HRF.out) (fun j hj => (by have := (hown.lt j hj).1; omega)); have q3 := (cells5 s3).1.2.2.2.1; have q4 := (cells5 s3).2.2.2.2.1; have NN := Lib.hid (NX.out _ w3 q cap _ hgrow rfl hown3); clear hgrow hown3 hat hlt s3))
          all_goals
            clear hlkd hlkw hlk2 m3a hown b0 b1 r0 r1 r2 f0 f1 f2 m0 m1 m2 m3 m4 g0 g1 g2 g3 g4 q3 q4
            go_wp2_with fail
            go_roundw
            case rel => exact ⟨k + 1, by omega, by go_num, NN.out⟩
            case measure => simp [intOf]; omega
--B
        · have hEND := Lib.hid (show K1 g gf w1.heap.size n W H pv r (y + 1) wr from ⟨R1, a1, E, cs ++ kcs s, ao, l, c, HRG.out, HRF.out, HE1.out, fun hE => by
            have hkk : k = s.length := by
              rcases Nat.lt_or_ge k s.length with h | h
              · exact absurd ⟨h, hE⟩ hkn
              · omega
            have h1 := HROW.out hE
            obtain ⟨h2, h3⟩ := HR1.out hE
            have h4 := (HRUN.out (HE0.out hE).1).2.1
            have h5 := (HE0.out hE).2.1
            have h6 : (cs ++ kcs s).length = cs.length + k := by rw [List.length_append, hkk]; unfold kcs; rw [List.length_map]
            rw [hkk, List.take_length, ← hkk] at h1
            refine ⟨h2, ?_, h3, by rw [h6]; exact h1⟩
            rw [h6, h4, Nat.succ_mul, hkk]
            omega⟩)
          have hcase : (k : Int) < (s.length : Int) ∧ (E == 0) = false ∨ ¬ (k : Int) < (s.length : Int) := by
            by_cases h : k < s.length
            · exact Or.inl ⟨by omega, by rw [beq_eq_false_iff_ne]; exact fun hE => hkn ⟨h, hE⟩⟩
            · exact Or.inr (by omega)
          clear hkn hrow hk0 hrg hrf hfr hzw
          rcases hcase with ⟨e3, e4⟩ | e3
          all_goals
            go_wp2_with fail
            go_roundw
            case rel => exact ⟨y + 1, by omega, by go_num, HFR.out, hEND.out⟩
            case measure => simp [intOf]; omega
    · have hyy : y = H.toNat := by omega
      have h2 := Lib.hid (show K2 g gf w1.heap.size n W H pv r 0 wr from ⟨R0, a0, e0, cs, ao, l, c, hrg, hrf, hbad, fun he => by
        obtain ⟨x1, x2, x3, x4⟩ := hrun he
        refine ⟨x1, by rw [x2, hyy, Nat.mul_comm], ?_, x4⟩
        rw [← x3, hyy, Nat.sub_self]
        rfl⟩)
      clear hrun hbad hfr hrg hrf r0 r1 r2 f0 f1 f2 m0 m1 m3 m4 HRF HRUN
      go_wp2_with fail
      clear m2
      go_loopw [60] (fun i wr => ∃ y : Nat, (y : Int) ≤ H ∧ i = .int .i64 (y : Int) ∧ Fr g gf w1 wr ∧ K2 g gf w1.heap.size n W H pv r y wr) (fun i _ => H.toNat - (intOf i).toNat)
      case atStart => exact ⟨0, by omega, rfl, HE.out, h2.out⟩
      case round =>
        clear h2 hyy hyH hy
        obtain ⟨y, hy, rfl, hfr, R0, a0, e0, cs, ao, l, c, hrg, hrf, hbad, hrun⟩ := hrel
        have HE := Lib.hid hfr
        obtain ⟨⟨r0, r1, r2⟩, ⟨f0, f1, f2⟩⟩ := cells3 hrg
        obtain ⟨⟨m0, m1, m2, m3, m4⟩, _⟩ := cells5 hrf
        have HRF := Lib.hid hrf; have HRUN := Lib.hid hrun
        have hzr := hfr.size
        by_cases hyH : (y : Int) < H
        · have e1 : (0 : Int) ≤ ((y : Int)) := by omega
          have HL := line_cells2 g W W1 R0 a0 e0 (fun he => (hrun he).1) (fun l L' a' => sHigh n W H (H.toNat - (y + 1)) (y + 1) (hset cs (y * W.toNat) l) L' a') r wr ((HO1.out.fr hfr).one) hrg
            (fun he => by
              have h := (hrun he).2.2.1
              rw [show H.toNat - y = (H.toNat - (y + 1)) + 1 by omega, sHigh_step] at h
              exact h) hbad
          obtain ⟨s, a1, E, hs, hE0, hE1, hcall⟩ := HL
          have HC := Lib.hid hcall; have HE0 := Lib.hid hE0; have HE1 := Lib.hid hE1
          obtain ⟨S, hS⟩ : ∃ S, str s = S := ⟨_, rfl⟩
          have HS := Lib.hid hS
          have hsz : (S.size : Int) = (s.length : Int) := by rw [← hS, str_size]
          rw [hS] at HC
          clear hrun hbad hfr hcall hE0 hE1 hS hrg hrf
          go_wp2_with fail
          refine HC.out.mono ?_
          rintro e w2 ⟨rfl, ⟨R1, hR1, hg2⟩, hf2⟩
          have hrf2 := hf2.at hgf.symm hgf.symm HRF.out
          have h1 := Lib.hid (show I2 g gf w1.heap.size n W H pv cs (y * W.toNat) s R1 a1 E 0 w2 from ⟨ao, l, c, hg2, hrf2, fun _ => rfl, fun h => by
            have := (HRUN.out (HE0.out h).1).2.2.2
            exact ownsRow_fr this hf2 (by omega) (by omega)⟩)
          have HF2 := Lib.hid (HE.out.trans hf2.wide); have HR1 := Lib.hid hR1
          clear hg2 hrf2 hf2 hR1 r0 r1 r2 f0 f1 f2 m0 m1 m2 m3 m4
          go_wp2_with fail
          go_loopw [9] (fun i wr => ∃ k : Nat, k ≤ s.length ∧ i = .int .i64 (k : Int) ∧ Fr g gf w1 wr ∧ I2 g gf w1.heap.size n W H pv cs (y * W.toNat) s R1 a1 E k wr) (fun i _ => s.length - (intOf i).toNat)
          case atStart => exact ⟨0, by omega, rfl, HF2.out, h1.out⟩
          case round =>
            clear h1
            obtain ⟨k, hk, rfl, hfr, ao, l, c, hrg, hrf, hk0, hrow⟩ := hrel
            have HFR := Lib.hid hfr
            obtain ⟨⟨r0, r1, r2⟩, ⟨f0, f1, f2⟩⟩ := cells3 hrg
            obtain ⟨⟨m0, m1, m2, m3, m4⟩, ⟨g0, g1, g2, g3, g4⟩⟩ := cells5 hrf
            have HRG := Lib.hid hrg; have HRF := Lib.hid hrf; have HROW := Lib.hid hrow; have HK0 := Lib.hid hk0
            have hzw := hfr.size
            have e2 : (0 : Int) ≤ ((k : Int)) := by omega
            by_cases hkn : k < s.length ∧ E = 0
            · obtain ⟨hkn, hE⟩ := hkn
              subst hE
--A
              have e3 : (k : Int) < (s.length : Int) := by omega
              have hown := hrow rfl
              obtain ⟨x1, x2, x3⟩ := HE0.out rfl
              have hkS : k < S.size := by omega
              have hge : S[k] = s[k] := by have h := HS.out; subst h; rfl
              have hhi : isHigh s[k] = true := List.all_eq_true.1 x3 _ (List.getElem_mem hkn)
              obtain ⟨ch, hch⟩ : ∃ c, S[k] = c := ⟨_, rfl⟩
              rw [← hge, hch] at hhi
              have hh1 : 48 ≤ ch.toNat ∧ ch.toNat ≤ 51 := by unfold isHigh at hhi; simpa using hhi
              have HGE := Lib.hid (hch.symm.trans hge)
              have hcl := (HRUN.out x1).2.1
              obtain ⟨b, i, hb, hyb, hi', hil, hwb, hwi, hwb2, hwi2, hbi⟩ := row_idx y k W H cs.length W1 W2 H1 H2 hcl hyH (by omega)
              rw [hb] at hown
              have HB := Lib.hid hb
              clear hcl hb
              have e4 : (0 : Int) ≤ (i : Int) := Int.natCast_nonneg _
              have e5 : (i : Int) < (cs.length : Int) := Int.ofNat_lt.2 hil
              obtain ⟨q, cap, hv, hq1, hq2⟩ := hown.form (Nat.lt_of_le_of_lt (Nat.zero_le _) hil)
              injection hv with hv1 hv2 hv3
              subst hv1 hv2 hv3
              have hilen : i < (hset cs b (s.take k)).length := by rw [hset_len]; exact hil
              obtain ⟨hv0, hcell⟩ : ∃ v, wr.cell? ⟨q, i * 3 + 1, none⟩ = some (.int .i64 v) := ⟨(hset cs b (s.take k))[i].h, by rw [hown.cellAt (i * 3 + 1) (idx3 hil), cells_at hilen 1 (by decide)]; rfl⟩
              have hfroz := hown.frozenAt (i * 3 + 1)
              obtain ⟨a0', ha'⟩ : ∃ a : Addr, (⟨q, 0, none⟩ : Addr) = a := ⟨_, rfl⟩
              have hadd : (a0'.add (i * 3)).block = q ∧ (a0'.add (i * 3)).off = i * 3 := by rw [← ha', add0]; exact ⟨rfl, rfl⟩
              have hcellx : wr.cell? ⟨(a0'.add (i * 3)).block, (a0'.add (i * 3)).off + 1, none⟩ = some (.int .i64 hv0) := by rw [hadd.1, hadd.2]; exact hcell
              have hfrozx : wr.frozen? ⟨(a0'.add (i * 3)).block, (a0'.add (i * 3)).off + 1, none⟩ = false := by rw [hadd.1, hadd.2]; exact hfroz
              have HA := Lib.hid ha'; have HAD := Lib.hid hadd; have HOWN := Lib.hid hown
              have hqg : ¬ (a0'.add (i * 3)).block = gf := by rw [hadd.1]; omega
              have hqg' : ¬ gf = (a0'.add (i * 3)).block := by rw [hadd.1]; omega
              have hs1 : (ch.toNat : Int) - 48 = highI ch := rfl
              have hs2 : 0 ≤ highI ch ∧ highI ch ≤ 3 := by rw [← hs1]; omega
              have hs3 : IntKind.u8.wrap (highI ch) = highI ch := by rw [IntKind.wrap_u8]; omega
              have hs4 : IntKind.i64.wrap (highI ch) = highI ch := by rw [IntKind.wrap_i64]; omega
              rw [ha'] at m3
              have NX := Lib.hid (I2_next hgf hkn hi' hil ⟨show g < w1.heap.size by omega, by omega⟩ rfl HFR.out HRG.out HRF.out hq1 hown (a0'.add (i * 3)) hadd)
              rw [← HGE.out, ← HB.out] at NX
              clear hge hrow hk0 hrg hrf hfr hown hcell hfroz hadd ha' hhi hilen hil x1 x2 x3 hi'
              go_wp2_with fail
              go_region_held3 (fun w' => w'.cell? ⟨gf, 3, none⟩ = some (.slice (some a0') cs.length c) ∧ w'.cell? ⟨gf, 1, none⟩ = some (.int .i64 W)) (first | go_keep | (refine ⟨?_, ?_⟩ <;> (rw [World.cell?_setCell_far _ _ _ _ (by simp <;> omega)]; go_keep))) (fail)
              all_goals
                clear hcellx hfrozx r0 r1 r2 f0 f1 f2 m0 m1 m2 m3 m4 g0 g1 g2 g3 g4 hs1 hs2 hs3 hs4 hqg hqg' hwb2 hwi2 hwb hwi
                go_wp2_with fail
                go_roundw
                case rel => exact ⟨k + 1, by omega, by go_num, NX.out⟩
                case measure => simp [intOf]; omega
--B
            · have hEND := Lib.hid (show K2 g gf w1.heap.size n W H pv r (y + 1) wr from ⟨R1, a1, E, hset cs (y * W.toNat) s, ao, l, c, HRG.out, HRF.out, HE1.out, fun hE => by
                have hkk : k = s.length := by
                  rcases Nat.lt_or_ge k s.length with h | h
                  · exact absurd ⟨h, hE⟩ hkn
                  · omega
                have h1 := HROW.out hE
                obtain ⟨h2, h3⟩ := HR1.out hE
                have h4 := (HRUN.out (HE0.out hE).1).2.1
                rw [hkk, List.take_length] at h1
                exact ⟨h2, by rw [hset_len]; exact h4, h3, by rw [hset_len]; exact h1⟩⟩)
              have hcase : (k : Int) < (s.length : Int) ∧ (E == 0) = false ∨ ¬ (k : Int) < (s.length : Int) := by
                by_cases h : k < s.length
                · exact Or.inl ⟨by omega, by rw [beq_eq_false_iff_ne]; exact fun hE => hkn ⟨h, hE⟩⟩
                · exact Or.inr (by omega)
              clear hkn hrow hk0 hrg hrf hfr hzw
              rcases hcase with ⟨e3, e4⟩ | e3
              all_goals
                go_wp2_with fail
                go_roundw
                case rel => exact ⟨y + 1, by omega, by go_num, HFR.out, hEND.out⟩
                case measure => simp [intOf]; omega
        · have hyy : H.toNat ≤ y := by omega
          obtain ⟨N, hK3⟩ := K3.of (show K2 g gf w1.heap.size n W H pv r y wr from ⟨R0, a0, e0, cs, ao, l, c, hrg, hrf, hbad, hrun⟩) hyy
          have h3 := Lib.hid hK3
          obtain ⟨_, _, _, _, ao', c', _, hrf', _⟩ := hK3
          have hlN : l = N := by
            have := hrf.symm.trans hrf'
            simp at this
            exact this.2.1
          subst hlN
          clear hrun hbad hfr hrg hrf hrf' r0 r1 r2 f0 f1 f2 m0 m1 m2 m4 HRF HRUN hyy hy
          go_wp2_with fail
          clear m3
          go_loopw [107] (fun i wr => ∃ k : Nat, k ≤ l ∧ i = .int .i64 (k : Int) ∧ Fr g gf w1 wr ∧ K3 g gf w1.heap.size n W H pv r l k wr) (fun i _ => l - (intOf i).toNat)
          case atStart => exact ⟨0, by omega, rfl, HE.out, h3.out⟩
          case round =>
            clear h3 HE
            obtain ⟨k, hk, rfl, hfr, hk3⟩ := hrel
            have HE := Lib.hid hfr; have HK3 := Lib.hid hk3
            by_cases hkl : k < l
            · have e1 : (0 : Int) ≤ ((k : Int)) := by omega
              have e2 : (k : Int) < (l : Int) := by omega
              obtain ⟨R0, a0, e0, cs, ao, c, hrg, hrf, hbad, hrun⟩ := hk3
              obtain ⟨⟨r0, r1, r2⟩, ⟨f0, f1, f2⟩⟩ := cells3 hrg
              obtain ⟨⟨m0, m1, m2, m3, m4⟩, _⟩ := cells5 hrf
              by_cases he : e0 = 0
              · subst he
                obtain ⟨x1, x2, x3, x4, x5⟩ := hrun rfl
                have hl : l ≤ 32 * 32 := by rw [x3]; exact Nat.mul_le_mul (by omega) (by omega)
                have HAt := Lib.hid (fun w => At_nat W k W1 (by omega) (by omega) w)
                have q1 : 0 ≤ (k : Int) % W := Int.emod_nonneg _ (by omega)
                have q2 : (k : Int) % W < W := Int.emod_lt_of_pos _ (by omega)
                have q3 : 0 ≤ (k : Int) / W := Int.ediv_nonneg (by omega) (by omega)
                have q4 : (k : Int) / W ≤ k := Int.ediv_le_self _ (by omega)
                obtain ⟨px, hpx⟩ : ∃ x, (k : Int) % W = x := ⟨_, rfl⟩
                obtain ⟨py, hpy⟩ : ∃ x, (k : Int) / W = x := ⟨_, rfl⟩
                rw [hpx, hpy] at HAt
                rw [hpx] at q1 q2
                rw [hpy] at q3 q4
                unfold KB Po.v at HAt
                dsimp only at HAt
                obtain ⟨q, cap, hv, hq1, hq2⟩ := x5.form (by omega)
                injection hv with hv1 hv2 hv3
                subst hv1 hv3
                have hklen : k < cs.length := by omega
                have hcell0 := x5.cellAt (k * 3 + 0) (by omega)
                rw [cells_at hklen 0 (by decide)] at hcell0
                obtain ⟨⟨kk, kh, ka⟩, hqq⟩ : ∃ t, cs[k] = t := ⟨_, rfl⟩
                rw [hqq] at hcell0
                replace hcell0 : wr.cell? ⟨q, k * 3, none⟩ = some (.int .i64 kk) := hcell0
                have hget : cs[k]? = some ⟨kk, kh, ka⟩ := by rw [List.getElem?_eq_getElem hklen, hqq]
                have HRI := Lib.hid (rich_any kk)
                unfold KC at HRI
                obtain ⟨ad, had⟩ : ∃ a : Addr, (⟨q, 0, none⟩ : Addr) = a := ⟨_, rfl⟩
                have hadd : (ad.add (k * 3)).block = q ∧ (ad.add (k * 3)).off = k * 3 ∧ ad.add (k * 3) = ⟨q, k * 3, none⟩ := by rw [← had, add0]; exact ⟨rfl, rfl, rfl⟩
                rw [← hadd.2.2] at hcell0
                have X1 := Lib.hid x1; have X4 := Lib.hid x4; have X5 := Lib.hid x5; have HAD := Lib.hid hadd; have HADQ := Lib.hid had
                have hqg : ¬ (ad.add (k * 3)).block = gf := by rw [hadd.1]; omega
                have hqg' : ¬ gf = (ad.add (k * 3)).block := by rw [hadd.1]; omega
                have HGET := Lib.hid hget; have HCS := Lib.hid x2; have HN := Lib.hid x3
                have HRG := Lib.hid hrg; have HRF := Lib.hid hrf
                have XX1 := x1
                rw [had] at m3
                clear hrun hbad hfr hrg hrf x1 x4 x5 x2 x3 hadd hget hqq hklen had
                go_wp2_with fail
                refine (HAt.out _).mono ?_
                rintro e wA ⟨rfl, hbA⟩
                have m1' := cell_below (below_new wA (.cells #[.int .i64 px, .int .i64 py] 55)) (cell_below hbA m1)
                have m3' := cell_below (below_new wA (.cells #[.int .i64 px, .int .i64 py] 55)) (cell_below hbA m3)
                have k0' := cell_below (below_new wA (.cells #[.int .i64 px, .int .i64 py] 55)) (cell_below hbA hcell0)
                have r2' := cell_below (below_new wA (.cells #[.int .i64 px, .int .i64 py] 55)) (cell_below hbA r2)
                have HBP := Lib.hid (hbA.trans ((below_new wA (.cells #[.int .i64 px, .int .i64 py] 55)).mono hbA.size))
                have HPB := Lib.hid (tok_new wA (.cells #[.int .i64 px, .int .i64 py] 55))
                have hzA := hbA.size
                clear hbA m0 m1 m2 m3 m4 r0 r1 r2 f0 f1 f2 hcell0
                by_cases hri : richB kk = true
                · rw [hri] at HRI
                  go_wp2_with fail
                  refine (HRI.out _).mono ?_
                  rintro e wP ⟨rfl, rfl⟩
                  go_wp2_with fail
                  obtain ⟨wP, hwP⟩ : ∃ wP, wA.alloc (.cells #[.int .i64 px, .int .i64 py] 55) = wP := ⟨_, rfl⟩
                  obtain ⟨pb, hpb⟩ : ∃ pb, wA.heap.size = pb := ⟨_, rfl⟩
                  have hpbg : pb ≠ g := by omega
                  rw [hpb] at HPB
                  rw [hwP] at HBP HPB
                  rw [hwP, hpb]
                  clear m1' m3' k0' r2' hwP hpb
                  have hgP := block_below HBP.out HRG.out
                  have hmP := block_below HBP.out HRF.out
                  have HOP := Lib.hid ((HO1.out.fr HE.out).one.fr (Fr.of HBP.out (Nat.le_refl _)))
                  have HFP := Lib.hid (HE.out.trans (Fr.of (g := g) (h := gf) HBP.out (Nat.le_refl _)))
                  have hbd : (∃ E : Int, E ≠ 0 ∧ ((nxt (sp 10 R0) = none ∧ E = 4) ∨ (∃ l L, nxt (sp 10 R0) = some (l, L) ∧ (∀ rest, sp 32 l = wAmount :: rest → rest.length ≠ 3) ∧ E = 5)) ∧ r = .bad (a0 + 1) E) ∨
                      (∃ ln L' l0 l1 l2, nxt (sp 10 R0) = some (ln, L') ∧ sp 32 ln = [wAmount, l0, l1, l2] ∧ ln.length ≤ R0.length) := by
                    have x4 := X4.out
                    rw [show l - k = (l - (k + 1)) + 1 by omega] at x4
                    cases hx : nxt (sp 10 R0) with
                    | none =>
                      rw [amts_end n W H _ k cs _ _ _ HGET.out hri hx] at x4
                      exact Or.inl ⟨4, by decide, Or.inl ⟨rfl, rfl⟩, x4.symm⟩
                    | some p =>
                      obtain ⟨ln, L'⟩ := p
                      by_cases hsh : ∃ rest, sp 32 ln = wAmount :: rest ∧ rest.length = 3
                      · obtain ⟨rest, h1, h2⟩ := hsh
                        obtain ⟨l0, l1, l2, rfl⟩ := len_three h2
                        obtain ⟨r', h3, _, _⟩ := nxt_some R0 ln L' hx
                        exact Or.inr ⟨ln, L', l0, l1, l2, rfl, h1, by rw [h3]; simp⟩
                      · have hno : ∀ rest, sp 32 ln = wAmount :: rest → rest.length ≠ 3 := fun rest h1 h2 => hsh ⟨rest, h1, h2⟩
                        rw [amts_bad n W H _ k cs _ _ _ _ _ HGET.out hri hx (amtP_bad W k ln hno)] at x4
                        exact Or.inl ⟨5, by decide, Or.inr ⟨ln, L', rfl, hno, rfl⟩, x4.symm⟩
                  rcases hbd with ⟨E, hE, hcond, hrE⟩ | ⟨ln, L', l0, l1, l2, hx, hsp, hlnl⟩
                  · have HWD := Lib.hid (show Calls Tryz.prog 37 #[rdP g, .string ⟨#[97, 109, 111, 117, 110, 116]⟩, .int .i64 3] wP _ from words_no g R0 wAmount 3 a0 (by omega) (by omega) E hcond (by omega) wP HOP.out hgP)
                    have hE' : (E == 0) = false := by simpa using hE
                    have HRE := Lib.hid hrE
                    have hMP := Lib.hid hmP
                    clear hE hcond hrE hgP hmP
                    refine HWD.out.mono ?_
                    rintro e w5 ⟨⟨v, rfl⟩, ⟨R', hg5⟩, hf5⟩
                    obtain ⟨⟨c0, c1, c2⟩, _⟩ := cells3 hg5
                    have hK := Lib.hid (show K3 g gf w1.heap.size n W H pv r l (k + 1) w5 from ⟨R', a0 + 1, E, cs, _, _, hg5, hf5.at hgf.symm hgf.symm hMP.out, fun _ => HRE.out, fun h => by subst h; simp at hE'⟩)
                    have HFF := Lib.hid (HFP.out.trans hf5.wide)
                    clear hg5 hf5
                    go_wp2_with fail
                    go_roundw
                    case rel => exact ⟨k + 1, by omega, by go_num, HFF.out, hK.out⟩
                    case measure => simp [intOf]; omega
                  · have HWD := Lib.hid (show Calls Tryz.prog 37 #[rdP g, .string ⟨#[97, 109, 111, 117, 110, 116]⟩, .int .i64 3] wP _ from words_ok g R0 ln wAmount [l0, l1, l2] 3 L' a0 (by omega) (by omega) hx (by omega) hsp rfl (by omega) (by omega) wP HOP.out hgP)
                    have hMP := Lib.hid hmP; have HX := Lib.hid hx; have HSP := Lib.hid hsp
                    have hls : l0.length ≤ 100000 ∧ l1.length ≤ 100000 ∧ l2.length ≤ 100000 := by
                      have h := sp_le 32 ln
                      rw [hsp] at h
                      exact ⟨Nat.le_trans (h l0 (by simp)) (by omega), Nat.le_trans (h l1 (by simp)) (by omega), Nat.le_trans (h l2 (by simp)) (by omega)⟩
                    obtain ⟨z0, z1, z2⟩ := hls
                    clear hgP hmP hx hsp hlnl
                    refine HWD.out.mono ?_
                    rintro e w5 ⟨⟨b, rfl, hb5, hbz⟩, ⟨R', hR', hL', hg5⟩, hf5⟩
                    have hgz : g < wP.heap.size := heap_lt (block_below HBP.out HRG.out)
                    have hbg : b ≠ g := by omega
                    have hp5 := hf5.at hpbg hpbg HPB.out
                    have hm5 := hf5.at hgf.symm hgf.symm hMP.out
                    obtain ⟨⟨c0, c1, c2⟩, _⟩ := cells3 hg5
                    obtain ⟨⟨p0, p1⟩, _⟩ := cells2 hp5
                    have s1 : w5.cell? ⟨b, 1, none⟩ = some (.string (str l0)) := by rw [Lib.cell_of_heap hb5]; rfl
                    have s2 : w5.cell? ⟨b, 2, none⟩ = some (.string (str l1)) := by rw [Lib.cell_of_heap hb5]; rfl
                    have s3 : w5.cell? ⟨b, 3, none⟩ = some (.string (str l2)) := by rw [Lib.cell_of_heap hb5]; rfl
                    have HG5 := Lib.hid hg5; have HB5 := Lib.hid hb5; have HP5 := Lib.hid hp5; have HM5 := Lib.hid hm5; have HF5 := Lib.hid hf5
                    have HO5 := Lib.hid (HOP.out.fr hf5)
                    have XR := Lib.hid (show (a0 + 1) + R'.length ≤ 50000 by omega)
                    have HL5 := Lib.hid hL'
                    have hz5 := hf5.size
                    clear hg5 hb5 hp5 hm5 hf5 hR' hL'
                    go_wp2_with fail
                    go_region_held3 (fun w' => w'.cell? ⟨b, 1, none⟩ = some (.string (str l0)) ∧ w'.cell? ⟨pb, 0, none⟩ = some (.int .i64 px)) (first | go_keep | (exact ⟨hf6.cell (by simpa using hbg) (by simpa using hbg) s1, hf6.cell (by simpa using hpbg) (by simpa using hpbg) p0⟩))
                      (first | (go_at_call 39; refine (number_any g R' (a0 + 1) 0 l0 z0 px px (by omega) (by omega) w5.drew (HO5.out.any rfl rfl rfl rfl) HG5.out).mono ?_; rintro e w6 ⟨⟨v6, rfl, hv6⟩, ⟨e6, hw6, hy6, hn6⟩, hf6⟩))
                    have HO6 := Lib.hid ((HO5.out.any rfl rfl rfl rfl : Own w5.drew g g).fr hf6)
                    have HF6 := Lib.hid (HF5.out.trans ((Fr.refl g g w5).drew.trans hf6))
                    have hb6 := hf6.at (i := b) hbg hbg HB5.out
                    have hp6 := hf6.at (i := pb) hpbg hpbg HP5.out
                    have hm6 := hf6.at (i := gf) hgf.symm hgf.symm HM5.out
                    obtain ⟨⟨p0, p1⟩, _⟩ := cells2 hp6
                    have s2 : w6.cell? ⟨b, 2, none⟩ = some (.string (str l1)) := by rw [Lib.cell_of_heap hb6]; rfl
                    have HG6 := Lib.hid hw6; have HB6 := Lib.hid hb6; have HP6 := Lib.hid hp6; have HM6 := Lib.hid hm6
                    have HY6 := Lib.hid hy6; have HN6 := Lib.hid hn6
                    clear hw6 hb6 hp6 hm6 hf6 hy6 hn6 hv6 s1 s3 c0 c1 c2
                    go_wp2_with fail
                    go_region_held3 (fun w' => w'.cell? ⟨b, 2, none⟩ = some (.string (str l1)) ∧ w'.cell? ⟨pb, 1, none⟩ = some (.int .i64 py)) (first | go_keep | (exact ⟨hf7.cell (by simpa using hbg) (by simpa using hbg) s2, hf7.cell (by simpa using hpbg) (by simpa using hpbg) p1⟩))
                      (first | (go_at_call 39; refine (number_any g R' (a0 + 1) e6 l1 z1 py py (by omega) (by omega) w6.drew (HO6.out.any rfl rfl rfl rfl) HG6.out).mono ?_; rintro e w7 ⟨⟨v7, rfl, hv7⟩, ⟨e7, hw7, hy7, hn7⟩, hf7⟩))
                    have HO7 := Lib.hid ((HO6.out.any rfl rfl rfl rfl : Own w6.drew g g).fr hf7)
                    have HF7 := Lib.hid (HF6.out.trans ((Fr.refl g g w6).drew.trans hf7))
                    have hb7 := hf7.at (i := b) hbg hbg HB6.out
                    have hm7 := hf7.at (i := gf) hgf.symm hgf.symm HM6.out
                    have m3 := (cells5 hm7).1.2.2.2.1
                    rw [HADQ.out] at m3
                    have s3 : w7.cell? ⟨b, 3, none⟩ = some (.string (str l2)) := by rw [Lib.cell_of_heap hb7]; rfl
                    have hqb : ¬ (ad.add (k * 3)).block = b := by rw [HAD.out.1]; have := HBP.out.size; omega
                    have hqb' : ¬ b = (ad.add (k * 3)).block := by rw [HAD.out.1]; have := HBP.out.size; omega
                    have HG7 := Lib.hid hw7; have HB7 := Lib.hid hb7; have HM7 := Lib.hid hm7
                    have HY7 := Lib.hid hy7; have HN7 := Lib.hid hn7
                    have hgB : g < w1.heap.size := by omega
                    have O7 := Lib.hid (ownsRow_fr (ownsRow_below X5.out HBP.out) HF7.out hgB hgB)
                    clear hw7 hb7 hm7 hf7 hy7 hn7 hv7 s2 p0 p1
                    go_wp2_with fail
                    go_region_held3 (fun w' => w'.cell? ⟨b, 3, none⟩ = some (.string (str l2)) ∧ w'.cell? ⟨gf, 3, none⟩ = some (.slice (some ad) l c)) (first | go_keep | (refine ⟨?_, ?_⟩ <;> (rw [World.cell?_setCell_far _ _ _ _ (by simp <;> omega)]; go_keep)) | (exact ⟨hf8.cell (by simpa using hbg) (by simpa using hbg) s3, hf8.cell (by simpa using hgf.symm) (by simpa using hgf.symm) m3⟩))
                      (first | (go_at_call 39; refine (number_any g R' (a0 + 1) e7 l2 z2 1 1000000 (by omega) (by omega) w7.drew (HO7.out.any rfl rfl rfl rfl) HG7.out).mono ?_; rintro e w8 ⟨⟨v8, rfl, hv8⟩, ⟨e8, hw8, hy8, hn8⟩, hf8⟩; have o8 := ownsRow_fr O7.out ((Fr.refl g g w7).drew.trans hf8) hgB hgB; obtain ⟨t8, tf8⟩ := tgt o8 HGET.out hkl HAD.out))
                    all_goals
                      have HST := amt_step W k ln l0 l1 l2 HSP.out px py v8 e6 e7 e8 hpx hpy HY6.out (fun h => by simpa using HN6.out h) HY7.out (fun h => by simpa using HN7.out h) hv8 hy8 (fun h => by simpa using hn8 h)
                      have hK := Lib.hid (K3_next hgf (by omega) (by omega) HX.out HL5.out HGET.out hri HCS.out HN.out X4.out HST XR.out hw8 ((((Fr.refl g g w7).drew.trans hf8)).at (i := gf) hgf.symm hgf.symm HM7.out) o8 hq1 HAD.out)
                      have HFF := Lib.hid (((HFP.out.trans HF7.out.wide).trans ((Fr.refl g g w7).drew.trans hf8).wide).setg ⟨(ad.add (k * 3)).block, (ad.add (k * 3)).off + 2, none⟩ (Or.inr (Or.inr (by rw [HAD.out.1]; exact hq1))) (.int .i64 v8))
                      clear hw8 hf8 o8 t8 tf8 hy8 hn8 hv8 HST m3 s3 hqb hqb' hqg hqg'
                      go_wp2_with fail
                      go_roundw
                      case rel => exact ⟨k + 1, by omega, by go_num, HFF.out, hK.out⟩
                      case measure => simp [intOf]; omega
                · replace hri : richB kk = false := by simpa using hri
                  have hK := Lib.hid (show K3 g gf w1.heap.size n W H pv r l (k + 1) (wA.alloc (.cells #[.int .i64 px, .int .i64 py] 55)) from ⟨R0, a0, 0, cs, _, _, block_below HBP.out HRG.out, block_below HBP.out HRF.out, fun h => absurd rfl h, fun _ => ⟨XX1, HCS.out, HN.out, by
                    have := X4.out
                    rw [show l - k = (l - (k + 1)) + 1 by omega, amts_no n W H _ k cs _ _ _ HGET.out hri] at this
                    exact this, ownsRow_below X5.out HBP.out⟩⟩)
                  rw [hri] at HRI
                  have HFF := Lib.hid (HE.out.trans (Fr.of (g := g) (h := gf) HBP.out (Nat.le_refl _)))
                  go_wp2_with fail
                  refine (HRI.out _).mono ?_
                  rintro e wP ⟨rfl, rfl⟩
                  go_wp2_with fail
                  go_roundw
                  case rel => exact ⟨k + 1, by omega, by go_num, HFF.out, hK.out⟩
                  case measure => simp [intOf]; omega
              · have e3 : (e0 != 0) = true := by simpa using he
                have hP := Lib.hid (show CPost g gf w1.heap.size n W H pv r wr from ⟨R0, a0, e0, cs, ao, l, c, hrg, hrf, hbad, fun h => absurd h he⟩)
                clear hrun hbad hfr hrf hrg he
                go_wp2_with fail
                first | go_end0 | refine bodyPost_ret (results_none rfl _ _ _) rfl ?_
                exact ⟨rfl, hP.out.mono (by omega), HF1.out.trans HE.out⟩
            · have hP := Lib.hid (hk3.done (by omega))
              have e2 : ¬ (k : Int) < (l : Int) := by omega
              clear hk3 hfr
              go_wp2_with fail
              go_end0
              exact ⟨rfl, hP.out.mono (by omega), HF1.out.trans HE.out⟩
end Go.Proofs.YtmiceolkmiiahaaGreatDoor
