/- Walks: Valid. -/
import Derived.Test.YtmiceolkmiiahaaGreatDoorW11
namespace Go.Proofs.YtmiceolkmiiahaaGreatDoor
open Go.RowKit
set_option linter.unusedVariables false
set_option linter.unusedSimpArgs false
set_option maxRecDepth 100000

theorem cells5 {w : World} {g t : Nat} {a b c d e : Value} (h : w.heap[g]? = some (.cells #[a, b, c, d, e] t)) : (w.cell? ⟨g, 0, none⟩ = some a ∧ w.cell? ⟨g, 1, none⟩ = some b ∧ w.cell? ⟨g, 2, none⟩ = some c ∧ w.cell? ⟨g, 3, none⟩ = some d ∧ w.cell? ⟨g, 4, none⟩ = some e) ∧ (w.frozen? ⟨g, 0, none⟩ = false ∧ w.frozen? ⟨g, 1, none⟩ = false ∧ w.frozen? ⟨g, 2, none⟩ = false ∧ w.frozen? ⟨g, 3, none⟩ = false ∧ w.frozen? ⟨g, 4, none⟩ = false) := by
  refine ⟨⟨?_, ?_, ?_, ?_, ?_⟩, ?_, ?_, ?_, ?_, ?_⟩
  · rw [Lib.cell_of_heap h]; rfl
  · rw [Lib.cell_of_heap h]; rfl
  · rw [Lib.cell_of_heap h]; rfl
  · rw [Lib.cell_of_heap h]; rfl
  · rw [Lib.cell_of_heap h]; rfl
  · rw [Lib.frozen_of_heap h]
  · rw [Lib.frozen_of_heap h]
  · rw [Lib.frozen_of_heap h]
  · rw [Lib.frozen_of_heap h]
  · rw [Lib.frozen_of_heap h]

/-- The error of the starts. -/
def startsE (P : Po → Bool) : List Po → List Po → Int
  | _, [] => 0
  | pre, p :: ps => if P p = false then 9 else if pre.contains p then 7 else startsE P (pre ++ [p]) ps
def validT (n : ByteArray) (W H : Int) (cs : List Cel) (ps : List Po) : Int :=
  if nameB n = false then 6 else if mapB W H cs = false then 1 else if ps.length < 2 ∨ 6 < ps.length then 2 else startsE (passB W H cs) [] ps
theorem startsE_at (P : Po → Bool) (ps : List Po) (k : Nat) (hk : k < ps.length) : startsE P (ps.take k) (ps.drop k) = if P ps[k] = false then 9 else if (ps.take k).contains ps[k] then 7 else startsE P (ps.take (k + 1)) (ps.drop (k + 1)) := by
  rw [List.drop_eq_getElem_cons hk, List.take_succ_eq_append_getElem hk]
  rfl
theorem slAt_take {M : Type} {C : Nat} {E : M → List Value} {w : World} {a : Addr} {ms : List M} (h : SlAt C E w a ms) (k : Nat) : SlAt C E w a (ms.take k) := fun i hi j hj => by
  have hi' : i < ms.length := by rw [List.length_take] at hi; omega
  rw [h i hi' j hj, List.getElem_take]

set_option maxHeartbeats 8000000
theorem Valid_e6 (n : ByteArray) (pv : Value) (W H : Int) (cv : Value) (h1 : KC 30 #[.string n] (.bool false)) (w : World) : KB 11 #[fileV n W H cv pv] (.int .i64 6) w := by
  have H1 := Lib.hid h1
  unfold KB fileV
  go_enter Tryz.func11, Tryz.ntmps11
  go_wp2_with fail
  refine (H1.out _).mono ?_
  rintro e w1 ⟨rfl, rfl⟩
  go_wp2_with fail
  go_ret
  exact ⟨rfl, below_new _ _⟩
theorem Valid_e1 (n : ByteArray) (pv : Value) (W H : Int) (cv : Value) (h1 : KC 30 #[.string n] (.bool true)) (w : World) (h2 : ∀ w', Below w.heap.size w w' → KB 31 #[mapV W H cv] (.bool false) w') : KB 11 #[fileV n W H cv pv] (.int .i64 1) w := by
  have H1 := Lib.hid h1; have H2 := Lib.hid h2
  clear h1 h2
  unfold KB fileV mapV at *
  go_enter Tryz.func11, Tryz.ntmps11
  go_wp2_with fail
  refine (H1.out _).mono ?_
  rintro e w1 ⟨rfl, rfl⟩
  go_wp2_with fail
  refine (H2.out _ (below_new _ _)).mono ?_
  rintro e w1 ⟨rfl, hb⟩
  obtain ⟨n1, hb1, hz1⟩ := new_below hb
  go_wp2_with fail
  go_ret
  exact ⟨rfl, hb1⟩
theorem Valid_e2 (n : ByteArray) (ao : Option Addr) (l ca : Nat) (W H : Int) (cv : Value) (h1 : KC 30 #[.string n] (.bool true)) (w : World) (h2 : ∀ w', Below w.heap.size w w' → KB 31 #[mapV W H cv] (.bool true) w') (hl : l < 2 ∨ 6 < l) (hl2 : l ≤ 1000000) : KB 11 #[fileV n W H cv (.slice ao l ca)] (.int .i64 2) w := by
  have H1 := Lib.hid h1; have H2 := Lib.hid h2
  clear h1 h2
  unfold KB fileV mapV at *
  rcases hl with hl | hl
  · have e1 : (l : Int) < 2 := by omega
    go_enter Tryz.func11, Tryz.ntmps11
    go_wp2_with fail
    refine (H1.out _).mono ?_
    rintro e w1 ⟨rfl, rfl⟩
    go_wp2_with fail
    refine (H2.out _ (below_new _ _)).mono ?_
    rintro e w1 ⟨rfl, hb⟩
    obtain ⟨n1, hb1, hz1⟩ := new_below hb
    obtain ⟨⟨c0, c1, c2, c3, c4⟩, _⟩ := cells5 n1
    clear hb
    go_wp2_with fail
    go_ret
    exact ⟨rfl, hb1⟩
  · have e1 : ¬ (l : Int) < 2 := by omega
    have e2 : (6 : Int) < (l : Int) := by omega
    go_enter Tryz.func11, Tryz.ntmps11
    go_wp2_with fail
    refine (H1.out _).mono ?_
    rintro e w1 ⟨rfl, rfl⟩
    go_wp2_with fail
    refine (H2.out _ (below_new _ _)).mono ?_
    rintro e w1 ⟨rfl, hb⟩
    obtain ⟨n1, hb1, hz1⟩ := new_below hb
    obtain ⟨⟨c0, c1, c2, c3, c4⟩, _⟩ := cells5 n1
    clear hb
    go_wp2_with fail
    go_ret
    exact ⟨rfl, hb1⟩
theorem rValid_e6 (n : ByteArray) (pv : Value) (W H : Int) (cv : Value) (h1 : KC 34 #[.string n] (.bool false)) (w : World) : KB 12 #[fileV n W H cv pv] (.int .i64 6) w := by
  have H1 := Lib.hid h1
  unfold KB fileV
  go_enter Tryz.func12, Tryz.ntmps12
  go_wp2_with fail
  refine (H1.out _).mono ?_
  rintro e w1 ⟨rfl, rfl⟩
  go_wp2_with fail
  go_ret
  exact ⟨rfl, below_new _ _⟩
theorem rValid_e1 (n : ByteArray) (pv : Value) (W H : Int) (cv : Value) (h1 : KC 34 #[.string n] (.bool true)) (w : World) (h2 : ∀ w', Below w.heap.size w w' → KB 35 #[mapV W H cv] (.bool false) w') : KB 12 #[fileV n W H cv pv] (.int .i64 1) w := by
  have H1 := Lib.hid h1; have H2 := Lib.hid h2
  clear h1 h2
  unfold KB fileV mapV at *
  go_enter Tryz.func12, Tryz.ntmps12
  go_wp2_with fail
  refine (H1.out _).mono ?_
  rintro e w1 ⟨rfl, rfl⟩
  go_wp2_with fail
  refine (H2.out _ (below_new _ _)).mono ?_
  rintro e w1 ⟨rfl, hb⟩
  obtain ⟨n1, hb1, hz1⟩ := new_below hb
  go_wp2_with fail
  go_ret
  exact ⟨rfl, hb1⟩
theorem rValid_e2 (n : ByteArray) (ao : Option Addr) (l ca : Nat) (W H : Int) (cv : Value) (h1 : KC 34 #[.string n] (.bool true)) (w : World) (h2 : ∀ w', Below w.heap.size w w' → KB 35 #[mapV W H cv] (.bool true) w') (hl : l < 2 ∨ 6 < l) (hl2 : l ≤ 1000000) : KB 12 #[fileV n W H cv (.slice ao l ca)] (.int .i64 2) w := by
  have H1 := Lib.hid h1; have H2 := Lib.hid h2
  clear h1 h2
  unfold KB fileV mapV at *
  rcases hl with hl | hl
  · have e1 : (l : Int) < 2 := by omega
    go_enter Tryz.func12, Tryz.ntmps12
    go_wp2_with fail
    refine (H1.out _).mono ?_
    rintro e w1 ⟨rfl, rfl⟩
    go_wp2_with fail
    refine (H2.out _ (below_new _ _)).mono ?_
    rintro e w1 ⟨rfl, hb⟩
    obtain ⟨n1, hb1, hz1⟩ := new_below hb
    obtain ⟨⟨c0, c1, c2, c3, c4⟩, _⟩ := cells5 n1
    clear hb
    go_wp2_with fail
    go_ret
    exact ⟨rfl, hb1⟩
  · have e1 : ¬ (l : Int) < 2 := by omega
    have e2 : (6 : Int) < (l : Int) := by omega
    go_enter Tryz.func12, Tryz.ntmps12
    go_wp2_with fail
    refine (H1.out _).mono ?_
    rintro e w1 ⟨rfl, rfl⟩
    go_wp2_with fail
    refine (H2.out _ (below_new _ _)).mono ?_
    rintro e w1 ⟨rfl, hb⟩
    obtain ⟨n1, hb1, hz1⟩ := new_below hb
    obtain ⟨⟨c0, c1, c2, c3, c4⟩, _⟩ := cells5 n1
    clear hb
    go_wp2_with fail
    go_ret
    exact ⟨rfl, hb1⟩
theorem Valid_run (n : ByteArray) (a : Addr) (l ca : Nat) (W H : Int) (cv : Value) (ps : List Po) (P : Po → Bool) (hps : ps.length = l) (h1 : KC 30 #[.string n] (.bool true)) (w : World) (h2 : ∀ w', Below w.heap.size w w' → KB 31 #[mapV W H cv] (.bool true) w')
    (hl : 2 ≤ l ∧ l ≤ 6) (hlc : l ≤ ca) (ha : PoAt w a ps) (h3 : ∀ p w', Below w.heap.size w w' → KB 32 #[mapV W H cv, .int .i64 1, p.v] (.bool (P p)) w')
    (h4 : ∀ (p : Po) k, k ≤ l → ∀ w', Below w.heap.size w w' → KB 33 #[.slice (some a) k ca, p.v] (.bool ((ps.take k).contains p)) w') : KB 11 #[fileV n W H cv (.slice (some a) l ca)] (.int .i64 (startsE P [] ps)) w := by
  have H1 := Lib.hid h1; have H2 := Lib.hid h2; have H3 := Lib.hid h3; have H4 := Lib.hid h4
  have HA := Lib.hid ha; have HN := Lib.hid hps
  obtain ⟨r, hr⟩ : ∃ r, startsE P [] ps = r := ⟨_, rfl⟩
  rw [hr]
  have HR := Lib.hid hr
  clear h1 h2 h3 h4 ha hps hr
  unfold KB fileV mapV at *
  have e1 : ¬ (l : Int) < 2 := by omega
  have e2 : ¬ (6 : Int) < (l : Int) := by omega
  go_enter Tryz.func11, Tryz.ntmps11
  go_wp2_with fail
  refine (H1.out _).mono ?_
  rintro e w1 ⟨rfl, rfl⟩
  go_wp2_with fail
  refine (H2.out _ (below_new _ _)).mono ?_
  rintro e w1 ⟨rfl, hb⟩
  obtain ⟨n1, hb1, hz1⟩ := new_below hb
  obtain ⟨⟨c0, c1, c2, c3, c4⟩, _⟩ := cells5 n1
  have HB1 := Lib.hid hb1; have HO := Lib.hid n1
  clear hb hb1 n1
  go_wp2_with fail
  clear c0 c1 c2 c3 c4
  go_loopw [29] (fun v wr => ∃ k : Nat, k ≤ l ∧ v = .int .i64 (k : Int) ∧ Below w1.heap.size w1 wr ∧ Hid (startsE P (ps.take k) (ps.drop k) = r)) (fun v _ => l - (intOf v).toNat)
  case atStart => exact ⟨0, by omega, rfl, Below.refl _ _, HR⟩
  case round =>
    obtain ⟨k, hk, rfl, hbel, hall⟩ := hrel
    have HE := Lib.hid hbel
    have hzz := hbel.size
    obtain ⟨⟨c0, c1, c2, c3, c4⟩, _⟩ := cells5 (block_below hbel HO.out)
    by_cases hkn : k < l
    · have hkl : k < ps.length := by have := HN.out; omega
      obtain ⟨p0, p1⟩ := poAt ((HA.out.below Po.l_len HB1.out).below Po.l_len hbel) k hkl
      have hs := startsE_at P ps k hkl
      rw [hall.out] at hs
      obtain ⟨⟨x, y⟩, hx⟩ : ∃ t, ps[k] = t := ⟨_, rfl⟩
      rw [hx] at p0 p1 hs
      dsimp only at p0 p1
      have HP := Lib.hid (H3.out ⟨x, y⟩)
      have HC := Lib.hid (H4.out ⟨x, y⟩ k hk)
      obtain ⟨bp, hbp⟩ : ∃ b, P ⟨x, y⟩ = b := ⟨_, rfl⟩
      obtain ⟨bc, hbc⟩ : ∃ b, (ps.take k).contains ⟨x, y⟩ = b := ⟨_, rfl⟩
      rw [hbp] at HP hs
      rw [hbc] at HC hs
      unfold Po.v at HP HC
      dsimp only at HP HC
      have q1 : w.heap.size < wr.heap.size := by omega
      have q2 : ¬ w.heap.size = wr.heap.size := by omega
      have q3 : ¬ wr.heap.size = w.heap.size := by omega
      have e3 : (0 : Int) ≤ ((k : Int)) := by omega
      have e4 : (k : Int) < (l : Int) := by omega
      have e5 : (k : Int) ≤ (l : Int) := by omega
      have e6 : (k : Int) ≤ (ca : Int) := by omega
      clear hbp hbc hx hall hbel
      cases bp
      · rw [if_pos rfl] at hs
        have HRk := Lib.hid hs
        clear hs
        go_wp2_with fail
        refine (HP.out _ (HB1.out.trans ((HE.out.mono (by omega)).trans (((Below.refl _ _).alloc (Nat.le_refl _) _).mono (by omega))))).mono ?_
        rintro e w2 ⟨rfl, hb⟩
        have hz2 := hb.size
        obtain ⟨n2, hb2, hz2⟩ := new_below hb
        clear hb
        go_wp2_with fail
        go_ret
        exact ⟨by rw [HRk.out]; rfl, HB1.out.trans ((HE.out.mono (by omega)).trans (hb2.mono (by omega)))⟩
      · rw [if_neg (by simp)] at hs
        have HS := Lib.hid hs
        clear hs
        go_wp2_with fail
        refine (HP.out _ (HB1.out.trans ((HE.out.mono (by omega)).trans (((Below.refl _ _).alloc (Nat.le_refl _) _).mono (by omega))))).mono ?_
        rintro e w2 ⟨rfl, hb⟩
        obtain ⟨n2, hb2, hz2⟩ := new_below hb
        obtain ⟨⟨d0, d1⟩, _⟩ := cells2 n2
        have g0 := cell_below hb2 c0; have g1 := cell_below hb2 c1; have g2 := cell_below hb2 c2; have g3 := cell_below hb2 c3; have g4 := cell_below hb2 c4
        have hbw := HB1.out.trans ((HE.out.mono (by omega)).trans (hb2.mono (by omega)))
        have k4 := kept_cell g4
        have kd0 := kept_cell d0; have kd1 := kept_cell d1
        have HBW := Lib.hid hbw
        clear hb c0 c1 c2 c3 c4 n2 p0 p1 g0 g1 g2 g3 g4 d0 d1 hbw
        go_wp2_with fail
        refine wp_region_kept (by kernel_rfl) (by kernel_rfl) ?_
        repeat (go_big_quiet_step ((go_at_call 33; exact Kept.call (HC.out _ (HBW.out.trans ((Kept.below _).mono (by first | exact HBW.out.size | omega)))))))
        refine wpQuiet_nil ?_
        intro _ hw'
        obtain ⟨kx, hw''⟩ := hw'
        subst hw''
        have hkz := kx.below.size
        cases bc
        · rw [if_neg (by simp)] at HS
          go_wp2_with fail
          go_roundw
          case rel => exact ⟨k + 1, by omega, by go_num, HE.out.trans ((hb2.mono (by omega)).trans (kx.below.mono (by omega))), Lib.hid HS.out.symm⟩
          case measure => simp [intOf]; omega
        · rw [if_pos rfl] at HS
          go_wp2_with fail
          go_ret
          exact ⟨by rw [HS.out]; rfl, HBW.out.trans (kx.below.mono (by first | exact HBW.out.size | omega))⟩
    · have hr : r = 0 := by
        have := hall.out
        rw [List.drop_of_length_le (by have := HN.out; omega)] at this
        exact this.symm
      have HRk := Lib.hid hr
      clear hr hbel
      go_wp2_with fail
      go_ret
      exact ⟨by rw [HRk.out]; rfl, HB1.out.trans (HE.out.mono (by omega))⟩
end Go.Proofs.YtmiceolkmiiahaaGreatDoor
