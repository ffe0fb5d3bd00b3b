/- Walks: slices.Equal and slices.Reverse of cells. -/
import Derived.Test.YtmiceolkmiiahaaGreatDoorW39
import Derived.BigRegion
namespace Go.Proofs.YtmiceolkmiiahaaGreatDoor
open Go.RowKit
set_option linter.unusedVariables false
set_option linter.unusedSimpArgs false
set_option maxRecDepth 100000
set_option maxHeartbeats 8000000

def celEq (p q : Cel) : Bool := (p.k == q.k) && ((p.h == q.h) && (p.a == q.a))
theorem celEq_iff (p q : Cel) : celEq p q = true ↔ p = q := by
  obtain ⟨a, b, c⟩ := p; obtain ⟨d, e, f⟩ := q
  unfold celEq
  simp
theorem EqualC_any (ao bo : Option Addr) (n c d : Nat) (us vs : List Cel) (h1 : us.length = n) (h2 : vs.length = n) (hz : n ≤ 1000000) (w : World) (ha : us = [] ∨ ∃ a, ao = some a ∧ CelAt w a us) (hb : vs = [] ∨ ∃ a, bo = some a ∧ CelAt w a vs) :
    KB 49 #[.slice ao n c, .slice bo n d] (.bool (decide (us = vs))) w := by
  have HA := Lib.hid ha; have HB := Lib.hid hb; have HN := Lib.hid h1; have HM := Lib.hid h2
  obtain ⟨r, hr⟩ : ∃ r, decide (us = vs) = r := ⟨_, rfl⟩
  rw [hr]
  have HR := Lib.hid hr
  clear ha hb h1 h2 hr
  unfold KB
  go_enter Tryz.func49, Tryz.ntmps49
  go_wp2_with fail
  go_loopw [13] (fun v wr => ∃ k : Nat, k ≤ n ∧ v = .int .i64 (k : Int) ∧ Below w.heap.size w wr ∧ Hid (∀ j : Nat, j < k → us[j]? = vs[j]?)) (fun v _ => n - (intOf v).toNat)
  case atStart => exact ⟨0, by omega, rfl, Below.refl _ _, Lib.hid (fun j h => absurd h (by omega))⟩
  case round =>
    obtain ⟨k, hk, rfl, hbel, hall⟩ := hrel
    have HE := Lib.hid hbel
    by_cases hkn : k < n
    · have hka : k < us.length := by have := HN.out; omega
      have hkb : k < vs.length := by have := HM.out; omega
      obtain ⟨a, rfl, ha⟩ := HA.out.resolve_left (fun e => by rw [e] at hka; simp at hka)
      obtain ⟨b, rfl, hb⟩ := HB.out.resolve_left (fun e => by rw [e] at hkb; simp at hkb)
      obtain ⟨p0, p1, p2⟩ := celAt (ha.below Cel.l_len hbel) k hka
      obtain ⟨q0, q1, q2⟩ := celAt (hb.below Cel.l_len hbel) k hkb
      have hce := celEq_iff us[k] vs[k]
      obtain ⟨⟨ck, ch, ca⟩, hx⟩ : ∃ t, us[k] = t := ⟨_, rfl⟩
      obtain ⟨⟨dk, dh, da⟩, hy⟩ : ∃ t, vs[k] = t := ⟨_, rfl⟩
      rw [hx] at p0 p1 p2
      rw [hy] at q0 q1 q2
      dsimp only at p0 p1 p2 q0 q1 q2
      rw [hx, hy] at hce
      have e1 : (0 : Int) ≤ ((k : Int)) := by omega
      have e2 : (k : Int) < (n : Int) := by omega
      by_cases heq : celEq ⟨ck, ch, ca⟩ ⟨dk, dh, da⟩ = true
      · have hxy := hce.1 heq
        have HNX := Lib.hid (show ∀ j : Nat, j < k + 1 → us[j]? = vs[j]? from fun j hj => by
          by_cases hjk : j < k
          · exact hall.out j hjk
          · obtain rfl : j = k := by omega
            rw [List.getElem?_eq_getElem hka, List.getElem?_eq_getElem hkb, hx, hy, hxy])
        injection hxy with i1 i2 i3
        subst i1 i2 i3
        have b1 : (ck == ck) = true := by simp
        have b2 : (ch == ch) = true := by simp
        have b3 : (ca == ca) = true := by simp
        clear ha hb hx hy hce heq hbel
        go_wp2_with fail
        go_quiet (fail)
        go_wp2_with fail
        go_roundw
        case rel => exact ⟨k + 1, by omega, by go_num, by first | exact HE.out | exact HE.out.drew | exact below_dN HE.out _, HNX⟩
        case measure => simp [intOf]; omega
      · have hne : us ≠ vs := fun e => heq (hce.2 (by subst e; rw [← hx, ← hy]))
        have hrF : r = false := by rw [← HR.out]; exact decide_eq_false hne
        have HRF := Lib.hid hrF
        replace heq : celEq ⟨ck, ch, ca⟩ ⟨dk, dh, da⟩ = false := by simpa using heq
        unfold celEq at heq
        dsimp only at heq
        have hcases : (ck == dk) = false ∨ ((ck == dk) = true ∧ (ch == dh) = false) ∨ ((ck == dk) = true ∧ (ch == dh) = true ∧ (ca == da) = false) := by
          cases h1 : (ck == dk)
          · exact Or.inl rfl
          · cases h2 : (ch == dh)
            · exact Or.inr (Or.inl ⟨rfl, rfl⟩)
            · cases h3 : (ca == da)
              · exact Or.inr (Or.inr ⟨rfl, rfl, rfl⟩)
              · rw [h1, h2, h3] at heq; cases heq
        clear ha hb hx hy hce hbel hne hrF heq
        rcases hcases with b1 | ⟨b1, b2⟩ | ⟨b1, b2, b3⟩
        all_goals
          go_wp2_with fail
          go_quiet (fail)
          go_wp2_with fail
          go_ret
          exact ⟨by rw [HRF.out]; rfl, by first | exact HE.out | exact HE.out.drew | exact below_dN HE.out _⟩
    · have heq : us = vs := List.ext_getElem? fun j => by
        by_cases hj : j < k
        · exact hall.out j hj
        · rw [List.getElem?_eq_none (by have := HN.out; omega), List.getElem?_eq_none (by have := HM.out; omega)]
      have hrT : r = true := by rw [← HR.out]; exact decide_eq_true heq
      have HRT := Lib.hid hrT
      have e2 : ¬ (k : Int) < (n : Int) := by omega
      clear heq hrT hbel
      go_wp2_with fail
      go_ret
      exact ⟨by rw [HRT.out]; rfl, HE.out⟩
end Go.Proofs.YtmiceolkmiiahaaGreatDoor
