/- Walks: the test of all the cells of a map. -/
import Derived.Test.YtmiceolkmiiahaaGreatDoorW4
namespace Go.Proofs.YtmiceolkmiiahaaGreatDoor
open Go.RowKit
set_option linter.unusedVariables false
set_option linter.unusedSimpArgs false
set_option maxRecDepth 100000

abbrev CelAt (w : World) (a : Addr) (cs : List Cel) : Prop := SlAt 3 Cel.l w a cs
abbrev PoAt (w : World) (a : Addr) (ps : List Po) : Prop := SlAt 2 Po.l w a ps
theorem celAt {w : World} {a : Addr} {cs : List Cel} (h : CelAt w a cs) (i : Nat) (hi : i < cs.length) : w.cell? (a.add (i * 3)) = some (.int .i64 cs[i].k) ∧ w.cell? ⟨(a.add (i * 3)).block, (a.add (i * 3)).off + 1, none⟩ = some (.int .i64 cs[i].h) ∧ w.cell? ⟨(a.add (i * 3)).block, (a.add (i * 3)).off + 2, none⟩ = some (.int .i64 cs[i].a) :=
  ⟨h i hi 0 (by decide), h i hi 1 (by decide), h i hi 2 (by decide)⟩
theorem poAt {w : World} {a : Addr} {ps : List Po} (h : PoAt w a ps) (i : Nat) (hi : i < ps.length) : w.cell? (a.add (i * 2)) = some (.int .i64 ps[i].x) ∧ w.cell? ⟨(a.add (i * 2)).block, (a.add (i * 2)).off + 1, none⟩ = some (.int .i64 ps[i].y) :=
  ⟨h i hi 0 (by decide), h i hi 1 (by decide)⟩

def firstI {M : Type} (P : M → Bool) (l : List M) : Int := if l.any P then (l.findIdx P : Nat) else -1
theorem firstI_pos {M : Type} (P : M → Bool) (l : List M) : decide (0 ≤ firstI P l) = l.any P := by
  unfold firstI
  cases h : l.any P
  · rw [if_neg (by simp)]; rfl
  · rw [if_pos rfl]; exact decide_eq_true (by omega)
theorem firstI_at {M : Type} (P : M → Bool) (l : List M) (k : Nat) (hk : k < l.length) (h : P l[k] = true) (hb : ∀ j (hj : j < l.length), j < k → P l[j] = false) : firstI P l = (k : Int) := by
  have h1 : l.any P = true := List.any_eq_true.2 ⟨l[k], List.getElem_mem _, h⟩
  unfold firstI
  rw [if_pos h1]
  have : l.findIdx P = k := (List.findIdx_eq hk).2 ⟨h, fun j hj => hb j (by omega) hj⟩
  rw [this]
theorem firstI_no {M : Type} (P : M → Bool) (l : List M) (hb : ∀ j (hj : j < l.length), P l[j] = false) : firstI P l = -1 := by
  have h1 : l.any P = false := by
    rw [List.any_eq_false]
    intro x hx
    obtain ⟨j, hj, rfl⟩ := List.getElem_of_mem hx
    rw [hb j hj]; simp
  unfold firstI
  rw [h1]; rfl

def badC (c : Cel) : Bool := !celB c
set_option maxHeartbeats 4000000 in
theorem IndexFuncC_at (ao : Option Addr) (n ca : Nat) (cs : List Cel) (hn : cs.length = n) (hz : n ≤ 1000000) (w : World) (ha : cs = [] ∨ ∃ a, ao = some a ∧ CelAt w a cs) : KB 76 #[.slice ao n ca, .func (.func 58) #[] #[]] (.int .i64 (firstI badC cs)) w := by
  have HA := Lib.hid ha; have HN := Lib.hid hn
  have HF := Lib.hid tValid1_any
  obtain ⟨r, hr⟩ : ∃ r, firstI badC cs = r := ⟨_, rfl⟩
  rw [hr]
  have HR := Lib.hid hr
  clear ha hn hr
  unfold KB at *
  go_enter Tryz.func76, Tryz.ntmps76
  go_wp2_with fail
  go_loopw [8] (fun v wr => ∃ k : Nat, k ≤ n ∧ v = .int .i64 (k : Int) ∧ Below w.heap.size w wr ∧ Hid (∀ j (hj : j < cs.length), j < k → badC cs[j] = false)) (fun v _ => n - (intOf v).toNat)
  case atStart => exact ⟨0, by omega, rfl, Below.refl _ _, Lib.hid (fun _ _ h => absurd h (by omega))⟩
  case round =>
    obtain ⟨k, hk, rfl, hbel, hall⟩ := hrel
    have HE := Lib.hid hbel
    have hzz := hbel.size
    by_cases hkn : k < n
    · have hkl : k < cs.length := by have := HN.out; omega
      obtain ⟨a, rfl, hat⟩ : ∃ a, ao = some a ∧ CelAt w a cs := HA.out.resolve_left (fun h => by rw [h] at hkl; simp at hkl)
      obtain ⟨c0, c1, c2⟩ := celAt (hat.below Cel.l_len hbel) k hkl
      have HC := HF.out cs[k] 
      have HB : badC cs[k] = !celB cs[k] := rfl
      obtain ⟨⟨ck, ch, cv⟩, hx⟩ : ∃ t, cs[k] = t := ⟨_, rfl⟩
      rw [hx] at c0 c1 c2 HC HB
      dsimp only at c0 c1 c2
      obtain ⟨B, hB⟩ : ∃ B, celB ⟨ck, ch, cv⟩ = B := ⟨_, rfl⟩
      rw [hB] at HC HB
      unfold Cel.v at HC
      dsimp only at HC
      have HC := Lib.hid HC
      have e1 : (0 : Int) ≤ ((k : Int)) := by omega
      have e2 : (k : Int) < (n : Int) := by omega
      have hz1 := hbel.size
      clear hbel HF
      cases B
      · have hr : r = (k : Int) := by
          rw [← HR.out]
          exact firstI_at _ _ k hkl (by rw [hx]; exact HB) hall.out
        have HRk := Lib.hid hr
        clear hB hx HB hr
        go_wp2_with fail
        refine (HC.out _).mono ?_
        rintro e w1 ⟨rfl, hb⟩
        go_wp2_with fail
        go_ret
        exact ⟨by rw [HRk.out]; rfl, HE.out.trans (hb.mono hz1)⟩
      · have hn2 : Hid (∀ j (hj : j < cs.length), j < k + 1 → badC cs[j] = false) := Lib.hid fun j hj hjk => by
          by_cases hjk' : j < k
          · exact hall.out j hj hjk'
          · obtain rfl : j = k := by omega
            rw [hx]; exact HB
        clear hB hx HB hall
        go_wp2_with fail
        refine (HC.out _).mono ?_
        rintro e w1 ⟨rfl, hb⟩
        go_wp2_with fail
        go_roundw
        case rel => exact ⟨k + 1, by omega, by go_num, HE.out.trans (hb.mono hz1), hn2⟩
        case measure => simp [intOf]; omega
    · have hr : r = -1 := by
        rw [← HR.out]
        exact firstI_no _ _ fun j hj => hall.out j hj (by have := HN.out; omega)
      have HRk := Lib.hid hr
      clear hr hbel
      go_wp2_with fail
      go_ret
      exact ⟨by rw [HRk.out]; rfl, HE.out⟩
theorem ContainsFuncC_any (v : Value) (cs : List Cel) (w : World) (h : SlIs 3 Cel.l w v cs) (hz : cs.length ≤ 1000000) : KB 57 #[v, .func (.func 58) #[] #[]] (.bool (cs.any badC)) w := by
  obtain ⟨ao, cap, rfl, h⟩ := h
  have H1 : KB 76 #[.slice ao cs.length cap, .func (.func 58) #[] #[]] (.int .i64 (firstI badC cs)) w :=
     IndexFuncC_at ao _ cap cs rfl hz w h
  have H1 := Lib.hid H1
  clear h
  unfold KB at *
  rw [← firstI_pos badC cs]
  generalize firstI badC cs = r at *
  generalize cs.length = n at *
  go_enter Tryz.func57, Tryz.ntmps57
  go_wp2_with fail
  refine H1.out.mono ?_
  rintro e w1 ⟨rfl, hb⟩
  go_wp2_with fail
  go_ret
  exact ⟨rfl, hb⟩
end Go.Proofs.YtmiceolkmiiahaaGreatDoor
