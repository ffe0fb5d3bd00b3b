/- Walks: is there an instruction of a segment without a form. -/
import Derived.Test.YtcicbijpiffbkaaW9
namespace Go.Proofs.Ytcicbijpiffbkaa
open Go.RowKit
set_option linter.unusedVariables false
set_option linter.unusedSimpArgs false
set_option maxRecDepth 100000
set_option maxHeartbeats 8000000

theorem IndexI_any (P : Ins → Bool) (b : Nat) (ao : Option Addr) (n ca : Nat) (is : List Ins) (hn : is.length = n) (hz : n ≤ 1000000) (w : World) (ha : is = [] ∨ ∃ a, ao = some a ∧ InsAt w a is)
    (hF : ∀ x ∈ is, ∀ w', Below w.heap.size w w' → KB 48 #[x.v, .pointer (some ⟨b, 0, none⟩)] (.bool (P x)) w') : KB 67 #[.slice ao n ca, .func (.func 48) #[] #[.pointer (some ⟨b, 0, none⟩)]] (.int .i64 (firstI P is)) w := by
  have HA := Lib.hid ha; have HN := Lib.hid hn; have HF := Lib.hid hF
  obtain ⟨r, hr⟩ : ∃ r, firstI P is = r := ⟨_, rfl⟩
  rw [hr]
  have HR := Lib.hid hr
  clear ha hn hr hF
  unfold KB at *
  go_enter Try.func67, Try.ntmps67
  go_wp2_with fail
  go_loopw [8] (fun v wr => ∃ k : Nat, k ≤ n ∧ v = .int .i64 (k : Int) ∧ Below w.heap.size w wr ∧ Hid (∀ j (hj : j < is.length), j < k → P is[j] = false)) (fun v _ => n - (intOf v).toNat)
  case atStart => exact ⟨0, by omega, rfl, Below.refl _ _, Lib.hid (fun _ _ h => absurd h (by omega))⟩
  case round =>
    obtain ⟨k, hk, rfl, hbel, hall⟩ := hrel
    have HE := Lib.hid hbel
    have hzz := hbel.size
    by_cases hkn : k < n
    · have hkl : k < is.length := by have := HN.out; omega
      obtain ⟨a, rfl, hat⟩ : ∃ a, ao = some a ∧ InsAt w a is := HA.out.resolve_left (fun h => by rw [h] at hkl; simp at hkl)
      obtain ⟨c0, c1, c2, c3⟩ := insAt (hat.below Ins.l_len hbel) k hkl
      have HC := HF.out is[k] (List.getElem_mem hkl) wr hbel
      obtain ⟨B, hB⟩ : ∃ B, P is[k] = B := ⟨_, rfl⟩
      rw [hB] at HC
      have HBE := Lib.hid hB
      obtain ⟨⟨io, ia, im, s⟩, hx⟩ : ∃ t, is[k] = t := ⟨_, rfl⟩
      rw [hx] at c0 c1 c2 c3 HC
      dsimp only at c0 c1 c2 c3
      unfold Ins.v at HC
      dsimp only at HC
      have HC := Lib.hid HC
      have e1 : (0 : Int) ≤ ((k : Int)) := by omega
      have e2 : (k : Int) < (n : Int) := by omega
      clear hbel HF hx hB
      cases B
      · have hn2 : Hid (∀ j (hj : j < is.length), j < k + 1 → P is[j] = false) := Lib.hid fun j hj hjk => by
          by_cases hjk' : j < k
          · exact hall.out j hj hjk'
          · obtain rfl : j = k := by omega
            exact HBE.out
        clear hall
        go_wp2_with fail
        refine HC.out.mono ?_
        rintro e w1 ⟨rfl, hb⟩
        go_wp2_with fail
        go_roundw
        case rel => exact ⟨k + 1, by omega, by go_num, HE.out.trans (hb.mono hzz), hn2⟩
        case measure => simp [intOf]; omega
      · have hr : r = (k : Int) := by
          rw [← HR.out]
          exact firstI_at _ _ k hkl HBE.out hall.out
        have HRk := Lib.hid hr
        clear hr
        go_wp2_with fail
        refine HC.out.mono ?_
        rintro e w1 ⟨rfl, hb⟩
        go_wp2_with fail
        go_ret
        exact ⟨by rw [HRk.out]; rfl, HE.out.trans (hb.mono hzz)⟩
    · have hr : r = -1 := by
        rw [← HR.out]
        exact firstI_no _ _ fun j hj => hall.out j hj (by have := HN.out; omega)
      have HRk := Lib.hid hr
      clear hr hbel
      go_wp2_with fail
      go_ret
      exact ⟨by rw [HRk.out]; rfl, HE.out⟩
theorem ContainsI_any (P : Ins → Bool) (b : Nat) (v : Value) (is : List Ins) (w : World) (h : InsSl w v is) (hz : is.length ≤ 1000000) (hF : ∀ x ∈ is, ∀ w', Below w.heap.size w w' → KB 48 #[x.v, .pointer (some ⟨b, 0, none⟩)] (.bool (P x)) w') : KB 47 #[v, .func (.func 48) #[] #[.pointer (some ⟨b, 0, none⟩)]] (.bool (is.any P)) w := by
  obtain ⟨ao, cap, rfl, h⟩ := h
  have H1 := Lib.hid (IndexI_any P b ao _ cap is rfl hz w h hF)
  clear h hF
  unfold KB at *
  rw [← firstI_pos P is]
  generalize firstI P is = r at *
  generalize is.length = n at *
  go_enter Try.func47, Try.ntmps47
  go_wp2_with fail
  refine H1.out.mono ?_
  rintro e w1 ⟨rfl, hb⟩
  go_wp2_with fail
  go_ret
  exact ⟨rfl, hb⟩
end Go.Proofs.Ytcicbijpiffbkaa
