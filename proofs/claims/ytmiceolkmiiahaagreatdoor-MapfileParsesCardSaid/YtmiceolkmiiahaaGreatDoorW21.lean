/- Walks: the reference's rows. -/
import Derived.Test.YtmiceolkmiiahaaGreatDoorW20
namespace Go.Proofs.YtmiceolkmiiahaaGreatDoor
open Go.RowKit
set_option linter.unusedVariables false
set_option linter.unusedSimpArgs false
set_option maxRecDepth 100000
set_option maxHeartbeats 32000000

def RrRel (w1 : World) (W : Int) (cs : List Cel) (RA RB : List UInt8) (a b i : Value) (wr : World) : Prop :=
  ∃ (k : Nat) (A B : List UInt8), a = .string (str A) ∧ b = .string (str B) ∧ i = .int .i64 (k : Int) ∧ k ≤ cs.length ∧ A.length ≤ 2 * k ∧ B.length ≤ 2 * k ∧ A ++ rowsL kindC W k (cs.drop k) = RA ∧ B ++ rowsL highC W k (cs.drop k) = RB ∧ Below w1.heap.size w1 wr
theorem sign_at (k : Int) (h : 1 ≤ k ∧ k ≤ 5) (c : Cel) (hc : c.k = k) : (⟨#[46, 126, 35, 84, 42]⟩ : ByteArray).extract (k.toNat - 1) k.toNat = str [kindC c] := by
  unfold kindC
  rw [hc]
  obtain rfl | rfl | rfl | rfl | rfl : k = 1 ∨ k = 2 ∨ k = 3 ∨ k = 4 ∨ k = 5 := by omega
  all_goals decide +kernel
theorem high_at (k : Int) (h : 0 ≤ k ∧ k ≤ 3) (c : Cel) (hc : c.h = k) : (⟨#[48, 49, 50, 51, 52, 53, 54, 55, 56, 57]⟩ : ByteArray).extract k.toNat (k + 1).toNat = str [highC c] := by
  unfold highC
  rw [hc]
  obtain rfl | rfl | rfl | rfl : k = 0 ∨ k = 1 ∨ k = 2 ∨ k = 3 := by omega
  all_goals decide +kernel
theorem rrows_any (W H : Int) (v : Value) (cs : List Cel) (hW : 1 ≤ W ∧ W ≤ 1000) (hz : cs.length ≤ 100000) (hF : ∀ c ∈ cs, celB c = true) (w : World) (h : CelSl w v cs) :
    KB 28 #[mapV W H v] (.string (str (rowsL kindC W 0 cs ++ rowsL highC W 0 cs))) w := by
  obtain ⟨ao, ca, rfl, ha⟩ := h
  obtain ⟨n, hn⟩ : ∃ n, cs.length = n := ⟨_, rfl⟩
  obtain ⟨RA, hRA⟩ : ∃ R, rowsL kindC W 0 cs = R := ⟨_, rfl⟩
  obtain ⟨RB, hRB⟩ : ∃ R, rowsL highC W 0 cs = R := ⟨_, rfl⟩
  rw [hRA, hRB]
  have lA : RA.length ≤ 200000 := by rw [← hRA]; have := rowsL_len kindC W cs 0; omega
  have lB : RB.length ≤ 200000 := by rw [← hRB]; have := rowsL_len highC W cs 0; omega
  have HRA := Lib.hid hRA; have HRB := Lib.hid hRB; have HN := Lib.hid hn; have HA := Lib.hid ha; have HF := Lib.hid hF
  obtain ⟨W1, W2⟩ := hW
  rw [hn] at hz ⊢
  clear hRA hRB ha hF hn
  unfold KB mapV at *
  go_enter Tryz.func28, Tryz.ntmps28
  obtain ⟨wo, hwo⟩ : ∃ wo, w.alloc (mapO W H (.slice ao n ca) 24) = wo := ⟨_, rfl⟩
  have hbo : Below w.heap.size w wo := by rw [← hwo]; exact below_new _ _
  have hzo : wo.heap.size = w.heap.size + 1 := by rw [← hwo, tok_size]
  have hmo : wo.heap[w.heap.size]? = some (mapO W H (.slice ao n ca) 24) := by rw [← hwo]; exact tok_new _ _
  have h0 := Lib.hid (show RrRel wo W cs RA RB (.string (str [])) (.string (str [])) (.int .i64 0) wo from
    ⟨0, [], [], rfl, rfl, rfl, by omega, by simp, by simp, by rw [List.drop_zero]; exact HRA.out, by rw [List.drop_zero]; exact HRB.out, Below.refl _ _⟩)
  have HBO := Lib.hid hbo; have HMO := Lib.hid hmo; have HWO := Lib.hid hwo
  clear hbo hmo hwo
  go_wp2_with fail
  rw [HWO.out]
  go_loopw [3, 4, 5] (fun a b i wr => RrRel wo W cs RA RB a b i wr) (fun _ _ i _ => n - (intOf i).toNat)
  case atStart => exact h0.out
  case round =>
    clear h0 HWO
    obtain ⟨k, A, B, rfl, rfl, rfl, hk, hlA, hlB, hrA, hrB, hbel⟩ := hrel
    have HE := Lib.hid hbel
    have hzr := hbel.size
    have hkn' : k ≤ n := by have := HN.out; omega
    obtain ⟨⟨m0, m1, m2⟩, _⟩ := cells3 (show wr.heap[w.heap.size]? = some (mapO W H (.slice ao n ca) 24) by rw [hbel.block _ (by omega)]; exact HMO.out)
    have z1 : (str A).size ≤ 300000 := by rw [str_size]; omega
    have z2 : (str B).size ≤ 300000 := by rw [str_size]; omega
    by_cases hkn : k < n
    · have hkl : k < cs.length := by have := HN.out; omega
      obtain ⟨a, rfl, hat⟩ : ∃ a, ao = some a ∧ CelAt w a cs := HA.out.resolve_left (fun h => by rw [h] at hkl; simp at hkl)
      have hall : Below w.heap.size w wr := HBO.out.trans (hbel.mono (by omega))
      obtain ⟨c0, c1, c2⟩ := celAt (hat.below Cel.l_len hall) k hkl
      have hcel := celB_k (HF.out cs[k] (List.getElem_mem hkl))
      have hd : cs.drop k = cs[k] :: cs.drop (k + 1) := List.drop_eq_getElem_cons hkl
      rw [hd] at hrA hrB
      obtain ⟨c, hx⟩ : ∃ t, cs[k] = t := ⟨_, rfl⟩
      rw [hx] at c0 c1 c2 hcel hrA hrB
      have hsg := sign_at c.k ⟨hcel.1, hcel.2.1⟩ c rfl
      have hhg := high_at c.h ⟨hcel.2.2.1, hcel.2.2.2.1⟩ c rfl
      have t1 : 1 ≤ c.k := hcel.1
      have t2 : c.k ≤ 5 := hcel.2.1
      have t3 : 0 ≤ c.h := hcel.2.2.1
      have t4 : c.h ≤ 3 := hcel.2.2.2.1
      have hnl : nlB W k = ((k : Int) % W == W - 1) := rfl
      have hA2 : A ++ [kindC c] ++ ((if nlB W k then [10] else []) ++ rowsL kindC W (k + 1) (cs.drop (k + 1))) = RA := by rw [← hrA]; simp [rowsL]
      have hB2 : B ++ [highC c] ++ ((if nlB W k then [10] else []) ++ rowsL highC W (k + 1) (cs.drop (k + 1))) = RB := by rw [← hrB]; simp [rowsL]
      have e1 : (0 : Int) ≤ ((k : Int)) := by omega
      have e2 : (k : Int) < (n : Int) := by omega
      have e3 : (k : Int) ≤ 100000 := by omega
      have q1 : ¬ w.heap.size = wr.heap.size := by omega
      have q2 : ¬ wr.heap.size = w.heap.size := by omega
      have hA3 := Lib.hid (show str A ++ str [kindC c] = str (A ++ [kindC c]) from str_append _ _)
      have hB3 := Lib.hid (show str B ++ str [highC c] = str (B ++ [highC c]) from str_append _ _)
      have HA2 := Lib.hid hA2; have HB2 := Lib.hid hB2
      obtain ⟨sg, hsg'⟩ : ∃ s, str [kindC c] = s := ⟨_, rfl⟩
      obtain ⟨hg, hhg'⟩ : ∃ s, str [highC c] = s := ⟨_, rfl⟩
      have zs : sg.size = 1 := by rw [← hsg']; rfl
      have zh : hg.size = 1 := by rw [← hhg']; rfl
      rw [hsg'] at hsg hA3
      rw [hhg'] at hhg hB3
      obtain ⟨sA, hsA⟩ : ∃ s, str A = s := ⟨_, rfl⟩
      obtain ⟨sB, hsB⟩ : ∃ s, str B = s := ⟨_, rfl⟩
      rw [hsA] at hA3 z1 ⊢
      rw [hsB] at hB3 z2 ⊢
      obtain ⟨ck, ch, cv⟩ := c
      dsimp only at *
      clear hcel hA2 hB2 hat hall hd hx hsg' hhg' hsA hsB hrA hrB hbel
      have HNL := Lib.hid hnl
      have hm : IntKind.i64.wrap (W - 1) = W - 1 := by rw [IntKind.wrap_i64]; omega
      have hm2 : wrap64 (W - 1) = W - 1 := by unfold wrap64; omega
      have hW0 : ¬ W = 0 := by omega
      obtain ⟨w5, hw5⟩ : ∃ w5, wr.alloc (.cells #[.int .i64 ck, .int .i64 ch, .int .i64 cv] 41) = w5 := ⟨_, rfl⟩
      have hb5 : Below wr.heap.size wr w5 := by rw [← hw5]; exact below_new _ _
      have m5 := cell_below hb5 m0
      have HW5 := Lib.hid hw5
      have HE5 := Lib.hid (HE.out.trans (hb5.mono (by omega)))
      clear hw5 hb5
      cases hb : nlB W k
      · rw [hb] at hnl HA2 HB2
        replace hnl := hnl.symm
        clear hb HNL
        go_wp2_with fail
        rw [HW5.out]
        go_quiet (fail)
        go_wp2_with fail
        go_roundw
        case rel => exact ⟨k + 1, A ++ [kindC ⟨ck, ch, cv⟩], B ++ [highC ⟨ck, ch, cv⟩], by rw [hA3.out], by rw [hB3.out], by go_num, by have := HN.out; omega, by simp; omega, by simp; omega, by rw [← HA2.out]; simp, by rw [← HB2.out]; simp, below_dN HE5.out _⟩
        case measure => simp [intOf]; omega
      · rw [hb] at hnl HA2 HB2
        replace hnl := hnl.symm
        clear hb HNL
        have hA4 := Lib.hid (show sA ++ sg ++ ⟨#[10]⟩ = str (A ++ [kindC ⟨ck, ch, cv⟩] ++ [10]) by rw [hA3.out]; exact str_append _ [10])
        have hB4 := Lib.hid (show sB ++ hg ++ ⟨#[10]⟩ = str (B ++ [highC ⟨ck, ch, cv⟩] ++ [10]) by rw [hB3.out]; exact str_append _ [10])
        have z3 : (sA ++ sg).size ≤ 300001 := by rw [ByteArray.size_append]; omega
        have z4 : (sB ++ hg).size ≤ 300001 := by rw [ByteArray.size_append]; omega
        go_wp2_with fail
        rw [HW5.out]
        go_quiet (fail)
        go_wp2_with fail
        go_roundw
        case rel => exact ⟨k + 1, A ++ [kindC ⟨ck, ch, cv⟩] ++ [10], B ++ [highC ⟨ck, ch, cv⟩] ++ [10], by rw [hA4.out], by rw [hB4.out], by go_num, by have := HN.out; omega, by simp; omega, by simp; omega, by rw [← HA2.out]; simp, by rw [← HB2.out]; simp, below_dN HE5.out _⟩
        case measure => simp [intOf]; omega
    · have hA : A = RA := by
        rw [← hrA, List.drop_of_length_le (by have := HN.out; omega)]
        simp [rowsL]
      have hB : B = RB := by
        rw [← hrB, List.drop_of_length_le (by have := HN.out; omega)]
        simp [rowsL]
      subst hA
      subst hB
      have hst := Lib.hid (show str A ++ str B = str (A ++ B) from str_append _ _)
      obtain ⟨sA, hsA⟩ : ∃ s, str A = s := ⟨_, rfl⟩
      obtain ⟨sB, hsB⟩ : ∃ s, str B = s := ⟨_, rfl⟩
      rw [hsA] at hst z1 ⊢
      rw [hsB] at hst z2 ⊢
      clear hsA hsB hrA hrB hbel
      go_wp2_with fail
      go_ret
      exact ⟨by rw [← hst.out]; rfl, HBO.out.trans (HE.out.mono (by omega))⟩
end Go.Proofs.YtmiceolkmiiahaaGreatDoor
