/- Walks: the rows of a map. -/
import Derived.Test.YtmiceolkmiiahaaGreatDoorW16
namespace Go.Proofs.YtmiceolkmiiahaaGreatDoor
open Go.RowKit
set_option linter.unusedVariables false
set_option linter.unusedSimpArgs false
set_option maxRecDepth 100000
set_option maxHeartbeats 8000000

def kindC (c : Cel) : UInt8 := UInt8.ofNat (charI c.k).toNat
def highC (c : Cel) : UInt8 := UInt8.ofNat (48 + c.h).toNat
theorem kindC_val (c : Cel) : charI c.k = ((kindC c).toNat : Int) := by
  unfold kindC charI
  split
  · rfl
  · split
    · rfl
    · split
      · rfl
      · split
        · rfl
        · split <;> rfl
theorem highC_val (c : Cel) (h : 0 ≤ c.h ∧ c.h ≤ 3) : 48 + c.h = ((highC c).toNat : Int) := by
  obtain ⟨h1, h2⟩ := h
  unfold highC
  obtain h | h | h | h : c.h = 0 ∨ c.h = 1 ∨ c.h = 2 ∨ c.h = 3 := by omega
  all_goals rw [h]; rfl
theorem Print1_any (c : Cel) (w : World) : KB 21 #[c.v] (.int .u8 ((kindC c).toNat : Int)) w := by
  rw [← kindC_val]
  obtain ⟨k, h, a⟩ := c
  have H1 := Lib.hid (character_any k)
  unfold KB Cel.v at *
  dsimp only at *
  generalize charI k = r at *
  go_enter Tryz.func21, Tryz.ntmps21
  go_wp2_with fail
  refine (H1.out _).mono ?_
  rintro e w1 ⟨rfl, hb⟩
  obtain ⟨n1, hb1, hz1⟩ := new_below hb
  go_wp2_with fail
  go_ret
  exact ⟨rfl, hb1⟩
theorem Print2_any (c : Cel) (hc : 0 ≤ c.h ∧ c.h ≤ 3) (w : World) : KB 23 #[c.v] (.int .u8 ((highC c).toNat : Int)) w := by
  rw [← highC_val c hc]
  obtain ⟨k, h, a⟩ := c
  dsimp only at hc
  obtain ⟨h1, h2⟩ := hc
  unfold KB Cel.v
  dsimp only
  obtain rfl | rfl | rfl | rfl : h = 0 ∨ h = 1 ∨ h = 2 ∨ h = 3 := by omega
  all_goals
    go_enter Tryz.func23, Tryz.ntmps23
    go_wp2_with fail
    go_ret
    exact ⟨rfl, below_new _ _⟩

theorem wb_e (B b : Nat) (l r : List UInt8) (c : UInt8) (w : World) (hr : l ++ [c] = r) (h : IB B b l w) (hl : l.length ≤ 1000000) :
    Calls Tryz.prog 54 #[.pointer (some ⟨b, 0, none⟩), .int .u8 (c.toNat : Int)] w fun e w' => e = .returned .nilIface ∧ IB B b r w' ∧ Keeps B b w w' := by rw [← hr]; exact wb_l B b l c w h hl
theorem wb10 (B b : Nat) (l r : List UInt8) (w : World) (hr : l ++ [10] = r) (h : IB B b l w) (hl : l.length ≤ 1000000) :
    Calls Tryz.prog 54 #[.pointer (some ⟨b, 0, none⟩), .int .u8 10] w fun e w' => e = .returned .nilIface ∧ IB B b r w' ∧ Keeps B b w w' := wb_e B b l r 10 w hr h hl
theorem ws_e (B b : Nat) (l s r : List UInt8) (w : World) (hr : l ++ s = r) (h : IB B b l w) (hl : l.length ≤ 1000000) (hs : s.length ≤ 1000000) :
    Calls Tryz.prog 18 #[.pointer (some ⟨b, 0, none⟩), .string (str s)] w fun e w' => e = .returned (.tuple #[.int .i64 s.length, .nilIface]) ∧ IB B b r w' ∧ Keeps B b w w' := by rw [← hr]; exact ws_l B b l s w h hl hs

def nlB (W : Int) (k : Nat) : Bool := (k : Int) % W == W - 1
def rowsL (f : Cel → UInt8) (W : Int) : Nat → List Cel → List UInt8
  | _, [] => []
  | k, c :: cs => f c :: ((if nlB W k then [10] else []) ++ rowsL f W (k + 1) cs)
def RowsRel (B : Nat) (wo : World) (f : Cel → UInt8) (W : Int) (cs : List Cel) (R : List UInt8) (i : Value) (wr : World) : Prop :=
  ∃ (k : Nat) (acc : List UInt8), i = .int .i64 (k : Int) ∧ k ≤ cs.length ∧ acc.length ≤ 2 * k ∧ acc ++ rowsL f W k (cs.drop k) = R ∧ IB B B acc wr ∧ Below B wo wr
theorem rows_Print1 (f : Cel → UInt8) (W H : Int) (v : Value) (cs : List Cel) (hW : 1 ≤ W ∧ W ≤ 1000) (hz : cs.length ≤ 100000) (hF : ∀ c ∈ cs, ∀ w, KB 21 #[c.v] (.int .u8 ((f c).toNat : Int)) w) (w : World) (h : CelSl w v cs) :
    KB 20 #[mapV W H v, .func (.func 21) #[] #[]] (.string (str (rowsL f W 0 cs))) w := by
  obtain ⟨ao, ca, rfl, ha⟩ := h
  obtain ⟨n, hn⟩ : ∃ n, cs.length = n := ⟨_, rfl⟩
  obtain ⟨R, hR⟩ : ∃ R, rowsL f W 0 cs = R := ⟨_, rfl⟩
  rw [hR]
  have HR := Lib.hid hR; have HN := Lib.hid hn; have HA := Lib.hid ha; have HF := Lib.hid hF
  obtain ⟨W1, W2⟩ := hW
  rw [hn] at hz ⊢
  clear hR ha hF hn
  unfold KB mapV at *
  have hm : IntKind.i64.wrap (W - 1) = W - 1 := by rw [IntKind.wrap_i64]; omega
  have hm2 : wrap64 (W - 1) = W - 1 := by unfold wrap64; omega
  have hW0 : ¬ W = 0 := by omega
  go_enter Tryz.func20, Tryz.ntmps20
  obtain ⟨wo, hwo⟩ : ∃ wo, w.alloc (mapO W H (.slice ao n ca) 24) = wo := ⟨_, rfl⟩
  have hbo : Below w.heap.size w wo := by rw [← hwo]; exact below_new _ _
  have hzo : wo.heap.size = w.heap.size + 1 := by rw [← hwo, tok_size]
  have hmo : wo.heap[w.heap.size]? = some (mapO W H (.slice ao n ca) 24) := by rw [← hwo]; exact tok_new _ _
  have h0 := Lib.hid (show RowsRel (w.heap.size + 1) wo f W cs R (.int .i64 0) (wo.alloc (.cells #[.pointer none, .slice none 0 0] 45)) from
    ⟨0, [], rfl, by omega, by simp, by rw [List.drop_zero]; exact HR.out, by rw [← hzo]; exact fresh_IB wo, by rw [← hzo]; exact (Below.refl _ _).alloc (Nat.le_refl _) _⟩)
  have HBO := Lib.hid hbo; have HMO := Lib.hid hmo; have HWO := Lib.hid hwo
  clear hbo hmo hwo
  go_wp2_with fail
  rw [HWO.out]
  go_loopw [11] (fun i wr => RowsRel (w.heap.size + 1) wo f W cs R i wr) (fun i _ => n - (intOf i).toNat)
  case atStart => exact h0.out
  case round =>
    clear h0 HWO
    obtain ⟨k, acc, rfl, hk, hlen, hrow, hib, hbel⟩ := hrel
    have HE := Lib.hid hbel
    have HI := Lib.hid hib
    have hwr := hib.2
    have hkn' : k ≤ n := by have := HN.out; omega
    have c0w : wr.cell? ⟨w.heap.size, 0, none⟩ = some (.int .i64 W) := (cells3 (by rw [hbel.block _ (by omega)]; exact HMO.out)).1.1
    by_cases hkn : k < n
    · have hkl : k < cs.length := by have := HN.out; omega
      obtain ⟨a, rfl, hat⟩ : ∃ a, ao = some a ∧ CelAt w a cs := HA.out.resolve_left (fun h => by rw [h] at hkl; simp at hkl)
      have hall : Below w.heap.size w wr := HBO.out.trans (hbel.mono (by omega))
      obtain ⟨c0, c1, c2⟩ := celAt (hat.below Cel.l_len hall) k hkl
      have hC := HF.out cs[k] (List.getElem_mem hkl)
      have hd : cs.drop k = cs[k] :: cs.drop (k + 1) := List.drop_eq_getElem_cons hkl
      rw [hd] at hrow
      obtain ⟨⟨ck, ch, cv⟩, hx⟩ : ∃ t, cs[k] = t := ⟨_, rfl⟩
      rw [hx] at c0 c1 c2 hC hrow
      dsimp only at c0 c1 c2
      unfold Cel.v at hC
      dsimp only at hC
      have HC := Lib.hid hC
      obtain ⟨fc, hfc⟩ : ∃ b, f ⟨ck, ch, cv⟩ = b := ⟨_, rfl⟩
      rw [hfc] at HC
      have hrow2 : acc ++ [fc] ++ ((if nlB W k then [10] else []) ++ rowsL f W (k + 1) (cs.drop (k + 1))) = R := by rw [← hrow, ← hfc]; simp [rowsL]
      have hnl : nlB W k = ((k : Int) % W == W - 1) := rfl
      have HROW := Lib.hid hrow2
      have e1 : (0 : Int) ≤ ((k : Int)) := by omega
      have e2 : (k : Int) < (n : Int) := by omega
      have e3 : (k : Int) ≤ 100000 := by omega
      have la : acc.length ≤ 300000 := by omega
      have HWB := Lib.hid (fun w1 hi => wb_e (w.heap.size + 1) (w.heap.size + 1) acc (acc ++ [fc]) fc w1 rfl hi (by omega))
      clear hib hall hat hd hx hfc hrow hrow2 hC hbel
      cases hb : nlB W k
      · rw [hb] at hnl HROW
        replace hnl := hnl.symm
        have HROW2 := Lib.hid (show acc ++ [fc] ++ rowsL f W (k + 1) (cs.drop (k + 1)) = R by rw [← HROW.out]; simp)
        have HARI := Lib.hid (And.intro hm (And.intro hm2 (And.intro hW0 hnl)))
        clear HROW hm hm2 hW0 hnl
        go_wp2_with fail
        refine (HC.out _).mono ?_
        rintro e w1 ⟨rfl, hb1⟩
        have hz1 := hb1.size
        rw [tok_size] at hz1
        have hb1' : Below wr.heap.size wr w1 := (below_new _ _).trans (hb1.mono (by rw [tok_size]; omega))
        have HB1 := Lib.hid hb1'
        clear hb1 hb1'
        go_wp2_with fail
        refine (HWB.out _ (HI.out.below HB1.out)).mono ?_
        rintro e w2 ⟨rfl, hi2, hk2⟩
        have hbb : Below (w.heap.size + 1) wo w2 := HE.out.trans ((HB1.out.mono (by omega)).trans hk2.1)
        have c0w2 : w2.cell? ⟨w.heap.size, 0, none⟩ = some (.int .i64 W) := (cells3 (by rw [hbb.block _ (by omega)]; exact HMO.out)).1.1
        have HI2 := Lib.hid hi2; have HBB := Lib.hid hbb
        clear hi2 hk2 hbb c0 c1 c2 c0w
        obtain ⟨hm, hm2, hW0, hnl⟩ := HARI.out
        go_wp2_with fail
        go_quiet (fail)
        go_wp2_with fail
        go_roundw
        case rel => exact ⟨k + 1, acc ++ [fc], by go_num, by have := HN.out; omega, by simp; omega, HROW2.out, HI2.out, below_dN HBB.out _⟩
        case measure => simp [intOf]; omega
      · rw [hb] at hnl HROW
        replace hnl := hnl.symm
        have HROW2 := Lib.hid (show acc ++ [fc] ++ [10] ++ rowsL f W (k + 1) (cs.drop (k + 1)) = R by rw [← HROW.out]; simp)
        have HARI := Lib.hid (And.intro hm (And.intro hm2 (And.intro hW0 hnl)))
        clear HROW hm hm2 hW0 hnl
        go_wp2_with fail
        refine (HC.out _).mono ?_
        rintro e w1 ⟨rfl, hb1⟩
        have hz1 := hb1.size
        rw [tok_size] at hz1
        have hb1' : Below wr.heap.size wr w1 := (below_new _ _).trans (hb1.mono (by rw [tok_size]; omega))
        have HB1 := Lib.hid hb1'
        clear hb1 hb1'
        go_wp2_with fail
        refine (HWB.out _ (HI.out.below HB1.out)).mono ?_
        rintro e w2 ⟨rfl, hi2, hk2⟩
        have hbb : Below (w.heap.size + 1) wo w2 := HE.out.trans ((HB1.out.mono (by omega)).trans hk2.1)
        have c0w2 : w2.cell? ⟨w.heap.size, 0, none⟩ = some (.int .i64 W) := (cells3 (by rw [hbb.block _ (by omega)]; exact HMO.out)).1.1
        have HI2 := Lib.hid hi2; have HBB := Lib.hid hbb
        clear hi2 hk2 hbb c0 c1 c2 c0w
        obtain ⟨hm, hm2, hW0, hnl⟩ := HARI.out
        go_wp2_with fail
        go_quiet (fail)
        go_wp2_with fail
        refine (wb10 (w.heap.size + 1) (w.heap.size + 1) (acc ++ [fc]) (acc ++ [fc] ++ [10]) _ rfl (HI2.out.below (below_dN (Below.refl _ _) _)) (by simp; omega)).mono ?_
        rintro e w3 ⟨rfl, hi3, hk3⟩
        have HI3 := Lib.hid hi3
        have HB3 := Lib.hid (HBB.out.trans ((below_dN (Below.refl _ _) _).trans hk3.1))
        clear hi3 hk3
        go_wp2_with fail
        go_roundw
        case rel => exact ⟨k + 1, acc ++ [fc] ++ [10], by go_num, by have := HN.out; omega, by simp; omega, HROW2.out, HI3.out, HB3.out⟩
        case measure => simp [intOf]; omega
    · have hacc : acc = R := by
        rw [← hrow, List.drop_of_length_le (by have := HN.out; omega)]
        simp [rowsL]
      have HB2 := Lib.hid (bstr_l (w.heap.size + 1) (w.heap.size + 1) acc wr hib)
      rw [hacc] at HB2
      clear hacc hrow hib hbel
      go_wp2_with fail
      refine HB2.out.mono ?_
      rintro e w1 ⟨rfl, hb1⟩
      go_wp2_with fail
      go_ret
      exact ⟨rfl, HBO.out.trans ((HE.out.mono (by omega)).trans (hb1.mono (by omega)))⟩
theorem rows_Print2 (f : Cel → UInt8) (W H : Int) (v : Value) (cs : List Cel) (hW : 1 ≤ W ∧ W ≤ 1000) (hz : cs.length ≤ 100000) (hF : ∀ c ∈ cs, ∀ w, KB 23 #[c.v] (.int .u8 ((f c).toNat : Int)) w) (w : World) (h : CelSl w v cs) :
    KB 20 #[mapV W H v, .func (.func 23) #[] #[]] (.string (str (rowsL f W 0 cs))) w := by
  obtain ⟨ao, ca, rfl, ha⟩ := h
  obtain ⟨n, hn⟩ : ∃ n, cs.length = n := ⟨_, rfl⟩
  obtain ⟨R, hR⟩ : ∃ R, rowsL f W 0 cs = R := ⟨_, rfl⟩
  rw [hR]
  have HR := Lib.hid hR; have HN := Lib.hid hn; have HA := Lib.hid ha; have HF := Lib.hid hF
  obtain ⟨W1, W2⟩ := hW
  rw [hn] at hz ⊢
  clear hR ha hF hn
  unfold KB mapV at *
  have hm : IntKind.i64.wrap (W - 1) = W - 1 := by rw [IntKind.wrap_i64]; omega
  have hm2 : wrap64 (W - 1) = W - 1 := by unfold wrap64; omega
  have hW0 : ¬ W = 0 := by omega
  go_enter Tryz.func20, Tryz.ntmps20
  obtain ⟨wo, hwo⟩ : ∃ wo, w.alloc (mapO W H (.slice ao n ca) 24) = wo := ⟨_, rfl⟩
  have hbo : Below w.heap.size w wo := by rw [← hwo]; exact below_new _ _
  have hzo : wo.heap.size = w.heap.size + 1 := by rw [← hwo, tok_size]
  have hmo : wo.heap[w.heap.size]? = some (mapO W H (.slice ao n ca) 24) := by rw [← hwo]; exact tok_new _ _
  have h0 := Lib.hid (show RowsRel (w.heap.size + 1) wo f W cs R (.int .i64 0) (wo.alloc (.cells #[.pointer none, .slice none 0 0] 45)) from
    ⟨0, [], rfl, by omega, by simp, by rw [List.drop_zero]; exact HR.out, by rw [← hzo]; exact fresh_IB wo, by rw [← hzo]; exact (Below.refl _ _).alloc (Nat.le_refl _) _⟩)
  have HBO := Lib.hid hbo; have HMO := Lib.hid hmo; have HWO := Lib.hid hwo
  clear hbo hmo hwo
  go_wp2_with fail
  rw [HWO.out]
  go_loopw [11] (fun i wr => RowsRel (w.heap.size + 1) wo f W cs R i wr) (fun i _ => n - (intOf i).toNat)
  case atStart => exact h0.out
  case round =>
    clear h0 HWO
    obtain ⟨k, acc, rfl, hk, hlen, hrow, hib, hbel⟩ := hrel
    have HE := Lib.hid hbel
    have HI := Lib.hid hib
    have hwr := hib.2
    have hkn' : k ≤ n := by have := HN.out; omega
    have c0w : wr.cell? ⟨w.heap.size, 0, none⟩ = some (.int .i64 W) := (cells3 (by rw [hbel.block _ (by omega)]; exact HMO.out)).1.1
    by_cases hkn : k < n
    · have hkl : k < cs.length := by have := HN.out; omega
      obtain ⟨a, rfl, hat⟩ : ∃ a, ao = some a ∧ CelAt w a cs := HA.out.resolve_left (fun h => by rw [h] at hkl; simp at hkl)
      have hall : Below w.heap.size w wr := HBO.out.trans (hbel.mono (by omega))
      obtain ⟨c0, c1, c2⟩ := celAt (hat.below Cel.l_len hall) k hkl
      have hC := HF.out cs[k] (List.getElem_mem hkl)
      have hd : cs.drop k = cs[k] :: cs.drop (k + 1) := List.drop_eq_getElem_cons hkl
      rw [hd] at hrow
      obtain ⟨⟨ck, ch, cv⟩, hx⟩ : ∃ t, cs[k] = t := ⟨_, rfl⟩
      rw [hx] at c0 c1 c2 hC hrow
      dsimp only at c0 c1 c2
      unfold Cel.v at hC
      dsimp only at hC
      have HC := Lib.hid hC
      obtain ⟨fc, hfc⟩ : ∃ b, f ⟨ck, ch, cv⟩ = b := ⟨_, rfl⟩
      rw [hfc] at HC
      have hrow2 : acc ++ [fc] ++ ((if nlB W k then [10] else []) ++ rowsL f W (k + 1) (cs.drop (k + 1))) = R := by rw [← hrow, ← hfc]; simp [rowsL]
      have hnl : nlB W k = ((k : Int) % W == W - 1) := rfl
      have HROW := Lib.hid hrow2
      have e1 : (0 : Int) ≤ ((k : Int)) := by omega
      have e2 : (k : Int) < (n : Int) := by omega
      have e3 : (k : Int) ≤ 100000 := by omega
      have la : acc.length ≤ 300000 := by omega
      have HWB := Lib.hid (fun w1 hi => wb_e (w.heap.size + 1) (w.heap.size + 1) acc (acc ++ [fc]) fc w1 rfl hi (by omega))
      clear hib hall hat hd hx hfc hrow hrow2 hC hbel
      cases hb : nlB W k
      · rw [hb] at hnl HROW
        replace hnl := hnl.symm
        have HROW2 := Lib.hid (show acc ++ [fc] ++ rowsL f W (k + 1) (cs.drop (k + 1)) = R by rw [← HROW.out]; simp)
        have HARI := Lib.hid (And.intro hm (And.intro hm2 (And.intro hW0 hnl)))
        clear HROW hm hm2 hW0 hnl
        go_wp2_with fail
        refine (HC.out _).mono ?_
        rintro e w1 ⟨rfl, hb1⟩
        have hz1 := hb1.size
        rw [tok_size] at hz1
        have hb1' : Below wr.heap.size wr w1 := (below_new _ _).trans (hb1.mono (by rw [tok_size]; omega))
        have HB1 := Lib.hid hb1'
        clear hb1 hb1'
        go_wp2_with fail
        refine (HWB.out _ (HI.out.below HB1.out)).mono ?_
        rintro e w2 ⟨rfl, hi2, hk2⟩
        have hbb : Below (w.heap.size + 1) wo w2 := HE.out.trans ((HB1.out.mono (by omega)).trans hk2.1)
        have c0w2 : w2.cell? ⟨w.heap.size, 0, none⟩ = some (.int .i64 W) := (cells3 (by rw [hbb.block _ (by omega)]; exact HMO.out)).1.1
        have HI2 := Lib.hid hi2; have HBB := Lib.hid hbb
        clear hi2 hk2 hbb c0 c1 c2 c0w
        obtain ⟨hm, hm2, hW0, hnl⟩ := HARI.out
        go_wp2_with fail
        go_quiet (fail)
        go_wp2_with fail
        go_roundw
        case rel => exact ⟨k + 1, acc ++ [fc], by go_num, by have := HN.out; omega, by simp; omega, HROW2.out, HI2.out, below_dN HBB.out _⟩
        case measure => simp [intOf]; omega
      · rw [hb] at hnl HROW
        replace hnl := hnl.symm
        have HROW2 := Lib.hid (show acc ++ [fc] ++ [10] ++ rowsL f W (k + 1) (cs.drop (k + 1)) = R by rw [← HROW.out]; simp)
        have HARI := Lib.hid (And.intro hm (And.intro hm2 (And.intro hW0 hnl)))
        clear HROW hm hm2 hW0 hnl
        go_wp2_with fail
        refine (HC.out _).mono ?_
        rintro e w1 ⟨rfl, hb1⟩
        have hz1 := hb1.size
        rw [tok_size] at hz1
        have hb1' : Below wr.heap.size wr w1 := (below_new _ _).trans (hb1.mono (by rw [tok_size]; omega))
        have HB1 := Lib.hid hb1'
        clear hb1 hb1'
        go_wp2_with fail
        refine (HWB.out _ (HI.out.below HB1.out)).mono ?_
        rintro e w2 ⟨rfl, hi2, hk2⟩
        have hbb : Below (w.heap.size + 1) wo w2 := HE.out.trans ((HB1.out.mono (by omega)).trans hk2.1)
        have c0w2 : w2.cell? ⟨w.heap.size, 0, none⟩ = some (.int .i64 W) := (cells3 (by rw [hbb.block _ (by omega)]; exact HMO.out)).1.1
        have HI2 := Lib.hid hi2; have HBB := Lib.hid hbb
        clear hi2 hk2 hbb c0 c1 c2 c0w
        obtain ⟨hm, hm2, hW0, hnl⟩ := HARI.out
        go_wp2_with fail
        go_quiet (fail)
        go_wp2_with fail
        refine (wb10 (w.heap.size + 1) (w.heap.size + 1) (acc ++ [fc]) (acc ++ [fc] ++ [10]) _ rfl (HI2.out.below (below_dN (Below.refl _ _) _)) (by simp; omega)).mono ?_
        rintro e w3 ⟨rfl, hi3, hk3⟩
        have HI3 := Lib.hid hi3
        have HB3 := Lib.hid (HBB.out.trans ((below_dN (Below.refl _ _) _).trans hk3.1))
        clear hi3 hk3
        go_wp2_with fail
        go_roundw
        case rel => exact ⟨k + 1, acc ++ [fc] ++ [10], by go_num, by have := HN.out; omega, by simp; omega, HROW2.out, HI3.out, HB3.out⟩
        case measure => simp [intOf]; omega
    · have hacc : acc = R := by
        rw [← hrow, List.drop_of_length_le (by have := HN.out; omega)]
        simp [rowsL]
      have HB2 := Lib.hid (bstr_l (w.heap.size + 1) (w.heap.size + 1) acc wr hib)
      rw [hacc] at HB2
      clear hacc hrow hib hbel
      go_wp2_with fail
      refine HB2.out.mono ?_
      rintro e w1 ⟨rfl, hb1⟩
      go_wp2_with fail
      go_ret
      exact ⟨rfl, HBO.out.trans ((HE.out.mono (by omega)).trans (hb1.mono (by omega)))⟩
end Go.Proofs.YtmiceolkmiiahaaGreatDoor
