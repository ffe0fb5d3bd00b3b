/- Walks: code.Validate. -/
import Derived.Test.YtcicbijpiffbkaaW10
import Derived.Test.YtcicbijpiffbkaaW12
import Derived.Test.YtcicbijpiffbkaaW13
import Derived.Test.YtcicbijpiffbkaaP4
namespace Go.Proofs.Ytcicbijpiffbkaa
open Go.RowKit
set_option linter.unusedVariables false
set_option linter.unusedSimpArgs false
set_option maxRecDepth 100000
set_option maxHeartbeats 8000000

theorem cValidate_any (ao bo : Option Addr) (c d : Nat) (n m : Nat) (es : List Ent) (is : List Ins) (hn : es.length = n) (hm : is.length = m) (hz : n ≤ 1000000) (hm2 : m ≤ 1000000) (hnc : n ≤ c) (hmd : m ≤ d) (hE : OkE es) (hI : OkI is)
    (w : World) (he : es = [] ∨ ∃ a, ao = some a ∧ EntAt w a es) (hi : is = [] ∨ ∃ a, bo = some a ∧ InsAt w a is) : KB 22 #[codeV (.slice ao n c) (.slice bo m d)] (.int .i64 (codeE es is)) w := by
  obtain ⟨R, hR⟩ : ∃ R, codeE es is = R := ⟨_, rfl⟩
  rw [hR]
  have HR := Lib.hid hR
  have HEN := Lib.hid hn; have HIN := Lib.hid hm; have HEA := Lib.hid he; have HIA := Lib.hid hi; have HE := Lib.hid hE; have HI := Lib.hid hI
  unfold KB codeV
  obtain ⟨w1, hw1⟩ : ∃ w1, w.alloc (.cells #[.slice ao n c, .slice bo m d] 25) = w1 := ⟨_, rfl⟩
  have HB1 := Lib.hid (show Below w.heap.size w w1 by rw [← hw1]; exact below_new _ _)
  have HM1 := Lib.hid (show w1.heap[w.heap.size]? = some (.cells #[.slice ao n c, .slice bo m d] 25) by rw [← hw1]; exact tok_new _ _)
  have HZ1 := Lib.hid (show w1.heap.size = w.heap.size + 1 by rw [← hw1]; exact tok_size _ _)
  have HW1 := Lib.hid hw1
  clear hw1 hn hm he hi hR hE hI
  go_enter Try.func22, Try.ntmps22
  go_upto_region 1 with fail
  rw [HW1.out]
  clear HW1
  obtain ⟨m0, m1⟩ := cells2 HM1.out
  by_cases h1 : n < 1
  · have HX := Lib.hid (show R = 2 by rw [← HR.out]; exact codeE_2 (by unfold LimC; rw [HEN.out, HIN.out]; omega))
    go_wp2_with fail
    go_ret
    exact ⟨by rw [HX.out]; rfl, HB1.out⟩
  by_cases h2 : 8 < n
  · have HX := Lib.hid (show R = 2 by rw [← HR.out]; exact codeE_2 (by unfold LimC; rw [HEN.out, HIN.out]; omega))
    go_wp2_with fail
    go_ret
    exact ⟨by rw [HX.out]; rfl, HB1.out⟩
  by_cases h3 : m < 1
  · have HX := Lib.hid (show R = 2 by rw [← HR.out]; exact codeE_2 (by unfold LimC; rw [HEN.out, HIN.out]; omega))
    go_wp2_with fail
    go_ret
    exact ⟨by rw [HX.out]; rfl, HB1.out⟩
  by_cases h4 : 2048 < m
  · have HX := Lib.hid (show R = 2 by rw [← HR.out]; exact codeE_2 (by unfold LimC; rw [HEN.out, HIN.out]; omega))
    go_wp2_with fail
    go_ret
    exact ⟨by rw [HX.out]; rfl, HB1.out⟩
  have HLIM := Lib.hid (show ¬ LimC es.length is.length by unfold LimC; rw [HEN.out, HIN.out]; omega)
  obtain ⟨b, rfl, hbat⟩ : ∃ b, ao = some b ∧ EntAt w b es := HEA.out.resolve_left (fun h => by have := HEN.out; rw [h] at this; simp at this; omega)
  obtain ⟨a, rfl, haat⟩ : ∃ a, bo = some a ∧ InsAt w a is := HIA.out.resolve_left (fun h => by have := HIN.out; rw [h] at this; simp at this; omega)
  have HEA2 := Lib.hid hbat; have HIA2 := Lib.hid haat
  clear hbat haat HEA HIA
  go_wp2_with fail
  clear m0 m1
  have hst := Lib.hid (Below.refl (w.heap.size + 1) w1)
  go_loopw [36] (fun v wr => ∃ k : Nat, k ≤ n ∧ v = .int .i64 (k : Int) ∧ Below (w.heap.size + 1) w1 wr ∧ Hid (∀ j (hj : j < es.length), j < k → nameB (str es[j].n) = true)) (fun v _ => n - (intOf v).toNat)
  case atStart => exact ⟨0, by omega, rfl, hst.out, Lib.hid (fun _ _ h => absurd h (by omega))⟩
  case round =>
    obtain ⟨k, hk, rfl, hbel, hall⟩ := hrel
    have HBE := Lib.hid hbel
    have HBW := Lib.hid (HB1.out.trans (hbel.mono (by omega)))
    have HMR := Lib.hid (below_keeps HM1.out (by omega) hbel)
    have HZR := Lib.hid (show w.heap.size + 1 ≤ wr.heap.size by have := HZ1.out; have := hbel.size; omega)
    clear hbel
    obtain ⟨m0, m1⟩ := cells2 HMR.out
    by_cases hkn : k < n
    · have hkl : k < es.length := by have := HEN.out; omega
      obtain ⟨c0, c1, c2⟩ := entAt (HEA2.out.below Ent.l_len HBW.out) k hkl
      have HNM := Lib.hid (name_any (str es[k].n) (by rw [str_size]; exact (HE.out _ (List.getElem_mem hkl)).1))
      obtain ⟨B, hB⟩ : ∃ B, nameB (str es[k].n) = B := ⟨_, rfl⟩
      have HBB := Lib.hid hB
      rw [hB] at HNM
      obtain ⟨S, hS⟩ : ∃ S, str es[k].n = S := ⟨_, rfl⟩
      rw [hS] at HNM c0
      unfold KC at HNM
      generalize es[k].at' = ea at c1
      generalize es[k].sl = el at c2
      clear hB hS
      have e1 : (0 : Int) ≤ ((k : Int)) := by omega
      have e2 : (k : Int) < (n : Int) := by omega
      have hmeas : n - (k + 1) < n - k := by omega
      cases B
      · have HX := Lib.hid (show R = 6 by rw [← HR.out]; exact codeE_6 HLIM.out hkl HBB.out)
        go_wp2_with fail
        refine (HNM.out _).mono ?_
        rintro e w2 ⟨rfl, rfl⟩
        go_wp2_with fail
        go_ret
        exact ⟨by rw [HX.out]; rfl, HBW.out.trans ((below_new _ _).mono (by have := HZR.out; omega))⟩
      · have hn2 : Hid (∀ j (hj : j < es.length), j < k + 1 → nameB (str es[j].n) = true) := Lib.hid fun j hj hjk => by
          by_cases hjk' : j < k
          · exact hall.out j hj hjk'
          · obtain rfl : j = k := by omega
            exact HBB.out
        clear hall
        go_wp2_with fail
        refine (HNM.out _).mono ?_
        rintro e w2 ⟨rfl, rfl⟩
        go_wp2_with fail
        go_roundw
        case rel => exact ⟨k + 1, by omega, by go_num, HBE.out.alloc HZR.out _, hn2⟩
        case measure => simp [intOf]; omega
    · have HNA := Lib.hid (show ∀ j (hj : j < es.length), nameB (str es[j].n) = true from fun j hj => hall.out j hj (by have := HEN.out; omega))
      have HB2 := HBE
      clear hall hst HBW HMR HZR HBE
      go_wp2_with fail
      clear m0 m1
      go_loopw [48] (fun v wr => ∃ k : Nat, k ≤ n ∧ v = .int .i64 (k : Int) ∧ Below (w.heap.size + 1) w1 wr ∧ Hid (∀ j (hj : j < es.length), j < k → (es.take j).any (isN es[j].n) = false)) (fun v _ => n - (intOf v).toNat)
      case atStart => exact ⟨0, by omega, rfl, HB2.out, Lib.hid (fun _ _ h => absurd h (by omega))⟩
      case round =>
        clear HB2
        obtain ⟨k, hk, rfl, hbel, hall⟩ := hrel
        have HBE := Lib.hid hbel
        have HBW := Lib.hid (HB1.out.trans (hbel.mono (by omega)))
        have HMR := Lib.hid (below_keeps HM1.out (by omega) hbel)
        have HZR := Lib.hid (show w.heap.size + 1 ≤ wr.heap.size by have := HZ1.out; have := hbel.size; omega)
        clear hbel
        obtain ⟨m0, m1⟩ := cells2 HMR.out
        by_cases hkn : k < n
        · have hkl : k < es.length := by have := HEN.out; omega
          obtain ⟨c0, c1, c2⟩ := entAt (HEA2.out.below Ent.l_len HBW.out) k hkl
          obtain ⟨B, hB⟩ : ∃ B, (es.take k).any (isN es[k].n) = B := ⟨_, rfl⟩
          have HBB := Lib.hid hB
          have hl : (es.take k).length = k := by rw [List.length_take]; omega
          have HCE := Lib.hid (fun w' (hb : Below wr.heap.size wr w') (hc : w'.cell? ⟨wr.heap.size, 0, none⟩ = some (.string (str es[k].n))) => ContainsE_cValidate1 (.slice (some b) k c) (es.take k) es[k].n ⟨wr.heap.size, 0, none⟩ w' ⟨some b, c, by rw [hl], Or.inr ⟨b, rfl, ((HEA2.out.below Ent.l_len HBW.out).below Ent.l_len hb).take k⟩⟩ (by omega) hc)
          rw [hB] at HCE
          unfold KB at HCE
          generalize es[k].at' = ea at c1
          generalize es[k].sl = el at c2
          obtain ⟨S, hS⟩ : ∃ S, str es[k].n = S := ⟨_, rfl⟩
          rw [hS] at HCE c0
          clear hB hS hl
          have e1 : (0 : Int) ≤ ((k : Int)) := by omega
          have e2 : (k : Int) < (n : Int) := by omega
          have hmeas : n - (k + 1) < n - k := by omega
          go_upto_region 12 with fail
          obtain ⟨w2, hw2⟩ : ∃ w2, wr.alloc (.cells #[.string S, .int .i64 ea, .int .i64 el] 68) = w2 := ⟨_, rfl⟩
          have HE2 := Lib.hid (show w2.heap[wr.heap.size]? = some (.cells #[.string S, .int .i64 ea, .int .i64 el] 68) by rw [← hw2]; exact tok_new _ _)
          have HBB2 := Lib.hid (show Below wr.heap.size wr w2 by rw [← hw2]; exact below_new _ _)
          have HM2 := Lib.hid (block_below HBB2.out HMR.out)
          rw [hw2]
          clear hw2 c0 c1 c2 m0 m1
          obtain ⟨m0, m1⟩ := cells2 HM2.out
          obtain ⟨c0, c1, c2⟩ := blk3 HE2.out
          have hkc : k ≤ c := by omega
          have HB3 := Lib.hid (HBE.out.trans (HBB2.out.mono HZR.out))
          have HW3 := Lib.hid (HBW.out.trans (HBB2.out.mono (by have := HZR.out; omega)))
          have HZ3 := Lib.hid (show w.heap.size + 1 ≤ w2.heap.size from Nat.le_trans HZR.out HBB2.out.size)
          go_wp2_with fail
          refine (HCE.out w2 HBB2.out c0).mono ?_
          rintro e w3 ⟨rfl, hb3⟩
          have HB4 := Lib.hid (HB3.out.trans (hb3.mono HZ3.out))
          have HW4 := Lib.hid (HW3.out.trans (hb3.mono (by have := HZ3.out; omega)))
          clear hb3 c0 c1 c2 m0 m1 HCE
          cases B
          · have hn2 : Hid (∀ j (hj : j < es.length), j < k + 1 → (es.take j).any (isN es[j].n) = false) := Lib.hid fun j hj hjk => by
              by_cases hjk' : j < k
              · exact hall.out j hj hjk'
              · obtain rfl : j = k := by omega
                exact HBB.out
            clear hall
            go_wp2_with fail
            go_roundw
            case rel => exact ⟨k + 1, by omega, by go_num, HB4.out, hn2⟩
            case measure => simp [intOf]; omega
          · have HX := Lib.hid (show R = 7 by rw [← HR.out]; exact codeE_7 HLIM.out HNA.out hkl HBB.out)
            go_wp2_with fail
            go_ret
            exact ⟨by rw [HX.out]; rfl, HW4.out⟩
        · have HND := Lib.hid (show ∀ j (hj : j < es.length), (es.take j).any (isN es[j].n) = false from fun j hj => hall.out j hj (by have := HEN.out; omega))
          have HRA := Lib.hid (codeE_d HLIM.out HNA.out HND.out)
          have HSG := Lib.hid (fun w' (hb : Below wr.heap.size wr w') => segments_any (some b) a c d n m es is HEN.out HIN.out hz (by omega) hm2 w' (Or.inr ⟨b, rfl, (HEA2.out.below Ent.l_len HBW.out).below Ent.l_len hb⟩) ((HIA2.out.below Ins.l_len HBW.out).below Ins.l_len hb))
          clear hall HND
          unfold codeV at HSG
          go_wp2_with fail
          refine (HSG.out wr (Below.refl _ _)).mono ?_
          rintro e w2 hres
          unfold SegsRes at hres
          rw [HEN.out] at hres
          by_cases hso : segsOk es is = true
          rotate_left
          · rw [if_neg hso] at hres
            obtain ⟨rfl, hb2⟩ := hres
            have HX := Lib.hid (show R = 20 by rw [← HR.out, HRA.out, allB_seg (by simpa using hso), if_neg (by simp)])
            have HWX := Lib.hid (HBW.out.trans (hb2.mono (by have := HZR.out; omega)))
            clear hb2 hso
            go_wp2_with fail
            go_ret
            exact ⟨by rw [HX.out]; rfl, HWX.out⟩
          rw [if_pos hso] at hres
          obtain ⟨⟨so, scap, rfl, hsl⟩, hb2⟩ := hres
          obtain ⟨g, rfl, hgb, hgc⟩ := seg_cells hsl (by omega)
          have HGC := Lib.hid hgc
          have HGB := Lib.hid hgb
          have HSO := Lib.hid hso
          have HW2 := Lib.hid (HBW.out.trans (hb2.mono (by have := HZR.out; omega)))
          have HM2 := Lib.hid (block_below hb2 HMR.out)
          have HZ2 := Lib.hid (show w.heap.size + 1 ≤ w2.heap.size from Nat.le_trans HZR.out hb2.size)
          clear hb2 hso hgb hgc hsl HSG HBW HMR HZR HBE m0 m1 HM1 HZ1 HB1
          go_wp2_with fail
          go_loopw [69] (fun v wr => ∃ k : Nat, k ≤ n ∧ v = .int .i64 (k : Int) ∧ Below w2.heap.size w2 wr ∧ Hid (∀ j (hj : j < es.length), j < k → segIn es is j hj = true)) (fun v _ => n - (intOf v).toNat)
          case atStart => exact ⟨0, by omega, rfl, Below.refl _ _, Lib.hid (fun _ _ h => absurd h (by omega))⟩
          case round =>
            obtain ⟨k, hk, rfl, hbel, hall⟩ := hrel
            have HBE := Lib.hid hbel
            have HBW := Lib.hid (HW2.out.trans (hbel.mono (by have := HZ2.out; omega)))
            have HMR := Lib.hid (block_below hbel HM2.out)
            have HZR := Lib.hid (show w2.heap.size ≤ wr.heap.size from hbel.size)
            clear hbel
            obtain ⟨m0, m1⟩ := cells2 HMR.out
            by_cases hkn : k < n
            · have hkl : k < es.length := by have := HEN.out; omega
              obtain ⟨s0, s1, s2, s3, s4⟩ := HGC.out k hkn
              obtain ⟨f, t, hf, ht, hft, htm⟩ := seg_nat HSO.out k hkl
              have HSI := Lib.hid (segIn_eq hkl hf ht)
              rw [entD_at hkl, hf] at s2
              rw [ht] at s3
              rw [entD_at hkl] at s4
              rw [HIN.out] at htm
              obtain ⟨sl, hsl⟩ : ∃ sl, es[k].sl = sl := ⟨_, rfl⟩
              rw [hsl] at s4 HSI
              replace s0 := cell_below HBE.out s0
              replace s1 := cell_below HBE.out s1
              replace s2 := cell_below HBE.out s2
              replace s3 := cell_below HBE.out s3
              replace s4 := cell_below HBE.out s4
              clear hf ht hsl
              have e1 : (0 : Int) ≤ ((k : Int)) := by omega
              have e2 : (k : Int) < (n : Int) := by omega
              have hmeas : n - (k + 1) < n - k := by omega
              go_upto_region 21 with fail
              obtain ⟨w3, hw3⟩ : ∃ w3, wr.alloc (segO (.slice (some b) n c) (.slice (some a) m d) f t sl) = w3 := ⟨_, rfl⟩
              have HE3 := Lib.hid (show w3.heap[wr.heap.size]? = some (segO (.slice (some b) n c) (.slice (some a) m d) f t sl) by rw [← hw3]; exact tok_new _ _)
              have HBB3 := Lib.hid (show Below wr.heap.size wr w3 by rw [← hw3]; exact below_new _ _)
              have HM3 := Lib.hid (block_below HBB3.out HMR.out)
              have HB3 := Lib.hid (HBE.out.trans (HBB3.out.mono HZR.out))
              have HW3 := Lib.hid (HBW.out.trans (HBB3.out.mono (by have := HZR.out; have := HZ2.out; omega)))
              have HZ3 := Lib.hid (show w2.heap.size ≤ w3.heap.size from Nat.le_trans HZR.out HBB3.out.size)
              rw [hw3]
              clear hw3 s0 s1 s2 s3 s4 m0 m1
              obtain ⟨m0, m1⟩ := cells2 HM3.out
              obtain ⟨c0, c1, c2, c3, c4⟩ := blk5 HE3.out
              have HI3 := HIA2.out.below Ins.l_len HW3.out
              have hsl := segL_len (is := is) (Nat.le_of_lt hft) (by rw [HIN.out]; exact htm)
              have HCI := Lib.hid (ContainsI_any (badI es sl f t) wr.heap.size (.slice (some (a.add (f * 4))) (t - f) (d - f)) (segL is f t) w3 ⟨some (a.add (f * 4)), d - f, by rw [hsl], Or.inr ⟨_, rfl, HI3.part f (t - f)⟩⟩ (by omega) (fun x hx w' hb => by
                have h := cValidate2_any (some b) (some a) c m d es f t sl x (HI.out x (segL_mem hx)).2.2.2 (by rw [HEN.out]; exact hz) wr.heap.size w' ⟨some b, c, rfl, Or.inr ⟨b, rfl, (HEA2.out.below Ent.l_len HW3.out).below Ent.l_len hb⟩⟩ (by rw [HEN.out]; exact block_below hb HE3.out)
                exact h))
              have HBA := Lib.hid (fun (hfo : (segL is f t).any (badI es sl f t) = false) w' (hb : Below w3.heap.size w3 w') => balanced_any (.slice (some b) n c) a d m es is sl f t HIN.out hm2 hft htm (fun x hx => (HI.out x hx).2.1) (fun j hj => by
                have := List.any_eq_false.1 hfo _ (List.getElem_mem hj)
                unfold badI at this
                simpa using this) w' (HI3.below Ins.l_len hb))
              obtain ⟨FB, hFB⟩ : ∃ x, (segL is f t).any (badI es sl f t) = x := ⟨_, rfl⟩
              obtain ⟨BB, hBB⟩ : ∃ x, balB (segL is f t) f = x := ⟨_, rfl⟩
              have HSJ := Lib.hid (show segIn es is k hkl = (!FB && BB) by rw [HSI.out, ← hFB, ← hBB]; rfl)
              rw [hFB] at HCI HBA
              rw [hBB] at HBA
              unfold KB at HCI
              have HBA2 := Lib.hid (show FB = false → ∀ w', Below w3.heap.size w3 w' → Calls Try.prog 50 #[.agg #[.slice (some b) n c, .slice (some a) m d, .int .i64 f, .int .i64 t, .int .i64 sl]] w' (fun e w'' => e = .returned (.bool BB) ∧ Below w'.heap.size w' w'') from HBA.out)
              have i1 : (0 : Int) ≤ (f : Int) := by omega
              have i2 : (f : Int) ≤ (t : Int) := by omega
              have i3 : (t : Int) ≤ (d : Int) := by omega
              clear HSI HBA hsl hFB hBB HI3
              go_wp2_with fail
              refine HCI.out.mono ?_
              rintro e w4 ⟨rfl, hb4⟩
              have HE4 := Lib.hid (block_below hb4 HE3.out)
              have HBB4 := Lib.hid hb4
              have HB4 := Lib.hid (HB3.out.trans (hb4.mono HZ3.out))
              have HW4 := Lib.hid (HW3.out.trans (hb4.mono (by have := HZ3.out; have := HZ2.out; omega)))
              have HZ4 := Lib.hid (show w2.heap.size ≤ w4.heap.size from Nat.le_trans HZ3.out hb4.size)
              clear hb4 m0 m1 c0 c1 c2 c3 c4
              obtain ⟨c0, c1, c2, c3, c4⟩ := blk5 HE4.out
              cases FB
              rotate_left
              · have HX := Lib.hid (show R = 20 by rw [← HR.out, HRA.out, allB_in hkl (by rw [HSJ.out]; rfl), if_neg (by simp)])
                go_wp2_with fail
                go_ret
                exact ⟨by rw [HX.out]; rfl, HW4.out⟩
              replace HBA2 := Lib.hid (HBA2.out rfl w4 HBB4.out)
              go_wp2_with fail
              refine HBA2.out.mono ?_
              rintro e w5 ⟨rfl, hb5⟩
              have HB5 := Lib.hid (HB4.out.trans (hb5.mono HZ4.out))
              have HW5 := Lib.hid (HW4.out.trans (hb5.mono (by have := HZ4.out; have := HZ2.out; omega)))
              clear hb5 c0 c1 c2 c3 c4
              cases BB
              · have HX := Lib.hid (show R = 20 by rw [← HR.out, HRA.out, allB_in hkl (by rw [HSJ.out]; rfl), if_neg (by simp)])
                go_wp2_with fail
                go_ret
                exact ⟨by rw [HX.out]; rfl, HW5.out⟩
              have hn2 : Hid (∀ j (hj : j < es.length), j < k + 1 → segIn es is j hj = true) := Lib.hid fun j hj hjk => by
                by_cases hjk' : j < k
                · exact hall.out j hj hjk'
                · obtain rfl : j = k := by omega
                  rw [HSJ.out]; rfl
              clear hall
              go_wp2_with fail
              go_roundw
              case rel => exact ⟨k + 1, by omega, by go_num, HB5.out, hn2⟩
              case measure => simp [intOf]; omega
            · have HX := Lib.hid (show R = 0 by rw [← HR.out, HRA.out, if_pos (allB_ok HSO.out fun i hi => hall.out i hi (by have := HEN.out; omega))])
              go_wp2_with fail
              go_ret
              exact ⟨by rw [HX.out]; rfl, HBW.out⟩
end Go.Proofs.Ytcicbijpiffbkaa
