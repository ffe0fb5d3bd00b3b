/- Walks: the reference's Validate. -/
import Derived.Test.YtcicbijpiffbkaaW11
import Derived.Test.YtcicbijpiffbkaaP5
import Derived.BigQuiet
namespace Go.Proofs.Ytcicbijpiffbkaa
open Go.RowKit
set_option linter.unusedVariables false
set_option linter.unusedSimpArgs false
set_option maxRecDepth 100000
set_option maxHeartbeats 8000000

theorem rcValidate_any (ao bo : Option Addr) (c d : Nat) (n m : Nat) (es : List Ent) (is : List Ins) (hn : es.length = n) (hm : is.length = m) (hz : n ≤ 1000000) (hm2 : m ≤ 1000000) (hE : OkE es) (hI : OkI is)
    (w : World) (he : es = [] ∨ ∃ a, ao = some a ∧ EntAt w a es) (hi : is = [] ∨ ∃ a, bo = some a ∧ InsAt w a is) : KB 17 #[codeV (.slice ao n c) (.slice bo m d)] (.int .i64 (codeE es is)) w := by
  obtain ⟨R, hR⟩ : ∃ R, codeE es is = R := ⟨_, rfl⟩
  rw [hR]
  have HR := Lib.hid hR
  have HEN := Lib.hid hn; have HIN := Lib.hid hm; have HEA := Lib.hid he; have HIA := Lib.hid hi; have HE := Lib.hid hE; have HI := Lib.hid hI
  unfold KB codeV
  obtain ⟨w1, hw1⟩ : ∃ w1, w.alloc (.cells #[.slice ao n c, .slice bo m d] 25) = w1 := ⟨_, rfl⟩
  have HB1 := Lib.hid (show Below w.heap.size w w1 by rw [← hw1]; exact below_new _ _)
  have HM1 := Lib.hid (show w1.heap[w.heap.size]? = some (.cells #[.slice ao n c, .slice bo m d] 25) by rw [← hw1]; exact tok_new _ _)
  have HZ1 := Lib.hid (show w1.heap.size = w.heap.size + 1 by rw [← hw1]; exact tok_size _ _)
  have HW1 := Lib.hid hw1
  clear hw1 hn hm he hi hR hE hI
  go_enter Try.func17, Try.ntmps17
  go_upto_region 1 with fail
  rw [HW1.out]
  clear HW1
  obtain ⟨m0, m1⟩ := cells2 HM1.out
  by_cases h1 : n < 1
  · have HX := Lib.hid (show R = 2 by rw [← HR.out]; exact codeE_2 (by unfold LimC; rw [HEN.out, HIN.out]; omega))
    go_wp2_with fail
    go_ret
    exact ⟨by rw [HX.out]; rfl, HB1.out⟩
  by_cases h2 : 8 < n
  · have HX := Lib.hid (show R = 2 by rw [← HR.out]; exact codeE_2 (by unfold LimC; rw [HEN.out, HIN.out]; omega))
    go_wp2_with fail
    go_ret
    exact ⟨by rw [HX.out]; rfl, HB1.out⟩
  by_cases h3 : m < 1
  · have HX := Lib.hid (show R = 2 by rw [← HR.out]; exact codeE_2 (by unfold LimC; rw [HEN.out, HIN.out]; omega))
    go_wp2_with fail
    go_ret
    exact ⟨by rw [HX.out]; rfl, HB1.out⟩
  by_cases h4 : 2048 < m
  · have HX := Lib.hid (show R = 2 by rw [← HR.out]; exact codeE_2 (by unfold LimC; rw [HEN.out, HIN.out]; omega))
    go_wp2_with fail
    go_ret
    exact ⟨by rw [HX.out]; rfl, HB1.out⟩
  have HLIM := Lib.hid (show ¬ LimC es.length is.length by unfold LimC; rw [HEN.out, HIN.out]; omega)
  obtain ⟨b, rfl, hbat⟩ : ∃ b, ao = some b ∧ EntAt w b es := HEA.out.resolve_left (fun h => by have := HEN.out; rw [h] at this; simp at this; omega)
  obtain ⟨a, rfl, haat⟩ : ∃ a, bo = some a ∧ InsAt w a is := HIA.out.resolve_left (fun h => by have := HIN.out; rw [h] at this; simp at this; omega)
  have HEA2 := Lib.hid hbat; have HIA2 := Lib.hid haat
  clear hbat haat HEA HIA
  have hE1 := Lib.hid (fun k (h : k < es.length) => entAt (HEA2.out.below Ent.l_len HB1.out) k h)
  go_wp2_with fail
  go_loopw [4] (fun v wr => ∃ k : Nat, k ≤ n ∧ v = .int .i64 (k : Int) ∧ w1 = wr ∧ Hid (∀ j (hj : j < es.length), j < k → nameB (str es[j].n) = true)) (fun v _ => n - (intOf v).toNat)
  case atStart => exact ⟨0, by omega, rfl, rfl, Lib.hid (fun _ _ h => absurd h (by omega))⟩
  case round =>
    obtain ⟨k, hk, rfl, rfl, hall⟩ := hrel
    by_cases hkn : k < n
    · have hkl : k < es.length := by have := HEN.out; omega
      obtain ⟨c0, c1, c2⟩ := hE1.out k hkl
      have HNM := Lib.hid (rName_any (str es[k].n) (by rw [str_size]; exact (HE.out _ (List.getElem_mem hkl)).1))
      obtain ⟨B, hB⟩ : ∃ B, nameB (str es[k].n) = B := ⟨_, rfl⟩
      have HBB := Lib.hid hB
      rw [hB] at HNM
      obtain ⟨S, hS⟩ : ∃ S, str es[k].n = S := ⟨_, rfl⟩
      rw [hS] at HNM c0
      unfold KC at HNM
      clear hB hS c1 c2
      have e1 : (0 : Int) ≤ ((k : Int)) := by omega
      have e2 : (k : Int) < (n : Int) := by omega
      have hmeas : n - (k + 1) < n - k := by omega
      cases B
      · have HX := Lib.hid (show R = 6 by rw [← HR.out]; exact codeE_6 HLIM.out hkl HBB.out)
        go_wp2_with fail
        refine (HNM.out _).mono ?_
        rintro e w2 ⟨rfl, rfl⟩
        go_wp2_with fail
        go_ret
        exact ⟨by rw [HX.out]; rfl, HB1.out⟩
      · have hn2 : Hid (∀ j (hj : j < es.length), j < k + 1 → nameB (str es[j].n) = true) := Lib.hid fun j hj hjk => by
          by_cases hjk' : j < k
          · exact hall.out j hj hjk'
          · obtain rfl : j = k := by omega
            exact HBB.out
        clear hall
        go_wp2_with fail
        refine (HNM.out _).mono ?_
        rintro e w2 ⟨rfl, rfl⟩
        go_wp2_with fail
        go_roundw
        case rel => exact ⟨k + 1, by omega, by go_num, by first | rfl | trivial, hn2⟩
        case measure => simp [intOf]; omega
    · have HNA := Lib.hid (show ∀ j (hj : j < es.length), nameB (str es[j].n) = true from fun j hj => hall.out j hj (by have := HEN.out; omega))
      clear hall
      go_wp2_with fail
      clear m0 m1
      go_loopw [5] (fun v wr => ∃ k : Nat, k ≤ n ∧ v = .int .i64 (k : Int) ∧ Below (w.heap.size + 1) w1 wr ∧ Hid (∀ j (hj : j < es.length), j < k → (es.take j).any (isN es[j].n) = false)) (fun v _ => n - (intOf v).toNat)
      case atStart => exact ⟨0, by omega, rfl, Below.refl _ _, Lib.hid (fun _ _ h => absurd h (by omega))⟩
      case round =>
        obtain ⟨k, hk, rfl, hbel, hall⟩ := hrel
        have HBE := Lib.hid hbel
        have HBW := Lib.hid (HB1.out.trans (hbel.mono (by omega)))
        have HMR := Lib.hid (below_keeps HM1.out (by omega) hbel)
        have HZR := Lib.hid (show w.heap.size + 1 ≤ wr.heap.size by have := HZ1.out; have := hbel.size; omega)
        clear hbel
        by_cases hkn : k < n
        · have hkl : k < es.length := by have := HEN.out; omega
          have e1 : (0 : Int) ≤ ((k : Int)) := by omega
          have e2 : (k : Int) < (n : Int) := by omega
          have hmeas : n - (k + 1) < n - k := by omega
          have HALL := hall
          clear hall
          go_wp2_with fail
          go_loopw [6] (fun v wq => ∃ j : Nat, j ≤ k ∧ v = .int .i64 (j : Int) ∧ Below (w.heap.size + 1) w1 wq ∧ Hid (∀ i (hi : i < k), i < j → (es[i].n == es[k].n) = false)) (fun v _ => k - (intOf v).toNat)
          case atStart => exact ⟨0, by omega, rfl, HBE.out, Lib.hid (fun _ _ h => absurd h (by omega))⟩
          case round =>
            obtain ⟨j, hj, rfl, hbel, hall⟩ := hrel
            have HBE2 := Lib.hid hbel
            have HBW2 := Lib.hid (HB1.out.trans (hbel.mono (by omega)))
            have HMR2 := Lib.hid (below_keeps HM1.out (by omega) hbel)
            clear hbel
            by_cases hjk : j < k
            · have hjl : j < es.length := by omega
              obtain ⟨m0, m1⟩ := cells2 HMR2.out
              obtain ⟨c0, c1, c2⟩ := entAt (HEA2.out.below Ent.l_len HBW2.out) k hkl
              obtain ⟨d0, d1, d2⟩ := entAt (HEA2.out.below Ent.l_len HBW2.out) j hjl
              have hq : ((str es[j].n).toList == (str es[k].n).toList) = (es[j].n == es[k].n) := str_beq _ _
              obtain ⟨B, hB⟩ : ∃ B, (es[j].n == es[k].n) = B := ⟨_, rfl⟩
              have HBB := Lib.hid hB
              rw [hB] at hq
              generalize str es[j].n = T at *
              generalize str es[k].n = S at *
              have f1 : (0 : Int) ≤ ((j : Int)) := by omega
              have f2 : (j : Int) < (k : Int) := by omega
              have f3 : (j : Int) < (n : Int) := by omega
              have hmj : k - (j + 1) < k - j := by omega
              clear hB c1 c2 d1 d2
              cases B
              · have hn2 : Hid (∀ i (hi : i < k), i < j + 1 → (es[i].n == es[k].n) = false) := Lib.hid fun i hi hij => by
                  by_cases hij' : i < j
                  · exact hall.out i hi hij'
                  · obtain rfl : i = j := by omega
                    exact HBB.out
                clear hall
                go_wp2_with fail
                go_quiet (fail)
                go_wp2_with fail
                go_roundw
                case rel => exact ⟨j + 1, by omega, by go_num, by first | exact HBE2.out | exact HBE2.out.drew | exact below_dN HBE2.out _, hn2⟩
                case measure => simp [intOf]; omega
              · have HX := Lib.hid (show R = 7 by rw [← HR.out]; exact codeE_7 HLIM.out HNA.out hkl (dup_at hkl hjk HBB.out))
                go_wp2_with fail
                go_quiet (fail)
                go_wp2_with fail
                go_ret
                exact ⟨by rw [HX.out]; rfl, by first | exact HBW2.out | exact HBW2.out.drew | exact below_dN HBW2.out _⟩
            · have hn2 : Hid (∀ j (hj : j < es.length), j < k + 1 → (es.take j).any (isN es[j].n) = false) := Lib.hid fun i hi hik => by
                by_cases hik' : i < k
                · exact HALL.out i hi hik'
                · obtain rfl : i = k := by omega
                  exact dup_no hi (fun q hq => hall.out q hq (by omega))
              clear hall HALL
              have f2 : ¬ (j : Int) < (k : Int) := by omega
              go_wp2_with fail
              go_roundw
              case rel => exact ⟨k + 1, by omega, by go_num, HBE2.out, hn2⟩
              case measure => simp [intOf]; omega
        · have HND := Lib.hid (show ∀ j (hj : j < es.length), (es.take j).any (isN es[j].n) = false from fun j hj => hall.out j hj (by have := HEN.out; omega))
          have HRA := Lib.hid (codeE_d HLIM.out HNA.out HND.out)
          clear hall HND
          have HB2 := HBE
          clear HBE HMR HBW HZR
          go_wp2_with fail
          go_loopw [7] (fun v wr => ∃ k : Nat, k ≤ n ∧ v = .int .i64 (k : Int) ∧ Below (w.heap.size + 1) w1 wr ∧ Hid (∀ j (hj : j < es.length), j < k → rnB es m j hj)) (fun v _ => n - (intOf v).toNat)
          case atStart => exact ⟨0, by omega, rfl, HB2.out, Lib.hid (fun _ _ h => absurd h (by omega))⟩
          case round =>
            clear HB2
            obtain ⟨k, hk, rfl, hbel, hall⟩ := hrel
            have HBE := Lib.hid hbel
            have HBW := Lib.hid (HB1.out.trans (hbel.mono (by omega)))
            have HMR := Lib.hid (below_keeps HM1.out (by omega) hbel)
            have HZR := Lib.hid (show w.heap.size + 1 ≤ wr.heap.size by have := HZ1.out; have := hbel.size; omega)
            clear hbel
            by_cases hkn : k < n
            · have hkl : k < es.length := by have := HEN.out; omega
              obtain ⟨c0, c1, c2⟩ := entAt (HEA2.out.below Ent.l_len HBW.out) k hkl
              obtain ⟨m0, m1⟩ := cells2 HMR.out
              obtain ⟨ea, hea⟩ : ∃ z, es[k].at' = z := ⟨_, rfl⟩
              obtain ⟨el, hel⟩ : ∃ z, es[k].sl = z := ⟨_, rfl⟩
              rw [hea] at c1
              rw [hel] at c2
              generalize str es[k].n = S at c0
              have hrn : rnB es m k hkl ↔ (k = 0 → ea = 0) ∧ (0 < k → es[k - 1].at' < ea) ∧ ea < m ∧ 0 ≤ el ∧ el ≤ 32 := by unfold rnB; rw [hea, hel]
              have HBAD := Lib.hid (show ¬ ((k = 0 → ea = 0) ∧ (0 < k → es[k - 1].at' < ea) ∧ ea < m ∧ 0 ≤ el ∧ el ≤ 32) → R = 20 from fun h => by
                rw [← HR.out, HRA.out, allB_rn hkl (by rw [HIN.out]; exact fun h2 => h (hrn.1 h2)), if_neg (by simp)])
              have HGOOD := Lib.hid (show (k = 0 → ea = 0) ∧ (0 < k → es[k - 1].at' < ea) ∧ ea < m ∧ 0 ≤ el ∧ el ≤ 32 → Hid (∀ j (hj : j < es.length), j < k + 1 → rnB es m j hj) from fun h => Lib.hid fun j hj hjk => by
                by_cases hjk' : j < k
                · exact hall.out j hj hjk'
                · obtain rfl : j = k := by omega
                  exact hrn.2 h)
              have e1 : (0 : Int) ≤ ((k : Int)) := by omega
              have e2 : (k : Int) < (n : Int) := by omega
              have hmeas : n - (k + 1) < n - k := by omega
              clear hrn hea hel hall
              by_cases hk0 : k = 0
              · skip
                have HK0 := Lib.hid hk0
                clear hk0
                go_upto_region 21 with fail
                obtain ⟨w3, hw3⟩ : ∃ w3, wr.alloc (.cells #[.string S, .int .i64 ea, .int .i64 el] 68) = w3 := ⟨_, rfl⟩
                have HE3 := Lib.hid (show w3.heap[wr.heap.size]? = some (.cells #[.string S, .int .i64 ea, .int .i64 el] 68) by rw [← hw3]; exact tok_new _ _)
                have HBB3 := Lib.hid (show Below wr.heap.size wr w3 by rw [← hw3]; exact below_new _ _)
                have HBA := Lib.hid (HBW.out.trans (HBB3.out.mono (by have := HZR.out; omega)))
                have HBN := Lib.hid (HBE.out.trans (HBB3.out.mono HZR.out))
                rw [hw3]
                clear hw3 c0 c1 c2
                replace m0 := cell_below HBB3.out m0
                replace m1 := cell_below HBB3.out m1
                obtain ⟨c0, c1, c2⟩ := blk3 HE3.out
                have hk0 := HK0.out
                subst hk0
                by_cases h1 : ea = 0
                rotate_left
                · have z3 : (ea != 0) = true := by rw [bne_iff_ne]; exact h1
                  have HX := Lib.hid (HBAD.out (fun h => h1 (h.1 rfl)))
                  clear HGOOD HBAD h1
                  go_quiet (fail)
                  go_wp2_with fail
                  go_ret
                  exact ⟨by rw [HX.out]; rfl, by first | exact HBA.out | exact HBA.out.drew | exact below_dN HBA.out _⟩
                have H1 := Lib.hid h1
                have z3 : (ea != 0) = false := by rw [bne_eq_false_iff_eq]; exact h1
                clear h1
                by_cases h2 : ea < (m : Int)
                rotate_left
                · have z5 : decide ((m : Int) ≤ ea) = true := decide_eq_true (by omega)
                  have HX := Lib.hid (HBAD.out (fun h => h2 h.2.2.1))
                  clear HGOOD HBAD h2
                  go_quiet (fail)
                  go_wp2_with fail
                  go_ret
                  exact ⟨by rw [HX.out]; rfl, by first | exact HBA.out | exact HBA.out.drew | exact below_dN HBA.out _⟩
                have z5 : decide ((m : Int) ≤ ea) = false := decide_eq_false (by omega)
                have H2 := Lib.hid h2
                clear h2
                by_cases h3 : el < 0
                · have z6 : decide (el < 0) = true := decide_eq_true h3
                  have HX := Lib.hid (HBAD.out (fun h => by have := h.2.2.2.1; omega))
                  clear HGOOD HBAD h3
                  go_quiet (fail)
                  go_wp2_with fail
                  go_ret
                  exact ⟨by rw [HX.out]; rfl, by first | exact HBA.out | exact HBA.out.drew | exact below_dN HBA.out _⟩
                have z6 : decide (el < 0) = false := decide_eq_false h3
                have H3 := Lib.hid h3
                clear h3
                by_cases h4 : 32 < el
                · have z7 : decide (32 < el) = true := decide_eq_true h4
                  have HX := Lib.hid (HBAD.out (fun h => by have := h.2.2.2.2; omega))
                  clear HGOOD HBAD h4
                  go_quiet (fail)
                  go_wp2_with fail
                  go_ret
                  exact ⟨by rw [HX.out]; rfl, by first | exact HBA.out | exact HBA.out.drew | exact below_dN HBA.out _⟩
                have z7 : decide (32 < el) = false := decide_eq_false h4
                have H4 := Lib.hid h4
                clear h4
                have HN := Lib.hid (HGOOD.out ⟨fun _ => H1.out, fun h => by omega, H2.out, by have := H3.out; omega, by have := H4.out; omega⟩)
                clear HGOOD HBAD
                go_quiet (fail)
                go_wp2_with fail
                go_roundw
                case rel => exact ⟨0 + 1, by omega, by go_num, by first | exact HBN.out | exact HBN.out.drew | exact below_dN HBN.out _, HN.out⟩
                case measure => simp [intOf]; omega
              · obtain ⟨j, rfl⟩ : ∃ j, k = j + 1 := ⟨k - 1, by omega⟩
                obtain ⟨p0, p1, p2⟩ := entAt (HEA2.out.below Ent.l_len HBW.out) j (by omega)
                obtain ⟨pa, hpa⟩ : ∃ z, (es[j]'(by omega)).at' = z := ⟨_, rfl⟩
                rw [hpa] at p1
                have e3 : (0 : Int) ≤ ((j : Int)) := by omega
                have e4 : (j : Int) + 1 < (n : Int) := by omega
                have e5 : (j : Int) < (n : Int) := by omega
                clear hk0 p0 p2
                go_upto_region 21 with fail
                obtain ⟨w3, hw3⟩ : ∃ w3, wr.alloc (.cells #[.string S, .int .i64 ea, .int .i64 el] 68) = w3 := ⟨_, rfl⟩
                have HE3 := Lib.hid (show w3.heap[wr.heap.size]? = some (.cells #[.string S, .int .i64 ea, .int .i64 el] 68) by rw [← hw3]; exact tok_new _ _)
                have HBB3 := Lib.hid (show Below wr.heap.size wr w3 by rw [← hw3]; exact below_new _ _)
                have HBA := Lib.hid (HBW.out.trans (HBB3.out.mono (by have := HZR.out; omega)))
                have HBN := Lib.hid (HBE.out.trans (HBB3.out.mono HZR.out))
                rw [hw3]
                clear hw3 c0 c1 c2
                replace m0 := cell_below HBB3.out m0
                replace m1 := cell_below HBB3.out m1
                replace p1 := cell_below HBB3.out p1
                obtain ⟨c0, c1, c2⟩ := blk3 HE3.out
                have z1 : ((j : Int) + 1 == 0) = false := by rw [beq_eq_false_iff_ne]; omega
                by_cases h1 : pa < ea
                rotate_left
                · have z4 : decide (ea ≤ pa) = true := decide_eq_true (by omega)
                  have HX := Lib.hid (HBAD.out (fun h => h1 (by have := h.2.1 (by omega); simp only [Nat.add_sub_cancel] at this; rw [hpa] at this; exact this)))
                  clear HGOOD HBAD h1
                  go_quiet (fail)
                  go_wp2_with fail
                  go_ret
                  exact ⟨by rw [HX.out]; rfl, by first | exact HBA.out | exact HBA.out.drew | exact below_dN HBA.out _⟩
                have z4 : decide (ea ≤ pa) = false := decide_eq_false (by omega)
                have H1 := Lib.hid h1
                clear h1
                by_cases h2 : ea < (m : Int)
                rotate_left
                · have z5 : decide ((m : Int) ≤ ea) = true := decide_eq_true (by omega)
                  have HX := Lib.hid (HBAD.out (fun h => h2 h.2.2.1))
                  clear HGOOD HBAD h2
                  go_quiet (fail)
                  go_wp2_with fail
                  go_ret
                  exact ⟨by rw [HX.out]; rfl, by first | exact HBA.out | exact HBA.out.drew | exact below_dN HBA.out _⟩
                have z5 : decide ((m : Int) ≤ ea) = false := decide_eq_false (by omega)
                have H2 := Lib.hid h2
                clear h2
                by_cases h3 : el < 0
                · have z6 : decide (el < 0) = true := decide_eq_true h3
                  have HX := Lib.hid (HBAD.out (fun h => by have := h.2.2.2.1; omega))
                  clear HGOOD HBAD h3
                  go_quiet (fail)
                  go_wp2_with fail
                  go_ret
                  exact ⟨by rw [HX.out]; rfl, by first | exact HBA.out | exact HBA.out.drew | exact below_dN HBA.out _⟩
                have z6 : decide (el < 0) = false := decide_eq_false h3
                have H3 := Lib.hid h3
                clear h3
                by_cases h4 : 32 < el
                · have z7 : decide (32 < el) = true := decide_eq_true h4
                  have HX := Lib.hid (HBAD.out (fun h => by have := h.2.2.2.2; omega))
                  clear HGOOD HBAD h4
                  go_quiet (fail)
                  go_wp2_with fail
                  go_ret
                  exact ⟨by rw [HX.out]; rfl, by first | exact HBA.out | exact HBA.out.drew | exact below_dN HBA.out _⟩
                have z7 : decide (32 < el) = false := decide_eq_false h4
                have H4 := Lib.hid h4
                clear h4
                have HN := Lib.hid (HGOOD.out ⟨fun h => by omega, fun _ => by simp only [Nat.add_sub_cancel]; rw [hpa]; exact H1.out, H2.out, by have := H3.out; omega, by have := H4.out; omega⟩)
                clear HGOOD HBAD hpa
                go_quiet (fail)
                go_wp2_with fail
                go_roundw
                case rel => exact ⟨(j + 1) + 1, by omega, by go_num, by first | exact HBN.out | exact HBN.out.drew | exact below_dN HBN.out _, HN.out⟩
                case measure => simp [intOf]; omega
            · have HRN := Lib.hid (show ∀ j (hj : j < es.length), rnB es m j hj from fun j hj => hall.out j hj (by have := HEN.out; omega))
              clear hall HMR HBW HZR
              have HB2 := HBE
              clear HBE
              go_wp2_with fail
              go_loopw [9] (fun v wr => ∃ k : Nat, k ≤ n ∧ v = .int .i64 (k : Int) ∧ Below (w.heap.size + 1) w1 wr ∧ Hid (∀ j (hj : j < es.length), j < k → segB es is es[j].sl es[j].at'.toNat (toI es is.length j).toNat = true)) (fun v _ => n - (intOf v).toNat)
              case atStart => exact ⟨0, by omega, rfl, HB2.out, Lib.hid (fun _ _ h => absurd h (by omega))⟩
              case round =>
                clear HB2
                obtain ⟨k, hk, rfl, hbel, hall⟩ := hrel
                have HBE := Lib.hid hbel
                have HBW := Lib.hid (HB1.out.trans (hbel.mono (by omega)))
                have HMR := Lib.hid (below_keeps HM1.out (by omega) hbel)
                have HZR := Lib.hid (show w.heap.size + 1 ≤ wr.heap.size by have := HZ1.out; have := hbel.size; omega)
                clear hbel
                by_cases hkn : k < n
                · have hkl : k < es.length := by have := HEN.out; omega
                  obtain ⟨c0, c1, c2⟩ := entAt (HEA2.out.below Ent.l_len HBW.out) k hkl
                  obtain ⟨m0, m1⟩ := cells2 HMR.out
                  obtain ⟨f, t, hf, ht, hft, htm⟩ := rn_nat HRN.out k hkl
                  obtain ⟨sl, hsl⟩ : ∃ z, es[k].sl = z := ⟨_, rfl⟩
                  obtain ⟨B, hB⟩ : ∃ B, segB es is sl f t = B := ⟨_, rfl⟩
                  have HBQ := Lib.hid (show segB es is es[k].sl es[k].at'.toNat (toI es is.length k).toNat = B by rw [HIN.out, hf, ht, hsl]; exact hB)
                  have HSEG := Lib.hid (fun (x : Kept wr) => show Calls Try.prog 33 #[.agg #[.slice (some b) n c, .slice (some a) m d], .int .i64 sl, .int .i64 f, .int .i64 t] x.W (fun e w' => e = .returned (.bool B) ∧ Below x.W.heap.size x.W w') from by
                    have h := rsegment_any (some b) a c d n m es is sl f t HEN.out HIN.out hz hm2 hft htm (fun y hy => ⟨(HI.out y hy).2.1, (HI.out y hy).2.2.2⟩) x.W (Or.inr ⟨b, rfl, (HEA2.out.below Ent.l_len HBW.out).below Ent.l_len x.below⟩) ((HIA2.out.below Ins.l_len HBW.out).below Ins.l_len x.below)
                    rw [hB] at h
                    exact h)
                  have HNXT := Lib.hid (show ∀ (h : k + 1 < es.length), wr.cell? ⟨(b.add ((k + 1) * 3)).block, (b.add ((k + 1) * 3)).off + 1, none⟩ = some (.int .i64 (t : Int)) from fun h => by
                    have := (entAt (HEA2.out.below Ent.l_len HBW.out) (k + 1) h).2.1
                    rw [← ht]
                    unfold toI
                    rw [dif_pos h]
                    exact this)
                  have HLAST := Lib.hid (show ¬ k + 1 < es.length → m = t from fun h => by
                    unfold toI at ht
                    rw [dif_neg h] at ht
                    omega)
                  rw [hf] at c1
                  rw [hsl] at c2
                  have e1 : (0 : Int) ≤ ((k : Int)) := by omega
                  have e2 : (k : Int) < (n : Int) := by omega
                  have hmeas : n - (k + 1) < n - k := by omega
                  have HGOOD := Lib.hid (show B = true → ∀ j (hj : j < es.length), j < k + 1 → segB es is es[j].sl es[j].at'.toNat (toI es is.length j).toNat = true from fun h j hj hjk => by
                    by_cases hjk' : j < k
                    · exact hall.out j hj hjk'
                    · obtain rfl : j = k := by omega
                      rw [HBQ.out, h])
                  have HBAD := Lib.hid (show B = false → R = 20 from fun h => by
                    rw [← HR.out, HRA.out, allB_sg hkl (by rw [HBQ.out, h]), if_neg (by simp)])
                  have k0 := kept_cell m0; have k1 := kept_cell m1; have k2 := kept_cell c1; have k3 := kept_cell c2
                  clear c0 c2 hf ht hsl hB hall HBQ hft htm
                  by_cases hlt : k + 1 < n
                  · have hcn := HNXT.out (by have := HEN.out; omega)
                    have e3 : (k : Int) + 1 < (n : Int) := by omega
                    clear HNXT HLAST
                    go_upto_region 29 with fail
                    cases B
                    · have HX := Lib.hid (HBAD.out rfl)
                      clear HGOOD HBAD
                      refine wp_region_kept (by kernel_rfl) (by kernel_rfl) ?_
                      repeat (go_big_quiet_step ((go_at_call 33; exact Kept.call (HSEG.out _))))
                      refine wpQuiet_nil ?_
                      intro _ hw'
                      obtain ⟨kx, hw''⟩ := hw'
                      subst hw''
                      have HK := Lib.hid (HBE.out.trans (kx.below.mono HZR.out))
                      have HKW := Lib.hid (HBW.out.trans (kx.below.mono (by have := HZR.out; omega)))
                      clear k0 k1 k2 k3 m0 m1
                      go_wp2_with fail
                      go_ret
                      exact ⟨by rw [HX.out]; rfl, HKW.out⟩
                    · have HN := Lib.hid (HGOOD.out rfl)
                      clear HGOOD HBAD
                      refine wp_region_kept (by kernel_rfl) (by kernel_rfl) ?_
                      repeat (go_big_quiet_step ((go_at_call 33; exact Kept.call (HSEG.out _))))
                      refine wpQuiet_nil ?_
                      intro _ hw'
                      obtain ⟨kx, hw''⟩ := hw'
                      subst hw''
                      have HK := Lib.hid (HBE.out.trans (kx.below.mono HZR.out))
                      have HKW := Lib.hid (HBW.out.trans (kx.below.mono (by have := HZR.out; omega)))
                      clear k0 k1 k2 k3 m0 m1
                      go_wp2_with fail
                      go_roundw
                      case rel => exact ⟨k + 1, by omega, by go_num, HK.out, HN⟩
                      case measure => simp [intOf]; omega
                  · obtain rfl : t = m := (HLAST.out (by have := HEN.out; omega)).symm
                    have e3 : ¬ (k : Int) + 1 < (n : Int) := by omega
                    clear HNXT HLAST
                    go_upto_region 29 with fail
                    cases B
                    · have HX := Lib.hid (HBAD.out rfl)
                      clear HGOOD HBAD
                      refine wp_region_kept (by kernel_rfl) (by kernel_rfl) ?_
                      repeat (go_big_quiet_step ((go_at_call 33; exact Kept.call (HSEG.out _))))
                      refine wpQuiet_nil ?_
                      intro _ hw'
                      obtain ⟨kx, hw''⟩ := hw'
                      subst hw''
                      have HK := Lib.hid (HBE.out.trans (kx.below.mono HZR.out))
                      have HKW := Lib.hid (HBW.out.trans (kx.below.mono (by have := HZR.out; omega)))
                      clear k0 k1 k2 k3 m0 m1
                      go_wp2_with fail
                      go_ret
                      exact ⟨by rw [HX.out]; rfl, HKW.out⟩
                    · have HN := Lib.hid (HGOOD.out rfl)
                      clear HGOOD HBAD
                      refine wp_region_kept (by kernel_rfl) (by kernel_rfl) ?_
                      repeat (go_big_quiet_step ((go_at_call 33; exact Kept.call (HSEG.out _))))
                      refine wpQuiet_nil ?_
                      intro _ hw'
                      obtain ⟨kx, hw''⟩ := hw'
                      subst hw''
                      have HK := Lib.hid (HBE.out.trans (kx.below.mono HZR.out))
                      have HKW := Lib.hid (HBW.out.trans (kx.below.mono (by have := HZR.out; omega)))
                      clear k0 k1 k2 k3 m0 m1
                      go_wp2_with fail
                      go_roundw
                      case rel => exact ⟨k + 1, by omega, by go_num, HK.out, HN⟩
                      case measure => simp [intOf]; omega
                · have HX := Lib.hid (show R = 0 by rw [← HR.out, HRA.out, if_pos (allB_yes (fun i hi => by rw [HIN.out]; exact HRN.out i hi) (fun i hi => hall.out i hi (by have := HEN.out; omega)))])
                  go_wp2_with fail
                  go_ret
                  exact ⟨by rw [HX.out]; rfl, HBW.out⟩
end Go.Proofs.Ytcicbijpiffbkaa
