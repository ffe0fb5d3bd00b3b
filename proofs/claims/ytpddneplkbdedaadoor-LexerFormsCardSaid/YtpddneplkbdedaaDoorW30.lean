/- Join of the reference: its walk. -/
import Derived.Test.YtpddneplkbdedaaDoorW29
namespace Go.Proofs.YtpddneplkbdedaaDoor
open Go.RowKit
set_option linter.unusedVariables false
set_option linter.unusedSimpArgs false

def joinR : Bool → Int → List UInt8 → List Tk → List UInt8 × Int
  | _, _, acc, [] => if 4096 < acc.length then ([], 2) else (acc, 0)
  | b, line, acc, t :: ts => if 4096 < t.2.1 - line ∨ 4096 < acc.length then ([], 2) else joinR true t.2.1 (acc ++ piece b line t) ts
theorem joinR_big (b : Bool) (line : Int) (acc : List UInt8) (ts : List Tk) (h : 4096 < acc.length) : joinR b line acc ts = ([], 2) := by
  cases ts with
  | nil => rw [joinR, if_pos h]
  | cons t ts => rw [joinR, if_pos (Or.inr h)]
theorem joinR_eq (ts : List Tk) : ∀ (b : Bool) (line : Int) (acc : List UInt8), acc.length ≤ 4096 → joinR b line acc ts = joinB b line acc ts := by
  induction ts with
  | nil => intro b line acc h; rw [joinR, if_neg (by omega), joinB]
  | cons t ts ih =>
    intro b line acc h
    rw [joinR, joinB]
    by_cases hg : 4096 < t.2.1 - line
    · rw [if_pos (Or.inl hg), if_pos hg]
    · rw [if_neg (by omega), if_neg hg]
      by_cases hl : 4096 < (acc ++ piece b line t).length
      · rw [if_pos hl, joinR_big _ _ _ _ hl]
      · rw [if_neg hl]
        exact ih _ _ _ (by omega)
theorem str_app (x y : List UInt8) : str x ++ str y = str (x ++ y) := str_append x y

def R1 (w : World) (n : Nat) (ts : List Tk) (i j : Value) (wr : World) : Prop :=
  ∃ (k : Nat) (line : Int), i = .int .i64 line ∧ j = .int .i64 (k : Int) ∧ k ≤ n ∧ 1 ≤ line ∧ okT 1 ts = okT line (ts.drop k) ∧ Below w.heap.size w wr
def R2 (n : Nat) (ts : List Tk) (R : List UInt8 × Int) (i s j : Value) : Prop :=
  ∃ (k : Nat) (line : Int) (acc : List UInt8), i = .int .i64 line ∧ s = .string (str acc) ∧ j = .int .i64 (k : Int) ∧ k ≤ n ∧ 1 ≤ line ∧ acc.length ≤ 200000 ∧ joinR (decide (0 < k)) line acc (ts.drop k) = R ∧ okT line (ts.drop k) = true
def R3 (g : Nat) (b : List UInt8) (s j : Value) : Prop := ∃ k : Nat, k ≤ g ∧ j = .int .i64 (k : Int) ∧ s = .string (str (b ++ List.replicate k 10))

set_option maxRecDepth 100000 in
set_option maxHeartbeats 16000000 in
theorem rjoin_at (a : Addr) (n ca : Nat) (ts : List Tk) (hn : ts.length = n) (hn1 : n ≤ 1000000) (hT : ∀ i (h : i < ts.length), ts[i].2.2.length ≤ 100000 ∧ ts[i].2.1 ≤ 9223372036854775807) (w : World) (ha : TokAt w a ts) :
    Calls Tryd.prog 17 #[.slice (some a) n ca] w (JPost w (joinL ts)) := by
  obtain ⟨R, hR⟩ : ∃ R, joinL ts = R := ⟨_, rfl⟩
  rw [hR]
  have HR := Lib.hid hR; have HN := Lib.hid hn; have HTX := Lib.hid hT; have HA := Lib.hid ha
  have h0 := Lib.hid (show R1 w n ts (.int .i64 1) (.int .i64 0) w from ⟨0, 1, rfl, rfl, by omega, by omega, by simp, Below.refl _ _⟩)
  clear hR hn hT ha
  go_enter Tryd.func17, Tryd.ntmps17
  go_wp2_with fail
  go_loopw [4, 5] (fun i j wr => R1 w n ts i j wr) (fun _ j _ => n - (intOf j).toNat)
  case atStart => exact h0.out
  case round =>
    obtain ⟨k, line, rfl, rfl, hk, hl1, hok, hbel⟩ := hrel
    have HE := Lib.hid hbel
    have hz := hbel.size
    have HOK := Lib.hid hok
    clear hok hbel
    by_cases hkn : k < n
    · have hkl : k < ts.length := by have := HN.out; omega
      have hd : ts.drop k = ts[k] :: ts.drop (k + 1) := List.drop_eq_getElem_cons hkl
      have HTA := Lib.hid (TokAt.below HA.out HE.out)
      obtain ⟨c0, c1, c2⟩ := HTA.out k hkl
      have htx := (HTX.out k hkl).1
      obtain ⟨⟨kd, ln, tx⟩, hx⟩ : ∃ t, ts[k] = t := ⟨_, rfl⟩
      have HXX := Lib.hid hx
      rw [hx] at c0 c1 c2 htx hd
      dsimp only at c0 c1 c2 htx
      have e1 : (0 : Int) ≤ (k : Int) := by omega
      have e2 : (k : Int) < (n : Int) := by omega
      have hV := Lib.hid (fun w => form_any kd ln tx htx w)
      rw [form_valid] at hV
      have hok : okT 1 ts = (validT kd tx && !decide (ln < line) && okT ln (ts.drop (k + 1))) := by rw [HOK.out, hd, okT]
      obtain ⟨b, hb⟩ : ∃ b, validT kd tx = b := ⟨_, rfl⟩
      rw [hb] at hV hok
      clear hx hd hb
      cases b
      · have hRR := Lib.hid (show R = ([], 1) by rw [← HR.out]; unfold joinL; rw [hok]; rfl)
        clear hok
        generalize str tx = sx at *
        go_wp2_with fail
        refine (hV.out _).mono ?_
        rintro e w1 ⟨rfl, hb1⟩
        go_wp2_with fail
        go_ret2
        rw [hRR.out]
        exact ⟨rfl, HE.out.trans (hb1.mono hz)⟩
      · by_cases hln : ln < line
        · have hRR := Lib.hid (show R = ([], 1) by rw [← HR.out]; unfold joinL; rw [hok, decide_eq_true hln]; rfl)
          clear hok
          generalize str tx = sx at *
          go_wp2_with fail
          refine (hV.out _).mono ?_
          rintro e w1 ⟨rfl, hb1⟩
          have d0 := cell_below hb1 c0; have d1 := cell_below hb1 c1; have d2 := cell_below hb1 c2
          go_wp2_with fail
          go_ret2
          rw [hRR.out]
          exact ⟨rfl, HE.out.trans (hb1.mono hz)⟩
        · have hst := Lib.hid (show ∀ wr', Below w.heap.size w wr' → R1 w n ts (.int .i64 ln) (.int .i64 ((k : Int) + 1)) wr' from
            fun wr' hb => ⟨k + 1, ln, rfl, by go_num, by omega, by omega, by rw [hok, decide_eq_false hln]; rfl, hb⟩)
          clear hok
          generalize str tx = sx at *
          go_wp2_with fail
          refine (hV.out _).mono ?_
          rintro e w1 ⟨rfl, hb1⟩
          have d0 := cell_below hb1 c0; have d1 := cell_below hb1 c1; have d2 := cell_below hb1 c2
          go_wp2_with fail
          go_roundw
          case rel => exact hst.out _ (HE.out.trans (hb1.mono hz))
          case measure => simp [intOf]; omega
    · have hok : okT 1 ts = true := by rw [HOK.out, List.drop_of_length_le (by have := HN.out; omega)]; rfl
      have hRR : joinR false 1 [] ts = R := by rw [joinR_eq _ _ _ _ (by simp), ← HR.out]; unfold joinL; rw [if_pos hok]
      obtain ⟨wo, rfl⟩ : ∃ wo : World, wo = wr := ⟨_, rfl⟩
      have h2 := Lib.hid (show R2 n ts R (.int .i64 1) (.string { data := #[] }) (.int .i64 0) from
        ⟨0, 1, [], rfl, rfl, rfl, by omega, by omega, by simp, by simpa using hRR, by simpa using hok⟩)
      clear hok hRR
      have hAo := Lib.hid (HA.out.below HE.out)
      go_wp2_with fail
      go_loop [4, 6, 7] (fun i s j => R2 n ts R i s j) (fun _ _ j => n - (intOf j).toNat)
      case atStart => exact h2.out
      case round =>
        clear h2 HOK hkn
        obtain ⟨k, line, acc, rfl, rfl, rfl, hk, hl1, hacc, hR, hok⟩ := hrel
        have hsA : (str acc).size = acc.length := str_size acc
        have hsA2 : (str acc).size ≤ 200000 := by omega
        by_cases hkn : k < n
        · have hkl : k < ts.length := by have := HN.out; omega
          have hd : ts.drop k = ts[k] :: ts.drop (k + 1) := List.drop_eq_getElem_cons hkl
          obtain ⟨c0, c1, c2⟩ := hAo.out k hkl
          have htx := (HTX.out k hkl).1
          have hlm := (HTX.out k hkl).2
          obtain ⟨⟨kd, ln, tx⟩, hx⟩ : ∃ t, ts[k] = t := ⟨_, rfl⟩
          rw [hx] at c0 c1 c2 htx hd hlm
          dsimp only at c0 c1 c2 htx hlm
          have e1 : (0 : Int) ≤ (k : Int) := by omega
          have e2 : (k : Int) < (n : Int) := by omega
          rw [hd, joinR] at hR
          rw [hd, okT, Bool.and_eq_true, Bool.and_eq_true] at hok
          dsimp only at hR hok
          have hll : line ≤ ln := by
            have := hok.1.2
            simp at this
            omega
          have hok2 := Lib.hid hok.2
          clear hx hd hok
          have hsT : (str tx).size = tx.length := str_size tx
          have hsT2 : (str tx).size ≤ 100000 := by omega
          by_cases hg : 4096 < ln - line
          · rw [if_pos (Or.inl hg)] at hR
            have hRR := Lib.hid hR.symm
            clear hR hsA hsT
            generalize str tx = sx at *
            generalize str acc = sa at *
            go_wp2_with fail
            go_ret2
            rw [hRR.out]
            exact ⟨rfl, HE.out⟩
          · by_cases hbig : 4096 < acc.length
            · rw [if_pos (Or.inr hbig)] at hR
              have hRR := Lib.hid hR.symm
              have hbig2 : 4096 < (str acc).size := by omega
              clear hR hsA hsT
              generalize str tx = sx at *
              generalize str acc = sa at *
              go_wp2_with fail
              go_ret2
              rw [hRR.out]
              exact ⟨rfl, HE.out⟩
            · rw [if_neg (by omega)] at hR
              have hbig2 : (str acc).size ≤ 4096 := by omega
              obtain ⟨g, hgg⟩ : ∃ g : Nat, ln - line = (g : Int) := ⟨(ln - line).toNat, by omega⟩
              have hg4 : g ≤ 4096 := by omega
              have hpc : ∀ b, acc ++ piece b line (kd, ln, tx) = acc ++ (if b && ln == line then [32] else []) ++ List.replicate g 10 ++ (if kd = 3 then 34 :: (tx ++ [34]) else tx) := fun b => by
                unfold piece
                dsimp only
                rw [hgg, Int.toNat_natCast]
                by_cases hb : (b && ln == line) = true
                · have h0 : g = 0 := by
                    rw [Bool.and_eq_true, beq_iff_eq] at hb
                    omega
                  rw [hb, h0]; simp
                · rw [show (b && ln == line) = false by simpa using hb]; simp
              rw [hpc] at hR
              have HGG := Lib.hid hgg
              have hg0 : 0 ≤ ln - line := by omega
              have hgl : ln - line ≤ 4096 := by omega
              clear hpc hgg hg hbig
              by_cases hk0 : k = 0
              · have hk2 : (k : Int) ≤ 0 := by omega
                have hkd0 : decide (0 < k) = false := decide_eq_false (by omega)
                rw [hkd0, Bool.false_and, show (if (false = true) then [32] else ([] : List UInt8)) = [] from rfl] at hR
                clear hk0 hkd0
                by_cases hgz : g = 0
                · have hgb : (ln - line == 0) = true := by rw [HGG.out, beq_iff_eq]; omega
                  clear hgz
                  by_cases hkd : kd = 3
                  · subst hkd
                    rw [if_pos rfl] at hR
                    obtain ⟨A1, hA1⟩ : ∃ A, acc ++ [] = A := ⟨_, rfl⟩
                    have hA1l : A1.length ≤ 4097 := by rw [← hA1, List.length_append]; rw [List.length_nil]; omega
                    obtain rfl : acc = A1 := by rw [← hA1, List.append_nil]
                    rw [hA1] at hR
                    have h3 := Lib.hid (show R3 g acc (.string (str acc)) (.int .i64 0) from ⟨0, by omega, rfl, by simp⟩)
                    obtain ⟨A2, hA2⟩ : ∃ A, acc ++ List.replicate g 10 = A := ⟨_, rfl⟩
                    have hA2l : A2.length ≤ 8193 := by rw [← hA2, List.length_append, List.length_replicate]; omega
                    rw [hA2] at hR
                    have HA2 := Lib.hid hA2
                    clear hA1 hA2 hsA
                    generalize hsa : str acc = sa at *
                    have HSA := Lib.hid hsa
                    clear hsa
                    go_wp2_with fail
                    go_loop [6, 9] (fun s j => R3 g acc s j) (fun _ j => g - (intOf j).toNat)
                    case atStart => exact h3.out
                    case round =>
                      clear h3
                      obtain ⟨m, hm, rfl, rfl⟩ := hrel
                      by_cases hmg : m < g
                      · have hmi : (m : Int) < ln - line := by rw [HGG.out]; omega
                        have hq2 : str (acc ++ List.replicate m 10) ++ ⟨#[10]⟩ = str (acc ++ List.replicate (m + 1) 10) := by
                          rw [List.replicate_succ', ← List.append_assoc]; exact str_app _ [10]
                        have hst := Lib.hid (show R3 g acc (.string (str (acc ++ List.replicate (m + 1) 10))) (.int .i64 ((m : Int) + 1)) from ⟨m + 1, by omega, by go_num, rfl⟩)
                        have hbl : (str (acc ++ List.replicate m 10)).size ≤ 9000 := by rw [str_size, List.length_append, List.length_replicate]; omega
                        clear hR hok2
                        generalize str (acc ++ List.replicate m 10) = s1 at *
                        generalize str (acc ++ List.replicate (m + 1) 10) = s2 at *
                        go_wp2_with fail
                        go_round
                        case rel => exact hst.out
                        case measure => simp [intOf]; omega
                      · obtain rfl : m = g := by omega
                        have hmi : ln - line ≤ (m : Int) := by rw [HGG.out]; omega
                        rw [HA2.out]
                        obtain ⟨A3, hA3⟩ : ∃ A, A2 ++ [34] = A := ⟨_, rfl⟩
                        obtain ⟨A4, hA4⟩ : ∃ A, A3 ++ tx = A := ⟨_, rfl⟩
                        obtain ⟨A5, hA5⟩ : ∃ A, A4 ++ [34] = A := ⟨_, rfl⟩
                        have q1 : str A2 ++ ⟨#[34]⟩ = str A3 := by rw [← hA3]; exact str_app A2 [34]
                        have q2 : str A3 ++ str tx = str A4 := by rw [← hA4]; exact str_app A3 tx
                        have q3 : str A4 ++ ⟨#[34]⟩ = str A5 := by rw [← hA5]; exact str_app A4 [34]
                        have hl3 : (str A3).size ≤ 9000 := by rw [str_size, ← hA3, List.length_append, List.length_singleton]; omega
                        have hl4 : (str A4).size ≤ 110000 := by rw [str_size, ← hA4, List.length_append]; rw [str_size] at hl3; omega
                        have hl5 : A5.length ≤ 120000 := by rw [← hA5, List.length_append, List.length_singleton]; rw [str_size] at hl4; omega
                        rw [show A2 ++ 34 :: (tx ++ [34]) = A5 by rw [← hA5, ← hA4, ← hA3]; simp] at hR
                        have hst := Lib.hid (show R2 n ts R (.int .i64 ln) (.string (str A5)) (.int .i64 ((k : Int) + 1)) from
                          ⟨k + 1, ln, A5, rfl, rfl, by go_num, by omega, by omega, by omega, by rw [decide_eq_true (by omega)]; exact hR, hok2.out⟩)
                        have hl2 : (str A2).size ≤ 9000 := by rw [str_size]; omega
                        clear hR hok2 hA3 hA4 hA5 hsT
                        generalize str tx = sx at *
                        generalize str A2 = sA2 at *
                        generalize str A3 = sA3 at *
                        generalize str A4 = sA4 at *
                        generalize str A5 = sA5 at *
                        go_wp2_with fail
                        go_round
                        case rel => exact hst.out
                        case measure => simp [intOf]; omega
                  · rw [if_neg hkd] at hR
                    have hkb : (kd == 3) = false := by simpa using hkd
                    clear hkd
                    obtain ⟨A1, hA1⟩ : ∃ A, acc ++ [] = A := ⟨_, rfl⟩
                    have hA1l : A1.length ≤ 4097 := by rw [← hA1, List.length_append]; rw [List.length_nil]; omega
                    obtain rfl : acc = A1 := by rw [← hA1, List.append_nil]
                    rw [hA1] at hR
                    have h3 := Lib.hid (show R3 g acc (.string (str acc)) (.int .i64 0) from ⟨0, by omega, rfl, by simp⟩)
                    obtain ⟨A2, hA2⟩ : ∃ A, acc ++ List.replicate g 10 = A := ⟨_, rfl⟩
                    have hA2l : A2.length ≤ 8193 := by rw [← hA2, List.length_append, List.length_replicate]; omega
                    rw [hA2] at hR
                    have HA2 := Lib.hid hA2
                    clear hA1 hA2 hsA
                    generalize hsa : str acc = sa at *
                    have HSA := Lib.hid hsa
                    clear hsa
                    go_wp2_with fail
                    go_loop [6, 9] (fun s j => R3 g acc s j) (fun _ j => g - (intOf j).toNat)
                    case atStart => exact h3.out
                    case round =>
                      clear h3
                      obtain ⟨m, hm, rfl, rfl⟩ := hrel
                      by_cases hmg : m < g
                      · have hmi : (m : Int) < ln - line := by rw [HGG.out]; omega
                        have hq2 : str (acc ++ List.replicate m 10) ++ ⟨#[10]⟩ = str (acc ++ List.replicate (m + 1) 10) := by
                          rw [List.replicate_succ', ← List.append_assoc]; exact str_app _ [10]
                        have hst := Lib.hid (show R3 g acc (.string (str (acc ++ List.replicate (m + 1) 10))) (.int .i64 ((m : Int) + 1)) from ⟨m + 1, by omega, by go_num, rfl⟩)
                        have hbl : (str (acc ++ List.replicate m 10)).size ≤ 9000 := by rw [str_size, List.length_append, List.length_replicate]; omega
                        clear hR hok2
                        generalize str (acc ++ List.replicate m 10) = s1 at *
                        generalize str (acc ++ List.replicate (m + 1) 10) = s2 at *
                        go_wp2_with fail
                        go_round
                        case rel => exact hst.out
                        case measure => simp [intOf]; omega
                      · obtain rfl : m = g := by omega
                        have hmi : ln - line ≤ (m : Int) := by rw [HGG.out]; omega
                        rw [HA2.out]
                        obtain ⟨A3, hA3⟩ : ∃ A, A2 ++ tx = A := ⟨_, rfl⟩
                        have q1 : str A2 ++ str tx = str A3 := by rw [← hA3]; exact str_app A2 tx
                        have hl5 : A3.length ≤ 120000 := by rw [← hA3, List.length_append]; omega
                        rw [hA3] at hR
                        have hst := Lib.hid (show R2 n ts R (.int .i64 ln) (.string (str A3)) (.int .i64 ((k : Int) + 1)) from
                          ⟨k + 1, ln, A3, rfl, rfl, by go_num, by omega, by omega, by omega, by rw [decide_eq_true (by omega)]; exact hR, hok2.out⟩)
                        have hl2 : (str A2).size ≤ 9000 := by rw [str_size]; omega
                        clear hR hok2 hA3 hsT
                        generalize str tx = sx at *
                        generalize str A2 = sA2 at *
                        generalize str A3 = sA3 at *
                        go_wp2_with fail
                        go_round
                        case rel => exact hst.out
                        case measure => simp [intOf]; omega
                · have hgb : (ln - line == 0) = false := by rw [HGG.out, beq_eq_false_iff_ne]; omega
                  clear hgz
                  by_cases hkd : kd = 3
                  · subst hkd
                    rw [if_pos rfl] at hR
                    obtain ⟨A1, hA1⟩ : ∃ A, acc ++ [] = A := ⟨_, rfl⟩
                    have hA1l : A1.length ≤ 4097 := by rw [← hA1, List.length_append]; rw [List.length_nil]; omega
                    obtain rfl : acc = A1 := by rw [← hA1, List.append_nil]
                    rw [hA1] at hR
                    have h3 := Lib.hid (show R3 g acc (.string (str acc)) (.int .i64 0) from ⟨0, by omega, rfl, by simp⟩)
                    obtain ⟨A2, hA2⟩ : ∃ A, acc ++ List.replicate g 10 = A := ⟨_, rfl⟩
                    have hA2l : A2.length ≤ 8193 := by rw [← hA2, List.length_append, List.length_replicate]; omega
                    rw [hA2] at hR
                    have HA2 := Lib.hid hA2
                    clear hA1 hA2 hsA
                    generalize hsa : str acc = sa at *
                    have HSA := Lib.hid hsa
                    clear hsa
                    go_wp2_with fail
                    go_loop [6, 9] (fun s j => R3 g acc s j) (fun _ j => g - (intOf j).toNat)
                    case atStart => exact h3.out
                    case round =>
                      clear h3
                      obtain ⟨m, hm, rfl, rfl⟩ := hrel
                      by_cases hmg : m < g
                      · have hmi : (m : Int) < ln - line := by rw [HGG.out]; omega
                        have hq2 : str (acc ++ List.replicate m 10) ++ ⟨#[10]⟩ = str (acc ++ List.replicate (m + 1) 10) := by
                          rw [List.replicate_succ', ← List.append_assoc]; exact str_app _ [10]
                        have hst := Lib.hid (show R3 g acc (.string (str (acc ++ List.replicate (m + 1) 10))) (.int .i64 ((m : Int) + 1)) from ⟨m + 1, by omega, by go_num, rfl⟩)
                        have hbl : (str (acc ++ List.replicate m 10)).size ≤ 9000 := by rw [str_size, List.length_append, List.length_replicate]; omega
                        clear hR hok2
                        generalize str (acc ++ List.replicate m 10) = s1 at *
                        generalize str (acc ++ List.replicate (m + 1) 10) = s2 at *
                        go_wp2_with fail
                        go_round
                        case rel => exact hst.out
                        case measure => simp [intOf]; omega
                      · obtain rfl : m = g := by omega
                        have hmi : ln - line ≤ (m : Int) := by rw [HGG.out]; omega
                        rw [HA2.out]
                        obtain ⟨A3, hA3⟩ : ∃ A, A2 ++ [34] = A := ⟨_, rfl⟩
                        obtain ⟨A4, hA4⟩ : ∃ A, A3 ++ tx = A := ⟨_, rfl⟩
                        obtain ⟨A5, hA5⟩ : ∃ A, A4 ++ [34] = A := ⟨_, rfl⟩
                        have q1 : str A2 ++ ⟨#[34]⟩ = str A3 := by rw [← hA3]; exact str_app A2 [34]
                        have q2 : str A3 ++ str tx = str A4 := by rw [← hA4]; exact str_app A3 tx
                        have q3 : str A4 ++ ⟨#[34]⟩ = str A5 := by rw [← hA5]; exact str_app A4 [34]
                        have hl3 : (str A3).size ≤ 9000 := by rw [str_size, ← hA3, List.length_append, List.length_singleton]; omega
                        have hl4 : (str A4).size ≤ 110000 := by rw [str_size, ← hA4, List.length_append]; rw [str_size] at hl3; omega
                        have hl5 : A5.length ≤ 120000 := by rw [← hA5, List.length_append, List.length_singleton]; rw [str_size] at hl4; omega
                        rw [show A2 ++ 34 :: (tx ++ [34]) = A5 by rw [← hA5, ← hA4, ← hA3]; simp] at hR
                        have hst := Lib.hid (show R2 n ts R (.int .i64 ln) (.string (str A5)) (.int .i64 ((k : Int) + 1)) from
                          ⟨k + 1, ln, A5, rfl, rfl, by go_num, by omega, by omega, by omega, by rw [decide_eq_true (by omega)]; exact hR, hok2.out⟩)
                        have hl2 : (str A2).size ≤ 9000 := by rw [str_size]; omega
                        clear hR hok2 hA3 hA4 hA5 hsT
                        generalize str tx = sx at *
                        generalize str A2 = sA2 at *
                        generalize str A3 = sA3 at *
                        generalize str A4 = sA4 at *
                        generalize str A5 = sA5 at *
                        go_wp2_with fail
                        go_round
                        case rel => exact hst.out
                        case measure => simp [intOf]; omega
                  · rw [if_neg hkd] at hR
                    have hkb : (kd == 3) = false := by simpa using hkd
                    clear hkd
                    obtain ⟨A1, hA1⟩ : ∃ A, acc ++ [] = A := ⟨_, rfl⟩
                    have hA1l : A1.length ≤ 4097 := by rw [← hA1, List.length_append]; rw [List.length_nil]; omega
                    obtain rfl : acc = A1 := by rw [← hA1, List.append_nil]
                    rw [hA1] at hR
                    have h3 := Lib.hid (show R3 g acc (.string (str acc)) (.int .i64 0) from ⟨0, by omega, rfl, by simp⟩)
                    obtain ⟨A2, hA2⟩ : ∃ A, acc ++ List.replicate g 10 = A := ⟨_, rfl⟩
                    have hA2l : A2.length ≤ 8193 := by rw [← hA2, List.length_append, List.length_replicate]; omega
                    rw [hA2] at hR
                    have HA2 := Lib.hid hA2
                    clear hA1 hA2 hsA
                    generalize hsa : str acc = sa at *
                    have HSA := Lib.hid hsa
                    clear hsa
                    go_wp2_with fail
                    go_loop [6, 9] (fun s j => R3 g acc s j) (fun _ j => g - (intOf j).toNat)
                    case atStart => exact h3.out
                    case round =>
                      clear h3
                      obtain ⟨m, hm, rfl, rfl⟩ := hrel
                      by_cases hmg : m < g
                      · have hmi : (m : Int) < ln - line := by rw [HGG.out]; omega
                        have hq2 : str (acc ++ List.replicate m 10) ++ ⟨#[10]⟩ = str (acc ++ List.replicate (m + 1) 10) := by
                          rw [List.replicate_succ', ← List.append_assoc]; exact str_app _ [10]
                        have hst := Lib.hid (show R3 g acc (.string (str (acc ++ List.replicate (m + 1) 10))) (.int .i64 ((m : Int) + 1)) from ⟨m + 1, by omega, by go_num, rfl⟩)
                        have hbl : (str (acc ++ List.replicate m 10)).size ≤ 9000 := by rw [str_size, List.length_append, List.length_replicate]; omega
                        clear hR hok2
                        generalize str (acc ++ List.replicate m 10) = s1 at *
                        generalize str (acc ++ List.replicate (m + 1) 10) = s2 at *
                        go_wp2_with fail
                        go_round
                        case rel => exact hst.out
                        case measure => simp [intOf]; omega
                      · obtain rfl : m = g := by omega
                        have hmi : ln - line ≤ (m : Int) := by rw [HGG.out]; omega
                        rw [HA2.out]
                        obtain ⟨A3, hA3⟩ : ∃ A, A2 ++ tx = A := ⟨_, rfl⟩
                        have q1 : str A2 ++ str tx = str A3 := by rw [← hA3]; exact str_app A2 tx
                        have hl5 : A3.length ≤ 120000 := by rw [← hA3, List.length_append]; omega
                        rw [hA3] at hR
                        have hst := Lib.hid (show R2 n ts R (.int .i64 ln) (.string (str A3)) (.int .i64 ((k : Int) + 1)) from
                          ⟨k + 1, ln, A3, rfl, rfl, by go_num, by omega, by omega, by omega, by rw [decide_eq_true (by omega)]; exact hR, hok2.out⟩)
                        have hl2 : (str A2).size ≤ 9000 := by rw [str_size]; omega
                        clear hR hok2 hA3 hsT
                        generalize str tx = sx at *
                        generalize str A2 = sA2 at *
                        generalize str A3 = sA3 at *
                        go_wp2_with fail
                        go_round
                        case rel => exact hst.out
                        case measure => simp [intOf]; omega
              · have hk1 : 0 < k := by omega
                have hk2 : (0 : Int) < (k : Int) := by omega
                rw [decide_eq_true hk1, Bool.true_and] at hR
                by_cases hlq : ln = line
                · have hlb : (ln == line) = true := by simpa using hlq
                  have hgb : (ln - line == 0) = true := by rw [beq_iff_eq]; omega
                  rw [hlb, show (if (true = true) then [32] else ([] : List UInt8)) = [32] from rfl] at hR
                  clear hlq
                  by_cases hkd : kd = 3
                  · subst hkd
                    rw [if_pos rfl] at hR
                    obtain ⟨A1, hA1⟩ : ∃ A, acc ++ [32] = A := ⟨_, rfl⟩
                    have hA1l : A1.length ≤ 4097 := by rw [← hA1, List.length_append]; rw [List.length_singleton]; omega
                    have hq : str acc ++ ⟨#[32]⟩ = str A1 := by rw [← hA1]; exact str_app acc [32]
                    have hA1s : (str A1).size ≤ 4097 := by rw [str_size]; exact hA1l
                    rw [hA1] at hR
                    have h3 := Lib.hid (show R3 g A1 (.string (str A1)) (.int .i64 0) from ⟨0, by omega, rfl, by simp⟩)
                    obtain ⟨A2, hA2⟩ : ∃ A, A1 ++ List.replicate g 10 = A := ⟨_, rfl⟩
                    have hA2l : A2.length ≤ 8193 := by rw [← hA2, List.length_append, List.length_replicate]; omega
                    rw [hA2] at hR
                    have HA2 := Lib.hid hA2
                    clear hA1 hA2 hsA
                    generalize hsa : str acc = sa at *
                    have HSA := Lib.hid hsa
                    clear hsa
                    obtain ⟨sb, hsb⟩ : ∃ sb, str A1 = sb := ⟨_, rfl⟩
                    rw [hsb] at hq
                    have HSB := Lib.hid hsb
                    clear hsb
                    go_wp2_with fail
                    go_loop [6, 9] (fun s j => R3 g A1 s j) (fun _ j => g - (intOf j).toNat)
                    case atStart => rw [← HSB.out]; exact h3.out
                    case round =>
                      clear h3
                      obtain ⟨m, hm, rfl, rfl⟩ := hrel
                      by_cases hmg : m < g
                      · have hmi : (m : Int) < ln - line := by rw [HGG.out]; omega
                        have hq2 : str (A1 ++ List.replicate m 10) ++ ⟨#[10]⟩ = str (A1 ++ List.replicate (m + 1) 10) := by
                          rw [List.replicate_succ', ← List.append_assoc]; exact str_app _ [10]
                        have hst := Lib.hid (show R3 g A1 (.string (str (A1 ++ List.replicate (m + 1) 10))) (.int .i64 ((m : Int) + 1)) from ⟨m + 1, by omega, by go_num, rfl⟩)
                        have hbl : (str (A1 ++ List.replicate m 10)).size ≤ 9000 := by rw [str_size, List.length_append, List.length_replicate]; omega
                        clear hR hok2
                        generalize str (A1 ++ List.replicate m 10) = s1 at *
                        generalize str (A1 ++ List.replicate (m + 1) 10) = s2 at *
                        go_wp2_with fail
                        go_round
                        case rel => exact hst.out
                        case measure => simp [intOf]; omega
                      · obtain rfl : m = g := by omega
                        have hmi : ln - line ≤ (m : Int) := by rw [HGG.out]; omega
                        rw [HA2.out]
                        obtain ⟨A3, hA3⟩ : ∃ A, A2 ++ [34] = A := ⟨_, rfl⟩
                        obtain ⟨A4, hA4⟩ : ∃ A, A3 ++ tx = A := ⟨_, rfl⟩
                        obtain ⟨A5, hA5⟩ : ∃ A, A4 ++ [34] = A := ⟨_, rfl⟩
                        have q1 : str A2 ++ ⟨#[34]⟩ = str A3 := by rw [← hA3]; exact str_app A2 [34]
                        have q2 : str A3 ++ str tx = str A4 := by rw [← hA4]; exact str_app A3 tx
                        have q3 : str A4 ++ ⟨#[34]⟩ = str A5 := by rw [← hA5]; exact str_app A4 [34]
                        have hl3 : (str A3).size ≤ 9000 := by rw [str_size, ← hA3, List.length_append, List.length_singleton]; omega
                        have hl4 : (str A4).size ≤ 110000 := by rw [str_size, ← hA4, List.length_append]; rw [str_size] at hl3; omega
                        have hl5 : A5.length ≤ 120000 := by rw [← hA5, List.length_append, List.length_singleton]; rw [str_size] at hl4; omega
                        rw [show A2 ++ 34 :: (tx ++ [34]) = A5 by rw [← hA5, ← hA4, ← hA3]; simp] at hR
                        have hst := Lib.hid (show R2 n ts R (.int .i64 ln) (.string (str A5)) (.int .i64 ((k : Int) + 1)) from
                          ⟨k + 1, ln, A5, rfl, rfl, by go_num, by omega, by omega, by omega, by rw [decide_eq_true (by omega)]; exact hR, hok2.out⟩)
                        have hl2 : (str A2).size ≤ 9000 := by rw [str_size]; omega
                        clear hR hok2 hA3 hA4 hA5 hsT
                        generalize str tx = sx at *
                        generalize str A2 = sA2 at *
                        generalize str A3 = sA3 at *
                        generalize str A4 = sA4 at *
                        generalize str A5 = sA5 at *
                        go_wp2_with fail
                        go_round
                        case rel => exact hst.out
                        case measure => simp [intOf]; omega
                  · rw [if_neg hkd] at hR
                    have hkb : (kd == 3) = false := by simpa using hkd
                    clear hkd
                    obtain ⟨A1, hA1⟩ : ∃ A, acc ++ [32] = A := ⟨_, rfl⟩
                    have hA1l : A1.length ≤ 4097 := by rw [← hA1, List.length_append]; rw [List.length_singleton]; omega
                    have hq : str acc ++ ⟨#[32]⟩ = str A1 := by rw [← hA1]; exact str_app acc [32]
                    have hA1s : (str A1).size ≤ 4097 := by rw [str_size]; exact hA1l
                    rw [hA1] at hR
                    have h3 := Lib.hid (show R3 g A1 (.string (str A1)) (.int .i64 0) from ⟨0, by omega, rfl, by simp⟩)
                    obtain ⟨A2, hA2⟩ : ∃ A, A1 ++ List.replicate g 10 = A := ⟨_, rfl⟩
                    have hA2l : A2.length ≤ 8193 := by rw [← hA2, List.length_append, List.length_replicate]; omega
                    rw [hA2] at hR
                    have HA2 := Lib.hid hA2
                    clear hA1 hA2 hsA
                    generalize hsa : str acc = sa at *
                    have HSA := Lib.hid hsa
                    clear hsa
                    obtain ⟨sb, hsb⟩ : ∃ sb, str A1 = sb := ⟨_, rfl⟩
                    rw [hsb] at hq
                    have HSB := Lib.hid hsb
                    clear hsb
                    go_wp2_with fail
                    go_loop [6, 9] (fun s j => R3 g A1 s j) (fun _ j => g - (intOf j).toNat)
                    case atStart => rw [← HSB.out]; exact h3.out
                    case round =>
                      clear h3
                      obtain ⟨m, hm, rfl, rfl⟩ := hrel
                      by_cases hmg : m < g
                      · have hmi : (m : Int) < ln - line := by rw [HGG.out]; omega
                        have hq2 : str (A1 ++ List.replicate m 10) ++ ⟨#[10]⟩ = str (A1 ++ List.replicate (m + 1) 10) := by
                          rw [List.replicate_succ', ← List.append_assoc]; exact str_app _ [10]
                        have hst := Lib.hid (show R3 g A1 (.string (str (A1 ++ List.replicate (m + 1) 10))) (.int .i64 ((m : Int) + 1)) from ⟨m + 1, by omega, by go_num, rfl⟩)
                        have hbl : (str (A1 ++ List.replicate m 10)).size ≤ 9000 := by rw [str_size, List.length_append, List.length_replicate]; omega
                        clear hR hok2
                        generalize str (A1 ++ List.replicate m 10) = s1 at *
                        generalize str (A1 ++ List.replicate (m + 1) 10) = s2 at *
                        go_wp2_with fail
                        go_round
                        case rel => exact hst.out
                        case measure => simp [intOf]; omega
                      · obtain rfl : m = g := by omega
                        have hmi : ln - line ≤ (m : Int) := by rw [HGG.out]; omega
                        rw [HA2.out]
                        obtain ⟨A3, hA3⟩ : ∃ A, A2 ++ tx = A := ⟨_, rfl⟩
                        have q1 : str A2 ++ str tx = str A3 := by rw [← hA3]; exact str_app A2 tx
                        have hl5 : A3.length ≤ 120000 := by rw [← hA3, List.length_append]; omega
                        rw [hA3] at hR
                        have hst := Lib.hid (show R2 n ts R (.int .i64 ln) (.string (str A3)) (.int .i64 ((k : Int) + 1)) from
                          ⟨k + 1, ln, A3, rfl, rfl, by go_num, by omega, by omega, by omega, by rw [decide_eq_true (by omega)]; exact hR, hok2.out⟩)
                        have hl2 : (str A2).size ≤ 9000 := by rw [str_size]; omega
                        clear hR hok2 hA3 hsT
                        generalize str tx = sx at *
                        generalize str A2 = sA2 at *
                        generalize str A3 = sA3 at *
                        go_wp2_with fail
                        go_round
                        case rel => exact hst.out
                        case measure => simp [intOf]; omega
                · have hlb : (ln == line) = false := by simpa using hlq
                  have hgb : (ln - line == 0) = false := by rw [beq_eq_false_iff_ne]; omega
                  rw [hlb, show (if (false = true) then [32] else ([] : List UInt8)) = [] from rfl] at hR
                  clear hlq
                  by_cases hkd : kd = 3
                  · subst hkd
                    rw [if_pos rfl] at hR
                    obtain ⟨A1, hA1⟩ : ∃ A, acc ++ [] = A := ⟨_, rfl⟩
                    have hA1l : A1.length ≤ 4097 := by rw [← hA1, List.length_append]; rw [List.length_nil]; omega
                    obtain rfl : acc = A1 := by rw [← hA1, List.append_nil]
                    rw [hA1] at hR
                    have h3 := Lib.hid (show R3 g acc (.string (str acc)) (.int .i64 0) from ⟨0, by omega, rfl, by simp⟩)
                    obtain ⟨A2, hA2⟩ : ∃ A, acc ++ List.replicate g 10 = A := ⟨_, rfl⟩
                    have hA2l : A2.length ≤ 8193 := by rw [← hA2, List.length_append, List.length_replicate]; omega
                    rw [hA2] at hR
                    have HA2 := Lib.hid hA2
                    clear hA1 hA2 hsA
                    generalize hsa : str acc = sa at *
                    have HSA := Lib.hid hsa
                    clear hsa
                    go_wp2_with fail
                    go_loop [6, 9] (fun s j => R3 g acc s j) (fun _ j => g - (intOf j).toNat)
                    case atStart => exact h3.out
                    case round =>
                      clear h3
                      obtain ⟨m, hm, rfl, rfl⟩ := hrel
                      by_cases hmg : m < g
                      · have hmi : (m : Int) < ln - line := by rw [HGG.out]; omega
                        have hq2 : str (acc ++ List.replicate m 10) ++ ⟨#[10]⟩ = str (acc ++ List.replicate (m + 1) 10) := by
                          rw [List.replicate_succ', ← List.append_assoc]; exact str_app _ [10]
                        have hst := Lib.hid (show R3 g acc (.string (str (acc ++ List.replicate (m + 1) 10))) (.int .i64 ((m : Int) + 1)) from ⟨m + 1, by omega, by go_num, rfl⟩)
                        have hbl : (str (acc ++ List.replicate m 10)).size ≤ 9000 := by rw [str_size, List.length_append, List.length_replicate]; omega
                        clear hR hok2
                        generalize str (acc ++ List.replicate m 10) = s1 at *
                        generalize str (acc ++ List.replicate (m + 1) 10) = s2 at *
                        go_wp2_with fail
                        go_round
                        case rel => exact hst.out
                        case measure => simp [intOf]; omega
                      · obtain rfl : m = g := by omega
                        have hmi : ln - line ≤ (m : Int) := by rw [HGG.out]; omega
                        rw [HA2.out]
                        obtain ⟨A3, hA3⟩ : ∃ A, A2 ++ [34] = A := ⟨_, rfl⟩
                        obtain ⟨A4, hA4⟩ : ∃ A, A3 ++ tx = A := ⟨_, rfl⟩
                        obtain ⟨A5, hA5⟩ : ∃ A, A4 ++ [34] = A := ⟨_, rfl⟩
                        have q1 : str A2 ++ ⟨#[34]⟩ = str A3 := by rw [← hA3]; exact str_app A2 [34]
                        have q2 : str A3 ++ str tx = str A4 := by rw [← hA4]; exact str_app A3 tx
                        have q3 : str A4 ++ ⟨#[34]⟩ = str A5 := by rw [← hA5]; exact str_app A4 [34]
                        have hl3 : (str A3).size ≤ 9000 := by rw [str_size, ← hA3, List.length_append, List.length_singleton]; omega
                        have hl4 : (str A4).size ≤ 110000 := by rw [str_size, ← hA4, List.length_append]; rw [str_size] at hl3; omega
                        have hl5 : A5.length ≤ 120000 := by rw [← hA5, List.length_append, List.length_singleton]; rw [str_size] at hl4; omega
                        rw [show A2 ++ 34 :: (tx ++ [34]) = A5 by rw [← hA5, ← hA4, ← hA3]; simp] at hR
                        have hst := Lib.hid (show R2 n ts R (.int .i64 ln) (.string (str A5)) (.int .i64 ((k : Int) + 1)) from
                          ⟨k + 1, ln, A5, rfl, rfl, by go_num, by omega, by omega, by omega, by rw [decide_eq_true (by omega)]; exact hR, hok2.out⟩)
                        have hl2 : (str A2).size ≤ 9000 := by rw [str_size]; omega
                        clear hR hok2 hA3 hA4 hA5 hsT
                        generalize str tx = sx at *
                        generalize str A2 = sA2 at *
                        generalize str A3 = sA3 at *
                        generalize str A4 = sA4 at *
                        generalize str A5 = sA5 at *
                        go_wp2_with fail
                        go_round
                        case rel => exact hst.out
                        case measure => simp [intOf]; omega
                  · rw [if_neg hkd] at hR
                    have hkb : (kd == 3) = false := by simpa using hkd
                    clear hkd
                    obtain ⟨A1, hA1⟩ : ∃ A, acc ++ [] = A := ⟨_, rfl⟩
                    have hA1l : A1.length ≤ 4097 := by rw [← hA1, List.length_append]; rw [List.length_nil]; omega
                    obtain rfl : acc = A1 := by rw [← hA1, List.append_nil]
                    rw [hA1] at hR
                    have h3 := Lib.hid (show R3 g acc (.string (str acc)) (.int .i64 0) from ⟨0, by omega, rfl, by simp⟩)
                    obtain ⟨A2, hA2⟩ : ∃ A, acc ++ List.replicate g 10 = A := ⟨_, rfl⟩
                    have hA2l : A2.length ≤ 8193 := by rw [← hA2, List.length_append, List.length_replicate]; omega
                    rw [hA2] at hR
                    have HA2 := Lib.hid hA2
                    clear hA1 hA2 hsA
                    generalize hsa : str acc = sa at *
                    have HSA := Lib.hid hsa
                    clear hsa
                    go_wp2_with fail
                    go_loop [6, 9] (fun s j => R3 g acc s j) (fun _ j => g - (intOf j).toNat)
                    case atStart => exact h3.out
                    case round =>
                      clear h3
                      obtain ⟨m, hm, rfl, rfl⟩ := hrel
                      by_cases hmg : m < g
                      · have hmi : (m : Int) < ln - line := by rw [HGG.out]; omega
                        have hq2 : str (acc ++ List.replicate m 10) ++ ⟨#[10]⟩ = str (acc ++ List.replicate (m + 1) 10) := by
                          rw [List.replicate_succ', ← List.append_assoc]; exact str_app _ [10]
                        have hst := Lib.hid (show R3 g acc (.string (str (acc ++ List.replicate (m + 1) 10))) (.int .i64 ((m : Int) + 1)) from ⟨m + 1, by omega, by go_num, rfl⟩)
                        have hbl : (str (acc ++ List.replicate m 10)).size ≤ 9000 := by rw [str_size, List.length_append, List.length_replicate]; omega
                        clear hR hok2
                        generalize str (acc ++ List.replicate m 10) = s1 at *
                        generalize str (acc ++ List.replicate (m + 1) 10) = s2 at *
                        go_wp2_with fail
                        go_round
                        case rel => exact hst.out
                        case measure => simp [intOf]; omega
                      · obtain rfl : m = g := by omega
                        have hmi : ln - line ≤ (m : Int) := by rw [HGG.out]; omega
                        rw [HA2.out]
                        obtain ⟨A3, hA3⟩ : ∃ A, A2 ++ tx = A := ⟨_, rfl⟩
                        have q1 : str A2 ++ str tx = str A3 := by rw [← hA3]; exact str_app A2 tx
                        have hl5 : A3.length ≤ 120000 := by rw [← hA3, List.length_append]; omega
                        rw [hA3] at hR
                        have hst := Lib.hid (show R2 n ts R (.int .i64 ln) (.string (str A3)) (.int .i64 ((k : Int) + 1)) from
                          ⟨k + 1, ln, A3, rfl, rfl, by go_num, by omega, by omega, by omega, by rw [decide_eq_true (by omega)]; exact hR, hok2.out⟩)
                        have hl2 : (str A2).size ≤ 9000 := by rw [str_size]; omega
                        clear hR hok2 hA3 hsT
                        generalize str tx = sx at *
                        generalize str A2 = sA2 at *
                        generalize str A3 = sA3 at *
                        go_wp2_with fail
                        go_round
                        case rel => exact hst.out
                        case measure => simp [intOf]; omega
        · rw [List.drop_of_length_le (by have := HN.out; omega), joinR] at hR
          by_cases hbig : 4096 < acc.length
          · rw [if_pos hbig] at hR
            have hRR := Lib.hid hR.symm
            have hbig2 : 4096 < (str acc).size := by omega
            clear hR hsA
            generalize str acc = sa at *
            go_wp2_with fail
            go_ret2
            rw [hRR.out]
            exact ⟨rfl, HE.out⟩
          · rw [if_neg hbig] at hR
            have hRR := Lib.hid hR.symm
            have hbig2 : (str acc).size ≤ 4096 := by omega
            clear hR hsA
            generalize hsa : str acc = sa at *
            have HSA := Lib.hid hsa
            clear hsa
            go_wp2_with fail
            go_ret2
            rw [hRR.out]
            refine ⟨?_, HE.out⟩
            dsimp only
            rw [HSA.out]
            rfl
end Go.Proofs.YtpddneplkbdedaaDoor

