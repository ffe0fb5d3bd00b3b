/- Walks: the reader's characters. -/
import Derived.Test.YtmiceolkmiiahaaGreatDoorW26
namespace Go.Proofs.YtmiceolkmiiahaaGreatDoor
open Go.RowKit
set_option linter.unusedVariables false
set_option linter.unusedSimpArgs false
set_option maxRecDepth 100000
set_option maxHeartbeats 8000000

def stepE (P : UInt8 → Bool) (e : Int) (c : UInt8) : Int := if P c = true then e else if e = 0 then 5 else e
def foldE (P : UInt8 → Bool) (e : Int) (l : List UInt8) : Int := l.foldl (stepE P) e
theorem foldE_all (P : UInt8 → Bool) (e : Int) (l : List UInt8) (h : l.all P = true) : foldE P e l = e := by
  induction l with
  | nil => rfl
  | cons c l ih =>
    rw [List.all_cons, Bool.and_eq_true] at h
    show foldE P (stepE P e c) l = e
    rw [stepE, if_pos h.1]
    exact ih h.2
theorem foldE_bad (P : UInt8 → Bool) (e : Int) (l : List UInt8) (h : e ≠ 0) : foldE P e l = e := by
  induction l with
  | nil => rfl
  | cons c l ih =>
    show foldE P (stepE P e c) l = e
    have : stepE P e c = e := by
      unfold stepE
      by_cases hc : P c = true
      · rw [if_pos hc]
      · rw [if_neg hc, if_neg h]
    rw [this]
    exact ih
theorem foldE_not (P : UInt8 → Bool) (l : List UInt8) (h : ¬ l.all P = true) : foldE P 0 l = 5 := by
  induction l with
  | nil => simp at h
  | cons c l ih =>
    show foldE P (stepE P 0 c) l = 5
    by_cases hc : P c = true
    · rw [stepE, if_pos hc]
      exact ih fun hh => h (by rw [List.all_cons, hc, hh]; rfl)
    · rw [stepE, if_neg hc, if_pos rfl]
      exact foldE_bad P 5 l (by decide)
theorem foldE_at (P : UInt8 → Bool) (e : Int) (l : List UInt8) (k : Nat) (hk : k < l.length) : foldE P e (l.drop k) = foldE P (stepE P e l[k]) (l.drop (k + 1)) := by
  rw [List.drop_eq_getElem_cons hk]
  rfl
def charsE (P : UInt8 → Bool) (W e : Int) (s : List UInt8) : Int := if e ≠ 0 then e else if (s.length : Int) = W ∧ s.all P = true then 0 else 5
theorem charsE_eq (P : UInt8 → Bool) (W e : Int) (s : List UInt8) (h : (s.length : Int) = W) : foldE P e s = charsE P W e s := by
  unfold charsE
  by_cases he : e = 0
  · subst he
    rw [if_neg (by simp)]
    by_cases ha : s.all P = true
    · rw [if_pos ⟨h, ha⟩, foldE_all P 0 s ha]
    · rw [if_neg (fun hh => ha hh.2), foldE_not P s ha]
  · rw [if_pos he, foldE_bad P e s he]
theorem charsE_ne (P : UInt8 → Bool) (W e : Int) (s : List UInt8) (h : ¬ (s.length : Int) = W) : foldE P (if e = 0 then 5 else e) s = charsE P W e s := by
  unfold charsE
  by_cases he : e = 0
  · subst he
    have := foldE_bad P 5 s (by decide)
    simp [this, h]
  · rw [if_pos he, if_neg he, foldE_bad P e s he]

theorem chars_cells1 (g kb r : Nat) (W : Int) (s : List UInt8) (Q : List UInt8 → Prop) (a1 : Nat) (e1 : Int) (hs : s.length ≤ 100000) (w : World) (hk1 : w.cell? ⟨kb, 0, none⟩ = some (.map (some r))) (hk2 : w.heap[r]? = some (.map kindEs 5)) (hkg : kb ≠ g ∧ r ≠ g)
    (hn : Calls Tryz.prog 66 #[rdP g] w fun en w' => en = .returned (.string (str s)) ∧ (∃ R1, Q R1 ∧ w'.heap[g]? = some (rdO R1 a1 e1)) ∧ Fr g g w w') :
    Calls Tryz.prog 68 #[rdP g, .int .i64 W, .func (.func 69) #[] #[.pointer (some ⟨kb, 0, none⟩)]] w fun en w' => en = .returned (.string (str s)) ∧ (∃ R1, Q R1 ∧ w'.heap[g]? = some (rdO R1 a1 (charsE isKind W e1 s))) ∧ Fr g g w w' := by
  have HN := Lib.hid hn
  obtain ⟨n, hn0⟩ : ∃ n, s.length = n := ⟨_, rfl⟩
  have hsz : (str s).size = n := by rw [str_size, hn0]
  have hge : ∀ k (h : k < (str s).size), (str s)[k] = s[k]'h := fun k h => rfl
  have HLn := Lib.hid hn0; have HGE := Lib.hid hge; have HSZ := Lib.hid hsz
  have hE1 := Lib.hid (fun h => charsE_eq isKind W e1 s h)
  have hE2 := Lib.hid (fun h => charsE_ne isKind W e1 s h)
  obtain ⟨E, hE⟩ : ∃ E, charsE isKind W e1 s = E := ⟨_, rfl⟩
  rw [hE] at hE1 hE2 ⊢
  rw [hn0] at hs hE1 hE2
  have HK1 := Lib.hid hk1; have HK2 := Lib.hid hk2; have HKG := Lib.hid hkg
  clear hk1 hk2 hkg
  obtain ⟨S, hS⟩ : ∃ S, str s = S := ⟨_, rfl⟩
  have HS := Lib.hid hS
  rw [hS] at HN HSZ hsz ⊢
  clear hn hE hn0 hge hS
  have hszi : (S.size : Int) = (n : Int) := by omega
  clear hsz
  by_cases hl : (n : Int) = W
  · have e0 : ((n : Int) != W) = false := by simpa using hl
    have h0 := Lib.hid (hE1.out hl)
    clear hE1 hE2 hl
    go_enter Tryz.func68, Tryz.ntmps68
    go_wp2_with fail
    refine HN.out.mono ?_
    rintro e w1 ⟨rfl, ⟨R1, hQ, hw1⟩, hf1⟩
    have HF1 := Lib.hid hf1; have HW1 := Lib.hid hw1; have HQ := Lib.hid hQ
    clear hf1 hw1 hQ
    go_wp2_with fail
    go_loopw [19] (fun v wr => ∃ k : Nat, k ≤ n ∧ v = .int .i64 (k : Int) ∧ Fr g g w wr ∧ ∃ ek, wr.heap[g]? = some (rdO R1 a1 ek) ∧ Hid (foldE isKind ek (s.drop k) = E)) (fun v _ => n - (intOf v).toNat)
    case atStart => exact ⟨0, by omega, rfl, HF1.out, _, HW1.out, h0⟩
    case round =>
      obtain ⟨k, hk, rfl, hfr, ek, hb, hall⟩ := hrel
      have HE := Lib.hid hfr; have HB := Lib.hid hb
      by_cases hkn : k < n
      · have hkl : k < s.length := by have := HLn.out; omega
        have hkS : k < S.size := by omega
        have hge : S[k] = s[k] := by have h := HS.out; subst h; rfl
        have hstep := foldE_at isKind ek s k hkl
        rw [hall.out] at hstep
        rw [← hge] at hstep
        obtain ⟨c, hc⟩ : ∃ c, S[k] = c := ⟨_, rfl⟩
        rw [hc] at hstep
        have e1 : (0 : Int) ≤ ((k : Int)) := by omega
        have e2 : (k : Int) < (n : Int) := by omega
        have HX := Lib.hid (cells1_any kb r c wr (hfr.cell HKG.out.1 HKG.out.1 HK1.out) (hfr.at HKG.out.2 HKG.out.2 HK2.out))
        by_cases hp : isKind c = true
        · rw [stepE, if_pos hp] at hstep
          have HT := Lib.hid hstep.symm
          rw [hp] at HX
          clear hstep hge hp hfr hb
          go_wp2_with fail
          refine HX.out.mono ?_
          rintro e w2 ⟨rfl, rfl⟩
          go_wp2_with fail
          go_roundw
          case rel => exact ⟨k + 1, by omega, by go_num, HE.out, ek, HB.out, HT⟩
          case measure => simp [intOf]; omega
        · replace hp : isKind c = false := by simpa using hp
          rw [stepE, hp, if_neg (by simp)] at hstep
          have HT := Lib.hid hstep.symm
          rw [hp] at HX
          clear hstep hge hp hfr hb
          go_wp2_with fail
          refine HX.out.mono ?_
          rintro e w2 ⟨rfl, rfl⟩
          go_wp2_with fail
          refine (fail_any g R1 a1 ek 5 _ HB.out).mono ?_
          rintro e w2 ⟨rfl, hw2, hf2⟩
          have HW2 := Lib.hid hw2; have HF2 := Lib.hid hf2
          clear hw2 hf2
          go_wp2_with fail
          go_roundw
          case rel => exact ⟨k + 1, by omega, by go_num, HE.out.trans HF2.out, _, HW2.out, HT⟩
          case measure => simp [intOf]; omega
      · have hdr : s.drop k = [] := List.drop_eq_nil_of_le (by have := HLn.out; omega)
        have hek := hall.out
        rw [hdr] at hek
        replace hek : ek = E := hek
        subst hek
        clear hdr hfr hb
        go_wp2_with fail
        go_ret
        exact ⟨rfl, ⟨R1, HQ.out, HB.out⟩, HE.out⟩
  · have e0 : ((n : Int) != W) = true := by simpa using hl
    have h0 := Lib.hid (hE2.out hl)
    clear hE1 hE2 hl
    go_enter Tryz.func68, Tryz.ntmps68
    go_wp2_with fail
    refine HN.out.mono ?_
    rintro e w1' ⟨rfl, ⟨R1, hQ, hw1⟩, hf1⟩
    have HF1' := Lib.hid hf1; have HW1' := Lib.hid hw1; have HQ := Lib.hid hQ
    clear hf1 hw1 hQ
    go_wp2_with fail
    refine (fail_any g R1 a1 e1 5 _ HW1'.out).mono ?_
    rintro e w1 ⟨rfl, hw1, hf1⟩
    have HF1 := Lib.hid (HF1'.out.trans hf1); have HW1 := Lib.hid hw1
    clear hf1 hw1
    go_wp2_with fail
    go_loopw [19] (fun v wr => ∃ k : Nat, k ≤ n ∧ v = .int .i64 (k : Int) ∧ Fr g g w wr ∧ ∃ ek, wr.heap[g]? = some (rdO R1 a1 ek) ∧ Hid (foldE isKind ek (s.drop k) = E)) (fun v _ => n - (intOf v).toNat)
    case atStart => exact ⟨0, by omega, rfl, HF1.out, _, HW1.out, h0⟩
    case round =>
      obtain ⟨k, hk, rfl, hfr, ek, hb, hall⟩ := hrel
      have HE := Lib.hid hfr; have HB := Lib.hid hb
      by_cases hkn : k < n
      · have hkl : k < s.length := by have := HLn.out; omega
        have hkS : k < S.size := by omega
        have hge : S[k] = s[k] := by have h := HS.out; subst h; rfl
        have hstep := foldE_at isKind ek s k hkl
        rw [hall.out] at hstep
        rw [← hge] at hstep
        obtain ⟨c, hc⟩ : ∃ c, S[k] = c := ⟨_, rfl⟩
        rw [hc] at hstep
        have e1 : (0 : Int) ≤ ((k : Int)) := by omega
        have e2 : (k : Int) < (n : Int) := by omega
        have HX := Lib.hid (cells1_any kb r c wr (hfr.cell HKG.out.1 HKG.out.1 HK1.out) (hfr.at HKG.out.2 HKG.out.2 HK2.out))
        by_cases hp : isKind c = true
        · rw [stepE, if_pos hp] at hstep
          have HT := Lib.hid hstep.symm
          rw [hp] at HX
          clear hstep hge hp hfr hb
          go_wp2_with fail
          refine HX.out.mono ?_
          rintro e w2 ⟨rfl, rfl⟩
          go_wp2_with fail
          go_roundw
          case rel => exact ⟨k + 1, by omega, by go_num, HE.out, ek, HB.out, HT⟩
          case measure => simp [intOf]; omega
        · replace hp : isKind c = false := by simpa using hp
          rw [stepE, hp, if_neg (by simp)] at hstep
          have HT := Lib.hid hstep.symm
          rw [hp] at HX
          clear hstep hge hp hfr hb
          go_wp2_with fail
          refine HX.out.mono ?_
          rintro e w2 ⟨rfl, rfl⟩
          go_wp2_with fail
          refine (fail_any g R1 a1 ek 5 _ HB.out).mono ?_
          rintro e w2 ⟨rfl, hw2, hf2⟩
          have HW2 := Lib.hid hw2; have HF2 := Lib.hid hf2
          clear hw2 hf2
          go_wp2_with fail
          go_roundw
          case rel => exact ⟨k + 1, by omega, by go_num, HE.out.trans HF2.out, _, HW2.out, HT⟩
          case measure => simp [intOf]; omega
      · have hdr : s.drop k = [] := List.drop_eq_nil_of_le (by have := HLn.out; omega)
        have hek := hall.out
        rw [hdr] at hek
        replace hek : ek = E := hek
        subst hek
        clear hdr hfr hb
        go_wp2_with fail
        go_ret
        exact ⟨rfl, ⟨R1, HQ.out, HB.out⟩, HE.out⟩

theorem chars_cells2 (g : Nat) (W : Int) (s : List UInt8) (Q : List UInt8 → Prop) (a1 : Nat) (e1 : Int) (hs : s.length ≤ 100000) (w : World) 
    (hn : Calls Tryz.prog 66 #[rdP g] w fun en w' => en = .returned (.string (str s)) ∧ (∃ R1, Q R1 ∧ w'.heap[g]? = some (rdO R1 a1 e1)) ∧ Fr g g w w') :
    Calls Tryz.prog 68 #[rdP g, .int .i64 W, .func (.func 70) #[] #[]] w fun en w' => en = .returned (.string (str s)) ∧ (∃ R1, Q R1 ∧ w'.heap[g]? = some (rdO R1 a1 (charsE isHigh W e1 s))) ∧ Fr g g w w' := by
  have HN := Lib.hid hn
  obtain ⟨n, hn0⟩ : ∃ n, s.length = n := ⟨_, rfl⟩
  have hsz : (str s).size = n := by rw [str_size, hn0]
  have hge : ∀ k (h : k < (str s).size), (str s)[k] = s[k]'h := fun k h => rfl
  have HLn := Lib.hid hn0; have HGE := Lib.hid hge; have HSZ := Lib.hid hsz
  have hE1 := Lib.hid (fun h => charsE_eq isHigh W e1 s h)
  have hE2 := Lib.hid (fun h => charsE_ne isHigh W e1 s h)
  obtain ⟨E, hE⟩ : ∃ E, charsE isHigh W e1 s = E := ⟨_, rfl⟩
  rw [hE] at hE1 hE2 ⊢
  rw [hn0] at hs hE1 hE2
  obtain ⟨S, hS⟩ : ∃ S, str s = S := ⟨_, rfl⟩
  have HS := Lib.hid hS
  rw [hS] at HN HSZ hsz ⊢
  clear hn hE hn0 hge hS
  have hszi : (S.size : Int) = (n : Int) := by omega
  clear hsz
  by_cases hl : (n : Int) = W
  · have e0 : ((n : Int) != W) = false := by simpa using hl
    have h0 := Lib.hid (hE1.out hl)
    clear hE1 hE2 hl
    go_enter Tryz.func68, Tryz.ntmps68
    go_wp2_with fail
    refine HN.out.mono ?_
    rintro e w1 ⟨rfl, ⟨R1, hQ, hw1⟩, hf1⟩
    have HF1 := Lib.hid hf1; have HW1 := Lib.hid hw1; have HQ := Lib.hid hQ
    clear hf1 hw1 hQ
    go_wp2_with fail
    go_loopw [19] (fun v wr => ∃ k : Nat, k ≤ n ∧ v = .int .i64 (k : Int) ∧ Fr g g w wr ∧ ∃ ek, wr.heap[g]? = some (rdO R1 a1 ek) ∧ Hid (foldE isHigh ek (s.drop k) = E)) (fun v _ => n - (intOf v).toNat)
    case atStart => exact ⟨0, by omega, rfl, HF1.out, _, HW1.out, h0⟩
    case round =>
      obtain ⟨k, hk, rfl, hfr, ek, hb, hall⟩ := hrel
      have HE := Lib.hid hfr; have HB := Lib.hid hb
      by_cases hkn : k < n
      · have hkl : k < s.length := by have := HLn.out; omega
        have hkS : k < S.size := by omega
        have hge : S[k] = s[k] := by have h := HS.out; subst h; rfl
        have hstep := foldE_at isHigh ek s k hkl
        rw [hall.out] at hstep
        rw [← hge] at hstep
        obtain ⟨c, hc⟩ : ∃ c, S[k] = c := ⟨_, rfl⟩
        rw [hc] at hstep
        have e1 : (0 : Int) ≤ ((k : Int)) := by omega
        have e2 : (k : Int) < (n : Int) := by omega
        have HX := Lib.hid (cells2_any' c wr)
        by_cases hp : isHigh c = true
        · rw [stepE, if_pos hp] at hstep
          have HT := Lib.hid hstep.symm
          rw [hp] at HX
          clear hstep hge hp hfr hb
          go_wp2_with fail
          refine HX.out.mono ?_
          rintro e w2 ⟨rfl, rfl⟩
          go_wp2_with fail
          go_roundw
          case rel => exact ⟨k + 1, by omega, by go_num, HE.out, ek, HB.out, HT⟩
          case measure => simp [intOf]; omega
        · replace hp : isHigh c = false := by simpa using hp
          rw [stepE, hp, if_neg (by simp)] at hstep
          have HT := Lib.hid hstep.symm
          rw [hp] at HX
          clear hstep hge hp hfr hb
          go_wp2_with fail
          refine HX.out.mono ?_
          rintro e w2 ⟨rfl, rfl⟩
          go_wp2_with fail
          refine (fail_any g R1 a1 ek 5 _ HB.out).mono ?_
          rintro e w2 ⟨rfl, hw2, hf2⟩
          have HW2 := Lib.hid hw2; have HF2 := Lib.hid hf2
          clear hw2 hf2
          go_wp2_with fail
          go_roundw
          case rel => exact ⟨k + 1, by omega, by go_num, HE.out.trans HF2.out, _, HW2.out, HT⟩
          case measure => simp [intOf]; omega
      · have hdr : s.drop k = [] := List.drop_eq_nil_of_le (by have := HLn.out; omega)
        have hek := hall.out
        rw [hdr] at hek
        replace hek : ek = E := hek
        subst hek
        clear hdr hfr hb
        go_wp2_with fail
        go_ret
        exact ⟨rfl, ⟨R1, HQ.out, HB.out⟩, HE.out⟩
  · have e0 : ((n : Int) != W) = true := by simpa using hl
    have h0 := Lib.hid (hE2.out hl)
    clear hE1 hE2 hl
    go_enter Tryz.func68, Tryz.ntmps68
    go_wp2_with fail
    refine HN.out.mono ?_
    rintro e w1' ⟨rfl, ⟨R1, hQ, hw1⟩, hf1⟩
    have HF1' := Lib.hid hf1; have HW1' := Lib.hid hw1; have HQ := Lib.hid hQ
    clear hf1 hw1 hQ
    go_wp2_with fail
    refine (fail_any g R1 a1 e1 5 _ HW1'.out).mono ?_
    rintro e w1 ⟨rfl, hw1, hf1⟩
    have HF1 := Lib.hid (HF1'.out.trans hf1); have HW1 := Lib.hid hw1
    clear hf1 hw1
    go_wp2_with fail
    go_loopw [19] (fun v wr => ∃ k : Nat, k ≤ n ∧ v = .int .i64 (k : Int) ∧ Fr g g w wr ∧ ∃ ek, wr.heap[g]? = some (rdO R1 a1 ek) ∧ Hid (foldE isHigh ek (s.drop k) = E)) (fun v _ => n - (intOf v).toNat)
    case atStart => exact ⟨0, by omega, rfl, HF1.out, _, HW1.out, h0⟩
    case round =>
      obtain ⟨k, hk, rfl, hfr, ek, hb, hall⟩ := hrel
      have HE := Lib.hid hfr; have HB := Lib.hid hb
      by_cases hkn : k < n
      · have hkl : k < s.length := by have := HLn.out; omega
        have hkS : k < S.size := by omega
        have hge : S[k] = s[k] := by have h := HS.out; subst h; rfl
        have hstep := foldE_at isHigh ek s k hkl
        rw [hall.out] at hstep
        rw [← hge] at hstep
        obtain ⟨c, hc⟩ : ∃ c, S[k] = c := ⟨_, rfl⟩
        rw [hc] at hstep
        have e1 : (0 : Int) ≤ ((k : Int)) := by omega
        have e2 : (k : Int) < (n : Int) := by omega
        have HX := Lib.hid (cells2_any' c wr)
        by_cases hp : isHigh c = true
        · rw [stepE, if_pos hp] at hstep
          have HT := Lib.hid hstep.symm
          rw [hp] at HX
          clear hstep hge hp hfr hb
          go_wp2_with fail
          refine HX.out.mono ?_
          rintro e w2 ⟨rfl, rfl⟩
          go_wp2_with fail
          go_roundw
          case rel => exact ⟨k + 1, by omega, by go_num, HE.out, ek, HB.out, HT⟩
          case measure => simp [intOf]; omega
        · replace hp : isHigh c = false := by simpa using hp
          rw [stepE, hp, if_neg (by simp)] at hstep
          have HT := Lib.hid hstep.symm
          rw [hp] at HX
          clear hstep hge hp hfr hb
          go_wp2_with fail
          refine HX.out.mono ?_
          rintro e w2 ⟨rfl, rfl⟩
          go_wp2_with fail
          refine (fail_any g R1 a1 ek 5 _ HB.out).mono ?_
          rintro e w2 ⟨rfl, hw2, hf2⟩
          have HW2 := Lib.hid hw2; have HF2 := Lib.hid hf2
          clear hw2 hf2
          go_wp2_with fail
          go_roundw
          case rel => exact ⟨k + 1, by omega, by go_num, HE.out.trans HF2.out, _, HW2.out, HT⟩
          case measure => simp [intOf]; omega
      · have hdr : s.drop k = [] := List.drop_eq_nil_of_le (by have := HLn.out; omega)
        have hek := hall.out
        rw [hdr] at hek
        replace hek : ek = E := hek
        subst hek
        clear hdr hfr hb
        go_wp2_with fail
        go_ret
        exact ⟨rfl, ⟨R1, HQ.out, HB.out⟩, HE.out⟩
end Go.Proofs.YtmiceolkmiiahaaGreatDoor
