/- Walks: the reader's number. -/
import Derived.Test.YtmiceolkmiiahaaGreatDoorW23
namespace Go.Proofs.YtmiceolkmiiahaaGreatDoor
open Go.RowKit
set_option linter.unusedVariables false
set_option linter.unusedSimpArgs false
set_option maxRecDepth 100000
set_option maxHeartbeats 8000000

theorem pu_dec : ∀ (l : List UInt8) (acc m : Nat), Lib.decFrom acc l = some m → m < 18446744073709551616 → Lib.parseUint10 acc l = .ok m := by
  intro l
  induction l with
  | nil => intro acc m h _; simp [Lib.decFrom] at h; simp [Lib.parseUint10, h]
  | cons b l ih =>
    intro acc m h hm
    rw [Lib.decFrom] at h
    cases hd : Lib.digitVal b with
    | none => rw [hd] at h; cases h
    | some d =>
      rw [hd] at h
      replace h : Lib.decFrom (acc * 10 + d) l = some m := h
      have hge := decFrom_ge l _ _ h
      have hp : 1 ≤ 10 ^ l.length := Nat.one_le_pow _ _ (by decide)
      have hge2 : (acc * 10 + d) * 1 ≤ (acc * 10 + d) * 10 ^ l.length := Nat.mul_le_mul_left _ hp
      have hb : 48 ≤ b.toNat ∧ b.toNat ≤ 57 ∧ d = b.toNat - 48 := by
        unfold Lib.digitVal at hd
        split at hd
        · injection hd with hd; omega
        · cases hd
      rw [Lib.parseUint10, if_pos (by omega), if_neg (by omega), if_neg (by omega), ← hb.2.2]
      exact ih _ _ h hm
theorem atoi_dec (n : Nat) (h : n ≤ 1000000) : Lib.atoiAll (Lib.decDigits n) = .ok (n : Int) := by
  obtain ⟨c, t, hc, h1, h2⟩ : ∃ c t, Lib.decDigits n = c :: t ∧ c.toNat ≠ 43 ∧ c.toNat ≠ 45 := by
    have hl := (dd_len 6 n (by omega)).1
    cases hd : Lib.decDigits n with
    | nil => rw [hd] at hl; simp at hl
    | cons c t =>
      have := dd_digits n c (by rw [hd]; simp)
      exact ⟨c, t, rfl, by omega, by omega⟩
  have hp := pu_dec _ _ _ (dec_of n) (by omega)
  rw [hc] at hp ⊢
  have hp2 : Lib.parseMag (c :: t) = .ok n := by unfold Lib.parseMag; rw [if_neg (by simp)]; exact hp
  unfold Lib.atoiAll
  simp [h1, h2, hp2]
  omega
/-- What the reader's number takes. -/
def numOk (s : List UInt8) (lo hi : Int) : Prop := lo ≤ numT s ∧ numT s ≤ hi
theorem atoi_i64 {s : List UInt8} {v : Int} (h : Lib.atoiAll s = .ok v) : I64 v := by
  have := Lib.atoiAll_bounds h
  exact ⟨by omega, by omega⟩
theorem num_of {s : List UInt8} {v lo hi : Int} (h : Lib.atoiAll s = .ok v) (h2 : Lib.itoa v = s) (h0 : 0 ≤ lo) (h1 : hi ≤ 1000000) (hl : lo ≤ v) (hh : v ≤ hi) : numOk s lo hi ∧ numT s = v := by
  obtain ⟨n, rfl⟩ : ∃ n : Nat, v = (n : Int) := ⟨v.toNat, by omega⟩
  rw [dec_itoa] at h2
  have := numT_dec n (by omega)
  rw [h2] at this
  exact ⟨⟨by omega, by omega⟩, this⟩



theorem bytes_below (w : World) (t : TypeId) (l : ByteArray) : Below w.heap.size w (Lib.bytesWorld w t l) := Lib.bytesWorld_below _ _ _

theorem number_ok (g : Nat) (s : List UInt8) (lo hi : Int) (h0 : 0 ≤ lo) (h1 : hi ≤ 1000000) (h : numOk s lo hi) (w : World) (hc : Ctx w) :
    KB 39 #[rdP g, .string (str s), .int .i64 lo, .int .i64 hi] (.int .i64 (numT s)) w := by
  obtain ⟨n, hn1, hn2, hn3⟩ := numT_is s (by have := h.1; omega)
  have ha := atoi_dec n hn1
  rw [← hn2] at ha
  have hl := dd_len 6 n (by omega)
  rw [← hn2] at hl
  have hI := Lib.hid (fun w ht => itoa_any (n : Int) ⟨by omega, by omega⟩ w ht)
  rw [dec_itoa, ← hn2] at hI
  have HA := Lib.hid (Tryz.strconv_Atoi_ok (str s) (by rw [str_size]; omega) (n : Int) (by rw [str_data]; exact ha) w)
  rw [hn3]
  obtain ⟨l1, l2⟩ := h
  rw [hn3] at l1 l2
  have HC := Lib.hid hc
  have e1 : ¬ (n : Int) < lo := by omega
  have e2 : ¬ hi < (n : Int) := by omega
  have e3 : ((str s).toList == (str s).toList) = true := by simp
  clear ha hl hn2 hn3 hc
  generalize str s = S at *
  unfold KB
  go_enter Tryz.func39, Tryz.ntmps39
  go_wp2_with fail
  refine HA.out.mono ?_
  rintro e w1 ⟨rfl, hw1⟩
  have hb1 : Below w.heap.size w w1 := by
    rcases hw1 with rfl | ⟨t, rfl⟩
    · exact Below.refl _ _
    · exact bytes_below _ _ _
  have HB1 := Lib.hid hb1
  have HT := Lib.hid (hI.out w1 (HC.out.below hb1).tab)
  clear hw1 hb1
  go_wp2_with fail
  refine HT.out.mono ?_
  rintro e w2 ⟨rfl, hb2⟩
  have HB2 := Lib.hid hb2
  clear hb2
  go_wp2_with fail
  go_ret
  exact ⟨rfl, HB1.out.trans (HB2.out.mono HB1.out.size)⟩
theorem number_bad (g : Nat) (R : List UInt8) (a : Nat) (e : Int) (s : List UInt8) (hs : s.length ≤ 100000) (lo hi : Int) (h0 : 0 ≤ lo) (h1 : hi ≤ 1000000) (h : ¬ numOk s lo hi) (w : World) (ho : Own w g g) (hr : w.heap[g]? = some (rdO R a e)) :
    Calls Tryz.prog 39 #[rdP g, .string (str s), .int .i64 lo, .int .i64 hi] w fun en w' => (∃ v, en = .returned (.int .i64 v)) ∧ w'.heap[g]? = some (rdO R a (if e = 0 then 5 else e)) ∧ Fr g g w w' := by
  have HF := Lib.hid (fail_any g R a e 5)
  have HC := Lib.hid ho.ctx
  have HR := Lib.hid hr
  have HS := Lib.hid hs
  obtain ⟨E, hE⟩ : ∃ E, (if e = 0 then 5 else e) = E := ⟨_, rfl⟩
  rw [hE] at HF ⊢
  clear hE ho hr
  rcases ha : Lib.atoiAll s with v | _ | _
  · have HA := Lib.hid (Tryz.strconv_Atoi_ok (str s) (by rw [str_size]; omega) v (by rw [str_data]; exact ha) w)
    have hI := Lib.hid (fun w ht => itoa_any v (atoi_i64 ha) w ht)
    by_cases his : Lib.itoa v = s
    · have hlh : v < lo ∨ (¬ v < lo ∧ hi < v) := by
        by_cases h3 : v < lo
        · exact Or.inl h3
        · by_cases h4 : hi < v
          · exact Or.inr ⟨h3, h4⟩
          · have := num_of ha his h0 h1 (by omega) (by omega)
            exact absurd this.1 h
      rw [his] at hI
      have e3 : ((str s).toList == (str s).toList) = true := by simp
      clear ha hs h his
      generalize str s = S at *
      rcases hlh with e1 | ⟨e1, e2⟩
      all_goals
        go_enter Tryz.func39, Tryz.ntmps39
        go_wp2_with fail
        refine HA.out.mono ?_
        rintro e w1 ⟨rfl, hw1⟩
        have hb1 : Below w.heap.size w w1 := by
          rcases hw1 with rfl | ⟨t, rfl⟩
          · exact Below.refl _ _
          · exact bytes_below _ _ _
        have HB1 := Lib.hid hb1
        have HT := Lib.hid (hI.out w1 (HC.out.below hb1).tab)
        clear hw1 hb1
        go_wp2_with fail
        refine HT.out.mono ?_
        rintro e w2 ⟨rfl, hb2⟩
        have hg1 : w2.heap[g]? = some _ := block_below hb2 (block_below HB1.out HR.out)
        have HB2 := Lib.hid (HB1.out.trans (hb2.mono HB1.out.size)); have HG := Lib.hid hg1
        clear hb2 hg1
        go_wp2_with fail
        refine (HF.out _ HG.out).mono ?_
        rintro e w3 ⟨rfl, hb3, hf3⟩
        go_wp2_with fail
        go_ret
        exact ⟨⟨_, rfl⟩, hb3, (Fr.of HB2.out (Nat.le_refl _)).trans hf3⟩
    · have e3 : ((str (Lib.itoa v)).toList == (str s).toList) = false := ne_beq _ _ fun e => his (str_inj e)
      have e4 : (str (Lib.itoa v)).size ≤ 30 := by rw [str_size]; have := Lib.itoa_length_le v (atoi_i64 ha).1 (atoi_i64 ha).2; omega
      clear ha hs h his
      generalize str s = S at *
      generalize str (Lib.itoa v) = T at *
      go_enter Tryz.func39, Tryz.ntmps39
      go_wp2_with fail
      refine HA.out.mono ?_
      rintro e w1 ⟨rfl, hw1⟩
      have hb1 : Below w.heap.size w w1 := by
        rcases hw1 with rfl | ⟨t, rfl⟩
        · exact Below.refl _ _
        · exact bytes_below _ _ _
      have HB1 := Lib.hid hb1
      have HT := Lib.hid (hI.out w1 (HC.out.below hb1).tab)
      clear hw1 hb1
      go_wp2_with fail
      refine HT.out.mono ?_
      rintro e w2 ⟨rfl, hb2⟩
      have hg1 : w2.heap[g]? = some _ := block_below hb2 (block_below HB1.out HR.out)
      have HB2 := Lib.hid (HB1.out.trans (hb2.mono HB1.out.size)); have HG := Lib.hid hg1
      clear hb2 hg1
      go_wp2_with fail
      refine (HF.out _ HG.out).mono ?_
      rintro e w3 ⟨rfl, hb3, hf3⟩
      go_wp2_with fail
      go_ret
      exact ⟨⟨_, rfl⟩, hb3, (Fr.of HB2.out (Nat.le_refl _)).trans hf3⟩
  · obtain ⟨ev, hev, hev2⟩ := HC.out.es
    have HA := Lib.hid (Tryz.strconv_Atoi_syntax (str s) (by rw [str_size]; have := HS.out; omega) (fun v => by rw [str_data, ha]; exact fun e => by cases e) (by rw [str_data, ha]; exact fun e => by cases e) ev w hev hev2)
    clear ha hev hev2 h hs
    generalize str s = S at *
    go_enter Tryz.func39, Tryz.ntmps39
    go_wp2_with fail
    refine HA.out.mono ?_
    rintro e w1 ⟨N, rfl, hN, hw1, hb1⟩
    have hg1 : w1.heap[g]? = some _ := block_below hb1 HR.out
    have HB1 := Lib.hid hb1; have HG := Lib.hid hg1
    clear hb1 hg1 hw1 hN
    go_wp2_with fail
    refine (HF.out _ HG.out).mono ?_
    rintro e w2 ⟨rfl, hb2, hf2⟩
    go_wp2_with fail
    go_ret
    exact ⟨⟨_, rfl⟩, hb2, (Fr.of HB1.out (Nat.le_refl _)).trans hf2⟩
  · obtain ⟨ev, hev, hev2⟩ := HC.out.er
    have HA := Lib.hid (Tryz.strconv_Atoi_range (str s) (by rw [str_size]; have := HS.out; omega) (by rw [str_data]; exact ha) ev w hev hev2)
    rw [str_data] at HA
    generalize Lib.atoiSat s = sat at *
    clear ha hev hev2 h hs
    generalize str s = S at *
    go_enter Tryz.func39, Tryz.ntmps39
    go_wp2_with fail
    refine HA.out.mono ?_
    rintro e w1 ⟨N, rfl, hN, hw1, hb1⟩
    have hg1 : w1.heap[g]? = some _ := block_below hb1 HR.out
    have HB1 := Lib.hid hb1; have HG := Lib.hid hg1
    clear hb1 hg1 hw1 hN
    go_wp2_with fail
    refine (HF.out _ HG.out).mono ?_
    rintro e w2 ⟨rfl, hb2, hf2⟩
    go_wp2_with fail
    go_ret
    exact ⟨⟨_, rfl⟩, hb2, (Fr.of HB1.out (Nat.le_refl _)).trans hf2⟩
end Go.Proofs.YtmiceolkmiiahaaGreatDoor
