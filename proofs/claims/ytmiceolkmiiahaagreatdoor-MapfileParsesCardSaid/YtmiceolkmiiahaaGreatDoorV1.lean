/- Walks: the reference's number and find. Walks: the reference's Parts. -/
import Derived.Test.YtmiceolkmiiahaaGreatDoorP7
import Derived.Test.YtmiceolkmiiahaaGreatDoorW38
import Derived.Test.YtmiceolkmiiahaaGreatDoorW39
import Derived.Deep.AppendLies
namespace Go.Proofs.YtmiceolkmiiahaaGreatDoor
open Go.RowKit
set_option linter.unusedVariables false
set_option linter.unusedSimpArgs false
set_option maxRecDepth 100000
set_option maxHeartbeats 8000000

theorem str_at (l : List UInt8) (k : Nat) (h1 : k < (str l).size) (h2 : k < l.length) : (str l)[k] = l[k] := rfl
theorem rnumber_any (l : List UInt8) (hz : l.length ≤ 100000) : KC 71 #[.string (str l)] (.int .i64 (numT l)) := by
  intro w
  obtain ⟨S, hS⟩ : ∃ S, str l = S := ⟨_, rfl⟩
  have HSz := Lib.hid (show S.size = l.length by rw [← hS, str_size])
  have HSg := Lib.hid (show ∀ k (h1 : k < S.size) (h2 : k < l.length), S[k] = l[k] by subst hS; exact fun k h1 h2 => str_at l k h1 h2)
  have hsz : S.size ≤ 100000 := by have := HSz.out; omega
  obtain ⟨r, hr⟩ : ∃ r, numT l = r := ⟨_, rfl⟩
  have HR := Lib.hid hr
  rw [hS, hr]
  clear hS hr
  by_cases h1 : S.size < 1
  · have e1 : (S.size : Int) < 1 := by omega
    have hr : r = -1 := by rw [← HR.out]; exact numT_bad (Or.inl (by have := HSz.out; omega))
    have HRr := Lib.hid hr
    clear hr
    go_enter Tryz.func71, Tryz.ntmps71
    go_wp2_with fail
    go_ret
    exact ⟨by rw [HRr.out]; rfl, rfl⟩
  have e1 : ¬ (S.size : Int) < 1 := by omega
  by_cases h2 : 7 < S.size
  · have e2 : (7 : Int) < (S.size : Int) := by omega
    have hr : r = -1 := by rw [← HR.out]; exact numT_bad (Or.inr (Or.inl (by have := HSz.out; omega)))
    have HRr := Lib.hid hr
    clear hr
    go_enter Tryz.func71, Tryz.ntmps71
    go_wp2_with fail
    go_ret
    exact ⟨by rw [HRr.out]; rfl, rfl⟩
  have e2 : ¬ (7 : Int) < (S.size : Int) := by omega
  have h0 : 0 < S.size := by omega
  have h0l : 0 < l.length := by have := HSz.out; omega
  have hS0 := HSg.out 0 h0 h0l
  have hl0 : l[0]? = some l[0] := List.getElem?_eq_getElem h0l
  have hgo : ¬ (1 < S.size ∧ S[0].toNat = 48) → Calls Tryz.prog 71 #[.string S] w (fun e w' => e = .returned (.int .i64 r) ∧ w = w') := by
    intro h3
    have HOK := Lib.hid (show ¬ (l.length < 1 ∨ 7 < l.length ∨ (1 < l.length ∧ l[0]? = some 48)) by
      rintro (h | h | ⟨h, h'⟩)
      · have := HSz.out; omega
      · have := HSz.out; omega
      · refine h3 ⟨by have := HSz.out; omega, ?_⟩
        rw [hl0] at h'
        injection h' with h'
        rw [hS0, h']
        rfl)
    clear hl0 hS0
    have hst : ∀ (Q : Prop), (((1 : Int) < (S.size : Int)) → ((S[0].toNat : Int) == 48) = false → Q) → ((¬ (1 : Int) < (S.size : Int)) → Q) → Q := fun Q f g => by
      by_cases h : (1 : Int) < (S.size : Int)
      · exact f h (by rw [beq_eq_false_iff_ne]; intro e; exact h3 ⟨by omega, by omega⟩)
      · exact g h
    clear h3
    refine hst _ (fun e3 e4 => ?_) (fun e3 => ?_)
    all_goals
      clear hst
      go_enter Tryz.func71, Tryz.ntmps71
      go_wp2_with fail
      go_loop [3, 4] (fun n i => ∃ k m : Nat, k ≤ S.size ∧ n = .int .i64 (m : Int) ∧ i = .int .i64 (k : Int) ∧ m < 10000000 ∧ Hid (Lib.decFrom 0 (l.take k) = some m)) (fun n i => S.size - (intOf i).toNat)
      case atStart => exact ⟨0, 0, by omega, rfl, rfl, by omega, Lib.hid rfl⟩
      case round =>
        obtain ⟨k, m, hk, rfl, rfl, hm, hdec⟩ := hrel
        by_cases hkn : k < S.size
        · have hkl : k < l.length := by have := HSz.out; omega
          have HB := Lib.hid (HSg.out k hkn hkl)
          have i1 : (0 : Int) ≤ ((k : Int)) := by omega
          have i2 : (k : Int) < (S.size : Int) := by omega
          have no : ¬ (48 ≤ S[k].toNat ∧ S[k].toNat ≤ 57) → Hid (r = -1) := fun h => Lib.hid (by
            rw [← HR.out]
            have hd := dec_step hkl hdec.out
            rw [digit_no (by rw [← HB.out]; exact h)] at hd
            exact numT_none (dec_none hd))
          by_cases a1 : (S[k].toNat : Int) < 48
          · have HN := no (by omega)
            clear no
            go_wp2_with fail
            go_ret
            exact ⟨by rw [HN.out]; rfl, rfl⟩
          · by_cases a2 : (57 : Int) < (S[k].toNat : Int)
            · have HN := no (by omega)
              clear no
              go_wp2_with fail
              go_ret
              exact ⟨by rw [HN.out]; rfl, rfl⟩
            · have hd := dec_step hkl hdec.out
              rw [digit_yes (by rw [← HB.out]; omega), ← HB.out, Option.map_some] at hd
              obtain ⟨d, hdd⟩ : ∃ d, S[k].toNat - 48 = d := ⟨_, rfl⟩
              rw [hdd] at hd
              have hm2 := dec_bound (by have := HSz.out; omega) hd
              obtain ⟨m10, hm10⟩ : ∃ x, m * 10 = x := ⟨_, rfl⟩
              obtain ⟨m2, hmm⟩ : ∃ x, m10 + d = x := ⟨_, rfl⟩
              rw [hm10, hmm] at hd hm2
              have w1 : IntKind.i64.wrap ((m : Int) * 10) = (m10 : Int) := by rw [IntKind.wrap_i64]; omega
              have w2 : IntKind.u8.wrap ((S[k].toNat : Int) - 48) = (d : Int) := by rw [IntKind.wrap_u8]; omega
              have w3 : IntKind.i64.wrap (d : Int) = (d : Int) := by rw [IntKind.wrap_i64]; omega
              have w4 : IntKind.i64.wrap ((m10 : Int) + (d : Int)) = (m2 : Int) := by rw [IntKind.wrap_i64]; omega
              have HD := Lib.hid hd
              clear no hd hdd hm10 hmm
              go_wp2_with fail
              go_round
              case rel => exact ⟨k + 1, m2, by omega, rfl, by go_num, hm2, HD⟩
              case measure => simp [intOf]; omega
        · have hd := hdec.out
          rw [List.take_of_length_le (by have := HSz.out; omega)] at hd
          have hnt := numT_some HOK.out hd
          rw [HR.out] at hnt
          by_cases hbig : 1000000 < m
          · rw [if_pos hbig] at hnt
            have HN := Lib.hid hnt
            have b1 : (1000000 : Int) < (m : Int) := by omega
            clear hnt hd
            go_wp2_with fail
            go_ret
            exact ⟨by rw [HN.out]; rfl, rfl⟩
          · rw [if_neg hbig] at hnt
            have HN := Lib.hid hnt
            have b1 : ¬ (1000000 : Int) < (m : Int) := by omega
            clear hnt hd
            go_wp2_with fail
            go_ret
            exact ⟨by rw [HN.out]; rfl, rfl⟩
  by_cases h3 : 1 < S.size ∧ S[0].toNat = 48
  · have hr : r = -1 := by
      rw [← HR.out]
      exact numT_bad (Or.inr (Or.inr ⟨by have := HSz.out; omega, by rw [hl0, ← hS0]; congr 1; exact UInt8.toNat_inj.1 h3.2⟩))
    have HRr := Lib.hid hr
    have e3 : (1 : Int) < (S.size : Int) := by omega
    have e4 : ((S[0].toNat : Int) == 48) = true := by rw [beq_iff_eq]; omega
    clear hr hgo hl0 hS0 h3
    go_enter Tryz.func71, Tryz.ntmps71
    go_wp2_with fail
    go_ret
    exact ⟨by rw [HRr.out]; rfl, rfl⟩
  · exact hgo h3
def findT (l : List UInt8) (c : UInt8) : Int := match l.findIdx? (· == c) with | some i => (i : Int) | none => -1
theorem find_hit {l : List UInt8} {c : UInt8} {k : Nat} (hk : k < l.length) (h1 : l[k] = c) (h2 : ∀ j (hj : j < l.length), j < k → l[j] ≠ c) : findT l c = (k : Int) := by
  have h : l.findIdx? (· == c) = some k := by
    rw [List.findIdx?_eq_some_iff_getElem]
    exact ⟨hk, by simpa using h1, fun j hj => by simpa using h2 j (by omega) hj⟩
  unfold findT
  rw [h]
theorem find_miss {l : List UInt8} {c : UInt8} (h2 : ∀ j (hj : j < l.length), l[j] ≠ c) : findT l c = -1 := by
  have h : l.findIdx? (· == c) = none := by
    rw [List.findIdx?_eq_none_iff]
    intro x hx
    obtain ⟨j, hj, rfl⟩ := List.getElem_of_mem hx
    simpa using h2 j hj
  unfold findT
  rw [h]
theorem find_kind (c : UInt8) : findT [46, 126, 35, 84, 42] c = kindI c - 1 := by
  have h : ∀ n : Fin 256, findT [46, 126, 35, 84, 42] (UInt8.ofNat n.val) = kindI (UInt8.ofNat n.val) - 1 := by decide +kernel
  have h2 := h ⟨c.toNat, c.toNat_lt⟩
  rw [show UInt8.ofNat c.toNat = c from by simp] at h2
  exact h2
theorem find_high (c : UInt8) : findT [48, 49, 50, 51] c = if isHigh c = true then highI c else -1 := by
  have h : ∀ n : Fin 256, findT [48, 49, 50, 51] (UInt8.ofNat n.val) = if isHigh (UInt8.ofNat n.val) = true then highI (UInt8.ofNat n.val) else -1 := by decide +kernel
  have h2 := h ⟨c.toNat, c.toNat_lt⟩
  rw [show UInt8.ofNat c.toNat = c from by simp] at h2
  exact h2
theorem rfind_any (l : List UInt8) (hz : l.length ≤ 100000) (c : UInt8) (cn : Int) (hcn : (c.toNat : Int) = cn) : KC 72 #[.string (str l), .int .u8 cn] (.int .i64 (findT l c)) := by
  intro w
  obtain ⟨S, hS⟩ : ∃ S, str l = S := ⟨_, rfl⟩
  have HSz := Lib.hid (show S.size = l.length by rw [← hS, str_size])
  have HSg := Lib.hid (show ∀ k (h1 : k < S.size) (h2 : k < l.length), S[k] = l[k] by subst hS; exact fun k h1 h2 => str_at l k h1 h2)
  have HC := Lib.hid hcn
  obtain ⟨r, hr⟩ : ∃ r, findT l c = r := ⟨_, rfl⟩
  have HR := Lib.hid hr
  rw [hS, hr]
  clear hS hr hcn
  go_enter Tryz.func72, Tryz.ntmps72
  go_wp2_with fail
  go_loop [5] (fun i => ∃ k : Nat, k ≤ S.size ∧ i = .int .i64 (k : Int) ∧ Hid (∀ j (hj : j < l.length), j < k → l[j] ≠ c)) (fun i => S.size - (intOf i).toNat)
  case atStart => exact ⟨0, by omega, rfl, Lib.hid (fun _ _ h => absurd h (by omega))⟩
  case round =>
    obtain ⟨k, hk, rfl, hall⟩ := hrel
    by_cases hkn : k < S.size
    · have hkl : k < l.length := by have := HSz.out; omega
      have HB := Lib.hid (HSg.out k hkn hkl)
      have i1 : (0 : Int) ≤ ((k : Int)) := by omega
      have i2 : (k : Int) < (S.size : Int) := by omega
      have i3 : (k : Int) ≤ 1000000 := by have := HSz.out; omega
      cases he : ((S[k].toNat : Int) == cn)
      · have hne : l[k] ≠ c := fun e => by
          rw [beq_eq_false_iff_ne] at he
          exact he (by rw [HB.out, e]; exact HC.out)
        have HX := Lib.hid (show ∀ j (hj : j < l.length), j < k + 1 → l[j] ≠ c from fun j hj hjk => by
          by_cases h : j < k
          · exact hall.out j hj h
          · obtain rfl : j = k := by omega
            exact hne)
        clear hne
        go_wp2_with fail
        go_round
        case rel => exact ⟨k + 1, by omega, by go_num, HX⟩
        case measure => simp [intOf]; omega
      · have hr : r = (k : Int) := by
          rw [← HR.out]
          refine find_hit hkl ?_ (fun j hj h => hall.out j hj h)
          rw [beq_iff_eq] at he
          rw [← HB.out]
          apply UInt8.toNat_inj.1
          have := HC.out
          omega
        have HN := Lib.hid hr
        clear hr
        go_wp2_with fail
        go_ret
        exact ⟨by rw [HN.out]; rfl, rfl⟩
    · have hr : r = -1 := by rw [← HR.out]; exact find_miss (fun j hj => hall.out j hj (by have := HSz.out; omega))
      have HN := Lib.hid hr
      clear hr
      go_wp2_with fail
      go_ret
      exact ⟨by rw [HN.out]; rfl, rfl⟩
set_option linter.unusedVariables false
set_option linter.unusedSimpArgs false
set_option maxRecDepth 100000
set_option maxHeartbeats 8000000

theorem parts_hit {c : UInt8} {s : List UInt8} {f k : Nat} (hf : f ≤ k) (hk : k < s.length) (h1 : s[k] = c) (h2 : ∀ j (hj : j < s.length), f ≤ j → j < k → s[j] ≠ c) : sp c (s.drop f) = (s.drop f).take (k - f) :: sp c (s.drop (k + 1)) := by
  have h3 : s.drop f = (s.drop f).take (k - f) ++ c :: s.drop (k + 1) := by
    have h4 : (s.drop f).drop (k - f) = c :: s.drop (k + 1) := by
      rw [List.drop_drop, show f + (k - f) = k by omega, List.drop_eq_getElem_cons hk, h1]
    rw [← h4, List.take_append_drop]
  have h5 : c ∉ (s.drop f).take (k - f) := by
    intro hm
    obtain ⟨i, hi, he⟩ := List.getElem_of_mem hm
    rw [List.length_take, List.length_drop] at hi
    rw [List.getElem_take, List.getElem_drop] at he
    exact h2 (f + i) (by omega) (by omega) (by omega) he
  have h6 := sp_hit c _ (s.drop (k + 1)) h5
  rw [← h3] at h6
  exact h6
theorem parts_end {c : UInt8} {s : List UInt8} {f : Nat} (h2 : ∀ j (hj : j < s.length), f ≤ j → s[j] ≠ c) : sp c (s.drop f) = [s.drop f] := by
  apply sp_none
  intro hm
  obtain ⟨i, hi, he⟩ := List.getElem_of_mem hm
  rw [List.length_drop] at hi
  rw [List.getElem_drop] at he
  exact h2 (f + i) (by omega) (by omega) he
theorem str_mid (l : List UInt8) (f k : Nat) : (str l).extract f k = str ((l.drop f).take (k - f)) := by
  apply ByteArray.ext
  rw [ByteArray.data_extract]
  apply Array.toList_inj.1
  simp [str]
theorem str_info : ∃ i0, Tryz.prog.info? 9 = some i0 ∧ i0.zero = some (.string ByteArray.empty) ∧ i0.size = 1 ∧ i0.bytes = 16 := by
  have hi : (Tryz.prog.info? 9).map (fun i => (i.bytes, i.size, i.zero)) = some (16, 1, some (.string ByteArray.empty)) := by kernel_rfl
  obtain ⟨i, h1, h2⟩ := Option.map_eq_some_iff.1 hi
  injection h2 with h2 h3
  injection h3 with h3 h4
  exact ⟨i, h1, h4, h3, h2⟩
theorem one1 (T : ByteArray) : ∀ u ∈ [Value.string T], u.oneCell' = true := by
  intro u hu
  simp at hu
  subst hu
  rfl
def strVs (ps : List (List UInt8)) : List Value := ps.map fun p => Value.string (str p)
theorem strVs_snoc (a : List (List UInt8)) (p : List UInt8) : strVs (a ++ [p]) = strVs a ++ [.string (str p)] := by unfold strVs; simp
def PartsRel (B : Nat) (w : World) (s : List UInt8) (c : UInt8) (o f i : Value) (wr : World) : Prop :=
  ∃ (acc : List (List UInt8)) (a : Nat) (ao : Option Addr) (cap fn k : Nat), o = .slice ao a cap ∧ f = .int .i64 (fn : Int) ∧ i = .int .i64 (k : Int) ∧ acc.length = a ∧ fn ≤ k ∧ a ≤ k ∧ k ≤ s.length ∧
    wr.ownsRow B 9 1 (.slice ao a cap) a (strVs acc) ∧ Below B w wr ∧ Hid (sp c s = acc ++ sp c (s.drop fn) ∧ ∀ j (hj : j < s.length), fn ≤ j → j < k → s[j] ≠ c)
theorem rParts_any (l : List UInt8) (hz : l.length ≤ 100000) (c : UInt8) (cn : Int) (hcn : (c.toNat : Int) = cn) (w : World) : Calls Tryz.prog 41 #[.string (str l), .int .u8 cn] w (Own1 9 1 (strVs (sp c l)) (sp c l).length w) := by
  obtain ⟨S, hS⟩ : ∃ S, str l = S := ⟨_, rfl⟩
  have HSz := Lib.hid (show S.size = l.length by rw [← hS, str_size])
  have HSg := Lib.hid (show ∀ k (h1 : k < S.size) (h2 : k < l.length), S[k] = l[k] by subst hS; exact fun k h1 h2 => str_at l k h1 h2)
  have HSm := Lib.hid (show ∀ f k, S.extract f k = str ((l.drop f).take (k - f)) by subst hS; exact fun f k => str_mid l f k)
  have HC := Lib.hid hcn
  obtain ⟨P, hP⟩ : ∃ P, sp c l = P := ⟨_, rfl⟩
  have HP := Lib.hid hP
  rw [hS, hP]
  obtain ⟨i1, ji, j0, j1, j2⟩ := str_info
  clear hS hcn hP
  go_enter Tryz.func41, Tryz.ntmps41
  go_wp2_with fail
  have hst := Lib.hid (show PartsRel w.heap.size w l c (.slice none 0 0) (.int .i64 0) (.int .i64 0) w from ⟨[], 0, none, 0, 0, 0, rfl, rfl, rfl, rfl, Nat.le_refl _, Nat.le_refl _, Nat.zero_le _, World.ownsRow_nil _ _ _ _, Below.refl _ _, Lib.hid ⟨rfl, fun j hj h1 h2 => absurd h2 (by omega)⟩⟩)
  go_loopw [5, 6, 7] (fun o f i wr => PartsRel w.heap.size w l c o f i wr) (fun o f i _ => S.size - (intOf i).toNat)
  case atStart => exact hst.out
  case round =>
    clear hst
    obtain ⟨acc, a, ao, cap, f, k, rfl, rfl, rfl, hal, hfk, hak, hk, hown, hbel, hall⟩ := hrel
    have hzr := hbel.size
    have HAL := Lib.hid hal
    have HOW := Lib.hid hown; have HE := Lib.hid hbel
    have hk' : k ≤ S.size := by have := HSz.out; omega
    by_cases hkn : k < S.size
    · have hkl : k < l.length := by have := HSz.out; omega
      have HB := Lib.hid (HSg.out k hkn hkl)
      have i1' : (0 : Int) ≤ ((k : Int)) := by omega
      have i2 : (k : Int) < (S.size : Int) := by omega
      have i3 : (k : Int) ≤ 1000000 := by omega
      cases he : ((S[k].toNat : Int) == cn)
      · have hne : l[k] ≠ c := fun e => by
          rw [beq_eq_false_iff_ne] at he
          exact he (by rw [HB.out, e]; exact HC.out)
        have HX := Lib.hid (show PartsRel w.heap.size w l c (.slice ao a cap) (.int .i64 (f : Int)) (.int .i64 ((k + 1 : Nat) : Int)) wr from ⟨acc, a, ao, cap, f, k + 1, rfl, rfl, rfl, hal, by omega, by omega, by omega, hown, hbel, Lib.hid ⟨hall.out.1, fun j hj h1 h2 => by
          by_cases h : j < k
          · exact hall.out.2 j hj h1 h
          · obtain rfl : j = k := by omega
            exact hne⟩⟩)
        clear hne hown hbel hal hall
        go_wp2_with fail
        go_roundw
        case rel => exact HX.out
        case measure => simp [intOf]; omega
      · have hc : l[k] = c := by
          rw [beq_iff_eq] at he
          rw [← HB.out]
          apply UInt8.toNat_inj.1
          have := HC.out
          omega
        have HH := Lib.hid (show sp c l = (acc ++ [(l.drop f).take (k - f)]) ++ sp c (l.drop (k + 1)) by
          rw [hall.out.1, parts_hit hfk hkl hc hall.out.2]
          simp)
        have i4 : (0 : Int) ≤ (f : Int) := by omega
        have i5 : (f : Int) ≤ (k : Int) := by omega
        have i6 : (k : Int) ≤ (S.size : Int) := by omega
        have hSm := HSm.out f k
        obtain ⟨T, hT⟩ : ∃ T, S.extract f k = T := ⟨_, rfl⟩
        have HT := Lib.hid (hT.symm.trans hSm)
        clear hc hbel hall hal hSm
        go_wp2_with (at_builtin; go_must (refine wpList_append_lies _ rfl _ _ 68 rfl w.heap.size 9 i1 (.string ByteArray.empty) 1 16 Tryz.underlying68 ji j0 j1 j2 rfl (by decide) _ _ _ rfl (HOW.out.alloc _) ⟨wr.heap.size, 0, none⟩ 1 1 [.string T] rfl rfl (World.news_of_block (heap_alloc_new _ _)) (one1 T) (by omega) (by unfold maxLen; omega) (by omega) (by first | omega | (simp; omega)) _ rfl ?_))
        intro qq cap2 w8 hown8 hgrow hat hlt
        have HX := Lib.hid (show PartsRel w.heap.size w l c (.slice (some ⟨qq, 0, none⟩) (a + 1) cap2) (.int .i64 ((k + 1 : Nat) : Int)) (.int .i64 ((k + 1 : Nat) : Int)) w8 from ⟨acc ++ [(l.drop f).take (k - f)], a + 1, some ⟨qq, 0, none⟩, cap2, k + 1, k + 1, rfl, rfl, rfl, by rw [List.length_append, HAL.out]; rfl, Nat.le_refl _, by omega, by omega, by rw [strVs_snoc, ← HT.out]; exact hown8, (HE.out.alloc hzr _).grown hgrow (by simp; omega) (fun j hj => (HOW.out.lt j hj).1), Lib.hid ⟨HH.out, fun j hj h1 h2 => absurd h2 (by omega)⟩⟩)
        clear hown8 hgrow hat hown hT
        go_wp2_with fail
        go_roundw
        case rel => exact HX.out
        case measure => simp [intOf]; omega
    · have HH := Lib.hid (show P = acc ++ [l.drop f] by
        rw [← HP.out, hall.out.1, parts_end (fun j hj h => hall.out.2 j hj h (by have := HSz.out; omega))])
      have i4 : (0 : Int) ≤ (f : Int) := by omega
      have i5 : (f : Int) ≤ (S.size : Int) := by omega
      have hSm := HSm.out f S.size
      rw [List.take_of_length_le (by rw [List.length_drop, HSz.out]; omega)] at hSm
      obtain ⟨T, hT⟩ : ∃ T, S.extract f S.size = T := ⟨_, rfl⟩
      have HT := Lib.hid (hT.symm.trans hSm)
      have ha1 : a ≤ 100000 := by omega
      clear hbel hall hal hSm
      go_wp2_with (at_builtin; go_must (refine wpList_append_lies _ rfl _ _ 68 rfl w.heap.size 9 i1 (.string ByteArray.empty) 1 16 Tryz.underlying68 ji j0 j1 j2 rfl (by decide) _ _ _ rfl (HOW.out.alloc _) ⟨wr.heap.size, 0, none⟩ 1 1 [.string T] rfl rfl (World.news_of_block (heap_alloc_new _ _)) (one1 T) (by omega) (by unfold maxLen; omega) (by omega) (by first | omega | (simp; omega)) _ rfl ?_))
      intro qq cap2 w8 hown8 hgrow hat hlt
      have HL := Lib.hid (show P.length = a + 1 by rw [HH.out, List.length_append, HAL.out]; rfl)
      have HO := Lib.hid (show w8.ownsRow w.heap.size 9 1 (.slice (some ⟨qq, 0, none⟩) (a + 1) cap2) (a + 1) (strVs P) by rw [HH.out, strVs_snoc, ← HT.out]; exact hown8)
      have HBW := Lib.hid ((HE.out.alloc hzr _).grown hgrow (by simp; omega) (fun j hj => (HOW.out.lt j hj).1))
      clear hown8 hgrow hat hown hT
      go_wp2_with fail
      go_ret
      exact ⟨some ⟨qq, 0, none⟩, cap2, by rw [HL.out]; rfl, by rw [HL.out]; exact HO.out, HBW.out⟩
end Go.Proofs.YtmiceolkmiiahaaGreatDoor
