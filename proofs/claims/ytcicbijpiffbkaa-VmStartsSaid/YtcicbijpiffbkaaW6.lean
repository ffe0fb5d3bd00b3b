/- Walks: entries in memory; the entry of a name, on both sides. -/
import Derived.Test.YtcicbijpiffbkaaW5
import Derived.Deep.CutRange
import Derived.Deep.Cut
namespace Go.Proofs.Ytcicbijpiffbkaa
open Go.RowKit
set_option linter.unusedVariables false
set_option linter.unusedSimpArgs false
set_option maxRecDepth 100000
set_option maxHeartbeats 8000000

abbrev EntAt (w : World) (a : Addr) (es : List Ent) : Prop := SlAt 3 Ent.l w a es
abbrev InsAt (w : World) (a : Addr) (is : List Ins) : Prop := SlAt 4 Ins.l w a is
abbrev EntSl (w : World) (v : Value) (es : List Ent) : Prop := SlIs 3 Ent.l w v es
abbrev InsSl (w : World) (v : Value) (is : List Ins) : Prop := SlIs 4 Ins.l w v is
theorem EntSl.below {w w' : World} {v : Value} {es : List Ent} (h : EntSl w v es) (hb : Below w.heap.size w w') : EntSl w' v es := SlIs.below Ent.l_len h hb
theorem InsSl.below {w w' : World} {v : Value} {is : List Ins} (h : InsSl w v is) (hb : Below w.heap.size w w') : InsSl w' v is := SlIs.below Ins.l_len h hb
theorem entAt {w : World} {a : Addr} {es : List Ent} (h : EntAt w a es) (i : Nat) (hi : i < es.length) : w.cell? (a.add (i * 3)) = some (.string (str es[i].n)) ∧ w.cell? ⟨(a.add (i * 3)).block, (a.add (i * 3)).off + 1, none⟩ = some (.int .i64 es[i].at') ∧ w.cell? ⟨(a.add (i * 3)).block, (a.add (i * 3)).off + 2, none⟩ = some (.int .i64 es[i].sl) :=
  ⟨h i hi 0 (by decide), h i hi 1 (by decide), h i hi 2 (by decide)⟩
theorem insAt {w : World} {a : Addr} {is : List Ins} (h : InsAt w a is) (i : Nat) (hi : i < is.length) : w.cell? (a.add (i * 4)) = some (.int .i64 is[i].op) ∧ w.cell? ⟨(a.add (i * 4)).block, (a.add (i * 4)).off + 1, none⟩ = some (.int .i64 is[i].a) ∧ w.cell? ⟨(a.add (i * 4)).block, (a.add (i * 4)).off + 2, none⟩ = some (.int .i64 is[i].n) ∧ w.cell? ⟨(a.add (i * 4)).block, (a.add (i * 4)).off + 3, none⟩ = some (.string (str is[i].s)) :=
  ⟨h i hi 0 (by decide), h i hi 1 (by decide), h i hi 2 (by decide), h i hi 3 (by decide)⟩
def codeV (ev iv : Value) : Value := .agg #[ev, iv]
def firstI {M : Type} (P : M → Bool) (l : List M) : Int := if l.any P then (l.findIdx P : Nat) else -1
theorem firstI_pos {M : Type} (P : M → Bool) (l : List M) : decide (0 ≤ firstI P l) = l.any P := by
  unfold firstI
  cases h : l.any P
  · rw [if_neg (by simp)]; rfl
  · rw [if_pos rfl]; exact decide_eq_true (by omega)
theorem firstI_at {M : Type} (P : M → Bool) (l : List M) (k : Nat) (hk : k < l.length) (h : P l[k] = true) (hb : ∀ j (hj : j < l.length), j < k → P l[j] = false) : firstI P l = (k : Int) := by
  have h1 : l.any P = true := List.any_eq_true.2 ⟨l[k], List.getElem_mem _, h⟩
  unfold firstI
  rw [if_pos h1]
  have : l.findIdx P = k := (List.findIdx_eq hk).2 ⟨h, fun j hj => hb j (by omega) hj⟩
  rw [this]
theorem firstI_no {M : Type} (P : M → Bool) (l : List M) (hb : ∀ j (hj : j < l.length), P l[j] = false) : firstI P l = -1 := by
  have h1 : l.any P = false := by
    rw [List.any_eq_false]
    intro x hx
    obtain ⟨j, hj, rfl⟩ := List.getElem_of_mem hx
    rw [hb j hj]; simp
  unfold firstI
  rw [h1]; rfl
def isN (s : List UInt8) (e : Ent) : Bool := e.n == s
theorem entB_any (es : List Ent) (s : List UInt8) : entB es s = es.any (isN s) := rfl
theorem centry1_any (x : Ent) (s : List UInt8) (p : Addr) (w : World) (h : w.cell? p = some (.string (str s))) : KB 77 #[x.v, .pointer (some p)] (.bool (isN s x)) w := by
  have hq : ((str x.n).toList == (str s).toList) = isN s x := str_beq _ _
  obtain ⟨n, at', sl⟩ := x
  unfold KB Ent.v
  dsimp only at hq ⊢
  have h1 : ∀ o, (w.alloc o).cell? p = some (.string (str s)) := fun o => cell_below (below_new _ _) h
  generalize isN s ⟨n, at', sl⟩ = r at *
  generalize str n = N at *
  generalize str s = S at *
  clear h
  go_enter Try.func77, Try.ntmps77
  go_wp2_with fail
  go_ret
  exact ⟨rfl, below_new _ _⟩
set_option maxHeartbeats 8000000 in
theorem IndexE_centry1 (ao : Option Addr) (n ca : Nat) (es : List Ent) (hn : es.length = n) (hz : n ≤ 1000000) (s : List UInt8) (p : Addr) (w : World) (ha : es = [] ∨ ∃ a, ao = some a ∧ EntAt w a es) (hp : w.cell? p = some (.string (str s))) : KB 66 #[.slice ao n ca, .func (.func 77) #[] #[.pointer (some p)]] (.int .i64 (firstI (isN s) es)) w := by
  have HA := Lib.hid ha; have HN := Lib.hid hn
  have HF := Lib.hid (fun x w' (hb : Below w.heap.size w w') => centry1_any x s p w' (cell_below hb hp))
  obtain ⟨r, hr⟩ : ∃ r, firstI (isN s) es = r := ⟨_, rfl⟩
  rw [hr]
  have HR := Lib.hid hr
  clear ha hn hr hp
  unfold KB at *
  go_enter Try.func66, Try.ntmps66
  go_wp2_with fail
  go_loopw [8] (fun v wr => ∃ k : Nat, k ≤ n ∧ v = .int .i64 (k : Int) ∧ Below w.heap.size w wr ∧ Hid (∀ j (hj : j < es.length), j < k → isN s es[j] = false)) (fun v _ => n - (intOf v).toNat)
  case atStart => exact ⟨0, by omega, rfl, Below.refl _ _, Lib.hid (fun _ _ h => absurd h (by omega))⟩
  case round =>
    obtain ⟨k, hk, rfl, hbel, hall⟩ := hrel
    have HE := Lib.hid hbel
    have hzz := hbel.size
    by_cases hkn : k < n
    · have hkl : k < es.length := by have := HN.out; omega
      obtain ⟨a, rfl, hat⟩ : ∃ a, ao = some a ∧ EntAt w a es := HA.out.resolve_left (fun h => by rw [h] at hkl; simp at hkl)
      obtain ⟨c0, c1, c2⟩ := entAt (hat.below Ent.l_len hbel) k hkl
      have HC := HF.out es[k] wr hbel
      obtain ⟨B, hB⟩ : ∃ B, isN s es[k] = B := ⟨_, rfl⟩
      rw [hB] at HC
      have HBE := Lib.hid hB
      obtain ⟨⟨en, ea, el⟩, hx⟩ : ∃ t, es[k] = t := ⟨_, rfl⟩
      rw [hx] at c0 c1 c2 HC
      dsimp only at c0 c1 c2
      unfold Ent.v at HC
      dsimp only at HC
      have HC := Lib.hid HC
      have e1 : (0 : Int) ≤ ((k : Int)) := by omega
      have e2 : (k : Int) < (n : Int) := by omega
      clear hbel HF hx hB
      cases B
      · have hn2 : Hid (∀ j (hj : j < es.length), j < k + 1 → isN s es[j] = false) := Lib.hid fun j hj hjk => by
          by_cases hjk' : j < k
          · exact hall.out j hj hjk'
          · obtain rfl : j = k := by omega
            exact HBE.out
        clear hall
        go_wp2_with fail
        refine HC.out.mono ?_
        rintro e w1 ⟨rfl, hb⟩
        go_wp2_with fail
        go_roundw
        case rel => exact ⟨k + 1, by omega, by go_num, HE.out.trans (hb.mono hzz), hn2⟩
        case measure => simp [intOf]; omega
      · have hr : r = (k : Int) := by
          rw [← HR.out]
          exact firstI_at _ _ k hkl HBE.out hall.out
        have HRk := Lib.hid hr
        clear hr
        go_wp2_with fail
        refine HC.out.mono ?_
        rintro e w1 ⟨rfl, hb⟩
        go_wp2_with fail
        go_ret
        exact ⟨by rw [HRk.out]; rfl, HE.out.trans (hb.mono hzz)⟩
    · have hr : r = -1 := by
        rw [← HR.out]
        exact firstI_no _ _ fun j hj => hall.out j hj (by have := HN.out; omega)
      have HRk := Lib.hid hr
      clear hr hbel
      go_wp2_with fail
      go_ret
      exact ⟨by rw [HRk.out]; rfl, HE.out⟩
theorem ContainsE_centry1 (v : Value) (es : List Ent) (s : List UInt8) (p : Addr) (w : World) (h : EntSl w v es) (hz : es.length ≤ 1000000) (hp : w.cell? p = some (.string (str s))) : KB 44 #[v, .func (.func 77) #[] #[.pointer (some p)]] (.bool (es.any (isN s))) w := by
  obtain ⟨ao, cap, rfl, h⟩ := h
  have H1 := Lib.hid (IndexE_centry1 ao _ cap es rfl hz s p w h hp)
  clear h
  unfold KB at *
  rw [← firstI_pos (isN s) es]
  generalize firstI (isN s) es = r at *
  generalize es.length = n at *
  go_enter Try.func44, Try.ntmps44
  go_wp2_with fail
  refine H1.out.mono ?_
  rintro e w1 ⟨rfl, hb⟩
  go_wp2_with fail
  go_ret
  exact ⟨rfl, hb⟩
theorem cValidate1_any (x : Ent) (s : List UInt8) (p : Addr) (w : World) (h : w.cell? p = some (.string (str s))) : KB 45 #[x.v, .pointer (some p)] (.bool (isN s x)) w := by
  have hq : ((str x.n).toList == (str s).toList) = isN s x := str_beq _ _
  obtain ⟨n, at', sl⟩ := x
  unfold KB Ent.v
  dsimp only at hq ⊢
  have h1 : ∀ o, (w.alloc o).cell? p = some (.string (str s)) := fun o => cell_below (below_new _ _) h
  generalize isN s ⟨n, at', sl⟩ = r at *
  generalize str n = N at *
  generalize str s = S at *
  clear h
  go_enter Try.func45, Try.ntmps45
  go_wp2_with fail
  go_ret
  exact ⟨rfl, below_new _ _⟩
set_option maxHeartbeats 8000000 in
theorem IndexE_cValidate1 (ao : Option Addr) (n ca : Nat) (es : List Ent) (hn : es.length = n) (hz : n ≤ 1000000) (s : List UInt8) (p : Addr) (w : World) (ha : es = [] ∨ ∃ a, ao = some a ∧ EntAt w a es) (hp : w.cell? p = some (.string (str s))) : KB 66 #[.slice ao n ca, .func (.func 45) #[] #[.pointer (some p)]] (.int .i64 (firstI (isN s) es)) w := by
  have HA := Lib.hid ha; have HN := Lib.hid hn
  have HF := Lib.hid (fun x w' (hb : Below w.heap.size w w') => cValidate1_any x s p w' (cell_below hb hp))
  obtain ⟨r, hr⟩ : ∃ r, firstI (isN s) es = r := ⟨_, rfl⟩
  rw [hr]
  have HR := Lib.hid hr
  clear ha hn hr hp
  unfold KB at *
  go_enter Try.func66, Try.ntmps66
  go_wp2_with fail
  go_loopw [8] (fun v wr => ∃ k : Nat, k ≤ n ∧ v = .int .i64 (k : Int) ∧ Below w.heap.size w wr ∧ Hid (∀ j (hj : j < es.length), j < k → isN s es[j] = false)) (fun v _ => n - (intOf v).toNat)
  case atStart => exact ⟨0, by omega, rfl, Below.refl _ _, Lib.hid (fun _ _ h => absurd h (by omega))⟩
  case round =>
    obtain ⟨k, hk, rfl, hbel, hall⟩ := hrel
    have HE := Lib.hid hbel
    have hzz := hbel.size
    by_cases hkn : k < n
    · have hkl : k < es.length := by have := HN.out; omega
      obtain ⟨a, rfl, hat⟩ : ∃ a, ao = some a ∧ EntAt w a es := HA.out.resolve_left (fun h => by rw [h] at hkl; simp at hkl)
      obtain ⟨c0, c1, c2⟩ := entAt (hat.below Ent.l_len hbel) k hkl
      have HC := HF.out es[k] wr hbel
      obtain ⟨B, hB⟩ : ∃ B, isN s es[k] = B := ⟨_, rfl⟩
      rw [hB] at HC
      have HBE := Lib.hid hB
      obtain ⟨⟨en, ea, el⟩, hx⟩ : ∃ t, es[k] = t := ⟨_, rfl⟩
      rw [hx] at c0 c1 c2 HC
      dsimp only at c0 c1 c2
      unfold Ent.v at HC
      dsimp only at HC
      have HC := Lib.hid HC
      have e1 : (0 : Int) ≤ ((k : Int)) := by omega
      have e2 : (k : Int) < (n : Int) := by omega
      clear hbel HF hx hB
      cases B
      · have hn2 : Hid (∀ j (hj : j < es.length), j < k + 1 → isN s es[j] = false) := Lib.hid fun j hj hjk => by
          by_cases hjk' : j < k
          · exact hall.out j hj hjk'
          · obtain rfl : j = k := by omega
            exact HBE.out
        clear hall
        go_wp2_with fail
        refine HC.out.mono ?_
        rintro e w1 ⟨rfl, hb⟩
        go_wp2_with fail
        go_roundw
        case rel => exact ⟨k + 1, by omega, by go_num, HE.out.trans (hb.mono hzz), hn2⟩
        case measure => simp [intOf]; omega
      · have hr : r = (k : Int) := by
          rw [← HR.out]
          exact firstI_at _ _ k hkl HBE.out hall.out
        have HRk := Lib.hid hr
        clear hr
        go_wp2_with fail
        refine HC.out.mono ?_
        rintro e w1 ⟨rfl, hb⟩
        go_wp2_with fail
        go_ret
        exact ⟨by rw [HRk.out]; rfl, HE.out.trans (hb.mono hzz)⟩
    · have hr : r = -1 := by
        rw [← HR.out]
        exact firstI_no _ _ fun j hj => hall.out j hj (by have := HN.out; omega)
      have HRk := Lib.hid hr
      clear hr hbel
      go_wp2_with fail
      go_ret
      exact ⟨by rw [HRk.out]; rfl, HE.out⟩
theorem ContainsE_cValidate1 (v : Value) (es : List Ent) (s : List UInt8) (p : Addr) (w : World) (h : EntSl w v es) (hz : es.length ≤ 1000000) (hp : w.cell? p = some (.string (str s))) : KB 44 #[v, .func (.func 45) #[] #[.pointer (some p)]] (.bool (es.any (isN s))) w := by
  obtain ⟨ao, cap, rfl, h⟩ := h
  have H1 := Lib.hid (IndexE_cValidate1 ao _ cap es rfl hz s p w h hp)
  clear h
  unfold KB at *
  rw [← firstI_pos (isN s) es]
  generalize firstI (isN s) es = r at *
  generalize es.length = n at *
  go_enter Try.func44, Try.ntmps44
  go_wp2_with fail
  refine H1.out.mono ?_
  rintro e w1 ⟨rfl, hb⟩
  go_wp2_with fail
  go_ret
  exact ⟨rfl, hb⟩
theorem centry_any (ev : Value) (bo : Option Addr) (m d : Nat) (es : List Ent) (s : List UInt8) (w : World) (h : EntSl w ev es) (hz : es.length ≤ 1000000) : KB 68 #[codeV ev (.slice bo m d), .string (str s)] (.bool (entB es s)) w := by
  have HC := Lib.hid (fun p w' (hb : Below w.heap.size w w') hp => ContainsE_centry1 ev es s p w' (h.below hb) hz hp)
  obtain ⟨ao, cap, rfl, _⟩ := h
  rw [entB_any]
  unfold KB codeV at *
  obtain ⟨w2, hw2⟩ : ∃ w2, (w.alloc (.cells #[.slice ao es.length cap, .slice bo m d] 25)).alloc (.cells #[.string (str s)] 9) = w2 := ⟨_, rfl⟩
  have hb2 : Below w.heap.size w w2 := by rw [← hw2]; exact (below_new _ _).alloc (by simp) _
  have hp2 : w2.cell? ⟨w.heap.size + 1, 0, none⟩ = some (.string (str s)) := by
    have h := tok_new (w.alloc (.cells #[.slice ao es.length cap, .slice bo m d] 25)) (.cells #[.string (str s)] 9)
    rw [tok_size, hw2] at h
    rw [Lib.cell_of_heap h]
    rfl
  have HC2 := Lib.hid (HC.out ⟨w.heap.size + 1, 0, none⟩ w2 hb2 hp2)
  have HB2 := Lib.hid hb2; have HW2 := Lib.hid hw2
  clear hb2 hp2 hw2 HC
  generalize es.any (isN s) = r at *
  generalize es.length = n at *
  generalize str s = S at *
  go_enter Try.func68, Try.ntmps68
  go_wp2_with fail
  rw [HW2.out]
  refine HC2.out.mono ?_
  rintro e w3 ⟨rfl, hb⟩
  go_wp2_with fail
  go_ret
  exact ⟨rfl, HB2.out.trans (hb.mono HB2.out.size)⟩
theorem rentry_any (ao bo : Option Addr) (n c m d : Nat) (es : List Ent) (s : List UInt8) (hn : es.length = n) (hz : n ≤ 1000000) (w : World) (h : es = [] ∨ ∃ a, ao = some a ∧ EntAt w a es) : KB 72 #[codeV (.slice ao n c) (.slice bo m d), .string (str s)] (.bool (entB es s)) w := by
  have HA := Lib.hid h; have HN := Lib.hid hn
  rw [entB_any]
  obtain ⟨r, hr⟩ : ∃ r, es.any (isN s) = r := ⟨_, rfl⟩
  have HR := Lib.hid hr
  rw [hr]
  clear h hn hr
  unfold KB codeV
  obtain ⟨w1, hw1⟩ : ∃ w1, w.alloc (.cells #[.slice ao n c, .slice bo m d] 25) = w1 := ⟨_, rfl⟩
  have HB1 := Lib.hid (show Below w.heap.size w w1 by rw [← hw1]; exact below_new _ _)
  have HM1 := Lib.hid (show w1.heap[w.heap.size]? = some (.cells #[.slice ao n c, .slice bo m d] 25) by rw [← hw1]; exact tok_new _ _)
  have HW1 := Lib.hid hw1
  have HQ := Lib.hid (fun x : Ent => show ((str x.n).toList == (str s).toList) = isN s x from str_beq _ _)
  clear hw1
  generalize str s = S at *
  go_enter Try.func72, Try.ntmps72
  go_upto_region 2 with fail
  rw [HW1.out]
  clear HW1
  go_wp2_with fail
  go_loopw [5] (fun v wr => ∃ k : Nat, k ≤ n ∧ v = .int .i64 (k : Int) ∧ w1 = wr ∧ Hid (∀ j (hj : j < es.length), j < k → isN s es[j] = false)) (fun v _ => n - (intOf v).toNat)
  case atStart => exact ⟨0, by omega, rfl, rfl, Lib.hid (fun _ _ h => absurd h (by omega))⟩
  case round =>
    obtain ⟨k, hk, rfl, rfl, hall⟩ := hrel
    have m0 : w1.cell? ⟨w.heap.size, 0, none⟩ = some (.slice ao n c) := by rw [Lib.cell_of_heap HM1.out]; rfl
    by_cases hkn : k < n
    · have hkl : k < es.length := by have := HN.out; omega
      obtain ⟨a, rfl, hat⟩ : ∃ a, ao = some a ∧ EntAt w a es := HA.out.resolve_left (fun h => by rw [h] at hkl; simp at hkl)
      obtain ⟨c0, _, _⟩ := entAt (hat.below Ent.l_len HB1.out) k hkl
      have hq := HQ.out es[k]
      obtain ⟨B, hB⟩ : ∃ B, isN s es[k] = B := ⟨_, rfl⟩
      rw [hB] at hq
      have HBE := Lib.hid hB
      have e1 : (0 : Int) ≤ ((k : Int)) := by omega
      have e2 : (k : Int) < (n : Int) := by omega
      clear hB hat
      generalize str es[k].n = T at *
      cases B
      · have hn2 : Hid (∀ j (hj : j < es.length), j < k + 1 → isN s es[j] = false) := Lib.hid fun j hj hjk => by
          by_cases hjk' : j < k
          · exact hall.out j hj hjk'
          · obtain rfl : j = k := by omega
            exact HBE.out
        clear hall
        go_wp2_with fail
        go_roundw
        case rel => exact ⟨k + 1, by omega, by go_num, by first | rfl | trivial, hn2⟩
        case measure => simp [intOf]; omega
      · have HRT := Lib.hid (show r = true by rw [← HR.out]; exact List.any_eq_true.2 ⟨es[k], List.getElem_mem _, HBE.out⟩)
        go_wp2_with fail
        go_ret
        exact ⟨by rw [HRT.out]; rfl, HB1.out⟩
    · have HRF := Lib.hid (show r = false by
        rw [← HR.out, List.any_eq_false]
        intro x hx
        obtain ⟨j, hj, rfl⟩ := List.getElem_of_mem hx
        rw [hall.out j hj (by have := HN.out; omega)]
        simp)
      have e2 : ¬ (k : Int) < (n : Int) := by omega
      go_wp2_with fail
      go_ret
      exact ⟨by rw [HRF.out]; rfl, HB1.out⟩
end Go.Proofs.Ytcicbijpiffbkaa
