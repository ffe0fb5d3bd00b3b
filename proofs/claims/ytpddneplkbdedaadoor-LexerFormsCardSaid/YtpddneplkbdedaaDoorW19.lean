/- What next and the reference's one compute, told by lists. -/
import Derived.Test.YtpddneplkbdedaaDoorW18
namespace Go.Proofs.YtpddneplkbdedaaDoor
open Go.RowKit
set_option linter.unusedVariables false
set_option linter.unusedSimpArgs false

theorem var_below {w w' : World} {name : String} {v : Array Value} (hb : Below w.heap.size w w') (h : w.var? Tryd.prog name = some v) : w'.var? Tryd.prog name = some v := by
  unfold World.var? at *
  cases hg : Tryd.prog.globalNamed name with
  | none => simp [hg] at h
  | some g =>
    simp only [hg, Option.bind_some] at h ⊢
    have hlt : g < w.heap.size := by
      rcases Nat.lt_or_ge g w.heap.size with h' | h'
      · exact h'
      · rw [Array.getElem?_eq_none h'] at h; simp at h
    rw [hb.block g hlt]
    exact h
theorem cell_below {w w' : World} {a : Addr} {v : Value} (hb : Below w.heap.size w w') (h : w.cell? a = some v) : w'.cell? a = some v := by
  have hlt : a.block < w.heap.size := by
    rcases Nat.lt_or_ge a.block w.heap.size with h' | h'
    · exact h'
    · unfold World.cell? at h
      rw [Array.getElem?_eq_none h'] at h; simp at h
  rw [hb.cell hlt]
  exact h
theorem tab_below {w w' : World} {name : String} {k : IntKind} {l : List Int} (hb : Below w.heap.size w w') (h : Lib.TabIs Tryd.prog w name k l) : Lib.TabIs Tryd.prog w' name k l := by
  exact var_below hb h
theorem Spc.below {w w' : World} (hb : Below w.heap.size w w') (h : Spc w) : Spc w' := tab_below hb h
theorem Ctx.below {w w' : World} (hb : Below w.heap.size w w') (h : Ctx w) : Ctx w' := by
  obtain ⟨h1, tp, p, h2⟩ := h
  exact ⟨Spc.below hb h1, tp, p, var_below hb h2⟩

/-- The token at the beginning of a text: kind, text, bytes, error. -/
def nextT (l : List UInt8) : Int × List UInt8 × Nat × Int :=
  match l with
  | [] => (0, [], 0, 5)
  | c :: r =>
    if isLc c = true then
      if isWord ((c :: r).takeWhile isPt) = true then (5, (c :: r).takeWhile isPt, ((c :: r).takeWhile isPt).length, 0)
      else if 12 < ((c :: r).takeWhile isPt).length then (0, [], 0, 6)
      else (1, (c :: r).takeWhile isPt, ((c :: r).takeWhile isPt).length, 0)
    else if isDg c = true then (2, (c :: r).takeWhile isPt, ((c :: r).takeWhile isPt).length, intE ((c :: r).takeWhile isPt))
    else if c = 34 then
      if r[(r.takeWhile isPr).length]? = some 34 then (3, r.takeWhile isPr, (r.takeWhile isPr).length + 2, 0) else (0, [], 0, 5)
    else if firstPre marksL (c :: r) = [] then (0, [], 0, 5)
    else (4, firstPre marksL (c :: r), (firstPre marksL (c :: r)).length, 0)

def retV (t : Int × List UInt8 × Nat × Int) : Value := .tuple #[tokV t.1 0 (str t.2.1), .int .i64 (t.2.2.1 : Int), .int .i64 t.2.2.2]

theorem KC.of {f : Nat} {xs : Array Value} {v : Value} (h : ∀ w, Calls Tryd.prog f xs w fun e w' => e = .returned v ∧ w = w') : KC f xs v := h
theorem at0 (c : UInt8) (r : List UInt8) (hl : (c :: r).length ≤ 1000000) : KC 38 #[.string (str (c :: r)), .int .i64 0] (.int .i32 (c.toNat : Int)) := fun w =>
  at_in (str (c :: r)) 0 (by rw [str_size]; simp) (by rw [str_size]; exact hl) w
theorem part_dg (c : UInt8) (h : isDg c = true) : isPt c = true := by
  unfold isPt partI
  have : digI (c.toNat : Int) = true := h
  rw [this]
  simp
theorem part_lc (c : UInt8) (h : isLc c = true) : isPt c = true := by
  unfold isPt partI
  have : lcI (c.toNat : Int) = true := h
  rw [this]
  simp
theorem firstPre_le (l : List UInt8) : (firstPre marksL l).length ≤ 2 := by
  unfold firstPre
  cases h : marksL.find? (fun m => Lib.hasPrefix l m) with
  | none => simp
  | some m =>
    have hm := List.mem_of_find?_eq_some h
    have : ∀ x ∈ marksL, x.length ≤ 2 := by decide
    exact this m hm

theorem next_any (l : List UInt8) (h1 : 1 ≤ l.length) (hl : l.length ≤ 100000) (w : World) (hc : Ctx w) : KB 21 #[.string (str l)] (retV (nextT l)) w := by
  obtain ⟨c, r, rfl⟩ : ∃ c r, l = c :: r := by
    cases l with
    | nil => simp at h1
    | cons c r => exact ⟨c, r, rfl⟩
  have hB : ∀ w', Below w.heap.size w w' → Ctx w' := fun w' hb => hc.below hb
  have a0 := at0 c r (by omega)
  have hp := pre_part (c :: r) (by omega)
  have hpl := tw_len isPt (c :: r)
  unfold nextT retV
  dsimp only
  by_cases h2 : isLc c = true
  · rw [if_pos h2]
    have b1 : KC 44 #[.int .i32 (c.toNat : Int)] (.bool true) := fun w => by rw [← h2]; exact letter_any _ w
    by_cases h3 : isWord ((c :: r).takeWhile isPt) = true
    · rw [if_pos h3]
      have b3 : ∀ w, Ctx w → KB 13 #[.string (str ((c :: r).takeWhile isPt))] (.bool true) w := fun w hs => by rw [← h3]; exact word_any _ w hs.1
      exact next_word Ctx _ _ _ a0 b1 hp b3 w hB
    · rw [if_neg h3]
      have b3 : ∀ w, Ctx w → KB 13 #[.string (str ((c :: r).takeWhile isPt))] (.bool false) w := fun w hs => by
        have : isWord ((c :: r).takeWhile isPt) = false := by simpa using h3
        rw [← this]; exact word_any _ w hs.1
      by_cases h4 : 12 < ((c :: r).takeWhile isPt).length
      · rw [if_pos h4]
        exact next_long Ctx _ _ _ a0 b1 hp b3 (by rw [str_size]; exact h4) (by rw [str_size]; omega) w hB
      · rw [if_neg h4]
        exact next_name Ctx _ _ _ a0 b1 hp b3 (by rw [str_size]; omega) w hB
  · rw [if_neg h2]
    have h2' : isLc c = false := by simpa using h2
    have b1 : KC 44 #[.int .i32 (c.toNat : Int)] (.bool false) := fun w => by rw [← h2']; exact letter_any _ w
    by_cases h3 : isDg c = true
    · rw [if_pos h3]
      have b2 : KC 46 #[.int .i32 (c.toNat : Int)] (.bool true) := fun w => by rw [← h3]; exact digit_any _ w
      have h6 : ∃ q, (c :: r).takeWhile isPt = c :: q := ⟨_, by rw [List.takeWhile_cons, if_pos (part_dg c h3)]⟩
      have b5 : ∀ w, Ctx w → KB 47 #[.string (str ((c :: r).takeWhile isPt))] (.int .i64 (intE ((c :: r).takeWhile isPt))) w := fun w hw => by
        obtain ⟨q, hq⟩ := h6
        rw [hq] at hpl ⊢
        exact int_any c q h3 (by omega) w hw.2
      exact next_int Ctx _ _ _ a0 b1 b2 hp _ b5 w hB
    · rw [if_neg h3]
      have h3' : isDg c = false := by simpa using h3
      have b2 : KC 46 #[.int .i32 (c.toNat : Int)] (.bool false) := fun w => by rw [← h3']; exact digit_any _ w
      by_cases h4 : c = 34
      · rw [if_pos h4]
        subst h4
        have hpr := pre_print r (by simp at hl; omega)
        have hr := tw_len isPr r
        have hl' : r.length + 1 ≤ 100000 := by simpa using hl
        have hd : (str (34 :: r)).extract 1 (str (34 :: r)).size = str r := str_drop (34 :: r) 1
        have hsz : (str (r.takeWhile isPr)).size = (r.takeWhile isPr).length := str_size _
        by_cases h5 : r[(r.takeWhile isPr).length]? = some 34
        · rw [if_pos h5]
          obtain ⟨hlt, hv⟩ := List.getElem?_eq_some_iff.1 h5
          have a7 : KC 38 #[.string (str (34 :: r)), .int .i64 (1 + (str (r.takeWhile isPr)).size)] (.int .i32 34) := fun w => by
            have := at_in (str (34 :: r)) (1 + (r.takeWhile isPr).length) (by rw [str_size, List.length_cons]; omega) (by rw [str_size, List.length_cons]; omega) w
            rw [str_get] at this
            have e : (34 :: r)[1 + (r.takeWhile isPr).length]'(by rw [List.length_cons]; omega) = 34 := by
              rw [← hv]
              rw [List.getElem_cons]
              rw [dif_neg (by omega)]
              congr 1
              omega
            rw [e] at this
            rw [hsz]
            exact this
          have := next_str Ctx (str (34 :: r)) (str (r.takeWhile isPr)) 34 a0 b1 b2 rfl (str r) (by rw [str_size, List.length_cons]; omega) (by rw [str_size, List.length_cons]; omega) (by rw [str_size]; omega) (by rw [hd]; exact hpr) (by rw [str_size]; omega) 34 a7 rfl w hB
          rw [hsz] at this
          exact this
        · rw [if_neg h5]
          have a7 : ∃ d : Int, KC 38 #[.string (str (34 :: r)), .int .i64 (1 + (str (r.takeWhile isPr)).size)] (.int .i32 d) ∧ (d != 34) = true := by
            rw [hsz]
            by_cases h6 : (r.takeWhile isPr).length < r.length
            · refine ⟨(r[(r.takeWhile isPr).length].toNat : Int), fun w => ?_, ?_⟩
              · have := at_in (str (34 :: r)) (1 + (r.takeWhile isPr).length) (by rw [str_size, List.length_cons]; omega) (by rw [str_size, List.length_cons]; omega) w
                rw [str_get] at this
                have e : (34 :: r)[1 + (r.takeWhile isPr).length]'(by rw [List.length_cons]; omega) = r[(r.takeWhile isPr).length] := by
                  rw [List.getElem_cons]
                  rw [dif_neg (by omega)]
                  congr 1
                  omega
                rw [e] at this
                exact this
              · have hne : r[(r.takeWhile isPr).length] ≠ 34 := fun e => h5 (by rw [List.getElem?_eq_getElem h6, e])
                have : r[(r.takeWhile isPr).length].toNat ≠ 34 := fun e => hne (UInt8.toNat_inj.mp (by simpa using e))
                rw [bne_iff_ne]
                omega
            · refine ⟨-1, fun w => ?_, rfl⟩
              exact at_out (str (34 :: r)) (1 + (r.takeWhile isPr).length) (by rw [str_size, List.length_cons]; omega) (by rw [str_size, List.length_cons]; omega) w
          obtain ⟨d, a7, hd34⟩ := a7
          exact next_strbad Ctx (str (34 :: r)) (str (r.takeWhile isPr)) 34 a0 b1 b2 rfl (str r) (by rw [str_size, List.length_cons]; omega) (by rw [str_size, List.length_cons]; omega) (by rw [str_size]; omega) (by rw [hd]; exact hpr) (by rw [str_size]; omega) d a7 hd34 w hB
      · rw [if_neg h4]
        have h34 : ((c.toNat : Int) == 34) = false := by
          have : c.toNat ≠ 34 := fun e => h4 (UInt8.toNat_inj.mp (by simpa using e))
          rw [beq_eq_false_iff_ne]
          omega
        have b8 : ∀ w, Ctx w → KB 49 #[.string (str (c :: r))] (.string (str (firstPre marksL (c :: r)))) w := fun w hw => mark_any (c :: r) w hw.1
        have ht : (str (firstPre marksL (c :: r))).toList = firstPre marksL (c :: r) := by rw [ByteArray.toList_eq, str_data]
        by_cases h5 : firstPre marksL (c :: r) = []
        · rw [if_pos h5]
          exact next_none Ctx _ _ _ a0 b1 b2 h34 b8 (by rw [ht]; exact h5) (by rw [ht, h5]; rfl) w hB
        · rw [if_neg h5]
          exact next_mark Ctx _ _ _ a0 b1 b2 h34 b8 (by rw [ht]; exact h5) (by rw [ht]; simpa using h5) w hB
end Go.Proofs.YtpddneplkbdedaaDoor
