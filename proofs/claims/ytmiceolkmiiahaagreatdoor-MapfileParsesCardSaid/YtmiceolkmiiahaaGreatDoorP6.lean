/- Plain: the text of a valid file is accepted, and says the file (joined). -/
import Derived.Test.YtmiceolkmiiahaaGreatDoorP5
namespace Go.Proofs.YtmiceolkmiiahaaGreatDoor
open Go.RowKit
set_option linter.unusedVariables false
set_option linter.unusedSimpArgs false

theorem itoa_len (k : Nat) (x : Int) (h : 0 ≤ x ∧ x < (10 ^ (k + 1) : Nat)) : (Lib.itoa x).length ≤ k + 1 := by
  obtain ⟨n, rfl⟩ : ∃ n : Nat, x = (n : Int) := ⟨x.toNat, by omega⟩
  rw [dec_itoa]
  exact (dd_len k n (by omega)).2
theorem rowsL_len2 (f : Cel → UInt8) (W : Int) : ∀ (cs : List Cel) (k : Nat), (rowsL f W k cs).length ≤ 2 * cs.length
  | [], k => by simp [rowsL]
  | c :: cs, k => by
    have := rowsL_len2 f W cs (k + 1)
    rw [rowsL]
    split <;> simp <;> omega
theorem amountsL_len (W : Int) (hW : 1 ≤ W ∧ W ≤ 32) : ∀ (cs : List Cel) (k : Nat), k + cs.length ≤ 1024 → (∀ c ∈ cs, celB c = true) → (amountsL W k cs).length ≤ 23 * cs.length
  | [], k, _, _ => by simp [amountsL]
  | c :: cs, k, hk, hc => by
    rw [List.length_cons] at hk
    have ih := amountsL_len W hW cs (k + 1) (by omega) (fun x hx => hc x (by simp [hx]))
    have h1 := itoa_len 1 ((k : Int) % W) ⟨Int.emod_nonneg _ (by omega), by have := Int.emod_lt_of_pos (k : Int) (show 0 < W by omega); omega⟩
    have h2 := itoa_len 3 ((k : Int) / W) ⟨Int.ediv_nonneg (by omega) (by omega), by have := Int.ediv_le_self W (show 0 ≤ (k : Int) by omega); omega⟩
    have h3 := (celB_all (hc c (by simp))).2.2
    have h4 := itoa_len 6 c.a ⟨h3.1, by omega⟩
    rw [amountsL]
    split
    · simp [lineL, numsL, amountW]; omega
    · simp; omega
theorem startsL_len : ∀ (ps : List Po), (∀ p ∈ ps, (0 ≤ p.x ∧ p.x < 32) ∧ (0 ≤ p.y ∧ p.y < 32)) → (startsL ps).length ≤ 12 * ps.length
  | [], _ => by simp [startsL]
  | p :: ps, h => by
    have ih := startsL_len ps (fun x hx => h x (by simp [hx]))
    obtain ⟨h1, h2⟩ := h p (by simp)
    have h3 := itoa_len 1 p.x ⟨h1.1, by omega⟩
    have h4 := itoa_len 1 p.y ⟨h2.1, by omega⟩
    show (lineL startW [p.x, p.y] ++ startsL ps).length ≤ _
    simp [lineL, numsL, startW]
    omega
theorem print_len {n : List UInt8} {W H : Int} {cs : List Cel} {ps : List Po} (h : validT (str n) W H cs ps = 0) : (printL n W H cs ps).length ≤ 32768 := by
  obtain ⟨h1, ⟨w1, w2, w3, w4⟩, ⟨_, h3⟩, h4, h5, h6⟩ := valid_facts h
  have a1 := rowsL_len2 kindC W cs 0
  have a2 := rowsL_len2 highC W cs 0
  have a3 := amountsL_len W ⟨w1, w2⟩ cs 0 (by omega) h4
  have a4 := startsL_len ps (fun p hp => by have := h6 p hp; omega)
  have a5 := itoa_len 1 W ⟨by omega, by omega⟩
  have a6 := itoa_len 1 H ⟨by omega, by omega⟩
  unfold printL headL
  simp [lineL, numsL, mapW]
  omega
/-- The text of a valid file is accepted, and says the file. -/
theorem parse_print {n : List UInt8} {W H : Int} {cs : List Cel} {ps : List Po} (h : validT (str n) W H cs ps = 0) : parseS (printL n W H cs ps) = .good n W H cs ps := by
  have hl := print_len h
  have hv := h
  obtain ⟨h1, ⟨w1, w2, w3, w4⟩, ⟨h2, h3⟩, h4, h5, h6⟩ := valid_facts h
  have hn : nameB (str n) = true := by
    unfold validT at h
    split at h
    · omega
    · rename_i hx; simpa using hx
  obtain ⟨l, e1, e2, e3⟩ := first_of hn ⟨w1, w2⟩ ⟨w3, w4⟩
  obtain ⟨m, rfl⟩ : ∃ m : Nat, W = (m : Int) := ⟨W.toNat, by omega⟩
  obtain ⟨hh, rfl⟩ : ∃ m : Nat, H = (m : Int) := ⟨H.toNat, by omega⟩
  have hlen : cs.length = hh * m := by
    have : (cs.length : Int) = ((m * hh : Nat) : Int) := by rw [Int.natCast_mul]; exact h2
    rw [Nat.mul_comm]; omega
  have ep : printL n (m : Int) (hh : Int) cs ps = l ++ 10 :: (rowsL kindC (m : Int) 0 cs ++ (rowsL highC (m : Int) 0 cs ++ (amountsL (m : Int) 0 cs ++ startsL ps))) := by
    unfold printL
    rw [e1]
    simp
  obtain ⟨a', hk⟩ := kinds_back n m hh (by omega) (startsL ps) hh 0 cs [] 1 (by omega) (by simp) hlen (by simp; omega) (fun c hc => h4 c (by simpa using hc))
  simp only [List.nil_append, Nat.zero_mul, List.map_nil] at hk
  unfold parseS
  rw [if_neg (by omega), ep, nxt_line l _ e2]
  simp only [e3]
  rw [Int.toNat_natCast, hk, starts_back n (m : Int) (hh : Int) cs ps a' [] (fun p hp => by have := h6 p hp; omega), List.nil_append]
  unfold fin
  rw [if_pos hv]
end Go.Proofs.YtmiceolkmiiahaaGreatDoor
