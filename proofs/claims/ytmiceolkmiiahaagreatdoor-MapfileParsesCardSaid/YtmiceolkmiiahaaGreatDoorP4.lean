/- Plain: what a valid file keeps to; errors. -/
import Derived.Test.YtmiceolkmiiahaaGreatDoorP3
namespace Go.Proofs.YtmiceolkmiiahaaGreatDoor
open Go.RowKit
set_option linter.unusedVariables false
set_option linter.unusedSimpArgs false

theorem startsE_all (P : Po → Bool) : ∀ (ps pre : List Po), startsE P pre ps = 0 → ∀ p ∈ ps, P p = true
  | [], _, _, p, hp => by simp at hp
  | q :: ps, pre, h, p, hp => by
    rw [startsE] at h
    split at h
    · omega
    · rename_i hq
      split at h
      · omega
      · rcases List.mem_cons.1 hp with rfl | hp
        · simpa using hq
        · exact startsE_all P ps _ h p hp
theorem pass_in {W H : Int} {cs : List Cel} {p : Po} (h : passB W H cs p = true) : inB W H p = true := by
  unfold passB getC at h
  split at h
  · rename_i c hc
    split at hc
    · rename_i hi
      unfold insB at hi
      rw [Bool.and_eq_true] at hi
      exact hi.2
    · cases hc
  · cases h
theorem valid_facts {n : List UInt8} {W H : Int} {cs : List Cel} {ps : List Po} (h : validT (str n) W H cs ps = 0) :
    n.length ≤ 12 ∧ (1 ≤ W ∧ W ≤ 32 ∧ 1 ≤ H ∧ H ≤ 32) ∧ ((cs.length : Int) = W * H ∧ cs.length ≤ 1024) ∧ (∀ c ∈ cs, celB c = true) ∧ ps.length ≤ 6 ∧ ∀ p ∈ ps, (0 ≤ p.x ∧ p.x < W) ∧ (0 ≤ p.y ∧ p.y < H) := by
  unfold validT at h
  split at h
  · omega
  · rename_i h1
    split at h
    · omega
    · rename_i h2
      split at h
      · omega
      · rename_i h3
        have hn : nameB (str n) = true := by simpa using h1
        have hm : mapB W H cs = true := by simpa using h2
        unfold nameB at hn
        simp only [Bool.and_eq_true, decide_eq_true_eq] at hn
        unfold mapB fmB at hm
        simp only [Bool.and_eq_true, Bool.not_eq_true', beq_iff_eq] at hm
        obtain ⟨⟨hm1, hm2⟩, hm3⟩ := hm
        have hg := (gvB_iff W H).1 hm1
        have hlen : cs.length ≤ 1024 := by
          have : W * H ≤ 32 * 32 := Int.mul_le_mul hg.2.1 hg.2.2.2 (by omega) (by omega)
          omega
        refine ⟨by have := hn.2.2; rw [str_size] at this; exact this, hg, ⟨hm2, hlen⟩, fun c hc => ?_, by omega, fun p hp => ?_⟩
        · have := List.any_eq_false.1 hm3 c hc
          unfold badC at this
          simpa using this
        · have := (inB_iff W H p).1 (pass_in (startsE_all _ _ _ h p hp))
          omega
theorem starts_ne (n : List UInt8) (W H : Int) (cs : List Cel) (l : Nat) (e : Int) : ∀ (L : List (List UInt8)) (a : Nat) (ps : List Po), sStarts n W H cs L a ps = .bad l e → e ≠ 0
  | [], a, ps, h => by injection h with _ h; omega
  | [t], a, ps, h => by
    rw [sStarts] at h
    split at h
    · unfold fin at h
      split at h
      · cases h
      · rename_i hv
        injection h with _ h
        rw [← h]; exact hv
    · injection h with _ h; omega
  | x :: y :: L, a, ps, h => by
    rw [sStarts] at h
    split at h
    · injection h with _ h; omega
    · exact starts_ne n W H cs l e _ _ _ h
theorem amts_ne (n : List UInt8) (W H : Int) (l : Nat) (e : Int) : ∀ (f i : Nat) (cs : List Cel) (L : List (List UInt8)) (a : Nat), sAmts n W H f i cs L a = .bad l e → e ≠ 0
  | 0, i, cs, L, a, h => starts_ne n W H cs l e _ _ _ h
  | f + 1, i, cs, L, a, h => by
    rw [sAmts] at h
    split at h
    · split at h
      · injection h with _ h; omega
      · split at h
        · injection h with _ h; omega
        · exact amts_ne n W H l e f _ _ _ _ h
    · exact amts_ne n W H l e f _ _ _ _ h
theorem high_ne (n : List UInt8) (W H : Int) (l : Nat) (e : Int) : ∀ (f y : Nat) (cs : List Cel) (L : List (List UInt8)) (a : Nat), sHigh n W H f y cs L a = .bad l e → e ≠ 0
  | 0, y, cs, L, a, h => amts_ne n W H l e _ _ _ _ _ h
  | f + 1, y, cs, L, a, h => by
    rw [sHigh] at h
    split at h
    · injection h with _ h; omega
    · split at h
      · exact high_ne n W H l e f _ _ _ _ h
      · injection h with _ h; omega
theorem kinds_ne (n : List UInt8) (W H : Int) (l : Nat) (e : Int) : ∀ (f : Nat) (cs : List Cel) (L : List (List UInt8)) (a : Nat), sKinds n W H f cs L a = .bad l e → e ≠ 0
  | 0, cs, L, a, h => high_ne n W H l e _ _ _ _ _ h
  | f + 1, cs, L, a, h => by
    rw [sKinds] at h
    split at h
    · injection h with _ h; omega
    · split at h
      · exact kinds_ne n W H l e f _ _ _ h
      · injection h with _ h; omega
theorem parse_ne {s : List UInt8} {l : Nat} {e : Int} (h : parseS s = .bad l e) : e ≠ 0 := by
  unfold parseS at h
  split at h
  · injection h with _ h; omega
  · split at h
    · injection h with _ h; omega
    · split at h
      · injection h with _ h; omega
      · exact kinds_ne _ _ _ l e _ _ _ _ h
end Go.Proofs.YtmiceolkmiiahaaGreatDoor
