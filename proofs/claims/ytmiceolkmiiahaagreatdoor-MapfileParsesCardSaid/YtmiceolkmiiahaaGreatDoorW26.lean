/- Walks: the reader's characters. -/
import Derived.Test.YtmiceolkmiiahaaGreatDoorW25
namespace Go.Proofs.YtmiceolkmiiahaaGreatDoor
open Go.RowKit
set_option linter.unusedVariables false
set_option linter.unusedSimpArgs false
set_option maxRecDepth 100000
set_option maxHeartbeats 8000000

theorem byte_ne2 (c : UInt8) (n : Nat) (h : ¬ c = UInt8.ofNat n) (hn : n < 256) : ((n : Int) == (c.toNat : Int)) = false ∧ ((c.toNat : Int) == (n : Int)) = false := by
  have hh : c.toNat ≠ n := fun e => h (UInt8.toNat_inj.1 (by rw [e]; simp; omega))
  constructor
  · rw [beq_eq_false_iff_ne]; omega
  · rw [beq_eq_false_iff_ne]; omega
theorem zero_int (w : World) : (zeroValue 3).run Tryz.prog w = .ok (.int .i64 0) w := by
  have hi : (Tryz.prog.info? 3).bind (·.zero) = some (.int .i64 0) := by kernel_rfl
  obtain ⟨i, h1, h2⟩ := Option.bind_eq_some_iff.1 hi
  simp [zeroValue, typeInfo, h1, h2]
theorem look_hit (c : UInt8) (w : World) (r j : Nat) (v : Int) (hb : w.heap[r]? = some (.map kindEs 5)) (hf : Instr.findNow (.int .u8) (.int .u8 (c.toNat : Int)) kindEs.toList 0 = some (some (j, .int .i64 v))) :
    (Instr.lookup 88 (.map (some r)) (.int .u8 (c.toNat : Int)) false).run Tryz.prog w = .ok (.int .i64 v) w := by
  have hk : MapKept.IsKey (.int .u8) (.int .u8 (c.toNat : Int)) := by constructor
  simp only [Instr.lookup, Sem.run_bind, run_underlying kmap_u, MapKept.run_getObj_map hb, Result.andThen, Sem.run_pure, MapKept.run_checkKey u8_u hk, MapKept.run_findKey u8_u hf]
  rfl
theorem look_miss (c : UInt8) (w : World) (r : Nat) (hb : w.heap[r]? = some (.map kindEs 5)) (hf : Instr.findNow (.int .u8) (.int .u8 (c.toNat : Int)) kindEs.toList 0 = some none) :
    (Instr.lookup 88 (.map (some r)) (.int .u8 (c.toNat : Int)) false).run Tryz.prog w = .ok (.int .i64 0) w := by
  have hk : MapKept.IsKey (.int .u8) (.int .u8 (c.toNat : Int)) := by constructor
  simp only [Instr.lookup, Sem.run_bind, run_underlying kmap_u, MapKept.run_getObj_map hb, Result.andThen, Sem.run_pure, MapKept.run_checkKey u8_u hk, MapKept.run_findKey u8_u hf, zero_int]
  rfl
theorem look_kind (c : UInt8) (w : World) (r : Nat) (hb : w.heap[r]? = some (.map kindEs 5)) :
    (Instr.lookup 88 (.map (some r)) (.int .u8 (c.toNat : Int)) false).run Tryz.prog w = .ok (.int .i64 (kindI c)) w := by
  by_cases h1 : c = 46
  · subst h1; exact look_hit _ w r 0 1 hb rfl
  · by_cases h2 : c = 126
    · subst h2; exact look_hit _ w r 1 2 hb rfl
    · by_cases h3 : c = 35
      · subst h3; exact look_hit _ w r 2 3 hb rfl
      · by_cases h4 : c = 84
        · subst h4; exact look_hit _ w r 3 4 hb rfl
        · by_cases h5 : c = 42
          · subst h5; exact look_hit _ w r 4 5 hb rfl
          · have e : kindI c = 0 := by unfold kindI; rw [if_neg h1, if_neg h2, if_neg h3, if_neg h4, if_neg h5]
            rw [e]
            refine look_miss c w r hb ?_
            have n1 : ((c.toNat : Int) == 46) = false := (byte_ne2 c 46 h1 (by omega)).2
            have n2 : ((c.toNat : Int) == 126) = false := (byte_ne2 c 126 h2 (by omega)).2
            have n3 : ((c.toNat : Int) == 35) = false := (byte_ne2 c 35 h3 (by omega)).2
            have n4 : ((c.toNat : Int) == 84) = false := (byte_ne2 c 84 h4 (by omega)).2
            have n5 : ((c.toNat : Int) == 42) = false := (byte_ne2 c 42 h5 (by omega)).2
            simp [kindEs, Instr.findNow, Instr.sameNow, n1, n2, n3, n4, n5]
theorem cells1_any (kb r : Nat) (c : UInt8) (w : World) (h1 : w.cell? ⟨kb, 0, none⟩ = some (.map (some r))) (h2 : w.heap[r]? = some (.map kindEs 5)) :
    Calls Tryz.prog 69 #[.int .u8 (c.toNat : Int), .pointer (some ⟨kb, 0, none⟩)] w fun e w' => e = .returned (.bool (isKind c)) ∧ w = w' := by
  have hlk := look_kind c w r h2
  clear h2
  go_enter Tryz.func69, Tryz.ntmps69
  go_wp2_with fail
  go_ret
  exact ⟨rfl, rfl⟩
theorem cells2_any' (c : UInt8) (w : World) :
    Calls Tryz.prog 70 #[.int .u8 (c.toNat : Int)] w fun e w' => e = .returned (.bool (isHigh c)) ∧ w = w' := by
  by_cases h1 : 48 ≤ c.toNat
  · have e1 : (48 : Int) ≤ (c.toNat : Int) := by omega
    by_cases h2 : c.toNat ≤ 51
    · have e2 : (c.toNat : Int) ≤ 51 := by omega
      have e : isHigh c = true := by unfold isHigh; simp [h1, h2]
      rw [e]
      go_enter Tryz.func70, Tryz.ntmps70
      go_wp2_with fail
      go_ret
      exact ⟨rfl, rfl⟩
    · have e2 : ¬ (c.toNat : Int) ≤ 51 := by omega
      have e : isHigh c = false := by unfold isHigh; simp [h1, h2]
      rw [e]
      go_enter Tryz.func70, Tryz.ntmps70
      go_wp2_with fail
      go_ret
      exact ⟨rfl, rfl⟩
  · have e1 : ¬ (48 : Int) ≤ (c.toNat : Int) := by omega
    have e : isHigh c = false := by unfold isHigh; simp [h1]
    rw [e]
    go_enter Tryz.func70, Tryz.ntmps70
    go_wp2_with fail
    go_ret
    exact ⟨rfl, rfl⟩
end Go.Proofs.YtmiceolkmiiahaaGreatDoor
