/- Walks: the map of kinds, a kind's character. -/
import Derived.Test.YtmiceolkmiiahaaGreatDoorW14
import Derived.Laws.IdiomRangeMap
import Derived.Maps.Own
import Derived.Maps.RangeRun
namespace Go.Proofs.YtmiceolkmiiahaaGreatDoor
open Go.RowKit
open Go.ChangeMaps (setBlock)
set_option linter.unusedVariables false
set_option linter.unusedSimpArgs false
set_option maxRecDepth 100000
set_option maxHeartbeats 8000000

abbrev ent (k v : Int) (b : Nat) : MapEntry := ⟨.int .u8 k, .int .i64 v, b⟩
def kindEs : Array MapEntry := #[ent 46 1 0, ent 126 2 1, ent 35 3 2, ent 84 4 3, ent 42 5 4]
theorem kmap_u : Tryz.prog.underlying 88 = some (.map 5 3) := by kernel_rfl
theorem u8_u : Tryz.prog.underlying 5 = some (.int .u8) := by kernel_rfl
theorem ins_new (w : World) (es : Array MapEntry) (clock : Nat) (k : Int) (v : Value) (h1 : Instr.findNow (.int .u8) (.int .u8 k) es.toList 0 = some none) :
    Sem.run Tryz.prog (Instr.mapUpdate 88 (.map (some w.heap.size)) (.int .u8 k) v) (w.alloc (.map es clock)) = .ok () (w.alloc (.map (es.push ⟨.int .u8 k, v, clock⟩) (clock + 1))) := by
  have hb : (w.alloc (.map es clock)).heap[w.heap.size]? = some (.map es clock) := heap_alloc_new w _
  have hk : MapKept.IsKey (.int .u8) (.int .u8 k) := by constructor
  have hp : ∀ (h : Array Obj) (x y : Obj), (h.push x).setIfInBounds h.size y = h.push y := by
    intro h x y
    apply Array.toList_inj.1
    simp
  have hw : ({ w.alloc (.map es clock) with heap := (w.alloc (.map es clock)).heap.setIfInBounds w.heap.size (.map (es.push ⟨.int .u8 k, v, clock⟩) (clock + 1)) } : World) = w.alloc (.map (es.push ⟨.int .u8 k, v, clock⟩) (clock + 1)) := by
    show ({ w.alloc (.map es clock) with heap := (w.heap.push (.map es clock)).setIfInBounds w.heap.size (.map (es.push ⟨.int .u8 k, v, clock⟩) (clock + 1)) } : World) = _
    rw [hp]
    rfl
  simp only [Instr.mapUpdate, Sem.run_bind, run_underlying kmap_u, MapKept.run_getObj_map hb, MapKept.run_checkKey u8_u hk, MapKept.run_findKey u8_u h1, MapKept.run_setObj_map _ hb, Result.andThen]
  rw [hw]

theorem kinds_any (w : World) : Calls Tryz.prog 55 #[] w fun e w' => e = .returned (.map (some w.heap.size)) ∧ w' = w.alloc (.map kindEs 5) := by
  have hmm := @run_makeMap Tryz.prog
  have h1 := ins_new w #[] 0 46 (.int .i64 1) rfl
  have h2 := ins_new w #[ent 46 1 0] 1 126 (.int .i64 2) rfl
  have h3 := ins_new w #[ent 46 1 0, ent 126 2 1] 2 35 (.int .i64 3) rfl
  have h4 := ins_new w #[ent 46 1 0, ent 126 2 1, ent 35 3 2] 3 84 (.int .i64 4) rfl
  have h5 := ins_new w #[ent 46 1 0, ent 126 2 1, ent 35 3 2, ent 84 4 3] 4 42 (.int .i64 5) rfl
  simp only [List.push_toArray, List.cons_append, List.nil_append, Nat.reduceAdd] at h1 h2 h3 h4 h5
  go_enter Tryz.func55, Tryz.ntmps55
  go_wp2_with fail
  go_ret
  exact ⟨rfl, rfl⟩

def charI (k : Int) : Int := if k = 1 then 46 else if k = 2 then 126 else if k = 3 then 35 else if k = 4 then 84 else if k = 5 then 42 else 0
theorem kind_ent {e : MapEntry} (h : e ∈ kindEs.toList) : ∃ v, e.key = .int .u8 (charI v) ∧ e.val = .int .i64 v := by
  simp only [kindEs, List.mem_cons, List.not_mem_nil, or_false] at h
  rcases h with rfl | rfl | rfl | rfl | rfl
  · exact ⟨1, rfl, rfl⟩
  · exact ⟨2, rfl, rfl⟩
  · exact ⟨3, rfl, rfl⟩
  · exact ⟨4, rfl, rfl⟩
  · exact ⟨5, rfl, rfl⟩
theorem kind_no {k : Int} (h : ∀ x ∈ kindEs.toList, x.val ≠ .int .i64 k) : charI k = 0 := by
  have h1 : k ≠ 1 := fun e => h (ent 46 1 0) (by simp [kindEs]) (by rw [e])
  have h2 : k ≠ 2 := fun e => h (ent 126 2 1) (by simp [kindEs]) (by rw [e])
  have h3 : k ≠ 3 := fun e => h (ent 35 3 2) (by simp [kindEs]) (by rw [e])
  have h4 : k ≠ 4 := fun e => h (ent 84 4 3) (by simp [kindEs]) (by rw [e])
  have h5 : k ≠ 5 := fun e => h (ent 42 5 4) (by simp [kindEs]) (by rw [e])
  simp [charI, h1, h2, h3, h4, h5]
theorem kindEs_stamped : (∀ x ∈ kindEs.toList, x.born < 5) ∧ (kindEs.toList.map (·.born)).Nodup := by
  constructor
  · intro x hx
    simp only [kindEs, List.mem_cons, List.not_mem_nil, or_false] at hx
    rcases hx with rfl | rfl | rfl | rfl | rfl <;> decide
  · simp [kindEs]
theorem setBlock_at {w : World} {r : Nat} {o o' : Obj} (h : w.heap[r]? = some o) : (setBlock w r o').heap[r]? = some o' := (MapKept.heap_set h).1
theorem setBlock_far {w : World} {r i : Nat} {o o' : Obj} (h : w.heap[r]? = some o) (hi : i ≠ r) : (setBlock w r o').heap[i]? = w.heap[i]? := (MapKept.heap_set h).2 i hi
theorem setBlock_below {w : World} {B r : Nat} {o' : Obj} (h : B ≤ r) : Below B w (setBlock w r o') := by
  refine ⟨rfl, rfl, rfl, ?_, fun k hk => ?_⟩
  · show _ ≤ (w.heap.setIfInBounds r o').size
    simp
  · show (w.heap.setIfInBounds r o')[k]? = _
    rw [Array.getElem?_setIfInBounds_ne (by omega)]
/-- A range over the kinds, under way. -/
def Rng (w wr : World) (k : Int) : Prop := ∃ seen c0, wr.heap[w.heap.size + 1]? = some (.mapIter (some w.heap.size) 5 seen c0) ∧ 5 ≤ c0 ∧ wr.heap[w.heap.size]? = some (.map kindEs 5) ∧ Below w.heap.size w wr ∧ ∀ x ∈ kindEs.toList, seen.contains x.born = true → x.val ≠ .int .i64 k

theorem character_any (k : Int) (w : World) : KB 22 #[.int .i64 k] (.int .u8 (charI k)) w := by
  have H1 := Lib.hid kinds_any
  have hrg := run_range_map (P := Tryz.prog) (w.alloc (.map kindEs 5)) 88 5 3 w.heap.size kindEs 5 kmap_u (heap_alloc_new w _)
  have hz := tok_size w (.map kindEs 5)
  rw [hz] at hrg
  clear hz
  unfold KB
  obtain ⟨r, hr⟩ : ∃ r, charI k = r := ⟨_, rfl⟩
  rw [hr]
  have HR := Lib.hid hr
  clear hr
  go_enter Tryz.func22, Tryz.ntmps22
  go_wp2_with fail
  refine (H1.out _).mono ?_
  rintro e w1 ⟨rfl, rfl⟩
  go_wp2_with fail
  clear hrg
  go_loopw [] (fun wr => Rng w wr k) (fun wr => (leftOf kindEs (wr.iterSeen (w.heap.size + 1))).size)
  case atStart =>
    refine ⟨#[], 5, ?_, by omega, ?_, (below_new _ _).trans ((below_new _ _).mono (by simp)), fun x _ h => by simp at h⟩
    · have := heap_alloc_new (w.alloc (.map kindEs 5)) (.mapIter (some w.heap.size) 5 #[] 5)
      rw [tok_size] at this
      exact this
    · exact block_below (below_new _ _) (heap_alloc_new w _)
  case round =>
    obtain ⟨seen, c0, hr, hc0, hb, hbel, hno⟩ := hrel
    have HNO := Lib.hid hno
    have HE := Lib.hid hbel
    clear hno hbel
    have law := run_next_at (P := Tryz.prog) wr 0 (w.heap.size + 1) w.heap.size 5 c0 seen kindEs 5 hr hb kindEs_stamped.1 hc0
    rcases law with ⟨h0, hrun⟩ | ⟨e, he, w2, hw2, hrun⟩
    · have hnx : ∀ ty, (Instr.next (.pointer (some ⟨w.heap.size + 1, 0, none⟩)) false ty).run Tryz.prog wr = _ := fun _ => hrun
      have hr0 : r = 0 := by rw [← HR.out]; exact kind_no fun x hx => HNO.out x hx (all_seen kindEs seen h0 x hx)
      have HRk := Lib.hid hr0
      clear hrun hr hb h0 hr0
      go_wp2_with fail
      go_ret
      exact ⟨by rw [HRk.out]; rfl, HE.out⟩
    · obtain ⟨hek, hes⟩ := mem_left he
      obtain ⟨v, hkey, hval⟩ := kind_ent hek
      obtain ⟨w3, hw3⟩ : ∃ w3, setBlock w2 (w.heap.size + 1) (.mapIter (some w.heap.size) 5 (seen.push e.born) 5) = w3 := ⟨_, rfl⟩
      have h2r : w2.heap[w.heap.size + 1]? = some (.mapIter (some w.heap.size) 5 seen c0) := by rcases hw2 with rfl | rfl <;> exact hr
      have h2b : w2.heap[w.heap.size]? = some (.map kindEs 5) := by rcases hw2 with rfl | rfl <;> exact hb
      have h2e : Below w.heap.size w w2 := by rcases hw2 with rfl | rfl <;> first | exact HE.out | exact HE.out.drew
      have h3r : w3.heap[w.heap.size + 1]? = some (.mapIter (some w.heap.size) 5 (seen.push e.born) 5) := by rw [← hw3]; exact setBlock_at h2r
      have h3b : w3.heap[w.heap.size]? = some (.map kindEs 5) := by rw [← hw3, setBlock_far h2r (by omega)]; exact h2b
      have h3e : Below w.heap.size w w3 := by rw [← hw3]; exact h2e.trans (setBlock_below (by omega))
      have hen := run_entry_at (P := Tryz.prog) w3 (w.heap.size + 1) w.heap.size 5 seen kindEs 5 e h3r h3b hek kindEs_stamped.2
      rw [hw3, hkey, hval] at hrun
      rw [hkey, hval] at hen
      have hnx : ∀ ty, (Instr.next (.pointer (some ⟨w.heap.size + 1, 0, none⟩)) false ty).run Tryz.prog wr = _ := fun _ => hrun
      have H3E := Lib.hid h3e; have H3R := Lib.hid h3r; have H3B := Lib.hid h3b; have HRR := Lib.hid hr
      have HM := Lib.hid (left_shrinks kindEs seen e he)
      have HS : Hid (v ≠ k → ∀ x ∈ kindEs.toList, (seen.push e.born).contains x.born = true → x.val ≠ .int .i64 k) := Lib.hid fun hvk x hx hc => by
        rw [contains_push] at hc
        rcases Bool.or_eq_true _ _ ▸ hc with h1 | h1
        · exact HNO.out x hx h1
        · have : x = e := born_inj kindEs_stamped.2 hx hek (beq_iff_eq.1 h1)
          rw [this, hval]
          intro h; apply hvk; injection h
      clear hrun hr hb h3e h3r h3b h2r h2b h2e hw3 hw2 hek hes hkey hval he
      by_cases hvk : v = k
      · subst hvk
        have hb1 : (v == v) = true := by simp
        go_wp2_with fail
        go_ret
        exact ⟨by rw [HR.out]; rfl, H3E.out⟩
      · have hb1 : (v == k) = false := by simpa using hvk
        have HVK := Lib.hid hvk
        clear hvk
        go_wp2_with fail
        go_roundw
        case rel => exact ⟨_, 5, H3R.out, by omega, H3B.out, H3E.out, HS.out HVK.out⟩
        case measure =>
          have e1 : w3.iterSeen (w.heap.size + 1) = seen.push e.born := by unfold World.iterSeen; rw [H3R.out]
          have e2 : wr.iterSeen (w.heap.size + 1) = seen := by unfold World.iterSeen; rw [HRR.out]
          rw [e1, e2]
          exact HM.out
end Go.Proofs.YtmiceolkmiiahaaGreatDoor
