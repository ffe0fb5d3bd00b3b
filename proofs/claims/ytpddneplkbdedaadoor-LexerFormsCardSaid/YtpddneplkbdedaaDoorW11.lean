/- The scans of the lexer, told by lists. -/
import Derived.Test.YtpddneplkbdedaaDoorW10
namespace Go.Proofs.YtpddneplkbdedaaDoor
open Go.RowKit
set_option linter.unusedVariables false
set_option linter.unusedSimpArgs false

def isLc (c : UInt8) : Bool := lcI (c.toNat : Int)
def isDg (c : UInt8) : Bool := digI (c.toNat : Int)
def isPt (c : UInt8) : Bool := partI (c.toNat : Int)
def isPr (c : UInt8) : Bool := prnI (c.toNat : Int)

theorem pre_list (f : Nat) (P : UInt8 → Bool) (l : List UInt8) (hl : l.length ≤ 1000000)
    (h : ∀ (s : ByteArray) (e : Nat) (hs : s.size ≤ 1000000) (he : e ≤ s.size) (hp : ∀ k (h : k < s.size), k < e → P s[k] = true) (hx : s.size ≤ e ∨ ∃ h : e < s.size, P s[e] = false), KC 39 #[.string s, .func (.func f) #[] #[]] (.string (s.extract 0 e))) :
    KC 39 #[.string (str l), .func (.func f) #[] #[]] (.string (str (l.takeWhile P))) := by
  obtain ⟨f1, f2⟩ := tw_facts P l
  have := h (str l) (l.takeWhile P).length (by rw [str_size]; exact hl) (by rw [str_size]; exact tw_len _ _) f1 f2
  rw [str_take, tw_take] at this
  exact this
theorem pre_part (l : List UInt8) (hl : l.length ≤ 1000000) : KC 39 #[.string (str l), .func (.func 45) #[] #[]] (.string (str (l.takeWhile isPt))) :=
  pre_list 45 isPt l hl fun s e hs he hp hx w => prefix_part s e hs he hp hx w
theorem pre_digit (l : List UInt8) (hl : l.length ≤ 1000000) : KC 39 #[.string (str l), .func (.func 46) #[] #[]] (.string (str (l.takeWhile isDg))) :=
  pre_list 46 isDg l hl fun s e hs he hp hx w => prefix_digit s e hs he hp hx w
theorem pre_print (l : List UInt8) (hl : l.length ≤ 1000000) : KC 39 #[.string (str l), .func (.func 48) #[] #[]] (.string (str (l.takeWhile isPr))) :=
  pre_list 48 isPr l hl fun s e hs he hp hx w => prefix_print s e hs he hp hx w

theorem run_list (l : List UInt8) (hl : l.length ≤ 1000000) : KC 34 #[.string (str l)] (.int .i64 ((l.takeWhile isPt).length : Int)) := fun w => by
  obtain ⟨f1, f2⟩ := tw_facts isPt l
  exact run_at (str l) (l.takeWhile isPt).length (by rw [str_size]; exact hl) (by rw [str_size]; exact tw_len _ _) f1 f2 w

theorem all_tw (P : UInt8 → Bool) (l : List UInt8) : (l.length ≤ (l.takeWhile P).length ∧ l.all P = true) ∨ ∃ h : (l.takeWhile P).length < l.length, P l[(l.takeWhile P).length] = false ∧ l.all P = false := by
  obtain ⟨f1, f2⟩ := tw_facts P l
  rcases f2 with h | ⟨h, h2⟩
  · refine Or.inl ⟨h, ?_⟩
    rw [List.all_eq_true]
    intro x hx
    obtain ⟨k, hk, rfl⟩ := List.getElem_of_mem hx
    exact f1 k hk (by omega)
  · refine Or.inr ⟨h, h2, ?_⟩
    rw [List.all_eq_false]
    exact ⟨_, List.getElem_mem h, by rw [h2]; decide⟩

theorem plain_list (l : List UInt8) (hl : l.length ≤ 1000000) : KC 36 #[.string (str l)] (.bool (l.all isPr)) := fun w => by
  obtain ⟨f1, f2⟩ := tw_facts isPr l
  exact plain_at (str l) (l.takeWhile isPr).length _ (by rw [str_size]; exact hl) (by rw [str_size]; exact tw_len _ _) f1 (all_tw isPr l) w

/-- Where the first quotation mark stands. -/
def quoteI (l : List UInt8) : Int := if l.length ≤ (l.takeWhile fun c => c != 34).length then -1 else ((l.takeWhile fun c => c != 34).length : Int)

theorem quote_list (l : List UInt8) (hl : l.length ≤ 1000000) : KC 51 #[.string (str l)] (.int .i64 (quoteI l)) := fun w => by
  obtain ⟨f1, f2⟩ := tw_facts (fun c => c != 34) l
  have hb : ∀ c : UInt8, (c != 34) = true → ((c.toNat : Int) == 34) = false := fun c h => by
    have h1 : ¬ c = 34 := by simpa using h
    rw [beq_eq_false_iff_ne]
    intro e
    apply h1
    apply UInt8.toNat_inj.mp
    have : c.toNat = 34 := by omega
    exact this
  refine quote_at (str l) (l.takeWhile fun c => c != 34).length _ (by rw [str_size]; exact hl) (by rw [str_size]; exact tw_len _ _) (fun k h hk => hb _ (f1 k h hk)) ?_ w
  unfold quoteI
  rcases f2 with h | ⟨h, h2⟩
  · exact Or.inl ⟨h, by rw [if_pos h]⟩
  · refine Or.inr ⟨h, ?_, by rw [if_neg (by omega)]⟩
    have h3 : l[(l.takeWhile fun c => c != 34).length] = 34 := by simpa using h2
    rw [str_get, h3]
    rfl
end Go.Proofs.YtpddneplkbdedaaDoor
