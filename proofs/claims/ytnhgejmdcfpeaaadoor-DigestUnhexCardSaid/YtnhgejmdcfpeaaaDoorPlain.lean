/- Plain facts for the digest laws: the letters of a text, and how a range over them gives the text's bytes back. -/
import Derived.Laws.Cover4
import Derived.Laws.RangeAny
namespace Go.Proofs.YtnhgejmdcfpeaaaDoor
open Go

def ltr (l : List UInt8) : ByteArray := runesBytes (l.map fun c => (c.toNat : Int))

theorem runes_fold (ns : List Int) : ∀ s : ByteArray, ns.foldl (fun r n => r ++ Utf8.encode n) s = s ++ runesBytes ns := by
  induction ns with
  | nil => intro s; simp [runesBytes]
  | cons n ns ih =>
    intro s
    rw [List.foldl_cons, ih]
    have : runesBytes (n :: ns) = Utf8.encode n ++ runesBytes ns := by
      show (n :: ns).foldl _ _ = _
      rw [List.foldl_cons, ih]
      simp
    rw [this, ByteArray.append_assoc]

theorem ltr_cons (c : UInt8) (l : List UInt8) : ltr (c :: l) = Utf8.encode (c.toNat : Int) ++ ltr l := by
  show runesBytes ((c.toNat : Int) :: l.map fun c => (c.toNat : Int)) = _
  unfold runesBytes
  rw [List.foldl_cons, runes_fold]
  simp [ltr]

theorem ltr_append (a b : List UInt8) : ltr (a ++ b) = ltr a ++ ltr b := by
  induction a with
  | nil => simp [ltr, runesBytes]
  | cons c a ih => rw [List.cons_append, ltr_cons, ltr_cons, ih, ByteArray.append_assoc]

theorem enc_valid (c : UInt8) : Utf8.valid ((c.toNat : Nat) : Int) = true := by
  have := c.toNat_lt
  simp [Utf8.valid]
  omega
theorem enc_lo (c : UInt8) (h : c.toNat < 128) : Utf8.encode (c.toNat : Int) = ⟨#[c]⟩ := by
  unfold Utf8.encode
  simp [enc_valid, h]
theorem enc_hi (c : UInt8) (h : ¬ c.toNat < 128) : Utf8.encode (c.toNat : Int) = ⟨#[UInt8.ofNat (192 + c.toNat / 64), UInt8.ofNat (128 + c.toNat % 64)]⟩ := by
  have := c.toNat_lt
  unfold Utf8.encode
  simp only [enc_valid, if_true, Int.toNat_natCast]
  rw [if_neg h, if_pos (by omega)]

theorem enc_lo_size (c : UInt8) (h : c.toNat < 128) : (Utf8.encode (c.toNat : Int)).size = 1 := by rw [enc_lo c h]; rfl
theorem enc_hi_size (c : UInt8) (h : ¬ c.toNat < 128) : (Utf8.encode (c.toNat : Int)).size = 2 := by rw [enc_hi c h]; rfl

theorem get_mid (a b e : ByteArray) (k : Nat) (h : k < b.size) : (a ++ b ++ e).get! (a.size + k) = b.get! k := by
  have h1 : a.size + k < (a ++ b ++ e).size := by simp [ByteArray.size_append]; omega
  have e1 : (a ++ b ++ e).get! (a.size + k) = (a ++ b ++ e)[a.size + k] := by
    have := get_at (a ++ b ++ e) (a.size + k) h1
    simpa using this
  have e2 : b.get! k = b[k] := by
    have := get_at b k h
    simpa using this
  rw [e1, e2]
  rw [ByteArray.getElem_append_left (by simp [ByteArray.size_append]; omega), ByteArray.getElem_append_right (by omega)]
  simp

theorem decode_ltr (a b : List UInt8) (c : UInt8) : Utf8.decode (ltr (a ++ c :: b)) (ltr a).size = (c.toNat, (Utf8.encode (c.toNat : Int)).size) := by
  rw [ltr_append, ltr_cons, ← ByteArray.append_assoc]
  have hc := c.toNat_lt
  by_cases h : c.toNat < 128
  · have g0 : (ltr a ++ Utf8.encode (c.toNat : Int) ++ ltr b).get! ((ltr a).size + 0) = c := by
      rw [get_mid _ _ _ 0 (by rw [enc_lo_size c h]; omega), enc_lo c h]; rfl
    simp only [Utf8.decode, g0, h, if_true]
    rw [enc_lo c h]; rfl
  · have g0 : (ltr a ++ Utf8.encode (c.toNat : Int) ++ ltr b).get! ((ltr a).size + 0) = UInt8.ofNat (192 + c.toNat / 64) := by
      rw [get_mid _ _ _ 0 (by rw [enc_hi_size c h]; omega), enc_hi c h]; rfl
    have g1 : (ltr a ++ Utf8.encode (c.toNat : Int) ++ ltr b).get! ((ltr a).size + 1) = UInt8.ofNat (128 + c.toNat % 64) := by
      rw [get_mid _ _ _ 1 (by rw [enc_hi_size c h]; omega), enc_hi c h]; rfl
    have hz : (ltr a).size + 1 < (ltr a ++ Utf8.encode (c.toNat : Int) ++ ltr b).size := by
      simp only [ByteArray.size_append, enc_hi c h]
      show _ < (ltr a).size + 2 + _
      omega
    have n0 : (UInt8.ofNat (192 + c.toNat / 64)).toNat = 192 + c.toNat / 64 := by simp; omega
    have n1 : (UInt8.ofNat (128 + c.toNat % 64)).toNat = 128 + c.toNat % 64 := by simp; omega
    have e2 : (Utf8.encode (c.toNat : Int)).size = 2 := by rw [enc_hi c h]; rfl
    simp only [Utf8.decode, g0, g1, n0, n1, e2, hz, decide_true, Bool.true_and]
    rw [if_neg (by omega), if_pos (by simp; omega)]
    rw [if_pos (by omega)]
    ext <;> simp <;> omega

theorem ltr_size_pos (c : UInt8) : 1 ≤ (Utf8.encode (c.toNat : Int)).size := by
  by_cases h : c.toNat < 128
  · rw [enc_lo_size c h]; omega
  · rw [enc_hi_size c h]; omega

theorem ltr_size_le (l : List UInt8) : (ltr l).size ≤ 4 * l.length := by
  have := runesBytes_size_le (l.map fun c => (c.toNat : Int))
  simpa [ltr] using this

end Go.Proofs.YtnhgejmdcfpeaaaDoor
