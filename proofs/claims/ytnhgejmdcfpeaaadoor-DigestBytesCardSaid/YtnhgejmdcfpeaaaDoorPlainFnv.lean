/- Plain facts on the digest: one step is injective in the value and in the byte. -/
import Derived.Test.YtnhgejmdcfpeaaaDoorW1
namespace Go.Proofs.YtnhgejmdcfpeaaaDoor
open Go Go.RowKit
set_option linter.unusedVariables false
set_option linter.unusedSimpArgs false

def bstp (x : BitVec 64) (c : UInt8) : BitVec 64 := (x ^^^ BitVec.ofNat 64 c.toNat) * 1099511628211#64

theorem stp_bv (x : BitVec 64) (c : UInt8) : stp (x.toNat : Int) c = ((bstp x c).toNat : Int) := by
  have e1 : bits .xor .u64 (x.toNat : Int) (c.toNat : Int) = ((x ^^^ BitVec.ofNat 64 c.toNat).toNat : Int) := by
    show IntKind.u64.wrap ((BitVec.ofInt 64 (x.toNat : Int) ^^^ BitVec.ofInt 64 (c.toNat : Int)).toNat : Int) = _
    rw [BitVec.ofInt_natCast, BitVec.ofInt_natCast, BitVec.ofNat_toNat, BitVec.setWidth_eq, IntKind.wrap_u64]
    have := (x ^^^ BitVec.ofNat 64 c.toNat).isLt
    omega
  unfold stp bstp
  rw [e1, IntKind.wrap_u64, BitVec.toNat_mul]
  show _ = (((x ^^^ BitVec.ofNat 64 c.toNat).toNat * 1099511628211 % 18446744073709551616 : Nat) : Int)
  omega

def bext (x : BitVec 64) (l : List UInt8) : BitVec 64 := l.foldl bstp x
theorem ext_bv (l : List UInt8) : ∀ x : BitVec 64, ext (x.toNat : Int) l = ((bext x l).toNat : Int) := by
  induction l with
  | nil => intro x; rfl
  | cons c l ih =>
    intro x
    show ext (stp (x.toNat : Int) c) l = _
    rw [stp_bv, ih]
    rfl

theorem mul_inj (x y : BitVec 64) (h : x * 1099511628211#64 = y * 1099511628211#64) : x = y := by
  have e : (1099511628211#64 : BitVec 64) * 14886173955864302971#64 = 1#64 := by decide +kernel
  have := congrArg (· * (14886173955864302971#64 : BitVec 64)) h
  simpa only [BitVec.mul_assoc, e, BitVec.mul_one] using this

theorem xor_inj (x y z : BitVec 64) (h : x ^^^ z = y ^^^ z) : x = y := by
  have := congrArg (· ^^^ z) h
  simpa only [BitVec.xor_assoc, BitVec.xor_self, BitVec.xor_zero] using this

theorem bstp_inj (x y : BitVec 64) (c : UInt8) (h : bstp x c = bstp y c) : x = y := xor_inj _ _ _ (mul_inj _ _ h)
theorem bstp_byte (x : BitVec 64) (c d : UInt8) (h : bstp x c = bstp x d) : c = d := by
  have h1 := mul_inj _ _ h
  rw [BitVec.xor_comm x, BitVec.xor_comm x] at h1
  have h2 := congrArg BitVec.toNat (xor_inj _ _ _ h1)
  simp only [BitVec.toNat_ofNat] at h2
  have hc := c.toNat_lt
  have hd := d.toNat_lt
  apply UInt8.toNat_inj.1
  omega
theorem bext_inj (l : List UInt8) : ∀ x y : BitVec 64, bext x l = bext y l → x = y := by
  induction l with
  | nil => intro x y h; exact h
  | cons c l ih => intro x y h; exact bstp_inj _ _ c (ih _ _ h)

theorem bext_one (a b : List UInt8) (c d : UInt8) (x : BitVec 64) : bext x (a ++ c :: b) = bext x (a ++ d :: b) ↔ c = d := by
  constructor
  · intro h
    unfold bext at h
    rw [List.foldl_append, List.foldl_append] at h
    exact bstp_byte _ _ _ (bext_inj b _ _ h)
  · intro h; rw [h]

theorem ext_one (a b : List UInt8) (c d : UInt8) : ext 14695981039346656037 (a ++ c :: b) = ext 14695981039346656037 (a ++ d :: b) ↔ c = d := by
  have e : (14695981039346656037 : Int) = (((14695981039346656037#64 : BitVec 64).toNat : Nat) : Int) := by decide +kernel
  rw [e, ext_bv, ext_bv, ← bext_one a b c d 14695981039346656037#64]
  constructor
  · intro h; exact BitVec.eq_of_toNat_eq (Int.ofNat.inj h)
  · intro h; rw [h]

theorem bytes_key (s : ByteArray) (k : Nat) (hk : k < s.size) (c : UInt8) (t : ByteArray) (ht : t = s.extract 0 k ++ ⟨#[c]⟩ ++ s.extract (k + 1) s.size) :
    (ext 14695981039346656037 t.data.toList = ext 14695981039346656037 s.data.toList) ↔ t = s := by
  have hs : s.data.toList = s.data.toList.take k ++ s[k] :: s.data.toList.drop (k + 1) := by
    have e : s[k] = s.data.toList[k]'(by rw [lenB]; exact hk) := rfl
    rw [e, List.getElem_cons_drop, List.take_append_drop]
  have htl : t.data.toList = s.data.toList.take k ++ c :: s.data.toList.drop (k + 1) := by
    rw [ht]
    simp [ByteArray.data_append, ByteArray.data_extract, Array.toList_extract, List.extract_eq_take_drop]
    rw [List.take_of_length_le]
    simp
  have hts : t = s ↔ c = s[k] := by
    constructor
    · intro h
      have := congrArg (fun b : ByteArray => b.data.toList) h
      rw [htl] at this
      conv at this => rhs; rw [hs]
      exact (List.cons.inj (List.append_cancel_left this)).1
    · intro h
      apply ByteArray.ext
      apply Array.toList_inj.1
      rw [htl, h, ← hs]
  rw [hts, htl]
  conv => lhs; rhs; rw [hs]
  exact ext_one _ _ _ _

theorem str_inj {a b : ByteArray} (h : a.data.toList = b.data.toList) : a = b := by
  apply ByteArray.ext
  exact Array.toList_inj.1 h

theorem bytes_bool (s : ByteArray) (k : Nat) (hk : k < s.size) (c : UInt8) (t : ByteArray) (ht : t = s.extract 0 k ++ ⟨#[c]⟩ ++ s.extract (k + 1) s.size) :
    ∃ b : Bool, (ext 14695981039346656037 t.data.toList == ext 14695981039346656037 s.data.toList) = b ∧ (t.toList == s.toList) = b := by
  have hkey := bytes_key s k hk c t ht
  rw [ByteArray.toList_eq, ByteArray.toList_eq]
  by_cases h : t = s
  · exact ⟨true, by rw [hkey.2 h]; simp, by rw [h]; simp⟩
  · refine ⟨false, ?_, ?_⟩
    · rw [beq_eq_false_iff_ne]
      exact fun e => h (hkey.1 e)
    · rw [beq_eq_false_iff_ne]
      exact fun e => h (str_inj e)
end Go.Proofs.YtnhgejmdcfpeaaaDoor
