/- The reference's Parse of the num package: its ways, negative (printed by genref.py). -/
import Derived.Test.YtoihknngllmogaaDoorW28
namespace Go.Proofs.YtoihknngllmogaaDoor
open Go.RowKit
set_option linter.unusedVariables false
set_option linter.unusedSimpArgs false

/-- The digits ahead, and what the loop makes of them. -/
def Lead (r : ByteArray) (e : Nat) (wv : Nat → Int) (lg : Nat → Bool) : Prop :=
  ∀ k (h : k < r.size), k < e → (48 ≤ r[k].toNat ∧ r[k].toNat ≤ 57) ∧ 0 ≤ wv k ∧ wv k ≤ 36028797018963968 ∧
    ((36028797018963968 < wv k * 10 + ((r[k].toNat : Int) - 48) ∧ wv (k + 1) = 36028797018963968 ∧ lg (k + 1) = true) ∨
     (wv k * 10 + ((r[k].toNat : Int) - 48) ≤ 36028797018963968 ∧ wv (k + 1) = wv k * 10 + ((r[k].toNat : Int) - 48) ∧ lg (k + 1) = lg k))

def QRet (w : World) (v k : Int) (e : Ending) (w' : World) : Prop := e = .returned (.tuple #[.int .i64 v, .int .i64 k]) ∧ w = w'
def C39 (B : ByteArray) (F : Int) (O : Bool) : Prop := ∀ W, Calls Tryd.prog 39 #[.string B] W fun e w' => e = .returned (.tuple #[.int .u64 F, .bool O]) ∧ W = w'

set_option maxHeartbeats 2000000 in
theorem q_synt1_n (s r b : ByteArray) (e : Nat) (wv : Nat → Int) (lg : Nat → Bool) (V F : Int) (O Z L : Bool)  (n0 : 0 < s.size) (n1 : ((s[0].toNat : Int) == 45) = true) (n2 : s.extract 1 s.size = r) (hss : s.size ≤ 1000000) (hrs : r.size ≤ 1000000) (he : e ≤ r.size) (hl : Hid (Lead r e wv lg)) (h0 : Hid (wv 0 = 0 ∧ lg 0 = false)) (hV : Hid (wv e = V)) (hL : Hid (lg e = L)) (hV0 : 0 ≤ V) (hV1 : V ≤ 36028797018963968) (e0 : e = 0) (x : r.size ≤ e ∨ (∃ x : e < r.size, r[e].toNat < 48) ∨ (∃ x : e < r.size, 57 < r[e].toNat)) (w : World) :
    Calls Tryd.prog 25 #[.string s] w (QRet w 0 5) := by
  have X := Lib.hid x
  have E0 := Lib.hid e0
  clear x e0
  go_enter Tryd.func25, Tryd.ntmps25
  go_wp2
  go_loop [5, 6, 7] (fun iv vv lv => ∃ k : Nat, k ≤ e ∧ iv = .int .i64 (k : Int) ∧ vv = .int .u64 (wv k) ∧ lv = .bool (lg k)) (fun iv _ _ => r.size - (intOf iv).toNat)
  case atStart => exact ⟨0, by omega, rfl, by rw [h0.out.1], by rw [h0.out.2]⟩
  case round =>
    obtain ⟨k, hk, rfl, rfl, rfl⟩ := hrel
    by_cases hke : k < e
    · have hkr : k < r.size := by omega
      obtain ⟨⟨d0, d1⟩, v0, v1, hst⟩ := hl.out k hkr hke
      rcases hst with ⟨g1, g2⟩ | ⟨g1, g2⟩
      all_goals
        have G2 := Lib.hid g2
        clear g2
        go_wp2
        go_round
        case rel => exact ⟨k + 1, by omega, by go_num, by rw [G2.out.1], by rw [G2.out.2]⟩
        case measure => simp [intOf]; omega
    · obtain rfl : k = e := by omega
      rw [hV.out, hL.out]
      obtain rfl : k = 0 := E0.out
      rcases X.out with x | ⟨x, x1⟩ | ⟨x, x1⟩
      all_goals go_wp2
      all_goals go_ret2
      all_goals exact ⟨rfl, rfl⟩

set_option maxHeartbeats 2000000 in
theorem q_synt2_n (s r b : ByteArray) (e : Nat) (wv : Nat → Int) (lg : Nat → Bool) (V F : Int) (O Z L : Bool)  (n0 : 0 < s.size) (n1 : ((s[0].toNat : Int) == 45) = true) (n2 : s.extract 1 s.size = r) (hss : s.size ≤ 1000000) (hrs : r.size ≤ 1000000) (he : e ≤ r.size) (hl : Hid (Lead r e wv lg)) (h0 : Hid (wv 0 = 0 ∧ lg 0 = false)) (hV : Hid (wv e = V)) (hL : Hid (lg e = L)) (hV0 : 0 ≤ V) (hV1 : V ≤ 36028797018963968) (e0 : 1 < e) (hz : ((r[0].toNat : Int) == 48) = true) (x : r.size ≤ e ∨ (∃ x : e < r.size, r[e].toNat < 48) ∨ (∃ x : e < r.size, 57 < r[e].toNat)) (w : World) :
    Calls Tryd.prog 25 #[.string s] w (QRet w 0 5) := by
  have X := Lib.hid x
  clear x
  go_enter Tryd.func25, Tryd.ntmps25
  go_wp2
  go_loop [5, 6, 7] (fun iv vv lv => ∃ k : Nat, k ≤ e ∧ iv = .int .i64 (k : Int) ∧ vv = .int .u64 (wv k) ∧ lv = .bool (lg k)) (fun iv _ _ => r.size - (intOf iv).toNat)
  case atStart => exact ⟨0, by omega, rfl, by rw [h0.out.1], by rw [h0.out.2]⟩
  case round =>
    obtain ⟨k, hk, rfl, rfl, rfl⟩ := hrel
    by_cases hke : k < e
    · have hkr : k < r.size := by omega
      obtain ⟨⟨d0, d1⟩, v0, v1, hst⟩ := hl.out k hkr hke
      rcases hst with ⟨g1, g2⟩ | ⟨g1, g2⟩
      all_goals
        have G2 := Lib.hid g2
        clear g2
        go_wp2
        go_round
        case rel => exact ⟨k + 1, by omega, by go_num, by rw [G2.out.1], by rw [G2.out.2]⟩
        case measure => simp [intOf]; omega
    · obtain rfl : k = e := by omega
      rw [hV.out, hL.out]
      rcases X.out with x | ⟨x, x1⟩ | ⟨x, x1⟩
      all_goals go_wp2
      all_goals go_ret2
      all_goals exact ⟨rfl, rfl⟩

set_option maxHeartbeats 2000000 in
theorem q_dot_n (s r b : ByteArray) (e : Nat) (wv : Nat → Int) (lg : Nat → Bool) (V F : Int) (O Z L : Bool)  (n0 : 0 < s.size) (n1 : ((s[0].toNat : Int) == 45) = true) (n2 : s.extract 1 s.size = r) (hss : s.size ≤ 1000000) (hrs : r.size ≤ 1000000) (he : e ≤ r.size) (hl : Hid (Lead r e wv lg)) (h0 : Hid (wv 0 = 0 ∧ lg 0 = false)) (hV : Hid (wv e = V)) (hL : Hid (lg e = L)) (hV0 : 0 ≤ V) (hV1 : V ≤ 36028797018963968) (e0 : 0 < e) (hz : e ≤ 1 ∨ ∃ h : 1 < e, ((r[0].toNat : Int) == 48) = false) (x : e < r.size) (x1 : r[e].toNat < 48 ∨ 57 < r[e].toNat) (x2 : ¬ (r[e].toNat : Int) = 46) (hb : r.extract (e + 1) r.size = b) (h4 : C39 b F O) (w : World) :
    Calls Tryd.prog 25 #[.string s] w (QRet w 0 5) := by
  have H4 := Lib.hid h4
  clear h4
  rcases hz with hz | ⟨hz1, hz⟩
  all_goals rcases x1 with x1 | x1
  all_goals
    go_enter Tryd.func25, Tryd.ntmps25
    go_wp2
    go_loop [5, 6, 7] (fun iv vv lv => ∃ k : Nat, k ≤ e ∧ iv = .int .i64 (k : Int) ∧ vv = .int .u64 (wv k) ∧ lv = .bool (lg k)) (fun iv _ _ => r.size - (intOf iv).toNat)
    case atStart => exact ⟨0, by omega, rfl, by rw [h0.out.1], by rw [h0.out.2]⟩
    case round =>
      obtain ⟨k, hk, rfl, rfl, rfl⟩ := hrel
      by_cases hke : k < e
      · have hkr : k < r.size := by omega
        obtain ⟨⟨d0, d1⟩, v0, v1, hst⟩ := hl.out k hkr hke
        rcases hst with ⟨g1, g2⟩ | ⟨g1, g2⟩
        all_goals
          have G2 := Lib.hid g2
          clear g2
          go_wp2
          go_round
          case rel => exact ⟨k + 1, by omega, by go_num, by rw [G2.out.1], by rw [G2.out.2]⟩
          case measure => simp [intOf]; omega
      · obtain rfl : k = e := by omega
        rw [hV.out, hL.out]
        go_wp2_with ((go_at_call 39; refine (H4.out _).mono ?_; rintro e w1 ⟨rfl, rfl⟩))
        go_ret2
        exact ⟨rfl, rfl⟩

set_option maxHeartbeats 2000000 in
theorem q_frac_n (s r b : ByteArray) (e : Nat) (wv : Nat → Int) (lg : Nat → Bool) (V F : Int) (O Z L : Bool)  (n0 : 0 < s.size) (n1 : ((s[0].toNat : Int) == 45) = true) (n2 : s.extract 1 s.size = r) (hss : s.size ≤ 1000000) (hrs : r.size ≤ 1000000) (he : e ≤ r.size) (hl : Hid (Lead r e wv lg)) (h0 : Hid (wv 0 = 0 ∧ lg 0 = false)) (hV : Hid (wv e = V)) (hL : Hid (lg e = L)) (hV0 : 0 ≤ V) (hV1 : V ≤ 36028797018963968) (e0 : 0 < e) (hz : e ≤ 1 ∨ ∃ h : 1 < e, ((r[0].toNat : Int) == 48) = false) (x : e < r.size) (x1 : r[e].toNat < 48) (x2 : (r[e].toNat : Int) = 46) (hb : r.extract (e + 1) r.size = b) (h4 : C39 b F false) (w : World) :
    Calls Tryd.prog 25 #[.string s] w (QRet w 0 5) := by
  have H4 := Lib.hid h4
  clear h4
  rcases hz with hz | ⟨hz1, hz⟩
  all_goals
    go_enter Tryd.func25, Tryd.ntmps25
    go_wp2
    go_loop [5, 6, 7] (fun iv vv lv => ∃ k : Nat, k ≤ e ∧ iv = .int .i64 (k : Int) ∧ vv = .int .u64 (wv k) ∧ lv = .bool (lg k)) (fun iv _ _ => r.size - (intOf iv).toNat)
    case atStart => exact ⟨0, by omega, rfl, by rw [h0.out.1], by rw [h0.out.2]⟩
    case round =>
      obtain ⟨k, hk, rfl, rfl, rfl⟩ := hrel
      by_cases hke : k < e
      · have hkr : k < r.size := by omega
        obtain ⟨⟨d0, d1⟩, v0, v1, hst⟩ := hl.out k hkr hke
        rcases hst with ⟨g1, g2⟩ | ⟨g1, g2⟩
        all_goals
          have G2 := Lib.hid g2
          clear g2
          go_wp2
          go_round
          case rel => exact ⟨k + 1, by omega, by go_num, by rw [G2.out.1], by rw [G2.out.2]⟩
          case measure => simp [intOf]; omega
      · obtain rfl : k = e := by omega
        rw [hV.out, hL.out]
        go_wp2_with ((go_at_call 39; refine (H4.out _).mono ?_; rintro e w1 ⟨rfl, rfl⟩))
        go_ret2
        exact ⟨rfl, rfl⟩

set_option maxHeartbeats 2000000 in
theorem q_zerow_n (s r b : ByteArray) (e : Nat) (wv : Nat → Int) (lg : Nat → Bool) (V F : Int) (O Z L : Bool)  (n0 : 0 < s.size) (n1 : ((s[0].toNat : Int) == 45) = true) (n2 : s.extract 1 s.size = r) (hss : s.size ≤ 1000000) (hrs : r.size ≤ 1000000) (he : e ≤ r.size) (hl : Hid (Lead r e wv lg)) (h0 : Hid (wv 0 = 0 ∧ lg 0 = false)) (hV : Hid (wv e = V)) (hL : Hid (lg e = false)) (hV0 : 0 ≤ V) (hV1 : V ≤ 36028797018963968) (e0 : 0 < e) (hz : e ≤ 1 ∨ ∃ h : 1 < e, ((r[0].toNat : Int) == 48) = false) (x : r.size ≤ e) (u0 : ((V * 256) == 0) = true) (w : World) :
    Calls Tryd.prog 25 #[.string s] w (QRet w 0 5) := by
  rcases hz with hz | ⟨hz1, hz⟩
  all_goals
    go_enter Tryd.func25, Tryd.ntmps25
    go_wp2
    go_loop [5, 6, 7] (fun iv vv lv => ∃ k : Nat, k ≤ e ∧ iv = .int .i64 (k : Int) ∧ vv = .int .u64 (wv k) ∧ lv = .bool (lg k)) (fun iv _ _ => r.size - (intOf iv).toNat)
    case atStart => exact ⟨0, by omega, rfl, by rw [h0.out.1], by rw [h0.out.2]⟩
    case round =>
      obtain ⟨k, hk, rfl, rfl, rfl⟩ := hrel
      by_cases hke : k < e
      · have hkr : k < r.size := by omega
        obtain ⟨⟨d0, d1⟩, v0, v1, hst⟩ := hl.out k hkr hke
        rcases hst with ⟨g1, g2⟩ | ⟨g1, g2⟩
        all_goals
          have G2 := Lib.hid g2
          clear g2
          go_wp2
          go_round
          case rel => exact ⟨k + 1, by omega, by go_num, by rw [G2.out.1], by rw [G2.out.2]⟩
          case measure => simp [intOf]; omega
      · obtain rfl : k = e := by omega
        rw [hV.out, hL.out]
        go_wp2
        go_ret2
        exact ⟨rfl, rfl⟩

set_option maxHeartbeats 2000000 in
theorem q_largew_n (s r b : ByteArray) (e : Nat) (wv : Nat → Int) (lg : Nat → Bool) (V F : Int) (O Z L : Bool)  (n0 : 0 < s.size) (n1 : ((s[0].toNat : Int) == 45) = true) (n2 : s.extract 1 s.size = r) (hss : s.size ≤ 1000000) (hrs : r.size ≤ 1000000) (he : e ≤ r.size) (hl : Hid (Lead r e wv lg)) (h0 : Hid (wv 0 = 0 ∧ lg 0 = false)) (hV : Hid (wv e = V)) (hL : Hid (lg e = true)) (hV0 : 0 ≤ V) (hV1 : V ≤ 36028797018963968) (e0 : 0 < e) (hz : e ≤ 1 ∨ ∃ h : 1 < e, ((r[0].toNat : Int) == 48) = false) (x : r.size ≤ e) (u0 : ((V * 256) == 0) = false) (w : World) :
    Calls Tryd.prog 25 #[.string s] w (QRet w 0 3) := by
  rcases hz with hz | ⟨hz1, hz⟩
  all_goals
    go_enter Tryd.func25, Tryd.ntmps25
    go_wp2
    go_loop [5, 6, 7] (fun iv vv lv => ∃ k : Nat, k ≤ e ∧ iv = .int .i64 (k : Int) ∧ vv = .int .u64 (wv k) ∧ lv = .bool (lg k)) (fun iv _ _ => r.size - (intOf iv).toNat)
    case atStart => exact ⟨0, by omega, rfl, by rw [h0.out.1], by rw [h0.out.2]⟩
    case round =>
      obtain ⟨k, hk, rfl, rfl, rfl⟩ := hrel
      by_cases hke : k < e
      · have hkr : k < r.size := by omega
        obtain ⟨⟨d0, d1⟩, v0, v1, hst⟩ := hl.out k hkr hke
        rcases hst with ⟨g1, g2⟩ | ⟨g1, g2⟩
        all_goals
          have G2 := Lib.hid g2
          clear g2
          go_wp2
          go_round
          case rel => exact ⟨k + 1, by omega, by go_num, by rw [G2.out.1], by rw [G2.out.2]⟩
          case measure => simp [intOf]; omega
      · obtain rfl : k = e := by omega
        rw [hV.out, hL.out]
        go_wp2
        go_ret2
        exact ⟨rfl, rfl⟩

set_option maxHeartbeats 2000000 in
theorem q_fitw_n (s r b : ByteArray) (e : Nat) (wv : Nat → Int) (lg : Nat → Bool) (V F : Int) (O Z L : Bool)  (n0 : 0 < s.size) (n1 : ((s[0].toNat : Int) == 45) = true) (n2 : s.extract 1 s.size = r) (hss : s.size ≤ 1000000) (hrs : r.size ≤ 1000000) (he : e ≤ r.size) (hl : Hid (Lead r e wv lg)) (h0 : Hid (wv 0 = 0 ∧ lg 0 = false)) (hV : Hid (wv e = V)) (hL : Hid (lg e = false)) (hV0 : 0 ≤ V) (hV1 : V ≤ 36028797018963968) (e0 : 0 < e) (hz : e ≤ 1 ∨ ∃ h : 1 < e, ((r[0].toNat : Int) == 48) = false) (x : r.size ≤ e) (u0 : ((V * 256) == 0) = false) (u1 : V * 256 ≤ 9223372036854775808) (u2 : ((V * 256) == 9223372036854775808) = Z) (w : World) :
    Calls Tryd.prog 25 #[.string s] w (QRet w (wrap64 (wrap64 (-wrap64 (IntKind.u64.wrap (V * 256 - 1))) - 1)) 0) := by
  rcases hz with hz | ⟨hz1, hz⟩
  all_goals cases Z
  all_goals
    go_enter Tryd.func25, Tryd.ntmps25
    go_wp2
    go_loop [5, 6, 7] (fun iv vv lv => ∃ k : Nat, k ≤ e ∧ iv = .int .i64 (k : Int) ∧ vv = .int .u64 (wv k) ∧ lv = .bool (lg k)) (fun iv _ _ => r.size - (intOf iv).toNat)
    case atStart => exact ⟨0, by omega, rfl, by rw [h0.out.1], by rw [h0.out.2]⟩
    case round =>
      obtain ⟨k, hk, rfl, rfl, rfl⟩ := hrel
      by_cases hke : k < e
      · have hkr : k < r.size := by omega
        obtain ⟨⟨d0, d1⟩, v0, v1, hst⟩ := hl.out k hkr hke
        rcases hst with ⟨g1, g2⟩ | ⟨g1, g2⟩
        all_goals
          have G2 := Lib.hid g2
          clear g2
          go_wp2
          go_round
          case rel => exact ⟨k + 1, by omega, by go_num, by rw [G2.out.1], by rw [G2.out.2]⟩
          case measure => simp [intOf]; omega
      · obtain rfl : k = e := by omega
        rw [hV.out, hL.out]
        go_wp2
        go_ret2
        exact ⟨rfl, rfl⟩

set_option maxHeartbeats 2000000 in
theorem q_zerod_n (s r b : ByteArray) (e : Nat) (wv : Nat → Int) (lg : Nat → Bool) (V F : Int) (O Z L : Bool)  (n0 : 0 < s.size) (n1 : ((s[0].toNat : Int) == 45) = true) (n2 : s.extract 1 s.size = r) (hss : s.size ≤ 1000000) (hrs : r.size ≤ 1000000) (he : e ≤ r.size) (hl : Hid (Lead r e wv lg)) (h0 : Hid (wv 0 = 0 ∧ lg 0 = false)) (hV : Hid (wv e = V)) (hL : Hid (lg e = false)) (hV0 : 0 ≤ V) (hV1 : V ≤ 36028797018963968) (e0 : 0 < e) (hz : e ≤ 1 ∨ ∃ h : 1 < e, ((r[0].toNat : Int) == 48) = false) (x : e < r.size) (x1 : r[e].toNat < 48) (x2 : (r[e].toNat : Int) = 46) (hb : r.extract (e + 1) r.size = b) (h4 : C39 b F true) (hF0 : 0 ≤ F) (hF1 : F ≤ 255) (u0 : ((V * 256 + F) == 0) = true) (w : World) :
    Calls Tryd.prog 25 #[.string s] w (QRet w 0 5) := by
  have H4 := Lib.hid h4
  clear h4
  rcases hz with hz | ⟨hz1, hz⟩
  all_goals
    go_enter Tryd.func25, Tryd.ntmps25
    go_wp2
    go_loop [5, 6, 7] (fun iv vv lv => ∃ k : Nat, k ≤ e ∧ iv = .int .i64 (k : Int) ∧ vv = .int .u64 (wv k) ∧ lv = .bool (lg k)) (fun iv _ _ => r.size - (intOf iv).toNat)
    case atStart => exact ⟨0, by omega, rfl, by rw [h0.out.1], by rw [h0.out.2]⟩
    case round =>
      obtain ⟨k, hk, rfl, rfl, rfl⟩ := hrel
      by_cases hke : k < e
      · have hkr : k < r.size := by omega
        obtain ⟨⟨d0, d1⟩, v0, v1, hst⟩ := hl.out k hkr hke
        rcases hst with ⟨g1, g2⟩ | ⟨g1, g2⟩
        all_goals
          have G2 := Lib.hid g2
          clear g2
          go_wp2
          go_round
          case rel => exact ⟨k + 1, by omega, by go_num, by rw [G2.out.1], by rw [G2.out.2]⟩
          case measure => simp [intOf]; omega
      · obtain rfl : k = e := by omega
        rw [hV.out, hL.out]
        go_wp2_with ((go_at_call 39; refine (H4.out _).mono ?_; rintro e w1 ⟨rfl, rfl⟩))
        go_ret2
        exact ⟨rfl, rfl⟩

set_option maxHeartbeats 2000000 in
theorem q_larged_n (s r b : ByteArray) (e : Nat) (wv : Nat → Int) (lg : Nat → Bool) (V F : Int) (O Z L : Bool)  (n0 : 0 < s.size) (n1 : ((s[0].toNat : Int) == 45) = true) (n2 : s.extract 1 s.size = r) (hss : s.size ≤ 1000000) (hrs : r.size ≤ 1000000) (he : e ≤ r.size) (hl : Hid (Lead r e wv lg)) (h0 : Hid (wv 0 = 0 ∧ lg 0 = false)) (hV : Hid (wv e = V)) (hL : Hid (lg e = true)) (hV0 : 0 ≤ V) (hV1 : V ≤ 36028797018963968) (e0 : 0 < e) (hz : e ≤ 1 ∨ ∃ h : 1 < e, ((r[0].toNat : Int) == 48) = false) (x : e < r.size) (x1 : r[e].toNat < 48) (x2 : (r[e].toNat : Int) = 46) (hb : r.extract (e + 1) r.size = b) (h4 : C39 b F true) (hF0 : 0 ≤ F) (hF1 : F ≤ 255) (u0 : ((V * 256 + F) == 0) = false) (w : World) :
    Calls Tryd.prog 25 #[.string s] w (QRet w 0 3) := by
  have H4 := Lib.hid h4
  clear h4
  rcases hz with hz | ⟨hz1, hz⟩
  all_goals
    go_enter Tryd.func25, Tryd.ntmps25
    go_wp2
    go_loop [5, 6, 7] (fun iv vv lv => ∃ k : Nat, k ≤ e ∧ iv = .int .i64 (k : Int) ∧ vv = .int .u64 (wv k) ∧ lv = .bool (lg k)) (fun iv _ _ => r.size - (intOf iv).toNat)
    case atStart => exact ⟨0, by omega, rfl, by rw [h0.out.1], by rw [h0.out.2]⟩
    case round =>
      obtain ⟨k, hk, rfl, rfl, rfl⟩ := hrel
      by_cases hke : k < e
      · have hkr : k < r.size := by omega
        obtain ⟨⟨d0, d1⟩, v0, v1, hst⟩ := hl.out k hkr hke
        rcases hst with ⟨g1, g2⟩ | ⟨g1, g2⟩
        all_goals
          have G2 := Lib.hid g2
          clear g2
          go_wp2
          go_round
          case rel => exact ⟨k + 1, by omega, by go_num, by rw [G2.out.1], by rw [G2.out.2]⟩
          case measure => simp [intOf]; omega
      · obtain rfl : k = e := by omega
        rw [hV.out, hL.out]
        go_wp2_with ((go_at_call 39; refine (H4.out _).mono ?_; rintro e w1 ⟨rfl, rfl⟩))
        go_ret2
        exact ⟨rfl, rfl⟩

set_option maxHeartbeats 2000000 in
theorem q_bigd_n (s r b : ByteArray) (e : Nat) (wv : Nat → Int) (lg : Nat → Bool) (V F : Int) (O Z L : Bool)  (n0 : 0 < s.size) (n1 : ((s[0].toNat : Int) == 45) = true) (n2 : s.extract 1 s.size = r) (hss : s.size ≤ 1000000) (hrs : r.size ≤ 1000000) (he : e ≤ r.size) (hl : Hid (Lead r e wv lg)) (h0 : Hid (wv 0 = 0 ∧ lg 0 = false)) (hV : Hid (wv e = V)) (hL : Hid (lg e = false)) (hV0 : 0 ≤ V) (hV1 : V ≤ 36028797018963968) (e0 : 0 < e) (hz : e ≤ 1 ∨ ∃ h : 1 < e, ((r[0].toNat : Int) == 48) = false) (x : e < r.size) (x1 : r[e].toNat < 48) (x2 : (r[e].toNat : Int) = 46) (hb : r.extract (e + 1) r.size = b) (h4 : C39 b F true) (hF0 : 0 ≤ F) (hF1 : F ≤ 255) (u0 : ((V * 256 + F) == 0) = false) (u1 : 9223372036854775808 < V * 256 + F) (w : World) :
    Calls Tryd.prog 25 #[.string s] w (QRet w 0 3) := by
  have H4 := Lib.hid h4
  clear h4
  rcases hz with hz | ⟨hz1, hz⟩
  all_goals
    go_enter Tryd.func25, Tryd.ntmps25
    go_wp2
    go_loop [5, 6, 7] (fun iv vv lv => ∃ k : Nat, k ≤ e ∧ iv = .int .i64 (k : Int) ∧ vv = .int .u64 (wv k) ∧ lv = .bool (lg k)) (fun iv _ _ => r.size - (intOf iv).toNat)
    case atStart => exact ⟨0, by omega, rfl, by rw [h0.out.1], by rw [h0.out.2]⟩
    case round =>
      obtain ⟨k, hk, rfl, rfl, rfl⟩ := hrel
      by_cases hke : k < e
      · have hkr : k < r.size := by omega
        obtain ⟨⟨d0, d1⟩, v0, v1, hst⟩ := hl.out k hkr hke
        rcases hst with ⟨g1, g2⟩ | ⟨g1, g2⟩
        all_goals
          have G2 := Lib.hid g2
          clear g2
          go_wp2
          go_round
          case rel => exact ⟨k + 1, by omega, by go_num, by rw [G2.out.1], by rw [G2.out.2]⟩
          case measure => simp [intOf]; omega
      · obtain rfl : k = e := by omega
        rw [hV.out, hL.out]
        go_wp2_with ((go_at_call 39; refine (H4.out _).mono ?_; rintro e w1 ⟨rfl, rfl⟩))
        go_ret2
        exact ⟨rfl, rfl⟩

set_option maxHeartbeats 2000000 in
theorem q_fitd_n (s r b : ByteArray) (e : Nat) (wv : Nat → Int) (lg : Nat → Bool) (V F : Int) (O Z L : Bool)  (n0 : 0 < s.size) (n1 : ((s[0].toNat : Int) == 45) = true) (n2 : s.extract 1 s.size = r) (hss : s.size ≤ 1000000) (hrs : r.size ≤ 1000000) (he : e ≤ r.size) (hl : Hid (Lead r e wv lg)) (h0 : Hid (wv 0 = 0 ∧ lg 0 = false)) (hV : Hid (wv e = V)) (hL : Hid (lg e = false)) (hV0 : 0 ≤ V) (hV1 : V ≤ 36028797018963968) (e0 : 0 < e) (hz : e ≤ 1 ∨ ∃ h : 1 < e, ((r[0].toNat : Int) == 48) = false) (x : e < r.size) (x1 : r[e].toNat < 48) (x2 : (r[e].toNat : Int) = 46) (hb : r.extract (e + 1) r.size = b) (h4 : C39 b F true) (hF0 : 0 ≤ F) (hF1 : F ≤ 255) (u0 : ((V * 256 + F) == 0) = false) (u1 : V * 256 + F ≤ 9223372036854775808) (u2 : ((V * 256 + F) == 9223372036854775808) = Z) (w : World) :
    Calls Tryd.prog 25 #[.string s] w (QRet w (wrap64 (wrap64 (-wrap64 (IntKind.u64.wrap (V * 256 + F - 1))) - 1)) 0) := by
  have H4 := Lib.hid h4
  clear h4
  rcases hz with hz | ⟨hz1, hz⟩
  all_goals cases Z
  all_goals
    go_enter Tryd.func25, Tryd.ntmps25
    go_wp2
    go_loop [5, 6, 7] (fun iv vv lv => ∃ k : Nat, k ≤ e ∧ iv = .int .i64 (k : Int) ∧ vv = .int .u64 (wv k) ∧ lv = .bool (lg k)) (fun iv _ _ => r.size - (intOf iv).toNat)
    case atStart => exact ⟨0, by omega, rfl, by rw [h0.out.1], by rw [h0.out.2]⟩
    case round =>
      obtain ⟨k, hk, rfl, rfl, rfl⟩ := hrel
      by_cases hke : k < e
      · have hkr : k < r.size := by omega
        obtain ⟨⟨d0, d1⟩, v0, v1, hst⟩ := hl.out k hkr hke
        rcases hst with ⟨g1, g2⟩ | ⟨g1, g2⟩
        all_goals
          have G2 := Lib.hid g2
          clear g2
          go_wp2
          go_round
          case rel => exact ⟨k + 1, by omega, by go_num, by rw [G2.out.1], by rw [G2.out.2]⟩
          case measure => simp [intOf]; omega
      · obtain rfl : k = e := by omega
        rw [hV.out, hL.out]
        go_wp2_with ((go_at_call 39; refine (H4.out _).mono ?_; rintro e w1 ⟨rfl, rfl⟩))
        go_ret2
        exact ⟨rfl, rfl⟩
end Go.Proofs.YtoihknngllmogaaDoor

