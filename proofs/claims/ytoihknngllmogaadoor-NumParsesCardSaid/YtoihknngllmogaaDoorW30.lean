/- The reference's Parse of the num package: its ways, not negative (printed by genref.py). -/
import Derived.Test.YtoihknngllmogaaDoorW29
namespace Go.Proofs.YtoihknngllmogaaDoor
open Go.RowKit
set_option linter.unusedVariables false
set_option linter.unusedSimpArgs false

theorem q_empty_p (w : World) : Calls Tryd.prog 25 #[.string ⟨#[]⟩] w (QRet w 0 5) := by
  go_enter Tryd.func25, Tryd.ntmps25
  go_wp2
  refine wp_loop_rounds 1 ?_
  iterate 1 (rw [rounds_succ]; go_wp2)
  go_ret2
  exact ⟨rfl, rfl⟩

set_option maxHeartbeats 2000000 in
theorem q_synt1_p (s b : ByteArray) (e : Nat) (wv : Nat → Int) (lg : Nat → Bool) (V F : Int) (O Z L : Bool)  (n0 : 0 < s.size) (n1 : ((s[0].toNat : Int) == 45) = false) (hrs : s.size ≤ 1000000) (he : e ≤ s.size) (hl : Hid (Lead s e wv lg)) (h0 : Hid (wv 0 = 0 ∧ lg 0 = false)) (hV : Hid (wv e = V)) (hL : Hid (lg e = L)) (hV0 : 0 ≤ V) (hV1 : V ≤ 36028797018963968) (e0 : e = 0) (x : s.size ≤ e ∨ (∃ x : e < s.size, s[e].toNat < 48) ∨ (∃ x : e < s.size, 57 < s[e].toNat)) (w : World) :
    Calls Tryd.prog 25 #[.string s] w (QRet w 0 5) := by
  have X := Lib.hid x
  have E0 := Lib.hid e0
  clear x e0
  go_enter Tryd.func25, Tryd.ntmps25
  go_wp2
  go_loop [5, 6, 7] (fun iv vv lv => ∃ k : Nat, k ≤ e ∧ iv = .int .i64 (k : Int) ∧ vv = .int .u64 (wv k) ∧ lv = .bool (lg k)) (fun iv _ _ => s.size - (intOf iv).toNat)
  case atStart => exact ⟨0, by omega, rfl, by rw [h0.out.1], by rw [h0.out.2]⟩
  case round =>
    obtain ⟨k, hk, rfl, rfl, rfl⟩ := hrel
    by_cases hke : k < e
    · have hkr : k < s.size := by omega
      obtain ⟨⟨d0, d1⟩, v0, v1, hst⟩ := hl.out k hkr hke
      rcases hst with ⟨g1, g2⟩ | ⟨g1, g2⟩
      all_goals
        have G2 := Lib.hid g2
        clear g2
        go_wp2
        go_round
        case rel => exact ⟨k + 1, by omega, by go_num, by rw [G2.out.1], by rw [G2.out.2]⟩
        case measure => simp [intOf]; omega
    · obtain rfl : k = e := by omega
      rw [hV.out, hL.out]
      obtain rfl : k = 0 := E0.out
      rcases X.out with x | ⟨x, x1⟩ | ⟨x, x1⟩
      all_goals go_wp2
      all_goals go_ret2
      all_goals exact ⟨rfl, rfl⟩

set_option maxHeartbeats 2000000 in
theorem q_synt2_p (s b : ByteArray) (e : Nat) (wv : Nat → Int) (lg : Nat → Bool) (V F : Int) (O Z L : Bool)  (n0 : 0 < s.size) (n1 : ((s[0].toNat : Int) == 45) = false) (hrs : s.size ≤ 1000000) (he : e ≤ s.size) (hl : Hid (Lead s e wv lg)) (h0 : Hid (wv 0 = 0 ∧ lg 0 = false)) (hV : Hid (wv e = V)) (hL : Hid (lg e = L)) (hV0 : 0 ≤ V) (hV1 : V ≤ 36028797018963968) (e0 : 1 < e) (hz : ((s[0].toNat : Int) == 48) = true) (x : s.size ≤ e ∨ (∃ x : e < s.size, s[e].toNat < 48) ∨ (∃ x : e < s.size, 57 < s[e].toNat)) (w : World) :
    Calls Tryd.prog 25 #[.string s] w (QRet w 0 5) := by
  have X := Lib.hid x
  clear x
  go_enter Tryd.func25, Tryd.ntmps25
  go_wp2
  go_loop [5, 6, 7] (fun iv vv lv => ∃ k : Nat, k ≤ e ∧ iv = .int .i64 (k : Int) ∧ vv = .int .u64 (wv k) ∧ lv = .bool (lg k)) (fun iv _ _ => s.size - (intOf iv).toNat)
  case atStart => exact ⟨0, by omega, rfl, by rw [h0.out.1], by rw [h0.out.2]⟩
  case round =>
    obtain ⟨k, hk, rfl, rfl, rfl⟩ := hrel
    by_cases hke : k < e
    · have hkr : k < s.size := by omega
      obtain ⟨⟨d0, d1⟩, v0, v1, hst⟩ := hl.out k hkr hke
      rcases hst with ⟨g1, g2⟩ | ⟨g1, g2⟩
      all_goals
        have G2 := Lib.hid g2
        clear g2
        go_wp2
        go_round
        case rel => exact ⟨k + 1, by omega, by go_num, by rw [G2.out.1], by rw [G2.out.2]⟩
        case measure => simp [intOf]; omega
    · obtain rfl : k = e := by omega
      rw [hV.out, hL.out]
      rcases X.out with x | ⟨x, x1⟩ | ⟨x, x1⟩
      all_goals go_wp2
      all_goals go_ret2
      all_goals exact ⟨rfl, rfl⟩

set_option maxHeartbeats 2000000 in
theorem q_dot_p (s b : ByteArray) (e : Nat) (wv : Nat → Int) (lg : Nat → Bool) (V F : Int) (O Z L : Bool)  (n0 : 0 < s.size) (n1 : ((s[0].toNat : Int) == 45) = false) (hrs : s.size ≤ 1000000) (he : e ≤ s.size) (hl : Hid (Lead s e wv lg)) (h0 : Hid (wv 0 = 0 ∧ lg 0 = false)) (hV : Hid (wv e = V)) (hL : Hid (lg e = L)) (hV0 : 0 ≤ V) (hV1 : V ≤ 36028797018963968) (e0 : 0 < e) (hz : e ≤ 1 ∨ ∃ h : 1 < e, ((s[0].toNat : Int) == 48) = false) (x : e < s.size) (x1 : s[e].toNat < 48 ∨ 57 < s[e].toNat) (x2 : ¬ (s[e].toNat : Int) = 46) (hb : s.extract (e + 1) s.size = b) (h4 : C39 b F O) (w : World) :
    Calls Tryd.prog 25 #[.string s] w (QRet w 0 5) := by
  have H4 := Lib.hid h4
  clear h4
  rcases hz with hz | ⟨hz1, hz⟩
  all_goals rcases x1 with x1 | x1
  all_goals
    go_enter Tryd.func25, Tryd.ntmps25
    go_wp2
    go_loop [5, 6, 7] (fun iv vv lv => ∃ k : Nat, k ≤ e ∧ iv = .int .i64 (k : Int) ∧ vv = .int .u64 (wv k) ∧ lv = .bool (lg k)) (fun iv _ _ => s.size - (intOf iv).toNat)
    case atStart => exact ⟨0, by omega, rfl, by rw [h0.out.1], by rw [h0.out.2]⟩
    case round =>
      obtain ⟨k, hk, rfl, rfl, rfl⟩ := hrel
      by_cases hke : k < e
      · have hkr : k < s.size := by omega
        obtain ⟨⟨d0, d1⟩, v0, v1, hst⟩ := hl.out k hkr hke
        rcases hst with ⟨g1, g2⟩ | ⟨g1, g2⟩
        all_goals
          have G2 := Lib.hid g2
          clear g2
          go_wp2
          go_round
          case rel => exact ⟨k + 1, by omega, by go_num, by rw [G2.out.1], by rw [G2.out.2]⟩
          case measure => simp [intOf]; omega
      · obtain rfl : k = e := by omega
        rw [hV.out, hL.out]
        go_wp2_with ((go_at_call 39; refine (H4.out _).mono ?_; rintro e w1 ⟨rfl, rfl⟩))
        go_ret2
        exact ⟨rfl, rfl⟩

set_option maxHeartbeats 2000000 in
theorem q_frac_p (s b : ByteArray) (e : Nat) (wv : Nat → Int) (lg : Nat → Bool) (V F : Int) (O Z L : Bool)  (n0 : 0 < s.size) (n1 : ((s[0].toNat : Int) == 45) = false) (hrs : s.size ≤ 1000000) (he : e ≤ s.size) (hl : Hid (Lead s e wv lg)) (h0 : Hid (wv 0 = 0 ∧ lg 0 = false)) (hV : Hid (wv e = V)) (hL : Hid (lg e = L)) (hV0 : 0 ≤ V) (hV1 : V ≤ 36028797018963968) (e0 : 0 < e) (hz : e ≤ 1 ∨ ∃ h : 1 < e, ((s[0].toNat : Int) == 48) = false) (x : e < s.size) (x1 : s[e].toNat < 48) (x2 : (s[e].toNat : Int) = 46) (hb : s.extract (e + 1) s.size = b) (h4 : C39 b F false) (w : World) :
    Calls Tryd.prog 25 #[.string s] w (QRet w 0 5) := by
  have H4 := Lib.hid h4
  clear h4
  rcases hz with hz | ⟨hz1, hz⟩
  all_goals
    go_enter Tryd.func25, Tryd.ntmps25
    go_wp2
    go_loop [5, 6, 7] (fun iv vv lv => ∃ k : Nat, k ≤ e ∧ iv = .int .i64 (k : Int) ∧ vv = .int .u64 (wv k) ∧ lv = .bool (lg k)) (fun iv _ _ => s.size - (intOf iv).toNat)
    case atStart => exact ⟨0, by omega, rfl, by rw [h0.out.1], by rw [h0.out.2]⟩
    case round =>
      obtain ⟨k, hk, rfl, rfl, rfl⟩ := hrel
      by_cases hke : k < e
      · have hkr : k < s.size := by omega
        obtain ⟨⟨d0, d1⟩, v0, v1, hst⟩ := hl.out k hkr hke
        rcases hst with ⟨g1, g2⟩ | ⟨g1, g2⟩
        all_goals
          have G2 := Lib.hid g2
          clear g2
          go_wp2
          go_round
          case rel => exact ⟨k + 1, by omega, by go_num, by rw [G2.out.1], by rw [G2.out.2]⟩
          case measure => simp [intOf]; omega
      · obtain rfl : k = e := by omega
        rw [hV.out, hL.out]
        go_wp2_with ((go_at_call 39; refine (H4.out _).mono ?_; rintro e w1 ⟨rfl, rfl⟩))
        go_ret2
        exact ⟨rfl, rfl⟩

set_option maxHeartbeats 2000000 in
theorem q_largew_p (s b : ByteArray) (e : Nat) (wv : Nat → Int) (lg : Nat → Bool) (V F : Int) (O Z L : Bool)  (n0 : 0 < s.size) (n1 : ((s[0].toNat : Int) == 45) = false) (hrs : s.size ≤ 1000000) (he : e ≤ s.size) (hl : Hid (Lead s e wv lg)) (h0 : Hid (wv 0 = 0 ∧ lg 0 = false)) (hV : Hid (wv e = V)) (hL : Hid (lg e = true)) (hV0 : 0 ≤ V) (hV1 : V ≤ 36028797018963968) (e0 : 0 < e) (hz : e ≤ 1 ∨ ∃ h : 1 < e, ((s[0].toNat : Int) == 48) = false) (x : s.size ≤ e) (w : World) :
    Calls Tryd.prog 25 #[.string s] w (QRet w 0 3) := by
  rcases hz with hz | ⟨hz1, hz⟩
  all_goals
    go_enter Tryd.func25, Tryd.ntmps25
    go_wp2
    go_loop [5, 6, 7] (fun iv vv lv => ∃ k : Nat, k ≤ e ∧ iv = .int .i64 (k : Int) ∧ vv = .int .u64 (wv k) ∧ lv = .bool (lg k)) (fun iv _ _ => s.size - (intOf iv).toNat)
    case atStart => exact ⟨0, by omega, rfl, by rw [h0.out.1], by rw [h0.out.2]⟩
    case round =>
      obtain ⟨k, hk, rfl, rfl, rfl⟩ := hrel
      by_cases hke : k < e
      · have hkr : k < s.size := by omega
        obtain ⟨⟨d0, d1⟩, v0, v1, hst⟩ := hl.out k hkr hke
        rcases hst with ⟨g1, g2⟩ | ⟨g1, g2⟩
        all_goals
          have G2 := Lib.hid g2
          clear g2
          go_wp2
          go_round
          case rel => exact ⟨k + 1, by omega, by go_num, by rw [G2.out.1], by rw [G2.out.2]⟩
          case measure => simp [intOf]; omega
      · obtain rfl : k = e := by omega
        rw [hV.out, hL.out]
        go_wp2
        go_ret2
        exact ⟨rfl, rfl⟩

set_option maxHeartbeats 2000000 in
theorem q_edgew_p (s b : ByteArray) (e : Nat) (wv : Nat → Int) (lg : Nat → Bool) (V F : Int) (O Z L : Bool)  (n0 : 0 < s.size) (n1 : ((s[0].toNat : Int) == 45) = false) (hrs : s.size ≤ 1000000) (he : e ≤ s.size) (hl : Hid (Lead s e wv lg)) (h0 : Hid (wv 0 = 0 ∧ lg 0 = false)) (hV : Hid (wv e = V)) (hL : Hid (lg e = false)) (hV0 : 0 ≤ V) (hV1 : V ≤ 36028797018963968) (e0 : 0 < e) (hz : e ≤ 1 ∨ ∃ h : 1 < e, ((s[0].toNat : Int) == 48) = false) (x : s.size ≤ e) (u1 : V * 256 ≤ 9223372036854775808) (u2 : ((V * 256) == 9223372036854775808) = true) (w : World) :
    Calls Tryd.prog 25 #[.string s] w (QRet w 0 3) := by
  rcases hz with hz | ⟨hz1, hz⟩
  all_goals
    go_enter Tryd.func25, Tryd.ntmps25
    go_wp2
    go_loop [5, 6, 7] (fun iv vv lv => ∃ k : Nat, k ≤ e ∧ iv = .int .i64 (k : Int) ∧ vv = .int .u64 (wv k) ∧ lv = .bool (lg k)) (fun iv _ _ => s.size - (intOf iv).toNat)
    case atStart => exact ⟨0, by omega, rfl, by rw [h0.out.1], by rw [h0.out.2]⟩
    case round =>
      obtain ⟨k, hk, rfl, rfl, rfl⟩ := hrel
      by_cases hke : k < e
      · have hkr : k < s.size := by omega
        obtain ⟨⟨d0, d1⟩, v0, v1, hst⟩ := hl.out k hkr hke
        rcases hst with ⟨g1, g2⟩ | ⟨g1, g2⟩
        all_goals
          have G2 := Lib.hid g2
          clear g2
          go_wp2
          go_round
          case rel => exact ⟨k + 1, by omega, by go_num, by rw [G2.out.1], by rw [G2.out.2]⟩
          case measure => simp [intOf]; omega
      · obtain rfl : k = e := by omega
        rw [hV.out, hL.out]
        go_wp2
        go_ret2
        exact ⟨rfl, rfl⟩

set_option maxHeartbeats 2000000 in
theorem q_fitw_p (s b : ByteArray) (e : Nat) (wv : Nat → Int) (lg : Nat → Bool) (V F : Int) (O Z L : Bool)  (n0 : 0 < s.size) (n1 : ((s[0].toNat : Int) == 45) = false) (hrs : s.size ≤ 1000000) (he : e ≤ s.size) (hl : Hid (Lead s e wv lg)) (h0 : Hid (wv 0 = 0 ∧ lg 0 = false)) (hV : Hid (wv e = V)) (hL : Hid (lg e = false)) (hV0 : 0 ≤ V) (hV1 : V ≤ 36028797018963968) (e0 : 0 < e) (hz : e ≤ 1 ∨ ∃ h : 1 < e, ((s[0].toNat : Int) == 48) = false) (x : s.size ≤ e) (u1 : V * 256 < 9223372036854775808) (u2 : ((V * 256) == 9223372036854775808) = false) (w : World) :
    Calls Tryd.prog 25 #[.string s] w (QRet w (V * 256) 0) := by
  rcases hz with hz | ⟨hz1, hz⟩
  all_goals
    go_enter Tryd.func25, Tryd.ntmps25
    go_wp2
    go_loop [5, 6, 7] (fun iv vv lv => ∃ k : Nat, k ≤ e ∧ iv = .int .i64 (k : Int) ∧ vv = .int .u64 (wv k) ∧ lv = .bool (lg k)) (fun iv _ _ => s.size - (intOf iv).toNat)
    case atStart => exact ⟨0, by omega, rfl, by rw [h0.out.1], by rw [h0.out.2]⟩
    case round =>
      obtain ⟨k, hk, rfl, rfl, rfl⟩ := hrel
      by_cases hke : k < e
      · have hkr : k < s.size := by omega
        obtain ⟨⟨d0, d1⟩, v0, v1, hst⟩ := hl.out k hkr hke
        rcases hst with ⟨g1, g2⟩ | ⟨g1, g2⟩
        all_goals
          have G2 := Lib.hid g2
          clear g2
          go_wp2
          go_round
          case rel => exact ⟨k + 1, by omega, by go_num, by rw [G2.out.1], by rw [G2.out.2]⟩
          case measure => simp [intOf]; omega
      · obtain rfl : k = e := by omega
        rw [hV.out, hL.out]
        go_wp2
        go_ret2
        exact ⟨rfl, rfl⟩

set_option maxHeartbeats 2000000 in
theorem q_larged_p (s b : ByteArray) (e : Nat) (wv : Nat → Int) (lg : Nat → Bool) (V F : Int) (O Z L : Bool)  (n0 : 0 < s.size) (n1 : ((s[0].toNat : Int) == 45) = false) (hrs : s.size ≤ 1000000) (he : e ≤ s.size) (hl : Hid (Lead s e wv lg)) (h0 : Hid (wv 0 = 0 ∧ lg 0 = false)) (hV : Hid (wv e = V)) (hL : Hid (lg e = true)) (hV0 : 0 ≤ V) (hV1 : V ≤ 36028797018963968) (e0 : 0 < e) (hz : e ≤ 1 ∨ ∃ h : 1 < e, ((s[0].toNat : Int) == 48) = false) (x : e < s.size) (x1 : s[e].toNat < 48) (x2 : (s[e].toNat : Int) = 46) (hb : s.extract (e + 1) s.size = b) (h4 : C39 b F true) (hF0 : 0 ≤ F) (hF1 : F ≤ 255) (w : World) :
    Calls Tryd.prog 25 #[.string s] w (QRet w 0 3) := by
  have H4 := Lib.hid h4
  clear h4
  rcases hz with hz | ⟨hz1, hz⟩
  all_goals
    go_enter Tryd.func25, Tryd.ntmps25
    go_wp2
    go_loop [5, 6, 7] (fun iv vv lv => ∃ k : Nat, k ≤ e ∧ iv = .int .i64 (k : Int) ∧ vv = .int .u64 (wv k) ∧ lv = .bool (lg k)) (fun iv _ _ => s.size - (intOf iv).toNat)
    case atStart => exact ⟨0, by omega, rfl, by rw [h0.out.1], by rw [h0.out.2]⟩
    case round =>
      obtain ⟨k, hk, rfl, rfl, rfl⟩ := hrel
      by_cases hke : k < e
      · have hkr : k < s.size := by omega
        obtain ⟨⟨d0, d1⟩, v0, v1, hst⟩ := hl.out k hkr hke
        rcases hst with ⟨g1, g2⟩ | ⟨g1, g2⟩
        all_goals
          have G2 := Lib.hid g2
          clear g2
          go_wp2
          go_round
          case rel => exact ⟨k + 1, by omega, by go_num, by rw [G2.out.1], by rw [G2.out.2]⟩
          case measure => simp [intOf]; omega
      · obtain rfl : k = e := by omega
        rw [hV.out, hL.out]
        go_wp2_with ((go_at_call 39; refine (H4.out _).mono ?_; rintro e w1 ⟨rfl, rfl⟩))
        go_ret2
        exact ⟨rfl, rfl⟩

set_option maxHeartbeats 2000000 in
theorem q_bigd_p (s b : ByteArray) (e : Nat) (wv : Nat → Int) (lg : Nat → Bool) (V F : Int) (O Z L : Bool)  (n0 : 0 < s.size) (n1 : ((s[0].toNat : Int) == 45) = false) (hrs : s.size ≤ 1000000) (he : e ≤ s.size) (hl : Hid (Lead s e wv lg)) (h0 : Hid (wv 0 = 0 ∧ lg 0 = false)) (hV : Hid (wv e = V)) (hL : Hid (lg e = false)) (hV0 : 0 ≤ V) (hV1 : V ≤ 36028797018963968) (e0 : 0 < e) (hz : e ≤ 1 ∨ ∃ h : 1 < e, ((s[0].toNat : Int) == 48) = false) (x : e < s.size) (x1 : s[e].toNat < 48) (x2 : (s[e].toNat : Int) = 46) (hb : s.extract (e + 1) s.size = b) (h4 : C39 b F true) (hF0 : 0 ≤ F) (hF1 : F ≤ 255) (u1 : 9223372036854775808 < V * 256 + F) (u2 : ((V * 256 + F) == 9223372036854775808) = false) (w : World) :
    Calls Tryd.prog 25 #[.string s] w (QRet w 0 3) := by
  have H4 := Lib.hid h4
  clear h4
  rcases hz with hz | ⟨hz1, hz⟩
  all_goals
    go_enter Tryd.func25, Tryd.ntmps25
    go_wp2
    go_loop [5, 6, 7] (fun iv vv lv => ∃ k : Nat, k ≤ e ∧ iv = .int .i64 (k : Int) ∧ vv = .int .u64 (wv k) ∧ lv = .bool (lg k)) (fun iv _ _ => s.size - (intOf iv).toNat)
    case atStart => exact ⟨0, by omega, rfl, by rw [h0.out.1], by rw [h0.out.2]⟩
    case round =>
      obtain ⟨k, hk, rfl, rfl, rfl⟩ := hrel
      by_cases hke : k < e
      · have hkr : k < s.size := by omega
        obtain ⟨⟨d0, d1⟩, v0, v1, hst⟩ := hl.out k hkr hke
        rcases hst with ⟨g1, g2⟩ | ⟨g1, g2⟩
        all_goals
          have G2 := Lib.hid g2
          clear g2
          go_wp2
          go_round
          case rel => exact ⟨k + 1, by omega, by go_num, by rw [G2.out.1], by rw [G2.out.2]⟩
          case measure => simp [intOf]; omega
      · obtain rfl : k = e := by omega
        rw [hV.out, hL.out]
        go_wp2_with ((go_at_call 39; refine (H4.out _).mono ?_; rintro e w1 ⟨rfl, rfl⟩))
        go_ret2
        exact ⟨rfl, rfl⟩

set_option maxHeartbeats 2000000 in
theorem q_edged_p (s b : ByteArray) (e : Nat) (wv : Nat → Int) (lg : Nat → Bool) (V F : Int) (O Z L : Bool)  (n0 : 0 < s.size) (n1 : ((s[0].toNat : Int) == 45) = false) (hrs : s.size ≤ 1000000) (he : e ≤ s.size) (hl : Hid (Lead s e wv lg)) (h0 : Hid (wv 0 = 0 ∧ lg 0 = false)) (hV : Hid (wv e = V)) (hL : Hid (lg e = false)) (hV0 : 0 ≤ V) (hV1 : V ≤ 36028797018963968) (e0 : 0 < e) (hz : e ≤ 1 ∨ ∃ h : 1 < e, ((s[0].toNat : Int) == 48) = false) (x : e < s.size) (x1 : s[e].toNat < 48) (x2 : (s[e].toNat : Int) = 46) (hb : s.extract (e + 1) s.size = b) (h4 : C39 b F true) (hF0 : 0 ≤ F) (hF1 : F ≤ 255) (u1 : V * 256 + F ≤ 9223372036854775808) (u2 : ((V * 256 + F) == 9223372036854775808) = true) (w : World) :
    Calls Tryd.prog 25 #[.string s] w (QRet w 0 3) := by
  have H4 := Lib.hid h4
  clear h4
  rcases hz with hz | ⟨hz1, hz⟩
  all_goals
    go_enter Tryd.func25, Tryd.ntmps25
    go_wp2
    go_loop [5, 6, 7] (fun iv vv lv => ∃ k : Nat, k ≤ e ∧ iv = .int .i64 (k : Int) ∧ vv = .int .u64 (wv k) ∧ lv = .bool (lg k)) (fun iv _ _ => s.size - (intOf iv).toNat)
    case atStart => exact ⟨0, by omega, rfl, by rw [h0.out.1], by rw [h0.out.2]⟩
    case round =>
      obtain ⟨k, hk, rfl, rfl, rfl⟩ := hrel
      by_cases hke : k < e
      · have hkr : k < s.size := by omega
        obtain ⟨⟨d0, d1⟩, v0, v1, hst⟩ := hl.out k hkr hke
        rcases hst with ⟨g1, g2⟩ | ⟨g1, g2⟩
        all_goals
          have G2 := Lib.hid g2
          clear g2
          go_wp2
          go_round
          case rel => exact ⟨k + 1, by omega, by go_num, by rw [G2.out.1], by rw [G2.out.2]⟩
          case measure => simp [intOf]; omega
      · obtain rfl : k = e := by omega
        rw [hV.out, hL.out]
        go_wp2_with ((go_at_call 39; refine (H4.out _).mono ?_; rintro e w1 ⟨rfl, rfl⟩))
        go_ret2
        exact ⟨rfl, rfl⟩

set_option maxHeartbeats 2000000 in
theorem q_fitd_p (s b : ByteArray) (e : Nat) (wv : Nat → Int) (lg : Nat → Bool) (V F : Int) (O Z L : Bool)  (n0 : 0 < s.size) (n1 : ((s[0].toNat : Int) == 45) = false) (hrs : s.size ≤ 1000000) (he : e ≤ s.size) (hl : Hid (Lead s e wv lg)) (h0 : Hid (wv 0 = 0 ∧ lg 0 = false)) (hV : Hid (wv e = V)) (hL : Hid (lg e = false)) (hV0 : 0 ≤ V) (hV1 : V ≤ 36028797018963968) (e0 : 0 < e) (hz : e ≤ 1 ∨ ∃ h : 1 < e, ((s[0].toNat : Int) == 48) = false) (x : e < s.size) (x1 : s[e].toNat < 48) (x2 : (s[e].toNat : Int) = 46) (hb : s.extract (e + 1) s.size = b) (h4 : C39 b F true) (hF0 : 0 ≤ F) (hF1 : F ≤ 255) (u1 : V * 256 + F < 9223372036854775808) (u2 : ((V * 256 + F) == 9223372036854775808) = false) (w : World) :
    Calls Tryd.prog 25 #[.string s] w (QRet w (V * 256 + F) 0) := by
  have H4 := Lib.hid h4
  clear h4
  rcases hz with hz | ⟨hz1, hz⟩
  all_goals
    go_enter Tryd.func25, Tryd.ntmps25
    go_wp2
    go_loop [5, 6, 7] (fun iv vv lv => ∃ k : Nat, k ≤ e ∧ iv = .int .i64 (k : Int) ∧ vv = .int .u64 (wv k) ∧ lv = .bool (lg k)) (fun iv _ _ => s.size - (intOf iv).toNat)
    case atStart => exact ⟨0, by omega, rfl, by rw [h0.out.1], by rw [h0.out.2]⟩
    case round =>
      obtain ⟨k, hk, rfl, rfl, rfl⟩ := hrel
      by_cases hke : k < e
      · have hkr : k < s.size := by omega
        obtain ⟨⟨d0, d1⟩, v0, v1, hst⟩ := hl.out k hkr hke
        rcases hst with ⟨g1, g2⟩ | ⟨g1, g2⟩
        all_goals
          have G2 := Lib.hid g2
          clear g2
          go_wp2
          go_round
          case rel => exact ⟨k + 1, by omega, by go_num, by rw [G2.out.1], by rw [G2.out.2]⟩
          case measure => simp [intOf]; omega
      · obtain rfl : k = e := by omega
        rw [hV.out, hL.out]
        go_wp2_with ((go_at_call 39; refine (H4.out _).mono ?_; rintro e w1 ⟨rfl, rfl⟩))
        go_ret2
        exact ⟨rfl, rfl⟩
end Go.Proofs.YtoihknngllmogaaDoor

