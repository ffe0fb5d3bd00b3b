/- Walks: Parse of the num package, the rest (printed by genparse.py). -/
import Derived.Test.YtoihknngllmogaaDoorW15
namespace Go.Proofs.YtoihknngllmogaaDoor
open Go.RowKit
set_option linter.unusedVariables false
set_option linter.unusedSimpArgs false

theorem p_range_pw (s R A B : ByteArray) (F : Int) (V : Int) (h1 : C33 s R false) (h2 : C34 R A B false) (h3 : C35 A true) (hs : NoZero A) (h5 : C37r A)  (w : World) (hc : Ctx w) :
    Calls Tryd.prog 23 #[.string s] w (PRet w 0 3) := by
  have hC := Lib.hid hc
  have H1 := Lib.hid h1; have H2 := Lib.hid h2; have H3 := Lib.hid h3; have H5 := Lib.hid h5
  clear hc h1 h2 h3 h5
  rcases hs with hs | ⟨hs, h0⟩
  all_goals
    go_enter Tryd.func23, Tryd.ntmps23
    go_wp2_with fail
    refine (H1.out _).mono ?_
    rintro e w1 ⟨rfl, rfl⟩
    go_wp2_with fail
    refine (H2.out _ hC.out).mono ?_
    rintro e w2 ⟨rfl, hb⟩
    go_wp2_with fail
    refine (H3.out _).mono ?_
    rintro e w3 ⟨rfl, rfl⟩
    go_wp2_with fail
    refine (H5.out _ (hC.out.below hb)).mono ?_
    rintro e w4 ⟨M, rfl, hb2⟩
    go_wp2_with fail
    go_ret2
    exact ⟨rfl, hb.trans (hb2.mono hb.size)⟩

theorem p_big_pw (s R A B : ByteArray) (F : Int) (V : Int) (h1 : C33 s R false) (h2 : C34 R A B false) (h3 : C35 A true) (hs : NoZero A) (h5 : C37 A V) (hV : 0 ≤ V) (hV1 : 36028797018963968 < V) (w : World) (hc : Ctx w) :
    Calls Tryd.prog 23 #[.string s] w (PRet w 0 3) := by
  have hC := Lib.hid hc
  have H1 := Lib.hid h1; have H2 := Lib.hid h2; have H3 := Lib.hid h3; have H5 := Lib.hid h5
  clear hc h1 h2 h3 h5
  rcases hs with hs | ⟨hs, h0⟩
  all_goals
    go_enter Tryd.func23, Tryd.ntmps23
    go_wp2_with fail
    refine (H1.out _).mono ?_
    rintro e w1 ⟨rfl, rfl⟩
    go_wp2_with fail
    refine (H2.out _ hC.out).mono ?_
    rintro e w2 ⟨rfl, hb⟩
    go_wp2_with fail
    refine (H3.out _).mono ?_
    rintro e w3 ⟨rfl, rfl⟩
    go_wp2_with fail
    refine (H5.out _ (hC.out.below hb)).mono ?_
    rintro e w4 ⟨rfl, hb2⟩
    go_wp2_with fail
    go_ret2
    exact ⟨rfl, hb.trans (hb2.mono hb.size)⟩

theorem p_fit_pw (s R A B : ByteArray) (F : Int) (V : Int) (h1 : C33 s R false) (h2 : C34 R A B false) (h3 : C35 A true) (hs : NoZero A) (h5 : C37 A V) (hV : 0 ≤ V) (hV1 : V ≤ 36028797018963968) (hn : V * 256 ≤ 9223372036854775807) (w : World) (hc : Ctx w) :
    Calls Tryd.prog 23 #[.string s] w (PRet w (V * 256) 0) := by
  have hC := Lib.hid hc
  have H1 := Lib.hid h1; have H2 := Lib.hid h2; have H3 := Lib.hid h3; have H5 := Lib.hid h5
  clear hc h1 h2 h3 h5
  rcases hs with hs | ⟨hs, h0⟩
  all_goals
    go_enter Tryd.func23, Tryd.ntmps23
    go_wp2_with fail
    refine (H1.out _).mono ?_
    rintro e w1 ⟨rfl, rfl⟩
    go_wp2_with fail
    refine (H2.out _ hC.out).mono ?_
    rintro e w2 ⟨rfl, hb⟩
    go_wp2_with fail
    refine (H3.out _).mono ?_
    rintro e w3 ⟨rfl, rfl⟩
    go_wp2_with fail
    refine (H5.out _ (hC.out.below hb)).mono ?_
    rintro e w4 ⟨rfl, hb2⟩
    go_wp2_with fail
    go_ret2
    exact ⟨rfl, hb.trans (hb2.mono hb.size)⟩

theorem p_not_pw (s R A B : ByteArray) (F : Int) (V : Int) (h1 : C33 s R false) (h2 : C34 R A B false) (h3 : C35 A true) (hs : NoZero A) (h5 : C37 A V) (hV : 0 ≤ V) (hV1 : V ≤ 36028797018963968) (hn : 9223372036854775807 < V * 256) (w : World) (hc : Ctx w) :
    Calls Tryd.prog 23 #[.string s] w (PRet w 0 3) := by
  have hC := Lib.hid hc
  have H1 := Lib.hid h1; have H2 := Lib.hid h2; have H3 := Lib.hid h3; have H5 := Lib.hid h5
  clear hc h1 h2 h3 h5
  rcases hs with hs | ⟨hs, h0⟩
  all_goals
    go_enter Tryd.func23, Tryd.ntmps23
    go_wp2_with fail
    refine (H1.out _).mono ?_
    rintro e w1 ⟨rfl, rfl⟩
    go_wp2_with fail
    refine (H2.out _ hC.out).mono ?_
    rintro e w2 ⟨rfl, hb⟩
    go_wp2_with fail
    refine (H3.out _).mono ?_
    rintro e w3 ⟨rfl, rfl⟩
    go_wp2_with fail
    refine (H5.out _ (hC.out.below hb)).mono ?_
    rintro e w4 ⟨rfl, hb2⟩
    go_wp2_with fail
    go_ret2
    exact ⟨rfl, hb.trans (hb2.mono hb.size)⟩

theorem p_range_nw (s R A B : ByteArray) (F : Int) (V : Int) (h1 : C33 s R true) (h2 : C34 R A B false) (h3 : C35 A true) (hs : NoZero A) (h5 : C37r A) (hz : ¬ A.toList = [48])  (w : World) (hc : Ctx w) :
    Calls Tryd.prog 23 #[.string s] w (PRet w 0 3) := by
  have hC := Lib.hid hc
  have H1 := Lib.hid h1; have H2 := Lib.hid h2; have H3 := Lib.hid h3; have H5 := Lib.hid h5
  clear hc h1 h2 h3 h5
  rcases hs with hs | ⟨hs, h0⟩
  all_goals
    go_enter Tryd.func23, Tryd.ntmps23
    go_wp2_with fail
    refine (H1.out _).mono ?_
    rintro e w1 ⟨rfl, rfl⟩
    go_wp2_with fail
    refine (H2.out _ hC.out).mono ?_
    rintro e w2 ⟨rfl, hb⟩
    go_wp2_with fail
    refine (H3.out _).mono ?_
    rintro e w3 ⟨rfl, rfl⟩
    go_wp2_with fail
    refine (H5.out _ (hC.out.below hb)).mono ?_
    rintro e w4 ⟨M, rfl, hb2⟩
    go_wp2_with fail
    go_ret2
    exact ⟨rfl, hb.trans (hb2.mono hb.size)⟩

theorem p_big_nw (s R A B : ByteArray) (F : Int) (V : Int) (h1 : C33 s R true) (h2 : C34 R A B false) (h3 : C35 A true) (hs : NoZero A) (h5 : C37 A V) (hz : ¬ A.toList = [48]) (hV : 0 ≤ V) (hV1 : 36028797018963968 < V) (w : World) (hc : Ctx w) :
    Calls Tryd.prog 23 #[.string s] w (PRet w 0 3) := by
  have hC := Lib.hid hc
  have H1 := Lib.hid h1; have H2 := Lib.hid h2; have H3 := Lib.hid h3; have H5 := Lib.hid h5
  clear hc h1 h2 h3 h5
  rcases hs with hs | ⟨hs, h0⟩
  all_goals
    go_enter Tryd.func23, Tryd.ntmps23
    go_wp2_with fail
    refine (H1.out _).mono ?_
    rintro e w1 ⟨rfl, rfl⟩
    go_wp2_with fail
    refine (H2.out _ hC.out).mono ?_
    rintro e w2 ⟨rfl, hb⟩
    go_wp2_with fail
    refine (H3.out _).mono ?_
    rintro e w3 ⟨rfl, rfl⟩
    go_wp2_with fail
    refine (H5.out _ (hC.out.below hb)).mono ?_
    rintro e w4 ⟨rfl, hb2⟩
    go_wp2_with fail
    go_ret2
    exact ⟨rfl, hb.trans (hb2.mono hb.size)⟩

theorem p_fit_nw (s R A B : ByteArray) (F : Int) (V : Int) (h1 : C33 s R true) (h2 : C34 R A B false) (h3 : C35 A true) (hs : NoZero A) (h5 : C37 A V) (hz : ¬ A.toList = [48]) (hV : 0 ≤ V) (hV1 : V ≤ 36028797018963968) (hn : V * 256 ≤ 9223372036854775808) (w : World) (hc : Ctx w) :
    Calls Tryd.prog 23 #[.string s] w (PRet w (wrap64 (IntKind.u64.wrap (-(V * 256)))) 0) := by
  have hC := Lib.hid hc
  have H1 := Lib.hid h1; have H2 := Lib.hid h2; have H3 := Lib.hid h3; have H5 := Lib.hid h5
  clear hc h1 h2 h3 h5
  rcases hs with hs | ⟨hs, h0⟩
  all_goals
    go_enter Tryd.func23, Tryd.ntmps23
    go_wp2_with fail
    refine (H1.out _).mono ?_
    rintro e w1 ⟨rfl, rfl⟩
    go_wp2_with fail
    refine (H2.out _ hC.out).mono ?_
    rintro e w2 ⟨rfl, hb⟩
    go_wp2_with fail
    refine (H3.out _).mono ?_
    rintro e w3 ⟨rfl, rfl⟩
    go_wp2_with fail
    refine (H5.out _ (hC.out.below hb)).mono ?_
    rintro e w4 ⟨rfl, hb2⟩
    go_wp2_with fail
    go_ret2
    exact ⟨rfl, hb.trans (hb2.mono hb.size)⟩

theorem p_range_pd (s R A B : ByteArray) (F : Int) (V : Int) (h1 : C33 s R false) (h2 : C34 R A B true) (h3 : C35 A true) (hs : NoZero A) (h4 : C36 B F true) (hF0 : 0 ≤ F) (hF1 : F ≤ 255) (h5 : C37r A)  (w : World) (hc : Ctx w) :
    Calls Tryd.prog 23 #[.string s] w (PRet w 0 3) := by
  have hC := Lib.hid hc
  have H1 := Lib.hid h1; have H2 := Lib.hid h2; have H3 := Lib.hid h3; have H5 := Lib.hid h5
  clear hc h1 h2 h3 h5
  have H4 := Lib.hid h4
  clear h4
  rcases hs with hs | ⟨hs, h0⟩
  all_goals
    go_enter Tryd.func23, Tryd.ntmps23
    go_wp2_with fail
    refine (H1.out _).mono ?_
    rintro e w1 ⟨rfl, rfl⟩
    go_wp2_with fail
    refine (H2.out _ hC.out).mono ?_
    rintro e w2 ⟨rfl, hb⟩
    go_wp2_with fail
    refine (H3.out _).mono ?_
    rintro e w3 ⟨rfl, rfl⟩
    go_wp2_with fail
    refine (H4.out _).mono ?_
    rintro e w3 ⟨rfl, rfl⟩
    go_wp2_with fail
    refine (H5.out _ (hC.out.below hb)).mono ?_
    rintro e w4 ⟨M, rfl, hb2⟩
    go_wp2_with fail
    go_ret2
    exact ⟨rfl, hb.trans (hb2.mono hb.size)⟩

theorem p_big_pd (s R A B : ByteArray) (F : Int) (V : Int) (h1 : C33 s R false) (h2 : C34 R A B true) (h3 : C35 A true) (hs : NoZero A) (h4 : C36 B F true) (hF0 : 0 ≤ F) (hF1 : F ≤ 255) (h5 : C37 A V) (hV : 0 ≤ V) (hV1 : 36028797018963968 < V) (w : World) (hc : Ctx w) :
    Calls Tryd.prog 23 #[.string s] w (PRet w 0 3) := by
  have hC := Lib.hid hc
  have H1 := Lib.hid h1; have H2 := Lib.hid h2; have H3 := Lib.hid h3; have H5 := Lib.hid h5
  clear hc h1 h2 h3 h5
  have H4 := Lib.hid h4
  clear h4
  rcases hs with hs | ⟨hs, h0⟩
  all_goals
    go_enter Tryd.func23, Tryd.ntmps23
    go_wp2_with fail
    refine (H1.out _).mono ?_
    rintro e w1 ⟨rfl, rfl⟩
    go_wp2_with fail
    refine (H2.out _ hC.out).mono ?_
    rintro e w2 ⟨rfl, hb⟩
    go_wp2_with fail
    refine (H3.out _).mono ?_
    rintro e w3 ⟨rfl, rfl⟩
    go_wp2_with fail
    refine (H4.out _).mono ?_
    rintro e w3 ⟨rfl, rfl⟩
    go_wp2_with fail
    refine (H5.out _ (hC.out.below hb)).mono ?_
    rintro e w4 ⟨rfl, hb2⟩
    go_wp2_with fail
    go_ret2
    exact ⟨rfl, hb.trans (hb2.mono hb.size)⟩

theorem p_fit_pd (s R A B : ByteArray) (F : Int) (V : Int) (h1 : C33 s R false) (h2 : C34 R A B true) (h3 : C35 A true) (hs : NoZero A) (h4 : C36 B F true) (hF0 : 0 ≤ F) (hF1 : F ≤ 255) (h5 : C37 A V) (hV : 0 ≤ V) (hV1 : V ≤ 36028797018963968) (hn : V * 256 + F ≤ 9223372036854775807) (w : World) (hc : Ctx w) :
    Calls Tryd.prog 23 #[.string s] w (PRet w (V * 256 + F) 0) := by
  have hC := Lib.hid hc
  have H1 := Lib.hid h1; have H2 := Lib.hid h2; have H3 := Lib.hid h3; have H5 := Lib.hid h5
  clear hc h1 h2 h3 h5
  have H4 := Lib.hid h4
  clear h4
  rcases hs with hs | ⟨hs, h0⟩
  all_goals
    go_enter Tryd.func23, Tryd.ntmps23
    go_wp2_with fail
    refine (H1.out _).mono ?_
    rintro e w1 ⟨rfl, rfl⟩
    go_wp2_with fail
    refine (H2.out _ hC.out).mono ?_
    rintro e w2 ⟨rfl, hb⟩
    go_wp2_with fail
    refine (H3.out _).mono ?_
    rintro e w3 ⟨rfl, rfl⟩
    go_wp2_with fail
    refine (H4.out _).mono ?_
    rintro e w3 ⟨rfl, rfl⟩
    go_wp2_with fail
    refine (H5.out _ (hC.out.below hb)).mono ?_
    rintro e w4 ⟨rfl, hb2⟩
    go_wp2_with fail
    go_ret2
    exact ⟨rfl, hb.trans (hb2.mono hb.size)⟩

theorem p_not_pd (s R A B : ByteArray) (F : Int) (V : Int) (h1 : C33 s R false) (h2 : C34 R A B true) (h3 : C35 A true) (hs : NoZero A) (h4 : C36 B F true) (hF0 : 0 ≤ F) (hF1 : F ≤ 255) (h5 : C37 A V) (hV : 0 ≤ V) (hV1 : V ≤ 36028797018963968) (hn : 9223372036854775807 < V * 256 + F) (w : World) (hc : Ctx w) :
    Calls Tryd.prog 23 #[.string s] w (PRet w 0 3) := by
  have hC := Lib.hid hc
  have H1 := Lib.hid h1; have H2 := Lib.hid h2; have H3 := Lib.hid h3; have H5 := Lib.hid h5
  clear hc h1 h2 h3 h5
  have H4 := Lib.hid h4
  clear h4
  rcases hs with hs | ⟨hs, h0⟩
  all_goals
    go_enter Tryd.func23, Tryd.ntmps23
    go_wp2_with fail
    refine (H1.out _).mono ?_
    rintro e w1 ⟨rfl, rfl⟩
    go_wp2_with fail
    refine (H2.out _ hC.out).mono ?_
    rintro e w2 ⟨rfl, hb⟩
    go_wp2_with fail
    refine (H3.out _).mono ?_
    rintro e w3 ⟨rfl, rfl⟩
    go_wp2_with fail
    refine (H4.out _).mono ?_
    rintro e w3 ⟨rfl, rfl⟩
    go_wp2_with fail
    refine (H5.out _ (hC.out.below hb)).mono ?_
    rintro e w4 ⟨rfl, hb2⟩
    go_wp2_with fail
    go_ret2
    exact ⟨rfl, hb.trans (hb2.mono hb.size)⟩

theorem p_range_nd (s R A B : ByteArray) (F : Int) (V : Int) (h1 : C33 s R true) (h2 : C34 R A B true) (h3 : C35 A true) (hs : NoZero A) (h4 : C36 B F true) (hF0 : 0 ≤ F) (hF1 : F ≤ 255) (h5 : C37r A) (hz : ¬ A.toList = [48] ∨ (A.toList = [48] ∧ (F == 0) = false))  (w : World) (hc : Ctx w) :
    Calls Tryd.prog 23 #[.string s] w (PRet w 0 3) := by
  have hC := Lib.hid hc
  have H1 := Lib.hid h1; have H2 := Lib.hid h2; have H3 := Lib.hid h3; have H5 := Lib.hid h5
  clear hc h1 h2 h3 h5
  have H4 := Lib.hid h4
  clear h4
  rcases hs with hs | ⟨hs, h0⟩
  all_goals rcases hz with hz | ⟨hz, hz1⟩
  all_goals
    go_enter Tryd.func23, Tryd.ntmps23
    go_wp2_with fail
    refine (H1.out _).mono ?_
    rintro e w1 ⟨rfl, rfl⟩
    go_wp2_with fail
    refine (H2.out _ hC.out).mono ?_
    rintro e w2 ⟨rfl, hb⟩
    go_wp2_with fail
    refine (H3.out _).mono ?_
    rintro e w3 ⟨rfl, rfl⟩
    go_wp2_with fail
    refine (H4.out _).mono ?_
    rintro e w3 ⟨rfl, rfl⟩
    go_wp2_with fail
    refine (H5.out _ (hC.out.below hb)).mono ?_
    rintro e w4 ⟨M, rfl, hb2⟩
    go_wp2_with fail
    go_ret2
    exact ⟨rfl, hb.trans (hb2.mono hb.size)⟩

theorem p_big_nd (s R A B : ByteArray) (F : Int) (V : Int) (h1 : C33 s R true) (h2 : C34 R A B true) (h3 : C35 A true) (hs : NoZero A) (h4 : C36 B F true) (hF0 : 0 ≤ F) (hF1 : F ≤ 255) (h5 : C37 A V) (hz : ¬ A.toList = [48] ∨ (A.toList = [48] ∧ (F == 0) = false)) (hV : 0 ≤ V) (hV1 : 36028797018963968 < V) (w : World) (hc : Ctx w) :
    Calls Tryd.prog 23 #[.string s] w (PRet w 0 3) := by
  have hC := Lib.hid hc
  have H1 := Lib.hid h1; have H2 := Lib.hid h2; have H3 := Lib.hid h3; have H5 := Lib.hid h5
  clear hc h1 h2 h3 h5
  have H4 := Lib.hid h4
  clear h4
  rcases hs with hs | ⟨hs, h0⟩
  all_goals rcases hz with hz | ⟨hz, hz1⟩
  all_goals
    go_enter Tryd.func23, Tryd.ntmps23
    go_wp2_with fail
    refine (H1.out _).mono ?_
    rintro e w1 ⟨rfl, rfl⟩
    go_wp2_with fail
    refine (H2.out _ hC.out).mono ?_
    rintro e w2 ⟨rfl, hb⟩
    go_wp2_with fail
    refine (H3.out _).mono ?_
    rintro e w3 ⟨rfl, rfl⟩
    go_wp2_with fail
    refine (H4.out _).mono ?_
    rintro e w3 ⟨rfl, rfl⟩
    go_wp2_with fail
    refine (H5.out _ (hC.out.below hb)).mono ?_
    rintro e w4 ⟨rfl, hb2⟩
    go_wp2_with fail
    go_ret2
    exact ⟨rfl, hb.trans (hb2.mono hb.size)⟩

theorem p_fit_nd (s R A B : ByteArray) (F : Int) (V : Int) (h1 : C33 s R true) (h2 : C34 R A B true) (h3 : C35 A true) (hs : NoZero A) (h4 : C36 B F true) (hF0 : 0 ≤ F) (hF1 : F ≤ 255) (h5 : C37 A V) (hz : ¬ A.toList = [48] ∨ (A.toList = [48] ∧ (F == 0) = false)) (hV : 0 ≤ V) (hV1 : V ≤ 36028797018963968) (hn : V * 256 + F ≤ 9223372036854775808) (w : World) (hc : Ctx w) :
    Calls Tryd.prog 23 #[.string s] w (PRet w (wrap64 (IntKind.u64.wrap (-(V * 256 + F)))) 0) := by
  have hC := Lib.hid hc
  have H1 := Lib.hid h1; have H2 := Lib.hid h2; have H3 := Lib.hid h3; have H5 := Lib.hid h5
  clear hc h1 h2 h3 h5
  have H4 := Lib.hid h4
  clear h4
  rcases hs with hs | ⟨hs, h0⟩
  all_goals rcases hz with hz | ⟨hz, hz1⟩
  all_goals
    go_enter Tryd.func23, Tryd.ntmps23
    go_wp2_with fail
    refine (H1.out _).mono ?_
    rintro e w1 ⟨rfl, rfl⟩
    go_wp2_with fail
    refine (H2.out _ hC.out).mono ?_
    rintro e w2 ⟨rfl, hb⟩
    go_wp2_with fail
    refine (H3.out _).mono ?_
    rintro e w3 ⟨rfl, rfl⟩
    go_wp2_with fail
    refine (H4.out _).mono ?_
    rintro e w3 ⟨rfl, rfl⟩
    go_wp2_with fail
    refine (H5.out _ (hC.out.below hb)).mono ?_
    rintro e w4 ⟨rfl, hb2⟩
    go_wp2_with fail
    go_ret2
    exact ⟨rfl, hb.trans (hb2.mono hb.size)⟩

theorem p_not_nd (s R A B : ByteArray) (F : Int) (V : Int) (h1 : C33 s R true) (h2 : C34 R A B true) (h3 : C35 A true) (hs : NoZero A) (h4 : C36 B F true) (hF0 : 0 ≤ F) (hF1 : F ≤ 255) (h5 : C37 A V) (hz : ¬ A.toList = [48] ∨ (A.toList = [48] ∧ (F == 0) = false)) (hV : 0 ≤ V) (hV1 : V ≤ 36028797018963968) (hn : 9223372036854775808 < V * 256 + F) (w : World) (hc : Ctx w) :
    Calls Tryd.prog 23 #[.string s] w (PRet w 0 3) := by
  have hC := Lib.hid hc
  have H1 := Lib.hid h1; have H2 := Lib.hid h2; have H3 := Lib.hid h3; have H5 := Lib.hid h5
  clear hc h1 h2 h3 h5
  have H4 := Lib.hid h4
  clear h4
  rcases hs with hs | ⟨hs, h0⟩
  all_goals rcases hz with hz | ⟨hz, hz1⟩
  all_goals
    go_enter Tryd.func23, Tryd.ntmps23
    go_wp2_with fail
    refine (H1.out _).mono ?_
    rintro e w1 ⟨rfl, rfl⟩
    go_wp2_with fail
    refine (H2.out _ hC.out).mono ?_
    rintro e w2 ⟨rfl, hb⟩
    go_wp2_with fail
    refine (H3.out _).mono ?_
    rintro e w3 ⟨rfl, rfl⟩
    go_wp2_with fail
    refine (H4.out _).mono ?_
    rintro e w3 ⟨rfl, rfl⟩
    go_wp2_with fail
    refine (H5.out _ (hC.out.below hb)).mono ?_
    rintro e w4 ⟨rfl, hb2⟩
    go_wp2_with fail
    go_ret2
    exact ⟨rfl, hb.trans (hb2.mono hb.size)⟩

end Go.Proofs.YtoihknngllmogaaDoor
