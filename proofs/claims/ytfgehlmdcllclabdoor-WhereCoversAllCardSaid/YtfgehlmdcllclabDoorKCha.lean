/- WhereCoversAll: the first question: the walks, printed by our generator; each follows its model. Conditions: the model yields a value. -/
import Derived.Test.YtfgehlmdcllclabDoorMC
import Derived.Test.YtfgehlmdcllclabDoorProg
import Derived.Test.YtfgehlmdcllclabDoorLx8
namespace Go.Proofs.YtfgehlmdcllclabDoor
open Go Go.Vc Go.Md Go.M Go.Lx
set_option maxRecDepth 100000
set_option maxHeartbeats 4000000
set_option linter.unusedVariables false

theorem mixed : Tryd.prog.follows .mixedOrders = true := by kernel_rfl

abbrev e_u8 (x : Int) : List Value := [.int .u8 x]
abbrev e_string (x : (List UInt8)) : List Value := [str x]
abbrev e_where_Box (x : T_where_Box) : List Value := [.int .i64 x.South, .int .i64 x.West, .int .i64 x.North, .int .i64 x.East]

theorem k14 {a0 : Int} {a1 : Int} {a2 : Int} {r : Bool} (H : where_outside a0 a1 a2 = some r) : Ret Tryd.prog 14 [.int .i64 a0, .int .i64 a1, .int .i64 a2] (.bool r) := by
  refine enterRet (n := 15) Tryd.func14 rfl rfl rfl (fun wd => ?_)
  refine c_seq ?_
  refine c_region ?_
  refine l_val rfl rfl rfl (r_assign (v := .bool false) rfl) ?_
  refine l_nil ?_
  refine c_seq ?_
  refine c_region ?_
  refine l_val rfl rfl rfl (r_move (v := .int .i64 a0) rfl) ?_
  refine l_val rfl rfl rfl (r_move (v := .int .i64 a1) rfl) ?_
  refine l_val rfl rfl rfl (r_lss rfl rfl) ?_
  refine l_val rfl rfl rfl (r_move (v := .bool (decide (a0 < a1))) rfl) ?_
  refine split (fun hb => ?_) (fun hb => ?_)
  · have H3 := cnd_t hb H; clear H
    refine l_passed rfl rfl rfl ?_
    refine l_passed rfl rfl rfl ?_
    refine l_passed rfl rfl rfl ?_
    refine l_val rfl rfl rfl (r_pickT (v := .bool true) rfl rfl) ?_
    refine l_val rfl rfl rfl (r_assign (v := .bool true) rfl) ?_
    refine l_nil ?_
    refine c_ret ?_
    obtain rfl := Option.some.inj H3
    refine ret1 (v := .bool true) rfl rfl (fin rfl)
  · have H4 := cnd_f hb H; clear H
    refine l_val rfl rfl rfl (r_move (v := .int .i64 a0) rfl) ?_
    refine l_val rfl rfl rfl (r_move (v := .int .i64 a2) rfl) ?_
    refine l_val rfl rfl rfl (r_gtr rfl rfl) ?_
    refine l_val rfl rfl rfl (r_pickF (v := .bool (decide (a2 < a0))) rfl rfl) ?_
    refine l_val rfl rfl rfl (r_assign (v := .bool (decide (a2 < a0))) rfl) ?_
    refine l_nil ?_
    refine c_ret ?_
    obtain rfl := Option.some.inj H4
    refine ret1 (v := .bool (decide (a2 < a0))) rfl rfl (fin rfl)
theorem k26 {a0 : Int} {r : Bool} (H : where_isLat a0 = some r) : Ret Tryd.prog 26 [.int .i64 a0] (.bool r) := by
  refine enterRet (n := 6) Tryd.func26 rfl rfl rfl (fun wd => ?_)
  refine c_seq ?_
  refine c_region ?_
  refine l_val rfl rfl rfl (r_assign (v := .bool false) rfl) ?_
  refine l_nil ?_
  refine c_seq ?_
  refine c_region ?_
  refine l_val rfl rfl rfl (r_move (v := .int .i64 a0) rfl) ?_
  obtain ⟨t4, h_t4, H2⟩ := bnd_some H; clear H
  refine l_call (k14 h_t4) Tryd.call14 rfl rfl rfl ?_
  refine l_val rfl rfl rfl (r_not rfl) ?_
  refine l_val rfl rfl rfl (r_assign (v := .bool (!t4)) rfl) ?_
  refine l_nil ?_
  refine c_ret ?_
  obtain rfl := Option.some.inj H2
  refine ret1 (v := .bool (!t4)) rfl rfl (fin rfl)
theorem k27 {a0 : Int} {r : Bool} (H : where_isLon a0 = some r) : Ret Tryd.prog 27 [.int .i64 a0] (.bool r) := by
  refine enterRet (n := 6) Tryd.func27 rfl rfl rfl (fun wd => ?_)
  refine c_seq ?_
  refine c_region ?_
  refine l_val rfl rfl rfl (r_assign (v := .bool false) rfl) ?_
  refine l_nil ?_
  refine c_seq ?_
  refine c_region ?_
  refine l_val rfl rfl rfl (r_move (v := .int .i64 a0) rfl) ?_
  obtain ⟨t4, h_t4, H2⟩ := bnd_some H; clear H
  refine l_call (k14 h_t4) Tryd.call14 rfl rfl rfl ?_
  refine l_val rfl rfl rfl (r_not rfl) ?_
  refine l_val rfl rfl rfl (r_assign (v := .bool (!t4)) rfl) ?_
  refine l_nil ?_
  refine c_ret ?_
  obtain rfl := Option.some.inj H2
  refine ret1 (v := .bool (!t4)) rfl rfl (fin rfl)
theorem k21 {a0 : T_api_Place} {r : Int} (H : where_CheckPlace a0 = some r) : Ret Tryd.prog 21 [.agg #[.int .i64 a0.Lat, .int .i64 a0.Lon]] (.int .i64 r) := by
  refine enterRet (n := 13) Tryd.func21 rfl rfl rfl (fun wd => ?_)
  refine c_seq ?_
  refine c_region ?_
  refine l_box (cs := [.int .i64 a0.Lat, .int .i64 a0.Lon]) rfl rfl rfl rfl (fun b1 => ?_)
  refine l_val rfl rfl rfl (r_assign (v := .int .i64 0) rfl) ?_
  refine l_nil ?_
  refine c_seq ?_
  refine c_seq ?_
  refine c_region ?_
  refine l_val rfl rfl rfl (r_field Tryd.runUnderlying25 rfl Tryd.sizeOf3 rfl rfl) ?_
  refine l_load1 (i := 0) (v := .int .i64 a0.Lat) Tryd.isAgg3 rfl rfl rfl rfl rfl ?_
  obtain ⟨t5, h_t5, H7⟩ := bnd_some H; clear H
  refine l_call (k26 h_t5) Tryd.call26 rfl rfl rfl ?_
  refine l_val rfl rfl rfl (r_not rfl) ?_
  refine l_val rfl rfl rfl (r_move (v := .bool (!t5)) rfl) ?_
  refine split (fun hb => ?_) (fun hb => ?_)
  · have H8 := cnd_t hb H7; clear H7
    refine l_passed rfl rfl rfl ?_
    refine l_passed rfl rfl rfl ?_
    refine l_passed rfl rfl rfl ?_
    refine l_passed rfl rfl rfl ?_
    refine l_val rfl rfl rfl (r_pickT (v := .bool true) rfl rfl) ?_
    refine l_nil ?_
    refine c_true rfl ?_
    refine c_seq ?_
    refine c_region ?_
    refine l_val rfl rfl rfl (r_assign (v := .int .i64 2) rfl) ?_
    refine l_nil ?_
    refine c_ret ?_
    obtain rfl := Option.some.inj H8
    refine ret1 (v := .int .i64 2) rfl rfl (fin rfl)
  · have H9 := cnd_f hb H7; clear H7
    refine l_val rfl rfl rfl (r_field Tryd.runUnderlying25 rfl Tryd.sizeOf3 rfl rfl) ?_
    refine l_load1 (i := 0) (v := .int .i64 a0.Lon) Tryd.isAgg3 rfl rfl rfl rfl rfl ?_
    obtain ⟨t10, h_t10, H10⟩ := bnd_some H9; clear H9
    refine l_call (k27 h_t10) Tryd.call27 rfl rfl rfl ?_
    refine l_val rfl rfl rfl (r_not rfl) ?_
    refine l_val rfl rfl rfl (r_pickF (v := .bool (!t10)) rfl rfl) ?_
    refine l_nil ?_
    refine c_if (b := (!t10)) rfl (fun hb => ?_) (fun hb => ?_)
    · have H11 := cnd_t hb H10; clear H10
      refine c_seq ?_
      refine c_region ?_
      refine l_val rfl rfl rfl (r_assign (v := .int .i64 2) rfl) ?_
      refine l_nil ?_
      refine c_ret ?_
      obtain rfl := Option.some.inj H11
      refine ret1 (v := .int .i64 2) rfl rfl (fin rfl)
    · have H12 := cnd_f hb H10; clear H10
      refine c_skip ?_
      refine c_seq ?_
      refine c_region ?_
      refine l_val rfl rfl rfl (r_assign (v := .int .i64 0) rfl) ?_
      refine l_nil ?_
      refine c_ret ?_
      obtain rfl := Option.some.inj H12
      refine ret1 (v := .int .i64 0) rfl rfl (fin rfl)
theorem k60 {a0 : Int} {r : (List UInt8)} (H : internal_strconv_small a0 = some r) : Ret Tryd.prog 60 [.int .i64 a0] (str r) := by
  refine enterRet (n := 15) Tryd.func60 rfl rfl rfl (fun wd => ?_)
  refine c_seq ?_
  refine c_region ?_
  refine l_val rfl rfl rfl (r_assign (v := str []) rfl) ?_
  refine l_nil ?_
  refine c_seq ?_
  refine c_seq ?_
  refine c_region ?_
  refine l_val rfl rfl rfl (r_move (v := .int .i64 a0) rfl) ?_
  refine l_val rfl rfl rfl (r_lss rfl rfl) ?_
  refine l_nil ?_
  refine c_if (b := (decide (a0 < 10))) rfl (fun hb => ?_) (fun hb => ?_)
  · have H9 := cnd_t hb H; clear H
    refine c_seq ?_
    refine c_region ?_
    refine l_val rfl rfl rfl (r_move (v := .int .i64 a0) rfl) ?_
    refine l_val rfl rfl rfl (r_move (v := .int .i64 a0) rfl) ?_
    obtain ⟨t7, h_t7, H10⟩ := bnd_some H9; clear H9
    refine l_val rfl rfl rfl (r_addG rfl rfl h_t7) ?_
    obtain ⟨t8, h_t8, H11⟩ := bnd_some H10; clear H10
    refine l_val rfl rfl rfl (r_cutTG Tryd.underlying9 rfl rfl rfl h_t8) ?_
    refine l_val rfl rfl rfl (r_assign (v := str t8) rfl) ?_
    refine l_nil ?_
    refine c_ret ?_
    obtain rfl := Option.some.inj H11
    refine ret1 (v := str t8) rfl rfl (fin rfl)
  · have H12 := cnd_f hb H; clear H
    refine c_skip ?_
    refine c_seq ?_
    refine c_region ?_
    refine l_val rfl rfl rfl (r_move (v := .int .i64 a0) rfl) ?_
    obtain ⟨t10, h_t10, H13⟩ := bnd_some H12; clear H12
    refine l_val rfl rfl rfl (r_mulG rfl rfl h_t10) ?_
    refine l_val rfl rfl rfl (r_move (v := .int .i64 a0) rfl) ?_
    obtain ⟨t12, h_t12, H14⟩ := bnd_some H13; clear H13
    refine l_val rfl rfl rfl (r_mulG rfl rfl h_t12) ?_
    obtain ⟨t13, h_t13, H15⟩ := bnd_some H14; clear H14
    refine l_val rfl rfl rfl (r_addG rfl rfl h_t13) ?_
    obtain ⟨t14, h_t14, H16⟩ := bnd_some H15; clear H15
    refine l_val rfl rfl rfl (r_cutTG Tryd.underlying9 rfl rfl rfl h_t14) ?_
    refine l_val rfl rfl rfl (r_assign (v := str t14) rfl) ?_
    refine l_nil ?_
    refine c_ret ?_
    obtain rfl := Option.some.inj H16
    refine ret1 (v := str t14) rfl rfl (fin rfl)
theorem k70 {a0 : Int} {r : Int} (H : internal_strconv_log10Pow2 a0 = some r) : Ret Tryd.prog 70 [.int .i64 a0] (.int .i64 r) := by
  refine enterRet (n := 6) Tryd.func70 rfl rfl rfl (fun wd => ?_)
  refine c_seq ?_
  refine c_region ?_
  refine l_val rfl rfl rfl (r_assign (v := .int .i64 0) rfl) ?_
  refine l_nil ?_
  refine c_seq ?_
  refine c_region ?_
  refine l_val rfl rfl rfl (r_move (v := .int .i64 a0) rfl) ?_
  obtain ⟨t4, h_t4, H3⟩ := bnd_some H; clear H
  refine l_val rfl rfl rfl (r_mulG rfl rfl h_t4) ?_
  obtain ⟨t5, h_t5, H4⟩ := bnd_some H3; clear H3
  refine l_val rfl rfl rfl (r_shrG rfl rfl rfl h_t5) ?_
  refine l_val rfl rfl rfl (r_assign (v := .int .i64 t5) rfl) ?_
  refine l_nil ?_
  refine c_ret ?_
  obtain rfl := Option.some.inj H4
  refine ret1 (v := .int .i64 t5) rfl rfl (fin rfl)
theorem k71 {a0 : Int} {r : Int} (H : math_bits_Len64 a0 = some r) : Ret Tryd.prog 71 [.int .u64 a0] (.int .i64 r) := by
  refine enterRet (n := 25) Tryd.func71 rfl rfl rfl (fun wd => ?_)
  refine c_seq ?_
  refine c_region ?_
  refine l_val rfl rfl rfl (r_assign (v := .int .i64 0) rfl) ?_
  refine l_nil ?_
  refine c_meet (r := r) (σ := Int × Int) (τ := Unit) (fun s => math_bits_Len64_j1 s.1 s.2) (fun s t => [(0, .int .u64 s.1), (2, .int .i64 s.2)]) (fun s t => []) (fun s t => True) ?_ ?_
  · refine c_seq ?_
    refine c_region ?_
    refine l_val rfl rfl rfl (r_move (v := .int .u64 a0) rfl) ?_
    refine l_val rfl rfl rfl (r_geq rfl rfl) ?_
    refine l_nil ?_
    refine c_if (b := (decide (4294967296 ≤ a0))) rfl (fun hb => ?_) (fun hb => ?_)
    · have H32 := cnd_t hb H; clear H
      refine c_seq ?_
      refine c_region ?_
      refine l_val rfl rfl rfl (r_move (v := .int .u64 a0) rfl) ?_
      obtain ⟨t6, h_t6, H33⟩ := bnd_some H32; clear H32
      refine l_val rfl rfl rfl (r_shrG rfl rfl rfl h_t6) ?_
      refine l_val rfl rfl rfl (r_assign (v := .int .u64 t6) rfl) ?_
      refine l_nil ?_
      refine c_region ?_
      refine l_val rfl rfl rfl (r_assign (v := .int .i64 32) rfl) ?_
      refine l_nil ?_
      refine c_close (t6, 32) () 0 [] (by exact ⟨rfl, rfl, trivial⟩) (by decide) rfl (by exact ⟨H33, trivial⟩) (Nat.lt_succ_self _)
    · have H34 := cnd_f hb H; clear H
      refine c_skip ?_
      refine c_close (a0, 0) () 0 [] (by exact ⟨rfl, rfl, trivial⟩) (by decide) rfl (by exact ⟨H34, trivial⟩) (Nat.lt_succ_self _)
  · rintro ⟨x0, x2⟩ _ gg H18 _
    replace H18 : math_bits_Len64_j1 x0 x2 = some r := H18
    refine c_tidyF [(0, .int .u64 x0), (2, .int .i64 x2)] [] rfl rfl ?_
    refine c_meet (r := r) (σ := Int × Int) (τ := Unit) (fun s => math_bits_Len64_j2 s.1 s.2) (fun s t => [(0, .int .u64 s.1), (2, .int .i64 s.2)]) (fun s t => []) (fun s t => True) ?_ ?_
    · refine c_seq ?_
      refine c_region ?_
      refine l_val rfl rfl rfl (r_move (v := .int .u64 x0) rfl) ?_
      refine l_val rfl rfl rfl (r_geq rfl rfl) ?_
      refine l_nil ?_
      refine c_if (b := (decide (65536 ≤ x0))) rfl (fun hb => ?_) (fun hb => ?_)
      · have H28 := cnd_t hb H18; clear H18
        refine c_seq ?_
        refine c_region ?_
        refine l_val rfl rfl rfl (r_move (v := .int .u64 x0) rfl) ?_
        obtain ⟨t10, h_t10, H29⟩ := bnd_some H28; clear H28
        refine l_val rfl rfl rfl (r_shrG rfl rfl rfl h_t10) ?_
        refine l_val rfl rfl rfl (r_assign (v := .int .u64 t10) rfl) ?_
        refine l_nil ?_
        refine c_region ?_
        refine l_val rfl rfl rfl (r_move (v := .int .i64 x2) rfl) ?_
        obtain ⟨t12, h_t12, H30⟩ := bnd_some H29; clear H29
        refine l_val rfl rfl rfl (r_addG rfl rfl h_t12) ?_
        refine l_val rfl rfl rfl (r_assign (v := .int .i64 t12) rfl) ?_
        refine l_nil ?_
        refine c_close (t10, t12) () 0 [] (by exact ⟨rfl, rfl, trivial⟩) (by decide) rfl (by exact ⟨H30, trivial⟩) (Nat.lt_succ_self _)
      · have H31 := cnd_f hb H18; clear H18
        refine c_skip ?_
        refine c_close (x0, x2) () 0 [] (by exact ⟨rfl, rfl, trivial⟩) (by decide) rfl (by exact ⟨H31, trivial⟩) (Nat.lt_succ_self _)
    · rintro ⟨x0_2, x2_2⟩ _ gg H19 _
      replace H19 : math_bits_Len64_j2 x0_2 x2_2 = some r := H19
      refine c_tidyF [(0, .int .u64 x0_2), (2, .int .i64 x2_2)] [] rfl rfl ?_
      refine c_meet (r := r) (σ := Int × Int) (τ := Unit) (fun s => math_bits_Len64_j3 s.1 s.2) (fun s t => [(0, .int .u64 s.1), (2, .int .i64 s.2)]) (fun s t => []) (fun s t => True) ?_ ?_
      · refine c_seq ?_
        refine c_region ?_
        refine l_val rfl rfl rfl (r_move (v := .int .u64 x0_2) rfl) ?_
        refine l_val rfl rfl rfl (r_geq rfl rfl) ?_
        refine l_nil ?_
        refine c_if (b := (decide (256 ≤ x0_2))) rfl (fun hb => ?_) (fun hb => ?_)
        · have H24 := cnd_t hb H19; clear H19
          refine c_seq ?_
          refine c_region ?_
          refine l_val rfl rfl rfl (r_move (v := .int .u64 x0_2) rfl) ?_
          obtain ⟨t16, h_t16, H25⟩ := bnd_some H24; clear H24
          refine l_val rfl rfl rfl (r_shrG rfl rfl rfl h_t16) ?_
          refine l_val rfl rfl rfl (r_assign (v := .int .u64 t16) rfl) ?_
          refine l_nil ?_
          refine c_region ?_
          refine l_val rfl rfl rfl (r_move (v := .int .i64 x2_2) rfl) ?_
          obtain ⟨t18, h_t18, H26⟩ := bnd_some H25; clear H25
          refine l_val rfl rfl rfl (r_addG rfl rfl h_t18) ?_
          refine l_val rfl rfl rfl (r_assign (v := .int .i64 t18) rfl) ?_
          refine l_nil ?_
          refine c_close (t16, t18) () 0 [] (by exact ⟨rfl, rfl, trivial⟩) (by decide) rfl (by exact ⟨H26, trivial⟩) (Nat.lt_succ_self _)
        · have H27 := cnd_f hb H19; clear H19
          refine c_skip ?_
          refine c_close (x0_2, x2_2) () 0 [] (by exact ⟨rfl, rfl, trivial⟩) (by decide) rfl (by exact ⟨H27, trivial⟩) (Nat.lt_succ_self _)
      · rintro ⟨x0_3, x2_3⟩ _ gg H20 _
        replace H20 : math_bits_Len64_j3 x0_3 x2_3 = some r := H20
        refine c_tidyF [(0, .int .u64 x0_3), (2, .int .i64 x2_3)] [] rfl rfl ?_
        refine c_seq ?_
        refine c_region ?_
        refine l_val rfl rfl rfl (r_move (v := .int .i64 x2_3) rfl) ?_
        refine l_val rfl rfl rfl (r_move (v := .int .u64 x0_3) rfl) ?_
        refine l_val rfl rfl rfl (r_convG Tryd.runUnderlying90 Tryd.runUnderlying5 rfl (wr_u8 _)) ?_
        obtain ⟨t22, h_t22, H21⟩ := bnd_some H20; clear H20
        refine l_val rfl rfl rfl (r_octG Tryd.underlying9 rfl rfl h_t22) ?_
        obtain ⟨t23, h_t23, H22⟩ := bnd_some H21; clear H21
        refine l_val rfl rfl rfl (r_convG Tryd.runUnderlying5 Tryd.runUnderlying3 rfl (gK_i64 h_t23)) ?_
        obtain ⟨t24, h_t24, H23⟩ := bnd_some H22; clear H22
        refine l_val rfl rfl rfl (r_addG rfl rfl h_t24) ?_
        refine l_val rfl rfl rfl (r_assign (v := .int .i64 t24) rfl) ?_
        refine l_nil ?_
        refine c_ret ?_
        obtain rfl := Option.some.inj H23
        refine ret1 (v := .int .i64 t24) rfl rfl (fin rfl)
theorem k72 {a0 : Bool} {r : Int} (H : internal_strconv_bool2_int a0 = some r) : Ret Tryd.prog 72 [.bool a0] (.int .i64 r) := by
  refine enterRet (n := 4) Tryd.func72 rfl rfl rfl (fun wd => ?_)
  refine c_seq ?_
  refine c_region ?_
  refine l_val rfl rfl rfl (r_assign (v := .int .i64 0) rfl) ?_
  refine l_nil ?_
  refine c_seq ?_
  refine c_seq ?_
  refine c_region ?_
  refine l_val rfl rfl rfl (r_move (v := .bool a0) rfl) ?_
  refine l_nil ?_
  refine c_if (b := a0) rfl (fun hb => ?_) (fun hb => ?_)
  · have H3 := cnd_t hb H; clear H
    refine c_seq ?_
    refine c_region ?_
    refine l_val rfl rfl rfl (r_assign (v := .int .i64 1) rfl) ?_
    refine l_nil ?_
    refine c_ret ?_
    obtain rfl := Option.some.inj H3
    refine ret1 (v := .int .i64 1) rfl rfl (fin rfl)
  · have H4 := cnd_f hb H; clear H
    refine c_skip ?_
    refine c_seq ?_
    refine c_region ?_
    refine l_val rfl rfl rfl (r_assign (v := .int .i64 0) rfl) ?_
    refine l_nil ?_
    refine c_ret ?_
    obtain rfl := Option.some.inj H4
    refine ret1 (v := .int .i64 0) rfl rfl (fin rfl)
theorem k62 {a0 : (List Int)} {p0 : Option Addr × Nat} {n0 : Nat} {a1 : Int} {r : (List Int)} {w : World} {h : Heap} {S : Nat → Prop} (hcs : (rowV 5 1 (.slice p0.1 n0 p0.2) n0 (a0.map e_u8)).P S w) (hlt : ∀ b, S b → b < w.heap.size) (hw : Know h w S) (hn0 : n0 = a0.length) (H : internal_strconv_formatBase10 a0 a1 = some r) : Does Tryd.prog 62 (List.toArray [.slice p0.1 n0 p0.2, .int .u64 a1]) w (fun v w' => ∃ x : Unit, v = (.tuple #[]) ∧ Turn w w' S (rowV 5 1 (.slice p0.1 n0 p0.2) n0 (r.map e_u8))) := by
  refine enter (n := 167) Tryd.func62 rfl rfl rfl S [rowV 5 1 (.slice p0.1 n0 p0.2) n0 (a0.map e_u8)] (Sat.one hcs hlt) ?_
  refine c_seq ?_
  refine c_region ?_
  refine l_val rfl rfl rfl (r_move (v := .slice p0.1 n0 p0.2) rfl) ?_
  refine l_val rfl rfl rfl (r_lenN Tryd.underlying54 rfl hn0) ?_
  refine l_val rfl rfl rfl (r_assign (v := .int .i64 (a0.length : Int)) rfl) ?_
  refine l_nil ?_
  refine c_meet (r := r) (σ := Int × Int × (List Int)) (τ := Unit) (fun s => internal_strconv_formatBase10_j1 s.1 s.2.1 s.2.2) (fun s t => [(0, .slice p0.1 n0 p0.2), (1, .int .u64 s.1), (4, .int .i64 s.2.1)]) (fun s t => [rowV 5 1 (.slice p0.1 n0 p0.2) n0 (s.2.2.map e_u8)]) (fun s t => n0 = s.2.2.length) ?_ ?_
  · refine c_block ?_
    refine c_fix (σ := Int × Int × (List Int)) (τ := Unit) (fun next4 s => internal_strconv_formatBase10_l4 next4 s.1 s.2.1 s.2.2) (fun s t => [(0, .slice p0.1 n0 p0.2), (1, .int .u64 s.1), (4, .int .i64 s.2.1)]) (fun s t => [rowV 5 1 (.slice p0.1 n0 p0.2) n0 (s.2.2.map e_u8)]) (fun s t => n0 = s.2.2.length) (a1, (a0.length : Int), a0) () [0] H (by exact hn0) (by exact ⟨rfl, rfl, rfl, trivial⟩) (by decide) rfl ?_
    rintro ⟨x1_3, x4_5, l_5⟩ _ m4 gg H131 hl_5
    clear H
    replace H131 : internal_strconv_formatBase10_l4 (it (fun next4 s => internal_strconv_formatBase10_l4 next4 s.1 s.2.1 s.2.2) m4) x1_3 x4_5 l_5 = some r := H131
    generalize hn4 : it (fun next4 s => internal_strconv_formatBase10_l4 next4 s.1 s.2.1 s.2.2) m4 = next4 at H131
    refine c_tidyF [(0, .slice p0.1 n0 p0.2), (1, .int .u64 x1_3), (4, .int .i64 x4_5)] [rowV 5 1 (.slice p0.1 n0 p0.2) n0 (l_5.map e_u8)] rfl rfl ?_
    refine c_seq ?_
    refine c_seq ?_
    refine c_region ?_
    refine l_val rfl rfl rfl (r_move (v := .int .i64 x4_5) rfl) ?_
    refine l_val rfl rfl rfl (r_geq rfl rfl) ?_
    refine l_nil ?_
    refine c_if (b := (decide (8 ≤ x4_5))) rfl (fun hb => ?_) (fun hb => ?_)
    · have H132 := cnd_t hb H131; clear H131
      refine c_skip ?_
      refine c_block ?_
      refine c_seq ?_
      refine c_region ?_
      refine l_val rfl rfl rfl (r_move (v := .int .u64 x1_3) rfl) ?_
      obtain ⟨t22, h_t22, H133⟩ := bnd_some H132; clear H132
      refine l_val rfl rfl rfl (r_remG rfl rfl h_t22) ?_
      refine l_val rfl rfl rfl (r_convG Tryd.runUnderlying90 Tryd.runUnderlying87 rfl (wr_u32 _)) ?_
      refine l_val rfl rfl rfl (r_assign (v := .int .u32 (wU32 t22)) rfl) ?_
      refine l_nil ?_
      refine c_seq ?_
      refine c_region ?_
      refine l_val rfl rfl rfl (r_move (v := .int .u64 x1_3) rfl) ?_
      obtain ⟨t25, h_t25, H134⟩ := bnd_some H133; clear H133
      refine l_val rfl rfl rfl (r_quoU rfl rfl ⟨rfl, rfl⟩ h_t25) ?_
      refine l_val rfl rfl rfl (r_assign (v := .int .u64 t25) rfl) ?_
      refine l_nil ?_
      refine c_seq ?_
      refine c_region ?_
      refine l_val rfl rfl rfl (r_move (v := .int .u32 (wU32 t22)) rfl) ?_
      obtain ⟨t27, h_t27, H135⟩ := bnd_some H134; clear H134
      refine l_val rfl rfl rfl (r_quoU rfl rfl ⟨rfl, rfl⟩ h_t27) ?_
      refine l_val rfl rfl rfl (r_move (v := .int .u32 (wU32 t22)) rfl) ?_
      obtain ⟨t29, h_t29, H136⟩ := bnd_some H135; clear H135
      refine l_val rfl rfl rfl (r_remG rfl rfl h_t29) ?_
      refine l_val rfl rfl rfl (r_assign (v := .int .u32 t27) rfl) ?_
      refine l_val rfl rfl rfl (r_assign (v := .int .u32 t29) rfl) ?_
      refine l_nil ?_
      refine c_seq ?_
      refine c_region ?_
      refine l_val rfl rfl rfl (r_move (v := .int .u32 t29) rfl) ?_
      obtain ⟨t31, h_t31, H137⟩ := bnd_some H136; clear H136
      refine l_val rfl rfl rfl (r_quoU rfl rfl ⟨rfl, rfl⟩ h_t31) ?_
      refine l_val rfl rfl rfl (r_mulW rfl rfl (wr_u32 _)) ?_
      refine l_val rfl rfl rfl (r_move (v := .int .u32 t29) rfl) ?_
      obtain ⟨t34, h_t34, H138⟩ := bnd_some H137; clear H137
      refine l_val rfl rfl rfl (r_remG rfl rfl h_t34) ?_
      refine l_val rfl rfl rfl (r_mulW rfl rfl (wr_u32 _)) ?_
      refine l_val rfl rfl rfl (r_assign (v := .int .u32 (wU32 (t31 * 2))) rfl) ?_
      refine l_val rfl rfl rfl (r_assign (v := .int .u32 (wU32 (t34 * 2))) rfl) ?_
      refine l_nil ?_
      refine c_seq ?_
      refine c_region ?_
      refine l_val rfl rfl rfl (r_move (v := .int .u32 t27) rfl) ?_
      obtain ⟨t37, h_t37, H139⟩ := bnd_some H138; clear H138
      refine l_val rfl rfl rfl (r_quoU rfl rfl ⟨rfl, rfl⟩ h_t37) ?_
      refine l_val rfl rfl rfl (r_mulW rfl rfl (wr_u32 _)) ?_
      refine l_val rfl rfl rfl (r_move (v := .int .u32 t27) rfl) ?_
      obtain ⟨t40, h_t40, H140⟩ := bnd_some H139; clear H139
      refine l_val rfl rfl rfl (r_remG rfl rfl h_t40) ?_
      refine l_val rfl rfl rfl (r_mulW rfl rfl (wr_u32 _)) ?_
      refine l_val rfl rfl rfl (r_assign (v := .int .u32 (wU32 (t37 * 2))) rfl) ?_
      refine l_val rfl rfl rfl (r_assign (v := .int .u32 (wU32 (t40 * 2))) rfl) ?_
      refine l_nil ?_
      refine c_seq ?_
      exact c_regionD (Kd.p :: Kd.p :: Kd.p :: Kd.p :: Kd.p :: Kd.p :: Kd.p :: Kd.p :: Kd.p :: Kd.p :: Kd.p :: Kd.d [0] _ :: Kd.sr 0 _ :: Kd.d [0] _ :: Kd.sr 0 _ :: []) 0 mixed (by
        refine d_val rfl rfl (r_move (v := .slice p0.1 n0 p0.2) rfl) ?_
        refine d_val rfl rfl (r_move (v := .int .i64 x4_5) rfl) ?_
        have h_t44 := bnd_val H140
        have H141 := bnd_rest H140
        refine d_val rfl rfl (r_subG rfl rfl h_t44) ?_
        refine d_val rfl rfl (r_move (v := .slice p0.1 n0 p0.2) rfl) ?_
        refine d_val rfl rfl (r_move (v := .int .i64 x4_5) rfl) ?_
        have h_t47 := bnd_val H141
        have H142 := bnd_rest H141
        refine d_val rfl rfl (r_subG rfl rfl h_t47) ?_
        refine d_val rfl rfl (r_move (v := .int .u32 (wU32 (t34 * 2))) rfl) ?_
        refine d_val rfl rfl (r_addW rfl rfl (wr_u32 _)) ?_
        have h_t50 := bnd_val H142
        have H143 := bnd_rest H142
        refine d_val rfl rfl (r_octG Tryd.underlying9 rfl rfl h_t50) ?_
        refine d_val rfl rfl (r_move (v := .int .u32 (wU32 (t34 * 2))) rfl) ?_
        have h_t52 := bnd_val H143
        have H144 := bnd_rest H143
        refine d_val rfl rfl (r_octG Tryd.underlying9 rfl rfl h_t52) ?_
        have h_t53 := bnd_val H144
        have H145 := bnd_rest H144
        refine d_readD (fun w L' hF hS hi => run_indexO Tryd.underlying54 Tryd.sizeOf5 rfl rfl (rowOf (i := 0) hS ((hi 0 (by simp)).trans rfl)) hl_5 h_t53) rfl rfl ?_
        have h_l0_8 := bnd_val H145
        have H146 := bnd_rest H145
        refine d_storeG (q := 0) (j := 0) (i := (val (gI (x4_5 - 1)))) (sz := 1) (hm := hl_5) (f := e_u8) (vs := [.int .u8 (val (gOct [48, 48, 48, 49, 48, 50, 48, 51, 48, 52, 48, 53, 48, 54, 48, 55, 48, 56, 48, 57, 49, 48, 49, 49, 49, 50, 49, 51, 49, 52, 49, 53, 49, 54, 49, 55, 49, 56, 49, 57, 50, 48, 50, 49, 50, 50, 50, 51, 50, 52, 50, 53, 50, 54, 50, 55, 50, 56, 50, 57, 51, 48, 51, 49, 51, 50, 51, 51, 51, 52, 51, 53, 51, 54, 51, 55, 51, 56, 51, 57, 52, 48, 52, 49, 52, 50, 52, 51, 52, 52, 52, 53, 52, 54, 52, 55, 52, 56, 52, 57, 53, 48, 53, 49, 53, 50, 53, 51, 53, 52, 53, 53, 53, 54, 53, 55, 53, 56, 53, 57, 54, 48, 54, 49, 54, 50, 54, 51, 54, 52, 54, 53, 54, 54, 54, 55, 54, 56, 54, 57, 55, 48, 55, 49, 55, 50, 55, 51, 55, 52, 55, 53, 55, 54, 55, 55, 55, 56, 55, 57, 56, 48, 56, 49, 56, 50, 56, 51, 56, 52, 56, 53, 56, 54, 56, 55, 56, 56, 56, 57, 57, 48, 57, 49, 57, 50, 57, 51, 57, 52, 57, 53, 57, 54, 57, 55, 57, 56, 57, 57] (wU32 ((wU32 (t34 * 2)) + 1))))]) Tryd.sizeOf5 rfl rfl rfl rfl rfl rfl rfl rfl rfl (fun y_ hy_ => by first | rfl | (cases hy_.symm.trans h_t53; rfl)) h_l0_8 ?_
        have h_t54 := bnd_val H146
        have H147 := bnd_rest H146
        refine d_readD (fun w L' hF hS hi => run_indexO Tryd.underlying54 Tryd.sizeOf5 rfl rfl (rowOf (i := 0) hS ((hi 0 (by simp)).trans rfl)) (gSet_n hl_5 h_l0_8) h_t54) rfl rfl ?_
        have h_l0_9 := bnd_val H147
        have H148 := bnd_rest H147
        refine d_storeG (q := 0) (j := 0) (i := (val (gI (x4_5 - 2)))) (sz := 1) (hm := (gSet_n hl_5 h_l0_8)) (f := e_u8) (vs := [.int .u8 (val (gOct [48, 48, 48, 49, 48, 50, 48, 51, 48, 52, 48, 53, 48, 54, 48, 55, 48, 56, 48, 57, 49, 48, 49, 49, 49, 50, 49, 51, 49, 52, 49, 53, 49, 54, 49, 55, 49, 56, 49, 57, 50, 48, 50, 49, 50, 50, 50, 51, 50, 52, 50, 53, 50, 54, 50, 55, 50, 56, 50, 57, 51, 48, 51, 49, 51, 50, 51, 51, 51, 52, 51, 53, 51, 54, 51, 55, 51, 56, 51, 57, 52, 48, 52, 49, 52, 50, 52, 51, 52, 52, 52, 53, 52, 54, 52, 55, 52, 56, 52, 57, 53, 48, 53, 49, 53, 50, 53, 51, 53, 52, 53, 53, 53, 54, 53, 55, 53, 56, 53, 57, 54, 48, 54, 49, 54, 50, 54, 51, 54, 52, 54, 53, 54, 54, 54, 55, 54, 56, 54, 57, 55, 48, 55, 49, 55, 50, 55, 51, 55, 52, 55, 53, 55, 54, 55, 55, 55, 56, 55, 57, 56, 48, 56, 49, 56, 50, 56, 51, 56, 52, 56, 53, 56, 54, 56, 55, 56, 56, 56, 57, 57, 48, 57, 49, 57, 50, 57, 51, 57, 52, 57, 53, 57, 54, 57, 55, 57, 56, 57, 57] (wU32 (t34 * 2))))]) Tryd.sizeOf5 rfl rfl rfl rfl rfl rfl rfl rfl rfl (fun y_ hy_ => by first | rfl | (cases hy_.symm.trans h_t54; rfl)) h_l0_9 ?_
        refine d_nil ?_
        refine c_seq ?_
        exact c_regionD (Kd.p :: Kd.p :: Kd.p :: Kd.p :: Kd.p :: Kd.p :: Kd.p :: Kd.p :: Kd.p :: Kd.p :: Kd.p :: Kd.d [0] _ :: Kd.sr 0 _ :: Kd.d [0] _ :: Kd.sr 0 _ :: []) 0 mixed (by
          refine d_val rfl rfl (r_move (v := .slice p0.1 n0 p0.2) rfl) ?_
          refine d_val rfl rfl (r_move (v := .int .i64 x4_5) rfl) ?_
          have h_t57 := bnd_val H148
          have H149 := bnd_rest H148
          refine d_val rfl rfl (r_subG rfl rfl h_t57) ?_
          refine d_val rfl rfl (r_move (v := .slice p0.1 n0 p0.2) rfl) ?_
          refine d_val rfl rfl (r_move (v := .int .i64 x4_5) rfl) ?_
          have h_t60 := bnd_val H149
          have H150 := bnd_rest H149
          refine d_val rfl rfl (r_subG rfl rfl h_t60) ?_
          refine d_val rfl rfl (r_move (v := .int .u32 (wU32 (t31 * 2))) rfl) ?_
          refine d_val rfl rfl (r_addW rfl rfl (wr_u32 _)) ?_
          have h_t63 := bnd_val H150
          have H151 := bnd_rest H150
          refine d_val rfl rfl (r_octG Tryd.underlying9 rfl rfl h_t63) ?_
          refine d_val rfl rfl (r_move (v := .int .u32 (wU32 (t31 * 2))) rfl) ?_
          have h_t65 := bnd_val H151
          have H152 := bnd_rest H151
          refine d_val rfl rfl (r_octG Tryd.underlying9 rfl rfl h_t65) ?_
          have h_t66 := bnd_val H152
          have H153 := bnd_rest H152
          refine d_readD (fun w L' hF hS hi => run_indexO Tryd.underlying54 Tryd.sizeOf5 rfl rfl (rowOf (i := 0) hS ((hi 0 (by simp)).trans rfl)) (gSet_n (gSet_n hl_5 h_l0_8) h_l0_9) h_t66) rfl rfl ?_
          have h_l0_10 := bnd_val H153
          have H154 := bnd_rest H153
          refine d_storeG (q := 0) (j := 0) (i := (val (gI (x4_5 - 3)))) (sz := 1) (hm := (gSet_n (gSet_n hl_5 h_l0_8) h_l0_9)) (f := e_u8) (vs := [.int .u8 (val (gOct [48, 48, 48, 49, 48, 50, 48, 51, 48, 52, 48, 53, 48, 54, 48, 55, 48, 56, 48, 57, 49, 48, 49, 49, 49, 50, 49, 51, 49, 52, 49, 53, 49, 54, 49, 55, 49, 56, 49, 57, 50, 48, 50, 49, 50, 50, 50, 51, 50, 52, 50, 53, 50, 54, 50, 55, 50, 56, 50, 57, 51, 48, 51, 49, 51, 50, 51, 51, 51, 52, 51, 53, 51, 54, 51, 55, 51, 56, 51, 57, 52, 48, 52, 49, 52, 50, 52, 51, 52, 52, 52, 53, 52, 54, 52, 55, 52, 56, 52, 57, 53, 48, 53, 49, 53, 50, 53, 51, 53, 52, 53, 53, 53, 54, 53, 55, 53, 56, 53, 57, 54, 48, 54, 49, 54, 50, 54, 51, 54, 52, 54, 53, 54, 54, 54, 55, 54, 56, 54, 57, 55, 48, 55, 49, 55, 50, 55, 51, 55, 52, 55, 53, 55, 54, 55, 55, 55, 56, 55, 57, 56, 48, 56, 49, 56, 50, 56, 51, 56, 52, 56, 53, 56, 54, 56, 55, 56, 56, 56, 57, 57, 48, 57, 49, 57, 50, 57, 51, 57, 52, 57, 53, 57, 54, 57, 55, 57, 56, 57, 57] (wU32 ((wU32 (t31 * 2)) + 1))))]) Tryd.sizeOf5 rfl rfl rfl rfl rfl rfl rfl rfl rfl (fun y_ hy_ => by first | rfl | (cases hy_.symm.trans h_t66; rfl)) h_l0_10 ?_
          have h_t67 := bnd_val H154
          have H155 := bnd_rest H154
          refine d_readD (fun w L' hF hS hi => run_indexO Tryd.underlying54 Tryd.sizeOf5 rfl rfl (rowOf (i := 0) hS ((hi 0 (by simp)).trans rfl)) (gSet_n (gSet_n (gSet_n hl_5 h_l0_8) h_l0_9) h_l0_10) h_t67) rfl rfl ?_
          have h_l0_11 := bnd_val H155
          have H156 := bnd_rest H155
          refine d_storeG (q := 0) (j := 0) (i := (val (gI (x4_5 - 4)))) (sz := 1) (hm := (gSet_n (gSet_n (gSet_n hl_5 h_l0_8) h_l0_9) h_l0_10)) (f := e_u8) (vs := [.int .u8 (val (gOct [48, 48, 48, 49, 48, 50, 48, 51, 48, 52, 48, 53, 48, 54, 48, 55, 48, 56, 48, 57, 49, 48, 49, 49, 49, 50, 49, 51, 49, 52, 49, 53, 49, 54, 49, 55, 49, 56, 49, 57, 50, 48, 50, 49, 50, 50, 50, 51, 50, 52, 50, 53, 50, 54, 50, 55, 50, 56, 50, 57, 51, 48, 51, 49, 51, 50, 51, 51, 51, 52, 51, 53, 51, 54, 51, 55, 51, 56, 51, 57, 52, 48, 52, 49, 52, 50, 52, 51, 52, 52, 52, 53, 52, 54, 52, 55, 52, 56, 52, 57, 53, 48, 53, 49, 53, 50, 53, 51, 53, 52, 53, 53, 53, 54, 53, 55, 53, 56, 53, 57, 54, 48, 54, 49, 54, 50, 54, 51, 54, 52, 54, 53, 54, 54, 54, 55, 54, 56, 54, 57, 55, 48, 55, 49, 55, 50, 55, 51, 55, 52, 55, 53, 55, 54, 55, 55, 55, 56, 55, 57, 56, 48, 56, 49, 56, 50, 56, 51, 56, 52, 56, 53, 56, 54, 56, 55, 56, 56, 56, 57, 57, 48, 57, 49, 57, 50, 57, 51, 57, 52, 57, 53, 57, 54, 57, 55, 57, 56, 57, 57] (wU32 (t31 * 2))))]) Tryd.sizeOf5 rfl rfl rfl rfl rfl rfl rfl rfl rfl (fun y_ hy_ => by first | rfl | (cases hy_.symm.trans h_t67; rfl)) h_l0_11 ?_
          refine d_nil ?_
          refine c_seq ?_
          exact c_regionD (Kd.p :: Kd.p :: Kd.p :: Kd.p :: Kd.p :: Kd.p :: Kd.p :: Kd.p :: Kd.p :: Kd.p :: Kd.p :: Kd.d [0] _ :: Kd.sr 0 _ :: Kd.d [0] _ :: Kd.sr 0 _ :: []) 0 mixed (by
            refine d_val rfl rfl (r_move (v := .slice p0.1 n0 p0.2) rfl) ?_
            refine d_val rfl rfl (r_move (v := .int .i64 x4_5) rfl) ?_
            have h_t70 := bnd_val H156
            have H157 := bnd_rest H156
            refine d_val rfl rfl (r_subG rfl rfl h_t70) ?_
            refine d_val rfl rfl (r_move (v := .slice p0.1 n0 p0.2) rfl) ?_
            refine d_val rfl rfl (r_move (v := .int .i64 x4_5) rfl) ?_
            have h_t73 := bnd_val H157
            have H158 := bnd_rest H157
            refine d_val rfl rfl (r_subG rfl rfl h_t73) ?_
            refine d_val rfl rfl (r_move (v := .int .u32 (wU32 (t40 * 2))) rfl) ?_
            refine d_val rfl rfl (r_addW rfl rfl (wr_u32 _)) ?_
            have h_t76 := bnd_val H158
            have H159 := bnd_rest H158
            refine d_val rfl rfl (r_octG Tryd.underlying9 rfl rfl h_t76) ?_
            refine d_val rfl rfl (r_move (v := .int .u32 (wU32 (t40 * 2))) rfl) ?_
            have h_t78 := bnd_val H159
            have H160 := bnd_rest H159
            refine d_val rfl rfl (r_octG Tryd.underlying9 rfl rfl h_t78) ?_
            have h_t79 := bnd_val H160
            have H161 := bnd_rest H160
            refine d_readD (fun w L' hF hS hi => run_indexO Tryd.underlying54 Tryd.sizeOf5 rfl rfl (rowOf (i := 0) hS ((hi 0 (by simp)).trans rfl)) (gSet_n (gSet_n (gSet_n (gSet_n hl_5 h_l0_8) h_l0_9) h_l0_10) h_l0_11) h_t79) rfl rfl ?_
            have h_l0_12 := bnd_val H161
            have H162 := bnd_rest H161
            refine d_storeG (q := 0) (j := 0) (i := (val (gI (x4_5 - 5)))) (sz := 1) (hm := (gSet_n (gSet_n (gSet_n (gSet_n hl_5 h_l0_8) h_l0_9) h_l0_10) h_l0_11)) (f := e_u8) (vs := [.int .u8 (val (gOct [48, 48, 48, 49, 48, 50, 48, 51, 48, 52, 48, 53, 48, 54, 48, 55, 48, 56, 48, 57, 49, 48, 49, 49, 49, 50, 49, 51, 49, 52, 49, 53, 49, 54, 49, 55, 49, 56, 49, 57, 50, 48, 50, 49, 50, 50, 50, 51, 50, 52, 50, 53, 50, 54, 50, 55, 50, 56, 50, 57, 51, 48, 51, 49, 51, 50, 51, 51, 51, 52, 51, 53, 51, 54, 51, 55, 51, 56, 51, 57, 52, 48, 52, 49, 52, 50, 52, 51, 52, 52, 52, 53, 52, 54, 52, 55, 52, 56, 52, 57, 53, 48, 53, 49, 53, 50, 53, 51, 53, 52, 53, 53, 53, 54, 53, 55, 53, 56, 53, 57, 54, 48, 54, 49, 54, 50, 54, 51, 54, 52, 54, 53, 54, 54, 54, 55, 54, 56, 54, 57, 55, 48, 55, 49, 55, 50, 55, 51, 55, 52, 55, 53, 55, 54, 55, 55, 55, 56, 55, 57, 56, 48, 56, 49, 56, 50, 56, 51, 56, 52, 56, 53, 56, 54, 56, 55, 56, 56, 56, 57, 57, 48, 57, 49, 57, 50, 57, 51, 57, 52, 57, 53, 57, 54, 57, 55, 57, 56, 57, 57] (wU32 ((wU32 (t40 * 2)) + 1))))]) Tryd.sizeOf5 rfl rfl rfl rfl rfl rfl rfl rfl rfl (fun y_ hy_ => by first | rfl | (cases hy_.symm.trans h_t79; rfl)) h_l0_12 ?_
            have h_t80 := bnd_val H162
            have H163 := bnd_rest H162
            refine d_readD (fun w L' hF hS hi => run_indexO Tryd.underlying54 Tryd.sizeOf5 rfl rfl (rowOf (i := 0) hS ((hi 0 (by simp)).trans rfl)) (gSet_n (gSet_n (gSet_n (gSet_n (gSet_n hl_5 h_l0_8) h_l0_9) h_l0_10) h_l0_11) h_l0_12) h_t80) rfl rfl ?_
            have h_l0_13 := bnd_val H163
            have H164 := bnd_rest H163
            refine d_storeG (q := 0) (j := 0) (i := (val (gI (x4_5 - 6)))) (sz := 1) (hm := (gSet_n (gSet_n (gSet_n (gSet_n (gSet_n hl_5 h_l0_8) h_l0_9) h_l0_10) h_l0_11) h_l0_12)) (f := e_u8) (vs := [.int .u8 (val (gOct [48, 48, 48, 49, 48, 50, 48, 51, 48, 52, 48, 53, 48, 54, 48, 55, 48, 56, 48, 57, 49, 48, 49, 49, 49, 50, 49, 51, 49, 52, 49, 53, 49, 54, 49, 55, 49, 56, 49, 57, 50, 48, 50, 49, 50, 50, 50, 51, 50, 52, 50, 53, 50, 54, 50, 55, 50, 56, 50, 57, 51, 48, 51, 49, 51, 50, 51, 51, 51, 52, 51, 53, 51, 54, 51, 55, 51, 56, 51, 57, 52, 48, 52, 49, 52, 50, 52, 51, 52, 52, 52, 53, 52, 54, 52, 55, 52, 56, 52, 57, 53, 48, 53, 49, 53, 50, 53, 51, 53, 52, 53, 53, 53, 54, 53, 55, 53, 56, 53, 57, 54, 48, 54, 49, 54, 50, 54, 51, 54, 52, 54, 53, 54, 54, 54, 55, 54, 56, 54, 57, 55, 48, 55, 49, 55, 50, 55, 51, 55, 52, 55, 53, 55, 54, 55, 55, 55, 56, 55, 57, 56, 48, 56, 49, 56, 50, 56, 51, 56, 52, 56, 53, 56, 54, 56, 55, 56, 56, 56, 57, 57, 48, 57, 49, 57, 50, 57, 51, 57, 52, 57, 53, 57, 54, 57, 55, 57, 56, 57, 57] (wU32 (t40 * 2))))]) Tryd.sizeOf5 rfl rfl rfl rfl rfl rfl rfl rfl rfl (fun y_ hy_ => by first | rfl | (cases hy_.symm.trans h_t80; rfl)) h_l0_13 ?_
            refine d_nil ?_
            refine c_seq ?_
            exact c_regionD (Kd.p :: Kd.p :: Kd.p :: Kd.p :: Kd.p :: Kd.p :: Kd.p :: Kd.p :: Kd.p :: Kd.p :: Kd.p :: Kd.d [0] _ :: Kd.sr 0 _ :: Kd.d [0] _ :: Kd.sr 0 _ :: []) 0 mixed (by
              refine d_val rfl rfl (r_move (v := .slice p0.1 n0 p0.2) rfl) ?_
              refine d_val rfl rfl (r_move (v := .int .i64 x4_5) rfl) ?_
              have h_t83 := bnd_val H164
              have H165 := bnd_rest H164
              refine d_val rfl rfl (r_subG rfl rfl h_t83) ?_
              refine d_val rfl rfl (r_move (v := .slice p0.1 n0 p0.2) rfl) ?_
              refine d_val rfl rfl (r_move (v := .int .i64 x4_5) rfl) ?_
              have h_t86 := bnd_val H165
              have H166 := bnd_rest H165
              refine d_val rfl rfl (r_subG rfl rfl h_t86) ?_
              refine d_val rfl rfl (r_move (v := .int .u32 (wU32 (t37 * 2))) rfl) ?_
              refine d_val rfl rfl (r_addW rfl rfl (wr_u32 _)) ?_
              have h_t89 := bnd_val H166
              have H167 := bnd_rest H166
              refine d_val rfl rfl (r_octG Tryd.underlying9 rfl rfl h_t89) ?_
              refine d_val rfl rfl (r_move (v := .int .u32 (wU32 (t37 * 2))) rfl) ?_
              have h_t91 := bnd_val H167
              have H168 := bnd_rest H167
              refine d_val rfl rfl (r_octG Tryd.underlying9 rfl rfl h_t91) ?_
              have h_t92 := bnd_val H168
              have H169 := bnd_rest H168
              refine d_readD (fun w L' hF hS hi => run_indexO Tryd.underlying54 Tryd.sizeOf5 rfl rfl (rowOf (i := 0) hS ((hi 0 (by simp)).trans rfl)) (gSet_n (gSet_n (gSet_n (gSet_n (gSet_n (gSet_n hl_5 h_l0_8) h_l0_9) h_l0_10) h_l0_11) h_l0_12) h_l0_13) h_t92) rfl rfl ?_
              have h_l0_14 := bnd_val H169
              have H170 := bnd_rest H169
              refine d_storeG (q := 0) (j := 0) (i := (val (gI (x4_5 - 7)))) (sz := 1) (hm := (gSet_n (gSet_n (gSet_n (gSet_n (gSet_n (gSet_n hl_5 h_l0_8) h_l0_9) h_l0_10) h_l0_11) h_l0_12) h_l0_13)) (f := e_u8) (vs := [.int .u8 (val (gOct [48, 48, 48, 49, 48, 50, 48, 51, 48, 52, 48, 53, 48, 54, 48, 55, 48, 56, 48, 57, 49, 48, 49, 49, 49, 50, 49, 51, 49, 52, 49, 53, 49, 54, 49, 55, 49, 56, 49, 57, 50, 48, 50, 49, 50, 50, 50, 51, 50, 52, 50, 53, 50, 54, 50, 55, 50, 56, 50, 57, 51, 48, 51, 49, 51, 50, 51, 51, 51, 52, 51, 53, 51, 54, 51, 55, 51, 56, 51, 57, 52, 48, 52, 49, 52, 50, 52, 51, 52, 52, 52, 53, 52, 54, 52, 55, 52, 56, 52, 57, 53, 48, 53, 49, 53, 50, 53, 51, 53, 52, 53, 53, 53, 54, 53, 55, 53, 56, 53, 57, 54, 48, 54, 49, 54, 50, 54, 51, 54, 52, 54, 53, 54, 54, 54, 55, 54, 56, 54, 57, 55, 48, 55, 49, 55, 50, 55, 51, 55, 52, 55, 53, 55, 54, 55, 55, 55, 56, 55, 57, 56, 48, 56, 49, 56, 50, 56, 51, 56, 52, 56, 53, 56, 54, 56, 55, 56, 56, 56, 57, 57, 48, 57, 49, 57, 50, 57, 51, 57, 52, 57, 53, 57, 54, 57, 55, 57, 56, 57, 57] (wU32 ((wU32 (t37 * 2)) + 1))))]) Tryd.sizeOf5 rfl rfl rfl rfl rfl rfl rfl rfl rfl (fun y_ hy_ => by first | rfl | (cases hy_.symm.trans h_t92; rfl)) h_l0_14 ?_
              have h_t93 := bnd_val H170
              have H171 := bnd_rest H170
              refine d_readD (fun w L' hF hS hi => run_indexO Tryd.underlying54 Tryd.sizeOf5 rfl rfl (rowOf (i := 0) hS ((hi 0 (by simp)).trans rfl)) (gSet_n (gSet_n (gSet_n (gSet_n (gSet_n (gSet_n (gSet_n hl_5 h_l0_8) h_l0_9) h_l0_10) h_l0_11) h_l0_12) h_l0_13) h_l0_14) h_t93) rfl rfl ?_
              have h_l0_15 := bnd_val H171
              have H172 := bnd_rest H171
              refine d_storeG (q := 0) (j := 0) (i := (val (gI (x4_5 - 8)))) (sz := 1) (hm := (gSet_n (gSet_n (gSet_n (gSet_n (gSet_n (gSet_n (gSet_n hl_5 h_l0_8) h_l0_9) h_l0_10) h_l0_11) h_l0_12) h_l0_13) h_l0_14)) (f := e_u8) (vs := [.int .u8 (val (gOct [48, 48, 48, 49, 48, 50, 48, 51, 48, 52, 48, 53, 48, 54, 48, 55, 48, 56, 48, 57, 49, 48, 49, 49, 49, 50, 49, 51, 49, 52, 49, 53, 49, 54, 49, 55, 49, 56, 49, 57, 50, 48, 50, 49, 50, 50, 50, 51, 50, 52, 50, 53, 50, 54, 50, 55, 50, 56, 50, 57, 51, 48, 51, 49, 51, 50, 51, 51, 51, 52, 51, 53, 51, 54, 51, 55, 51, 56, 51, 57, 52, 48, 52, 49, 52, 50, 52, 51, 52, 52, 52, 53, 52, 54, 52, 55, 52, 56, 52, 57, 53, 48, 53, 49, 53, 50, 53, 51, 53, 52, 53, 53, 53, 54, 53, 55, 53, 56, 53, 57, 54, 48, 54, 49, 54, 50, 54, 51, 54, 52, 54, 53, 54, 54, 54, 55, 54, 56, 54, 57, 55, 48, 55, 49, 55, 50, 55, 51, 55, 52, 55, 53, 55, 54, 55, 55, 55, 56, 55, 57, 56, 48, 56, 49, 56, 50, 56, 51, 56, 52, 56, 53, 56, 54, 56, 55, 56, 56, 56, 57, 57, 48, 57, 49, 57, 50, 57, 51, 57, 52, 57, 53, 57, 54, 57, 55, 57, 56, 57, 57] (wU32 (t37 * 2))))]) Tryd.sizeOf5 rfl rfl rfl rfl rfl rfl rfl rfl rfl (fun y_ hy_ => by first | rfl | (cases hy_.symm.trans h_t93; rfl)) h_l0_15 ?_
              refine d_nil ?_
              refine c_region ?_
              refine l_val rfl rfl rfl (r_move (v := .int .i64 x4_5) rfl) ?_
              obtain ⟨t95, h_t95, H173⟩ := bnd_some H172; clear H172
              refine l_val rfl rfl rfl (r_subG rfl rfl h_t95) ?_
              refine l_val rfl rfl rfl (r_assign (v := .int .i64 t95) rfl) ?_
              refine l_nil ?_
              refine c_close (t25, t95, (val (gSet (val (gSet (val (gSet (val (gSet (val (gSet (val (gSet (val (gSet (val (gSet l_5 (val (gI (x4_5 - 1))) (val (gOct [48, 48, 48, 49, 48, 50, 48, 51, 48, 52, 48, 53, 48, 54, 48, 55, 48, 56, 48, 57, 49, 48, 49, 49, 49, 50, 49, 51, 49, 52, 49, 53, 49, 54, 49, 55, 49, 56, 49, 57, 50, 48, 50, 49, 50, 50, 50, 51, 50, 52, 50, 53, 50, 54, 50, 55, 50, 56, 50, 57, 51, 48, 51, 49, 51, 50, 51, 51, 51, 52, 51, 53, 51, 54, 51, 55, 51, 56, 51, 57, 52, 48, 52, 49, 52, 50, 52, 51, 52, 52, 52, 53, 52, 54, 52, 55, 52, 56, 52, 57, 53, 48, 53, 49, 53, 50, 53, 51, 53, 52, 53, 53, 53, 54, 53, 55, 53, 56, 53, 57, 54, 48, 54, 49, 54, 50, 54, 51, 54, 52, 54, 53, 54, 54, 54, 55, 54, 56, 54, 57, 55, 48, 55, 49, 55, 50, 55, 51, 55, 52, 55, 53, 55, 54, 55, 55, 55, 56, 55, 57, 56, 48, 56, 49, 56, 50, 56, 51, 56, 52, 56, 53, 56, 54, 56, 55, 56, 56, 56, 57, 57, 48, 57, 49, 57, 50, 57, 51, 57, 52, 57, 53, 57, 54, 57, 55, 57, 56, 57, 57] (wU32 ((wU32 (t34 * 2)) + 1)))))) (val (gI (x4_5 - 2))) (val (gOct [48, 48, 48, 49, 48, 50, 48, 51, 48, 52, 48, 53, 48, 54, 48, 55, 48, 56, 48, 57, 49, 48, 49, 49, 49, 50, 49, 51, 49, 52, 49, 53, 49, 54, 49, 55, 49, 56, 49, 57, 50, 48, 50, 49, 50, 50, 50, 51, 50, 52, 50, 53, 50, 54, 50, 55, 50, 56, 50, 57, 51, 48, 51, 49, 51, 50, 51, 51, 51, 52, 51, 53, 51, 54, 51, 55, 51, 56, 51, 57, 52, 48, 52, 49, 52, 50, 52, 51, 52, 52, 52, 53, 52, 54, 52, 55, 52, 56, 52, 57, 53, 48, 53, 49, 53, 50, 53, 51, 53, 52, 53, 53, 53, 54, 53, 55, 53, 56, 53, 57, 54, 48, 54, 49, 54, 50, 54, 51, 54, 52, 54, 53, 54, 54, 54, 55, 54, 56, 54, 57, 55, 48, 55, 49, 55, 50, 55, 51, 55, 52, 55, 53, 55, 54, 55, 55, 55, 56, 55, 57, 56, 48, 56, 49, 56, 50, 56, 51, 56, 52, 56, 53, 56, 54, 56, 55, 56, 56, 56, 57, 57, 48, 57, 49, 57, 50, 57, 51, 57, 52, 57, 53, 57, 54, 57, 55, 57, 56, 57, 57] (wU32 (t34 * 2)))))) (val (gI (x4_5 - 3))) (val (gOct [48, 48, 48, 49, 48, 50, 48, 51, 48, 52, 48, 53, 48, 54, 48, 55, 48, 56, 48, 57, 49, 48, 49, 49, 49, 50, 49, 51, 49, 52, 49, 53, 49, 54, 49, 55, 49, 56, 49, 57, 50, 48, 50, 49, 50, 50, 50, 51, 50, 52, 50, 53, 50, 54, 50, 55, 50, 56, 50, 57, 51, 48, 51, 49, 51, 50, 51, 51, 51, 52, 51, 53, 51, 54, 51, 55, 51, 56, 51, 57, 52, 48, 52, 49, 52, 50, 52, 51, 52, 52, 52, 53, 52, 54, 52, 55, 52, 56, 52, 57, 53, 48, 53, 49, 53, 50, 53, 51, 53, 52, 53, 53, 53, 54, 53, 55, 53, 56, 53, 57, 54, 48, 54, 49, 54, 50, 54, 51, 54, 52, 54, 53, 54, 54, 54, 55, 54, 56, 54, 57, 55, 48, 55, 49, 55, 50, 55, 51, 55, 52, 55, 53, 55, 54, 55, 55, 55, 56, 55, 57, 56, 48, 56, 49, 56, 50, 56, 51, 56, 52, 56, 53, 56, 54, 56, 55, 56, 56, 56, 57, 57, 48, 57, 49, 57, 50, 57, 51, 57, 52, 57, 53, 57, 54, 57, 55, 57, 56, 57, 57] (wU32 ((wU32 (t31 * 2)) + 1)))))) (val (gI (x4_5 - 4))) (val (gOct [48, 48, 48, 49, 48, 50, 48, 51, 48, 52, 48, 53, 48, 54, 48, 55, 48, 56, 48, 57, 49, 48, 49, 49, 49, 50, 49, 51, 49, 52, 49, 53, 49, 54, 49, 55, 49, 56, 49, 57, 50, 48, 50, 49, 50, 50, 50, 51, 50, 52, 50, 53, 50, 54, 50, 55, 50, 56, 50, 57, 51, 48, 51, 49, 51, 50, 51, 51, 51, 52, 51, 53, 51, 54, 51, 55, 51, 56, 51, 57, 52, 48, 52, 49, 52, 50, 52, 51, 52, 52, 52, 53, 52, 54, 52, 55, 52, 56, 52, 57, 53, 48, 53, 49, 53, 50, 53, 51, 53, 52, 53, 53, 53, 54, 53, 55, 53, 56, 53, 57, 54, 48, 54, 49, 54, 50, 54, 51, 54, 52, 54, 53, 54, 54, 54, 55, 54, 56, 54, 57, 55, 48, 55, 49, 55, 50, 55, 51, 55, 52, 55, 53, 55, 54, 55, 55, 55, 56, 55, 57, 56, 48, 56, 49, 56, 50, 56, 51, 56, 52, 56, 53, 56, 54, 56, 55, 56, 56, 56, 57, 57, 48, 57, 49, 57, 50, 57, 51, 57, 52, 57, 53, 57, 54, 57, 55, 57, 56, 57, 57] (wU32 (t31 * 2)))))) (val (gI (x4_5 - 5))) (val (gOct [48, 48, 48, 49, 48, 50, 48, 51, 48, 52, 48, 53, 48, 54, 48, 55, 48, 56, 48, 57, 49, 48, 49, 49, 49, 50, 49, 51, 49, 52, 49, 53, 49, 54, 49, 55, 49, 56, 49, 57, 50, 48, 50, 49, 50, 50, 50, 51, 50, 52, 50, 53, 50, 54, 50, 55, 50, 56, 50, 57, 51, 48, 51, 49, 51, 50, 51, 51, 51, 52, 51, 53, 51, 54, 51, 55, 51, 56, 51, 57, 52, 48, 52, 49, 52, 50, 52, 51, 52, 52, 52, 53, 52, 54, 52, 55, 52, 56, 52, 57, 53, 48, 53, 49, 53, 50, 53, 51, 53, 52, 53, 53, 53, 54, 53, 55, 53, 56, 53, 57, 54, 48, 54, 49, 54, 50, 54, 51, 54, 52, 54, 53, 54, 54, 54, 55, 54, 56, 54, 57, 55, 48, 55, 49, 55, 50, 55, 51, 55, 52, 55, 53, 55, 54, 55, 55, 55, 56, 55, 57, 56, 48, 56, 49, 56, 50, 56, 51, 56, 52, 56, 53, 56, 54, 56, 55, 56, 56, 56, 57, 57, 48, 57, 49, 57, 50, 57, 51, 57, 52, 57, 53, 57, 54, 57, 55, 57, 56, 57, 57] (wU32 ((wU32 (t40 * 2)) + 1)))))) (val (gI (x4_5 - 6))) (val (gOct [48, 48, 48, 49, 48, 50, 48, 51, 48, 52, 48, 53, 48, 54, 48, 55, 48, 56, 48, 57, 49, 48, 49, 49, 49, 50, 49, 51, 49, 52, 49, 53, 49, 54, 49, 55, 49, 56, 49, 57, 50, 48, 50, 49, 50, 50, 50, 51, 50, 52, 50, 53, 50, 54, 50, 55, 50, 56, 50, 57, 51, 48, 51, 49, 51, 50, 51, 51, 51, 52, 51, 53, 51, 54, 51, 55, 51, 56, 51, 57, 52, 48, 52, 49, 52, 50, 52, 51, 52, 52, 52, 53, 52, 54, 52, 55, 52, 56, 52, 57, 53, 48, 53, 49, 53, 50, 53, 51, 53, 52, 53, 53, 53, 54, 53, 55, 53, 56, 53, 57, 54, 48, 54, 49, 54, 50, 54, 51, 54, 52, 54, 53, 54, 54, 54, 55, 54, 56, 54, 57, 55, 48, 55, 49, 55, 50, 55, 51, 55, 52, 55, 53, 55, 54, 55, 55, 55, 56, 55, 57, 56, 48, 56, 49, 56, 50, 56, 51, 56, 52, 56, 53, 56, 54, 56, 55, 56, 56, 56, 57, 57, 48, 57, 49, 57, 50, 57, 51, 57, 52, 57, 53, 57, 54, 57, 55, 57, 56, 57, 57] (wU32 (t40 * 2)))))) (val (gI (x4_5 - 7))) (val (gOct [48, 48, 48, 49, 48, 50, 48, 51, 48, 52, 48, 53, 48, 54, 48, 55, 48, 56, 48, 57, 49, 48, 49, 49, 49, 50, 49, 51, 49, 52, 49, 53, 49, 54, 49, 55, 49, 56, 49, 57, 50, 48, 50, 49, 50, 50, 50, 51, 50, 52, 50, 53, 50, 54, 50, 55, 50, 56, 50, 57, 51, 48, 51, 49, 51, 50, 51, 51, 51, 52, 51, 53, 51, 54, 51, 55, 51, 56, 51, 57, 52, 48, 52, 49, 52, 50, 52, 51, 52, 52, 52, 53, 52, 54, 52, 55, 52, 56, 52, 57, 53, 48, 53, 49, 53, 50, 53, 51, 53, 52, 53, 53, 53, 54, 53, 55, 53, 56, 53, 57, 54, 48, 54, 49, 54, 50, 54, 51, 54, 52, 54, 53, 54, 54, 54, 55, 54, 56, 54, 57, 55, 48, 55, 49, 55, 50, 55, 51, 55, 52, 55, 53, 55, 54, 55, 55, 55, 56, 55, 57, 56, 48, 56, 49, 56, 50, 56, 51, 56, 52, 56, 53, 56, 54, 56, 55, 56, 56, 56, 57, 57, 48, 57, 49, 57, 50, 57, 51, 57, 52, 57, 53, 57, 54, 57, 55, 57, 56, 57, 57] (wU32 ((wU32 (t37 * 2)) + 1)))))) (val (gI (x4_5 - 8))) (val (gOct [48, 48, 48, 49, 48, 50, 48, 51, 48, 52, 48, 53, 48, 54, 48, 55, 48, 56, 48, 57, 49, 48, 49, 49, 49, 50, 49, 51, 49, 52, 49, 53, 49, 54, 49, 55, 49, 56, 49, 57, 50, 48, 50, 49, 50, 50, 50, 51, 50, 52, 50, 53, 50, 54, 50, 55, 50, 56, 50, 57, 51, 48, 51, 49, 51, 50, 51, 51, 51, 52, 51, 53, 51, 54, 51, 55, 51, 56, 51, 57, 52, 48, 52, 49, 52, 50, 52, 51, 52, 52, 52, 53, 52, 54, 52, 55, 52, 56, 52, 57, 53, 48, 53, 49, 53, 50, 53, 51, 53, 52, 53, 53, 53, 54, 53, 55, 53, 56, 53, 57, 54, 48, 54, 49, 54, 50, 54, 51, 54, 52, 54, 53, 54, 54, 54, 55, 54, 56, 54, 57, 55, 48, 55, 49, 55, 50, 55, 51, 55, 52, 55, 53, 55, 54, 55, 55, 55, 56, 55, 57, 56, 48, 56, 49, 56, 50, 56, 51, 56, 52, 56, 53, 56, 54, 56, 55, 56, 56, 56, 57, 57, 48, 57, 49, 57, 50, 57, 51, 57, 52, 57, 53, 57, 54, 57, 55, 57, 56, 57, 57] (wU32 (t37 * 2))))))) () m4 [0] (by exact ⟨rfl, rfl, rfl, trivial⟩) (by decide) rfl (by exact ⟨(by subst hn4; exact H173), (gSet_n (gSet_n (gSet_n (gSet_n (gSet_n (gSet_n (gSet_n (gSet_n hl_5 h_l0_8) h_l0_9) h_l0_10) h_l0_11) h_l0_12) h_l0_13) h_l0_14) h_l0_15)⟩) (Nat.lt_succ_self _)
              ) (by kernel_rfl)
            ) (by kernel_rfl)
          ) (by kernel_rfl)
        ) (by kernel_rfl)
    · have H174 := cnd_f hb H131; clear H131
      refine c_exit ?_
      refine c_close (x1_3, x4_5, l_5) () 0 [0] (by exact ⟨rfl, rfl, rfl, trivial⟩) (by decide) rfl (by exact ⟨H174, hl_5⟩) (Nat.lt_succ_self _)
  · rintro ⟨x1, x4, l⟩ _ gg H88 hl
    replace H88 : internal_strconv_formatBase10_j1 x1 x4 l = some r := H88
    refine c_tidyF [(0, .slice p0.1 n0 p0.2), (1, .int .u64 x1), (4, .int .i64 x4)] [rowV 5 1 (.slice p0.1 n0 p0.2) n0 (l.map e_u8)] rfl rfl ?_
    refine c_seq ?_
    refine c_region ?_
    refine l_val rfl rfl rfl (r_move (v := .int .u64 x1) rfl) ?_
    refine l_val rfl rfl rfl (r_convG Tryd.runUnderlying90 Tryd.runUnderlying87 rfl (wr_u32 _)) ?_
    refine l_val rfl rfl rfl (r_assign (v := .int .u32 (wU32 x1)) rfl) ?_
    refine l_nil ?_
    refine c_meet (r := r) (σ := Int × Int × (List Int)) (τ := Unit) (fun s => internal_strconv_formatBase10_j2 s.1 s.2.1 s.2.2) (fun s t => [(0, .slice p0.1 n0 p0.2), (4, .int .i64 s.1), (12, .int .u32 s.2.1)]) (fun s t => [rowV 5 1 (.slice p0.1 n0 p0.2) n0 (s.2.2.map e_u8)]) (fun s t => n0 = s.2.2.length) ?_ ?_
    · refine c_seq ?_
      refine c_region ?_
      refine l_val rfl rfl rfl (r_move (v := .int .i64 x4) rfl) ?_
      refine l_val rfl rfl rfl (r_geq rfl rfl) ?_
      refine l_nil ?_
      refine c_if (b := (decide (4 ≤ x4))) rfl (fun hb => ?_) (fun hb => ?_)
      · have H108 := cnd_t hb H88; clear H88
        refine c_seq ?_
        refine c_region ?_
        refine l_val rfl rfl rfl (r_move (v := .int .u32 (wU32 x1)) rfl) ?_
        obtain ⟨t101, h_t101, H109⟩ := bnd_some H108; clear H108
        refine l_val rfl rfl rfl (r_remG rfl rfl h_t101) ?_
        refine l_val rfl rfl rfl (r_assign (v := .int .u32 t101) rfl) ?_
        refine l_nil ?_
        refine c_seq ?_
        refine c_region ?_
        refine l_val rfl rfl rfl (r_move (v := .int .u32 (wU32 x1)) rfl) ?_
        obtain ⟨t103, h_t103, H110⟩ := bnd_some H109; clear H109
        refine l_val rfl rfl rfl (r_quoU rfl rfl ⟨rfl, rfl⟩ h_t103) ?_
        refine l_val rfl rfl rfl (r_assign (v := .int .u32 t103) rfl) ?_
        refine l_nil ?_
        refine c_seq ?_
        refine c_region ?_
        refine l_val rfl rfl rfl (r_move (v := .int .u32 t101) rfl) ?_
        obtain ⟨t105, h_t105, H111⟩ := bnd_some H110; clear H110
        refine l_val rfl rfl rfl (r_quoU rfl rfl ⟨rfl, rfl⟩ h_t105) ?_
        refine l_val rfl rfl rfl (r_mulW rfl rfl (wr_u32 _)) ?_
        refine l_val rfl rfl rfl (r_move (v := .int .u32 t101) rfl) ?_
        obtain ⟨t108, h_t108, H112⟩ := bnd_some H111; clear H111
        refine l_val rfl rfl rfl (r_remG rfl rfl h_t108) ?_
        refine l_val rfl rfl rfl (r_mulW rfl rfl (wr_u32 _)) ?_
        refine l_val rfl rfl rfl (r_assign (v := .int .u32 (wU32 (t105 * 2))) rfl) ?_
        refine l_val rfl rfl rfl (r_assign (v := .int .u32 (wU32 (t108 * 2))) rfl) ?_
        refine l_nil ?_
        refine c_seq ?_
        exact c_regionD (Kd.p :: Kd.p :: Kd.p :: Kd.p :: Kd.p :: Kd.p :: Kd.p :: Kd.p :: Kd.p :: Kd.p :: Kd.p :: Kd.d [0] _ :: Kd.sr 0 _ :: Kd.d [0] _ :: Kd.sr 0 _ :: []) 0 mixed (by
          refine d_val rfl rfl (r_move (v := .slice p0.1 n0 p0.2) rfl) ?_
          refine d_val rfl rfl (r_move (v := .int .i64 x4) rfl) ?_
          have h_t112 := bnd_val H112
          have H113 := bnd_rest H112
          refine d_val rfl rfl (r_subG rfl rfl h_t112) ?_
          refine d_val rfl rfl (r_move (v := .slice p0.1 n0 p0.2) rfl) ?_
          refine d_val rfl rfl (r_move (v := .int .i64 x4) rfl) ?_
          have h_t115 := bnd_val H113
          have H114 := bnd_rest H113
          refine d_val rfl rfl (r_subG rfl rfl h_t115) ?_
          refine d_val rfl rfl (r_move (v := .int .u32 (wU32 (t108 * 2))) rfl) ?_
          refine d_val rfl rfl (r_addW rfl rfl (wr_u32 _)) ?_
          have h_t118 := bnd_val H114
          have H115 := bnd_rest H114
          refine d_val rfl rfl (r_octG Tryd.underlying9 rfl rfl h_t118) ?_
          refine d_val rfl rfl (r_move (v := .int .u32 (wU32 (t108 * 2))) rfl) ?_
          have h_t120 := bnd_val H115
          have H116 := bnd_rest H115
          refine d_val rfl rfl (r_octG Tryd.underlying9 rfl rfl h_t120) ?_
          have h_t121 := bnd_val H116
          have H117 := bnd_rest H116
          refine d_readD (fun w L' hF hS hi => run_indexO Tryd.underlying54 Tryd.sizeOf5 rfl rfl (rowOf (i := 0) hS ((hi 0 (by simp)).trans rfl)) hl h_t121) rfl rfl ?_
          have h_l0_4 := bnd_val H117
          have H118 := bnd_rest H117
          refine d_storeG (q := 0) (j := 0) (i := (val (gI (x4 - 1)))) (sz := 1) (hm := hl) (f := e_u8) (vs := [.int .u8 (val (gOct [48, 48, 48, 49, 48, 50, 48, 51, 48, 52, 48, 53, 48, 54, 48, 55, 48, 56, 48, 57, 49, 48, 49, 49, 49, 50, 49, 51, 49, 52, 49, 53, 49, 54, 49, 55, 49, 56, 49, 57, 50, 48, 50, 49, 50, 50, 50, 51, 50, 52, 50, 53, 50, 54, 50, 55, 50, 56, 50, 57, 51, 48, 51, 49, 51, 50, 51, 51, 51, 52, 51, 53, 51, 54, 51, 55, 51, 56, 51, 57, 52, 48, 52, 49, 52, 50, 52, 51, 52, 52, 52, 53, 52, 54, 52, 55, 52, 56, 52, 57, 53, 48, 53, 49, 53, 50, 53, 51, 53, 52, 53, 53, 53, 54, 53, 55, 53, 56, 53, 57, 54, 48, 54, 49, 54, 50, 54, 51, 54, 52, 54, 53, 54, 54, 54, 55, 54, 56, 54, 57, 55, 48, 55, 49, 55, 50, 55, 51, 55, 52, 55, 53, 55, 54, 55, 55, 55, 56, 55, 57, 56, 48, 56, 49, 56, 50, 56, 51, 56, 52, 56, 53, 56, 54, 56, 55, 56, 56, 56, 57, 57, 48, 57, 49, 57, 50, 57, 51, 57, 52, 57, 53, 57, 54, 57, 55, 57, 56, 57, 57] (wU32 ((wU32 (t108 * 2)) + 1))))]) Tryd.sizeOf5 rfl rfl rfl rfl rfl rfl rfl rfl rfl (fun y_ hy_ => by first | rfl | (cases hy_.symm.trans h_t121; rfl)) h_l0_4 ?_
          have h_t122 := bnd_val H118
          have H119 := bnd_rest H118
          refine d_readD (fun w L' hF hS hi => run_indexO Tryd.underlying54 Tryd.sizeOf5 rfl rfl (rowOf (i := 0) hS ((hi 0 (by simp)).trans rfl)) (gSet_n hl h_l0_4) h_t122) rfl rfl ?_
          have h_l0_5 := bnd_val H119
          have H120 := bnd_rest H119
          refine d_storeG (q := 0) (j := 0) (i := (val (gI (x4 - 2)))) (sz := 1) (hm := (gSet_n hl h_l0_4)) (f := e_u8) (vs := [.int .u8 (val (gOct [48, 48, 48, 49, 48, 50, 48, 51, 48, 52, 48, 53, 48, 54, 48, 55, 48, 56, 48, 57, 49, 48, 49, 49, 49, 50, 49, 51, 49, 52, 49, 53, 49, 54, 49, 55, 49, 56, 49, 57, 50, 48, 50, 49, 50, 50, 50, 51, 50, 52, 50, 53, 50, 54, 50, 55, 50, 56, 50, 57, 51, 48, 51, 49, 51, 50, 51, 51, 51, 52, 51, 53, 51, 54, 51, 55, 51, 56, 51, 57, 52, 48, 52, 49, 52, 50, 52, 51, 52, 52, 52, 53, 52, 54, 52, 55, 52, 56, 52, 57, 53, 48, 53, 49, 53, 50, 53, 51, 53, 52, 53, 53, 53, 54, 53, 55, 53, 56, 53, 57, 54, 48, 54, 49, 54, 50, 54, 51, 54, 52, 54, 53, 54, 54, 54, 55, 54, 56, 54, 57, 55, 48, 55, 49, 55, 50, 55, 51, 55, 52, 55, 53, 55, 54, 55, 55, 55, 56, 55, 57, 56, 48, 56, 49, 56, 50, 56, 51, 56, 52, 56, 53, 56, 54, 56, 55, 56, 56, 56, 57, 57, 48, 57, 49, 57, 50, 57, 51, 57, 52, 57, 53, 57, 54, 57, 55, 57, 56, 57, 57] (wU32 (t108 * 2))))]) Tryd.sizeOf5 rfl rfl rfl rfl rfl rfl rfl rfl rfl (fun y_ hy_ => by first | rfl | (cases hy_.symm.trans h_t122; rfl)) h_l0_5 ?_
          refine d_nil ?_
          refine c_seq ?_
          exact c_regionD (Kd.p :: Kd.p :: Kd.p :: Kd.p :: Kd.p :: Kd.p :: Kd.p :: Kd.p :: Kd.p :: Kd.p :: Kd.p :: Kd.d [0] _ :: Kd.sr 0 _ :: Kd.d [0] _ :: Kd.sr 0 _ :: []) 0 mixed (by
            refine d_val rfl rfl (r_move (v := .slice p0.1 n0 p0.2) rfl) ?_
            refine d_val rfl rfl (r_move (v := .int .i64 x4) rfl) ?_
            have h_t125 := bnd_val H120
            have H121 := bnd_rest H120
            refine d_val rfl rfl (r_subG rfl rfl h_t125) ?_
            refine d_val rfl rfl (r_move (v := .slice p0.1 n0 p0.2) rfl) ?_
            refine d_val rfl rfl (r_move (v := .int .i64 x4) rfl) ?_
            have h_t128 := bnd_val H121
            have H122 := bnd_rest H121
            refine d_val rfl rfl (r_subG rfl rfl h_t128) ?_
            refine d_val rfl rfl (r_move (v := .int .u32 (wU32 (t105 * 2))) rfl) ?_
            refine d_val rfl rfl (r_addW rfl rfl (wr_u32 _)) ?_
            have h_t131 := bnd_val H122
            have H123 := bnd_rest H122
            refine d_val rfl rfl (r_octG Tryd.underlying9 rfl rfl h_t131) ?_
            refine d_val rfl rfl (r_move (v := .int .u32 (wU32 (t105 * 2))) rfl) ?_
            have h_t133 := bnd_val H123
            have H124 := bnd_rest H123
            refine d_val rfl rfl (r_octG Tryd.underlying9 rfl rfl h_t133) ?_
            have h_t134 := bnd_val H124
            have H125 := bnd_rest H124
            refine d_readD (fun w L' hF hS hi => run_indexO Tryd.underlying54 Tryd.sizeOf5 rfl rfl (rowOf (i := 0) hS ((hi 0 (by simp)).trans rfl)) (gSet_n (gSet_n hl h_l0_4) h_l0_5) h_t134) rfl rfl ?_
            have h_l0_6 := bnd_val H125
            have H126 := bnd_rest H125
            refine d_storeG (q := 0) (j := 0) (i := (val (gI (x4 - 3)))) (sz := 1) (hm := (gSet_n (gSet_n hl h_l0_4) h_l0_5)) (f := e_u8) (vs := [.int .u8 (val (gOct [48, 48, 48, 49, 48, 50, 48, 51, 48, 52, 48, 53, 48, 54, 48, 55, 48, 56, 48, 57, 49, 48, 49, 49, 49, 50, 49, 51, 49, 52, 49, 53, 49, 54, 49, 55, 49, 56, 49, 57, 50, 48, 50, 49, 50, 50, 50, 51, 50, 52, 50, 53, 50, 54, 50, 55, 50, 56, 50, 57, 51, 48, 51, 49, 51, 50, 51, 51, 51, 52, 51, 53, 51, 54, 51, 55, 51, 56, 51, 57, 52, 48, 52, 49, 52, 50, 52, 51, 52, 52, 52, 53, 52, 54, 52, 55, 52, 56, 52, 57, 53, 48, 53, 49, 53, 50, 53, 51, 53, 52, 53, 53, 53, 54, 53, 55, 53, 56, 53, 57, 54, 48, 54, 49, 54, 50, 54, 51, 54, 52, 54, 53, 54, 54, 54, 55, 54, 56, 54, 57, 55, 48, 55, 49, 55, 50, 55, 51, 55, 52, 55, 53, 55, 54, 55, 55, 55, 56, 55, 57, 56, 48, 56, 49, 56, 50, 56, 51, 56, 52, 56, 53, 56, 54, 56, 55, 56, 56, 56, 57, 57, 48, 57, 49, 57, 50, 57, 51, 57, 52, 57, 53, 57, 54, 57, 55, 57, 56, 57, 57] (wU32 ((wU32 (t105 * 2)) + 1))))]) Tryd.sizeOf5 rfl rfl rfl rfl rfl rfl rfl rfl rfl (fun y_ hy_ => by first | rfl | (cases hy_.symm.trans h_t134; rfl)) h_l0_6 ?_
            have h_t135 := bnd_val H126
            have H127 := bnd_rest H126
            refine d_readD (fun w L' hF hS hi => run_indexO Tryd.underlying54 Tryd.sizeOf5 rfl rfl (rowOf (i := 0) hS ((hi 0 (by simp)).trans rfl)) (gSet_n (gSet_n (gSet_n hl h_l0_4) h_l0_5) h_l0_6) h_t135) rfl rfl ?_
            have h_l0_7 := bnd_val H127
            have H128 := bnd_rest H127
            refine d_storeG (q := 0) (j := 0) (i := (val (gI (x4 - 4)))) (sz := 1) (hm := (gSet_n (gSet_n (gSet_n hl h_l0_4) h_l0_5) h_l0_6)) (f := e_u8) (vs := [.int .u8 (val (gOct [48, 48, 48, 49, 48, 50, 48, 51, 48, 52, 48, 53, 48, 54, 48, 55, 48, 56, 48, 57, 49, 48, 49, 49, 49, 50, 49, 51, 49, 52, 49, 53, 49, 54, 49, 55, 49, 56, 49, 57, 50, 48, 50, 49, 50, 50, 50, 51, 50, 52, 50, 53, 50, 54, 50, 55, 50, 56, 50, 57, 51, 48, 51, 49, 51, 50, 51, 51, 51, 52, 51, 53, 51, 54, 51, 55, 51, 56, 51, 57, 52, 48, 52, 49, 52, 50, 52, 51, 52, 52, 52, 53, 52, 54, 52, 55, 52, 56, 52, 57, 53, 48, 53, 49, 53, 50, 53, 51, 53, 52, 53, 53, 53, 54, 53, 55, 53, 56, 53, 57, 54, 48, 54, 49, 54, 50, 54, 51, 54, 52, 54, 53, 54, 54, 54, 55, 54, 56, 54, 57, 55, 48, 55, 49, 55, 50, 55, 51, 55, 52, 55, 53, 55, 54, 55, 55, 55, 56, 55, 57, 56, 48, 56, 49, 56, 50, 56, 51, 56, 52, 56, 53, 56, 54, 56, 55, 56, 56, 56, 57, 57, 48, 57, 49, 57, 50, 57, 51, 57, 52, 57, 53, 57, 54, 57, 55, 57, 56, 57, 57] (wU32 (t105 * 2))))]) Tryd.sizeOf5 rfl rfl rfl rfl rfl rfl rfl rfl rfl (fun y_ hy_ => by first | rfl | (cases hy_.symm.trans h_t135; rfl)) h_l0_7 ?_
            refine d_nil ?_
            refine c_region ?_
            refine l_val rfl rfl rfl (r_move (v := .int .i64 x4) rfl) ?_
            obtain ⟨t137, h_t137, H129⟩ := bnd_some H128; clear H128
            refine l_val rfl rfl rfl (r_subG rfl rfl h_t137) ?_
            refine l_val rfl rfl rfl (r_assign (v := .int .i64 t137) rfl) ?_
            refine l_nil ?_
            refine c_close (t137, t103, (val (gSet (val (gSet (val (gSet (val (gSet l (val (gI (x4 - 1))) (val (gOct [48, 48, 48, 49, 48, 50, 48, 51, 48, 52, 48, 53, 48, 54, 48, 55, 48, 56, 48, 57, 49, 48, 49, 49, 49, 50, 49, 51, 49, 52, 49, 53, 49, 54, 49, 55, 49, 56, 49, 57, 50, 48, 50, 49, 50, 50, 50, 51, 50, 52, 50, 53, 50, 54, 50, 55, 50, 56, 50, 57, 51, 48, 51, 49, 51, 50, 51, 51, 51, 52, 51, 53, 51, 54, 51, 55, 51, 56, 51, 57, 52, 48, 52, 49, 52, 50, 52, 51, 52, 52, 52, 53, 52, 54, 52, 55, 52, 56, 52, 57, 53, 48, 53, 49, 53, 50, 53, 51, 53, 52, 53, 53, 53, 54, 53, 55, 53, 56, 53, 57, 54, 48, 54, 49, 54, 50, 54, 51, 54, 52, 54, 53, 54, 54, 54, 55, 54, 56, 54, 57, 55, 48, 55, 49, 55, 50, 55, 51, 55, 52, 55, 53, 55, 54, 55, 55, 55, 56, 55, 57, 56, 48, 56, 49, 56, 50, 56, 51, 56, 52, 56, 53, 56, 54, 56, 55, 56, 56, 56, 57, 57, 48, 57, 49, 57, 50, 57, 51, 57, 52, 57, 53, 57, 54, 57, 55, 57, 56, 57, 57] (wU32 ((wU32 (t108 * 2)) + 1)))))) (val (gI (x4 - 2))) (val (gOct [48, 48, 48, 49, 48, 50, 48, 51, 48, 52, 48, 53, 48, 54, 48, 55, 48, 56, 48, 57, 49, 48, 49, 49, 49, 50, 49, 51, 49, 52, 49, 53, 49, 54, 49, 55, 49, 56, 49, 57, 50, 48, 50, 49, 50, 50, 50, 51, 50, 52, 50, 53, 50, 54, 50, 55, 50, 56, 50, 57, 51, 48, 51, 49, 51, 50, 51, 51, 51, 52, 51, 53, 51, 54, 51, 55, 51, 56, 51, 57, 52, 48, 52, 49, 52, 50, 52, 51, 52, 52, 52, 53, 52, 54, 52, 55, 52, 56, 52, 57, 53, 48, 53, 49, 53, 50, 53, 51, 53, 52, 53, 53, 53, 54, 53, 55, 53, 56, 53, 57, 54, 48, 54, 49, 54, 50, 54, 51, 54, 52, 54, 53, 54, 54, 54, 55, 54, 56, 54, 57, 55, 48, 55, 49, 55, 50, 55, 51, 55, 52, 55, 53, 55, 54, 55, 55, 55, 56, 55, 57, 56, 48, 56, 49, 56, 50, 56, 51, 56, 52, 56, 53, 56, 54, 56, 55, 56, 56, 56, 57, 57, 48, 57, 49, 57, 50, 57, 51, 57, 52, 57, 53, 57, 54, 57, 55, 57, 56, 57, 57] (wU32 (t108 * 2)))))) (val (gI (x4 - 3))) (val (gOct [48, 48, 48, 49, 48, 50, 48, 51, 48, 52, 48, 53, 48, 54, 48, 55, 48, 56, 48, 57, 49, 48, 49, 49, 49, 50, 49, 51, 49, 52, 49, 53, 49, 54, 49, 55, 49, 56, 49, 57, 50, 48, 50, 49, 50, 50, 50, 51, 50, 52, 50, 53, 50, 54, 50, 55, 50, 56, 50, 57, 51, 48, 51, 49, 51, 50, 51, 51, 51, 52, 51, 53, 51, 54, 51, 55, 51, 56, 51, 57, 52, 48, 52, 49, 52, 50, 52, 51, 52, 52, 52, 53, 52, 54, 52, 55, 52, 56, 52, 57, 53, 48, 53, 49, 53, 50, 53, 51, 53, 52, 53, 53, 53, 54, 53, 55, 53, 56, 53, 57, 54, 48, 54, 49, 54, 50, 54, 51, 54, 52, 54, 53, 54, 54, 54, 55, 54, 56, 54, 57, 55, 48, 55, 49, 55, 50, 55, 51, 55, 52, 55, 53, 55, 54, 55, 55, 55, 56, 55, 57, 56, 48, 56, 49, 56, 50, 56, 51, 56, 52, 56, 53, 56, 54, 56, 55, 56, 56, 56, 57, 57, 48, 57, 49, 57, 50, 57, 51, 57, 52, 57, 53, 57, 54, 57, 55, 57, 56, 57, 57] (wU32 ((wU32 (t105 * 2)) + 1)))))) (val (gI (x4 - 4))) (val (gOct [48, 48, 48, 49, 48, 50, 48, 51, 48, 52, 48, 53, 48, 54, 48, 55, 48, 56, 48, 57, 49, 48, 49, 49, 49, 50, 49, 51, 49, 52, 49, 53, 49, 54, 49, 55, 49, 56, 49, 57, 50, 48, 50, 49, 50, 50, 50, 51, 50, 52, 50, 53, 50, 54, 50, 55, 50, 56, 50, 57, 51, 48, 51, 49, 51, 50, 51, 51, 51, 52, 51, 53, 51, 54, 51, 55, 51, 56, 51, 57, 52, 48, 52, 49, 52, 50, 52, 51, 52, 52, 52, 53, 52, 54, 52, 55, 52, 56, 52, 57, 53, 48, 53, 49, 53, 50, 53, 51, 53, 52, 53, 53, 53, 54, 53, 55, 53, 56, 53, 57, 54, 48, 54, 49, 54, 50, 54, 51, 54, 52, 54, 53, 54, 54, 54, 55, 54, 56, 54, 57, 55, 48, 55, 49, 55, 50, 55, 51, 55, 52, 55, 53, 55, 54, 55, 55, 55, 56, 55, 57, 56, 48, 56, 49, 56, 50, 56, 51, 56, 52, 56, 53, 56, 54, 56, 55, 56, 56, 56, 57, 57, 48, 57, 49, 57, 50, 57, 51, 57, 52, 57, 53, 57, 54, 57, 55, 57, 56, 57, 57] (wU32 (t105 * 2))))))) () 0 [0] (by exact ⟨rfl, rfl, rfl, trivial⟩) (by decide) rfl (by exact ⟨H129, (gSet_n (gSet_n (gSet_n (gSet_n hl h_l0_4) h_l0_5) h_l0_6) h_l0_7)⟩) (Nat.lt_succ_self _)
            ) (by kernel_rfl)
          ) (by kernel_rfl)
      · have H130 := cnd_f hb H88; clear H88
        refine c_skip ?_
        refine c_close (x4, (wU32 x1), l) () 0 [0] (by exact ⟨rfl, rfl, rfl, trivial⟩) (by decide) rfl (by exact ⟨H130, hl⟩) (Nat.lt_succ_self _)
    · rintro ⟨x4_2, x12, l_2⟩ _ gg H89 hl_2
      replace H89 : internal_strconv_formatBase10_j2 x4_2 x12 l_2 = some r := H89
      refine c_tidyF [(0, .slice p0.1 n0 p0.2), (4, .int .i64 x4_2), (12, .int .u32 x12)] [rowV 5 1 (.slice p0.1 n0 p0.2) n0 (l_2.map e_u8)] rfl rfl ?_
      refine c_meet (r := r) (σ := Int × Int × (List Int)) (τ := Unit) (fun s => internal_strconv_formatBase10_j3 s.1 s.2.1 s.2.2) (fun s t => [(0, .slice p0.1 n0 p0.2), (4, .int .i64 s.1), (12, .int .u32 s.2.1)]) (fun s t => [rowV 5 1 (.slice p0.1 n0 p0.2) n0 (s.2.2.map e_u8)]) (fun s t => n0 = s.2.2.length) ?_ ?_
      · refine c_seq ?_
        refine c_region ?_
        refine l_val rfl rfl rfl (r_move (v := .int .i64 x4_2) rfl) ?_
        refine l_val rfl rfl rfl (r_geq rfl rfl) ?_
        refine l_nil ?_
        refine c_if (b := (decide (2 ≤ x4_2))) rfl (fun hb => ?_) (fun hb => ?_)
        · have H95 := cnd_t hb H89; clear H89
          refine c_seq ?_
          refine c_region ?_
          refine l_val rfl rfl rfl (r_move (v := .int .u32 x12) rfl) ?_
          obtain ⟨t141, h_t141, H96⟩ := bnd_some H95; clear H95
          refine l_val rfl rfl rfl (r_remG rfl rfl h_t141) ?_
          refine l_val rfl rfl rfl (r_mulW rfl rfl (wr_u32 _)) ?_
          refine l_val rfl rfl rfl (r_assign (v := .int .u32 (wU32 (t141 * 2))) rfl) ?_
          refine l_nil ?_
          refine c_seq ?_
          refine c_region ?_
          refine l_val rfl rfl rfl (r_move (v := .int .u32 x12) rfl) ?_
          obtain ⟨t144, h_t144, H97⟩ := bnd_some H96; clear H96
          refine l_val rfl rfl rfl (r_quoU rfl rfl ⟨rfl, rfl⟩ h_t144) ?_
          refine l_val rfl rfl rfl (r_assign (v := .int .u32 t144) rfl) ?_
          refine l_nil ?_
          refine c_seq ?_
          exact c_regionD (Kd.p :: Kd.p :: Kd.p :: Kd.p :: Kd.p :: Kd.p :: Kd.p :: Kd.p :: Kd.p :: Kd.p :: Kd.p :: Kd.d [0] _ :: Kd.sr 0 _ :: Kd.d [0] _ :: Kd.sr 0 _ :: []) 0 mixed (by
            refine d_val rfl rfl (r_move (v := .slice p0.1 n0 p0.2) rfl) ?_
            refine d_val rfl rfl (r_move (v := .int .i64 x4_2) rfl) ?_
            have h_t147 := bnd_val H97
            have H98 := bnd_rest H97
            refine d_val rfl rfl (r_subG rfl rfl h_t147) ?_
            refine d_val rfl rfl (r_move (v := .slice p0.1 n0 p0.2) rfl) ?_
            refine d_val rfl rfl (r_move (v := .int .i64 x4_2) rfl) ?_
            have h_t150 := bnd_val H98
            have H99 := bnd_rest H98
            refine d_val rfl rfl (r_subG rfl rfl h_t150) ?_
            refine d_val rfl rfl (r_move (v := .int .u32 (wU32 (t141 * 2))) rfl) ?_
            refine d_val rfl rfl (r_addW rfl rfl (wr_u32 _)) ?_
            have h_t153 := bnd_val H99
            have H100 := bnd_rest H99
            refine d_val rfl rfl (r_octG Tryd.underlying9 rfl rfl h_t153) ?_
            refine d_val rfl rfl (r_move (v := .int .u32 (wU32 (t141 * 2))) rfl) ?_
            have h_t155 := bnd_val H100
            have H101 := bnd_rest H100
            refine d_val rfl rfl (r_octG Tryd.underlying9 rfl rfl h_t155) ?_
            have h_t156 := bnd_val H101
            have H102 := bnd_rest H101
            refine d_readD (fun w L' hF hS hi => run_indexO Tryd.underlying54 Tryd.sizeOf5 rfl rfl (rowOf (i := 0) hS ((hi 0 (by simp)).trans rfl)) hl_2 h_t156) rfl rfl ?_
            have h_l0_2 := bnd_val H102
            have H103 := bnd_rest H102
            refine d_storeG (q := 0) (j := 0) (i := (val (gI (x4_2 - 1)))) (sz := 1) (hm := hl_2) (f := e_u8) (vs := [.int .u8 (val (gOct [48, 48, 48, 49, 48, 50, 48, 51, 48, 52, 48, 53, 48, 54, 48, 55, 48, 56, 48, 57, 49, 48, 49, 49, 49, 50, 49, 51, 49, 52, 49, 53, 49, 54, 49, 55, 49, 56, 49, 57, 50, 48, 50, 49, 50, 50, 50, 51, 50, 52, 50, 53, 50, 54, 50, 55, 50, 56, 50, 57, 51, 48, 51, 49, 51, 50, 51, 51, 51, 52, 51, 53, 51, 54, 51, 55, 51, 56, 51, 57, 52, 48, 52, 49, 52, 50, 52, 51, 52, 52, 52, 53, 52, 54, 52, 55, 52, 56, 52, 57, 53, 48, 53, 49, 53, 50, 53, 51, 53, 52, 53, 53, 53, 54, 53, 55, 53, 56, 53, 57, 54, 48, 54, 49, 54, 50, 54, 51, 54, 52, 54, 53, 54, 54, 54, 55, 54, 56, 54, 57, 55, 48, 55, 49, 55, 50, 55, 51, 55, 52, 55, 53, 55, 54, 55, 55, 55, 56, 55, 57, 56, 48, 56, 49, 56, 50, 56, 51, 56, 52, 56, 53, 56, 54, 56, 55, 56, 56, 56, 57, 57, 48, 57, 49, 57, 50, 57, 51, 57, 52, 57, 53, 57, 54, 57, 55, 57, 56, 57, 57] (wU32 ((wU32 (t141 * 2)) + 1))))]) Tryd.sizeOf5 rfl rfl rfl rfl rfl rfl rfl rfl rfl (fun y_ hy_ => by first | rfl | (cases hy_.symm.trans h_t156; rfl)) h_l0_2 ?_
            have h_t157 := bnd_val H103
            have H104 := bnd_rest H103
            refine d_readD (fun w L' hF hS hi => run_indexO Tryd.underlying54 Tryd.sizeOf5 rfl rfl (rowOf (i := 0) hS ((hi 0 (by simp)).trans rfl)) (gSet_n hl_2 h_l0_2) h_t157) rfl rfl ?_
            have h_l0_3 := bnd_val H104
            have H105 := bnd_rest H104
            refine d_storeG (q := 0) (j := 0) (i := (val (gI (x4_2 - 2)))) (sz := 1) (hm := (gSet_n hl_2 h_l0_2)) (f := e_u8) (vs := [.int .u8 (val (gOct [48, 48, 48, 49, 48, 50, 48, 51, 48, 52, 48, 53, 48, 54, 48, 55, 48, 56, 48, 57, 49, 48, 49, 49, 49, 50, 49, 51, 49, 52, 49, 53, 49, 54, 49, 55, 49, 56, 49, 57, 50, 48, 50, 49, 50, 50, 50, 51, 50, 52, 50, 53, 50, 54, 50, 55, 50, 56, 50, 57, 51, 48, 51, 49, 51, 50, 51, 51, 51, 52, 51, 53, 51, 54, 51, 55, 51, 56, 51, 57, 52, 48, 52, 49, 52, 50, 52, 51, 52, 52, 52, 53, 52, 54, 52, 55, 52, 56, 52, 57, 53, 48, 53, 49, 53, 50, 53, 51, 53, 52, 53, 53, 53, 54, 53, 55, 53, 56, 53, 57, 54, 48, 54, 49, 54, 50, 54, 51, 54, 52, 54, 53, 54, 54, 54, 55, 54, 56, 54, 57, 55, 48, 55, 49, 55, 50, 55, 51, 55, 52, 55, 53, 55, 54, 55, 55, 55, 56, 55, 57, 56, 48, 56, 49, 56, 50, 56, 51, 56, 52, 56, 53, 56, 54, 56, 55, 56, 56, 56, 57, 57, 48, 57, 49, 57, 50, 57, 51, 57, 52, 57, 53, 57, 54, 57, 55, 57, 56, 57, 57] (wU32 (t141 * 2))))]) Tryd.sizeOf5 rfl rfl rfl rfl rfl rfl rfl rfl rfl (fun y_ hy_ => by first | rfl | (cases hy_.symm.trans h_t157; rfl)) h_l0_3 ?_
            refine d_nil ?_
            refine c_region ?_
            refine l_val rfl rfl rfl (r_move (v := .int .i64 x4_2) rfl) ?_
            obtain ⟨t159, h_t159, H106⟩ := bnd_some H105; clear H105
            refine l_val rfl rfl rfl (r_subG rfl rfl h_t159) ?_
            refine l_val rfl rfl rfl (r_assign (v := .int .i64 t159) rfl) ?_
            refine l_nil ?_
            refine c_close (t159, t144, (val (gSet (val (gSet l_2 (val (gI (x4_2 - 1))) (val (gOct [48, 48, 48, 49, 48, 50, 48, 51, 48, 52, 48, 53, 48, 54, 48, 55, 48, 56, 48, 57, 49, 48, 49, 49, 49, 50, 49, 51, 49, 52, 49, 53, 49, 54, 49, 55, 49, 56, 49, 57, 50, 48, 50, 49, 50, 50, 50, 51, 50, 52, 50, 53, 50, 54, 50, 55, 50, 56, 50, 57, 51, 48, 51, 49, 51, 50, 51, 51, 51, 52, 51, 53, 51, 54, 51, 55, 51, 56, 51, 57, 52, 48, 52, 49, 52, 50, 52, 51, 52, 52, 52, 53, 52, 54, 52, 55, 52, 56, 52, 57, 53, 48, 53, 49, 53, 50, 53, 51, 53, 52, 53, 53, 53, 54, 53, 55, 53, 56, 53, 57, 54, 48, 54, 49, 54, 50, 54, 51, 54, 52, 54, 53, 54, 54, 54, 55, 54, 56, 54, 57, 55, 48, 55, 49, 55, 50, 55, 51, 55, 52, 55, 53, 55, 54, 55, 55, 55, 56, 55, 57, 56, 48, 56, 49, 56, 50, 56, 51, 56, 52, 56, 53, 56, 54, 56, 55, 56, 56, 56, 57, 57, 48, 57, 49, 57, 50, 57, 51, 57, 52, 57, 53, 57, 54, 57, 55, 57, 56, 57, 57] (wU32 ((wU32 (t141 * 2)) + 1)))))) (val (gI (x4_2 - 2))) (val (gOct [48, 48, 48, 49, 48, 50, 48, 51, 48, 52, 48, 53, 48, 54, 48, 55, 48, 56, 48, 57, 49, 48, 49, 49, 49, 50, 49, 51, 49, 52, 49, 53, 49, 54, 49, 55, 49, 56, 49, 57, 50, 48, 50, 49, 50, 50, 50, 51, 50, 52, 50, 53, 50, 54, 50, 55, 50, 56, 50, 57, 51, 48, 51, 49, 51, 50, 51, 51, 51, 52, 51, 53, 51, 54, 51, 55, 51, 56, 51, 57, 52, 48, 52, 49, 52, 50, 52, 51, 52, 52, 52, 53, 52, 54, 52, 55, 52, 56, 52, 57, 53, 48, 53, 49, 53, 50, 53, 51, 53, 52, 53, 53, 53, 54, 53, 55, 53, 56, 53, 57, 54, 48, 54, 49, 54, 50, 54, 51, 54, 52, 54, 53, 54, 54, 54, 55, 54, 56, 54, 57, 55, 48, 55, 49, 55, 50, 55, 51, 55, 52, 55, 53, 55, 54, 55, 55, 55, 56, 55, 57, 56, 48, 56, 49, 56, 50, 56, 51, 56, 52, 56, 53, 56, 54, 56, 55, 56, 56, 56, 57, 57, 48, 57, 49, 57, 50, 57, 51, 57, 52, 57, 53, 57, 54, 57, 55, 57, 56, 57, 57] (wU32 (t141 * 2))))))) () 0 [0] (by exact ⟨rfl, rfl, rfl, trivial⟩) (by decide) rfl (by exact ⟨H106, (gSet_n (gSet_n hl_2 h_l0_2) h_l0_3)⟩) (Nat.lt_succ_self _)
            ) (by kernel_rfl)
        · have H107 := cnd_f hb H89; clear H89
          refine c_skip ?_
          refine c_close (x4_2, x12, l_2) () 0 [0] (by exact ⟨rfl, rfl, rfl, trivial⟩) (by decide) rfl (by exact ⟨H107, hl_2⟩) (Nat.lt_succ_self _)
      · rintro ⟨x4_3, x12_2, l_3⟩ _ gg H90 hl_3
        replace H90 : internal_strconv_formatBase10_j3 x4_3 x12_2 l_3 = some r := H90
        refine c_tidyF [(0, .slice p0.1 n0 p0.2), (4, .int .i64 x4_3), (12, .int .u32 x12_2)] [rowV 5 1 (.slice p0.1 n0 p0.2) n0 (l_3.map e_u8)] rfl rfl ?_
        refine c_seq ?_
        refine c_region ?_
        refine l_val rfl rfl rfl (r_move (v := .int .i64 x4_3) rfl) ?_
        refine l_val rfl rfl rfl (r_gtr rfl rfl) ?_
        refine l_nil ?_
        refine c_if (b := (decide (0 < x4_3))) rfl (fun hb => ?_) (fun hb => ?_)
        · have H91 := cnd_t hb H90; clear H90
          refine c_region ?_
          refine l_val rfl rfl rfl (r_move (v := .slice p0.1 n0 p0.2) rfl) ?_
          refine l_val rfl rfl rfl (r_move (v := .int .u32 x12_2) rfl) ?_
          refine l_val rfl rfl rfl (r_addW rfl rfl (wr_u32 _)) ?_
          refine l_val rfl rfl rfl (r_convG Tryd.runUnderlying87 Tryd.runUnderlying5 rfl (wr_u8 _)) ?_
          obtain ⟨t166, h_t166, H92⟩ := bnd_some H91; clear H91
          refine l_read (fun w hF hS => run_indexO Tryd.underlying54 Tryd.sizeOf5 rfl rfl (rowOf (i := 0) hS rfl) hl_3 h_t166) rfl rfl rfl ?_
          obtain ⟨l0, h_l0, H93⟩ := bnd_some H92; clear H92
          refine l_storeG (q := 0) (j := 0) (i := 0) (sz := 1) (hm := hl_3) (f := e_u8) (vs := [.int .u8 (wU8 (wU32 (48 + x12_2)))]) Tryd.sizeOf5 rfl rfl rfl rfl rfl rfl rfl rfl rfl (fun y_ hy_ => by first | rfl | (cases hy_.symm.trans h_t166; rfl)) h_l0 ?_
          refine l_nil ?_
          obtain rfl := Option.some.inj H93
          refine ret0n rfl (finX () (i := 0) rfl rfl (Imp.refl _))
        · have H94 := cnd_f hb H90; clear H90
          refine c_skip ?_
          obtain rfl := Option.some.inj H94
          refine ret0n rfl (finX () (i := 0) rfl rfl (Imp.refl _))
theorem k73 {a0 : Int} {r : Bool} (H : internal_strconv_isPowerOfTwo a0 = some r) : Ret Tryd.prog 73 [.int .i64 a0] (.bool r) := by
  refine enterRet (n := 8) Tryd.func73 rfl rfl rfl (fun wd => ?_)
  refine c_seq ?_
  refine c_region ?_
  refine l_val rfl rfl rfl (r_assign (v := .bool false) rfl) ?_
  refine l_nil ?_
  refine c_seq ?_
  refine c_region ?_
  refine l_val rfl rfl rfl (r_move (v := .int .i64 a0) rfl) ?_
  refine l_val rfl rfl rfl (r_move (v := .int .i64 a0) rfl) ?_
  obtain ⟨t5, h_t5, H2⟩ := bnd_some H; clear H
  refine l_val rfl rfl rfl (r_subG rfl rfl h_t5) ?_
  refine l_val rfl rfl rfl (r_bitsAnd (bits := 64) rfl rfl rfl (wr_i64 _)) ?_
  refine l_val rfl rfl rfl (r_eql rfl rfl) ?_
  refine l_val rfl rfl rfl (r_assign (v := .bool (decide ((wI64 (bAnd 64 a0 t5)) = 0))) rfl) ?_
  refine l_nil ?_
  refine c_ret ?_
  obtain rfl := Option.some.inj H2
  refine ret1 (v := .bool (decide ((wI64 (bAnd 64 a0 t5)) = 0))) rfl rfl (fin rfl)
theorem k76 {a0 : Int} {r : Int} (H : math_bits_TrailingZeros32 a0 = some r) : Ret Tryd.prog 76 [.int .u32 a0] (.int .i64 r) := by
  refine enterRet (n := 14) Tryd.func76 rfl rfl rfl (fun wd => ?_)
  refine c_seq ?_
  refine c_region ?_
  refine l_val rfl rfl rfl (r_assign (v := .int .i64 0) rfl) ?_
  refine l_nil ?_
  refine c_seq ?_
  refine c_seq ?_
  refine c_region ?_
  refine l_val rfl rfl rfl (r_move (v := .int .u32 a0) rfl) ?_
  refine l_val rfl rfl rfl (r_eql rfl rfl) ?_
  refine l_nil ?_
  refine c_if (b := (decide (a0 = 0))) rfl (fun hb => ?_) (fun hb => ?_)
  · have H3 := cnd_t hb H; clear H
    refine c_seq ?_
    refine c_region ?_
    refine l_val rfl rfl rfl (r_assign (v := .int .i64 32) rfl) ?_
    refine l_nil ?_
    refine c_ret ?_
    obtain rfl := Option.some.inj H3
    refine ret1 (v := .int .i64 32) rfl rfl (fin rfl)
  · have H4 := cnd_f hb H; clear H
    exact absurd (show (none : Option (Int)) = some r from H4) (fun h => by cases h)
theorem k77 {a0 : Int} {r : Int} (H : math_bits_TrailingZeros64 a0 = some r) : Ret Tryd.prog 77 [.int .u64 a0] (.int .i64 r) := by
  refine enterRet (n := 14) Tryd.func77 rfl rfl rfl (fun wd => ?_)
  refine c_seq ?_
  refine c_region ?_
  refine l_val rfl rfl rfl (r_assign (v := .int .i64 0) rfl) ?_
  refine l_nil ?_
  refine c_seq ?_
  refine c_seq ?_
  refine c_region ?_
  refine l_val rfl rfl rfl (r_move (v := .int .u64 a0) rfl) ?_
  refine l_val rfl rfl rfl (r_eql rfl rfl) ?_
  refine l_nil ?_
  refine c_if (b := (decide (a0 = 0))) rfl (fun hb => ?_) (fun hb => ?_)
  · have H3 := cnd_t hb H; clear H
    refine c_seq ?_
    refine c_region ?_
    refine l_val rfl rfl rfl (r_assign (v := .int .i64 64) rfl) ?_
    refine l_nil ?_
    refine c_ret ?_
    obtain rfl := Option.some.inj H3
    refine ret1 (v := .int .i64 64) rfl rfl (fin rfl)
  · have H4 := cnd_f hb H; clear H
    exact absurd (show (none : Option (Int)) = some r from H4) (fun h => by cases h)
theorem k74 {a0 : Int} {r : Int} (H : math_bits_TrailingZeros a0 = some r) : Ret Tryd.prog 74 [.int .u64 a0] (.int .i64 r) := by
  refine enterRet (n := 8) Tryd.func74 rfl rfl rfl (fun wd => ?_)
  refine c_seq ?_
  refine c_region ?_
  refine l_val rfl rfl rfl (r_assign (v := .int .i64 0) rfl) ?_
  refine l_nil ?_
  refine c_seq ?_
  refine c_false rfl ?_
  refine c_skip ?_
  refine c_seq ?_
  refine c_region ?_
  refine l_val rfl rfl rfl (r_move (v := .int .u64 a0) rfl) ?_
  obtain ⟨t7, h_t7, H2⟩ := bnd_some H; clear H
  refine l_call (k77 h_t7) Tryd.call77 rfl rfl rfl ?_
  refine l_val rfl rfl rfl (r_assign (v := .int .i64 t7) rfl) ?_
  refine l_nil ?_
  refine c_ret ?_
  obtain rfl := Option.some.inj H2
  refine ret1 (v := .int .i64 t7) rfl rfl (fin rfl)
theorem k63 {a0 : (List Int)} {v0 : Value} {a1 : Int} {a2 : Int} {a3 : Bool} {a4 : Bool} {r : (List Int) × (List UInt8)} {w : World} {h : Heap} (hw : Know h w noS) (f0 : FrS h 1 v0 (a0.map e_u8)) (H : internal_strconv_formatBits a0 a1 a2 a3 a4 = some r) : Does Tryd.prog 63 (List.toArray [v0, .int .u64 a1, .int .i64 a2, .bool a3, .bool a4]) w (fun v w' => ∃ x : (Option Addr × Nat), v = (.tuple #[.slice x.1 r.1.length x.2, str r.2]) ∧ Turn w w' noS (rowV 5 1 (.slice x.1 r.1.length x.2) r.1.length (r.1.map e_u8))) := by
  refine enter (n := 102) Tryd.func63 rfl rfl rfl noS [] (Sat.nil _ _) ?_
  refine c_seq ?_
  refine c_region ?_
  refine l_val rfl rfl rfl (r_assign (v := .slice none 0 0) rfl) ?_
  refine l_val rfl rfl rfl (r_assign (v := str []) rfl) ?_
  refine l_nil ?_
  refine c_seq ?_
  refine c_seq ?_
  refine c_region ?_
  refine l_val rfl rfl rfl (r_move (v := .int .i64 a2) rfl) ?_
  refine l_val rfl rfl rfl (r_lss rfl rfl) ?_
  refine l_val rfl rfl rfl (r_move (v := .bool (decide (a2 < 2))) rfl) ?_
  refine split (fun hb => ?_) (fun hb => ?_)
  · have H42 := cnd_t hb H; clear H
    exact absurd (show (none : Option ((List Int) × (List UInt8))) = some r from H42) (fun h => by cases h)
  · have H43 := cnd_f hb H; clear H
    refine l_val rfl rfl rfl (r_move (v := .int .i64 a2) rfl) ?_
    refine l_val rfl rfl rfl (r_eql rfl rfl) ?_
    refine l_val rfl rfl rfl (r_pickF (v := .bool (decide (a2 = 10))) rfl rfl) ?_
    refine l_val rfl rfl rfl (r_move (v := .bool (decide (a2 = 10))) rfl) ?_
    refine split (fun hb => ?_) (fun hb => ?_)
    · have H44 := cnd_t hb H43; clear H43
      exact absurd (show (none : Option ((List Int) × (List UInt8))) = some r from H44) (fun h => by cases h)
    · have H45 := cnd_f hb H43; clear H43
      refine l_val rfl rfl rfl (r_move (v := .int .i64 a2) rfl) ?_
      refine l_val rfl rfl rfl (r_gtr rfl rfl) ?_
      refine l_val rfl rfl rfl (r_pickF (v := .bool (decide (36 < a2))) rfl rfl) ?_
      refine l_nil ?_
      refine c_if (b := (decide (36 < a2))) rfl (fun hb => ?_) (fun hb => ?_)
      · have H46 := cnd_t hb H45; clear H45
        exact absurd (show (none : Option ((List Int) × (List UInt8))) = some r from H46) (fun h => by cases h)
      · have H47 := cnd_f hb H45; clear H45
        refine c_skip ?_
        refine c_seq ?_
        refine c_region ?_
        refine l_alloc (cs := (arrC 65 (fun j_ => [.int .u8 ((fun _ => 0) j_)]))) Tryd.zeroValue112 (by kernel_rfl) rfl rfl (fun b1 => ?_)
        refine l_nil ?_
        refine c_seq ?_
        refine c_region ?_
        refine l_val rfl rfl rfl (r_assign (v := .int .i64 65) rfl) ?_
        refine l_nil ?_
        refine c_meet (r := r) (σ := Int) (τ := Unit) (fun s => internal_strconv_formatBits_j1 a2 a3 s) (fun s t => [(0, v0), (1, .int .u64 s), (2, .int .i64 a2), (3, .bool a3), (4, .bool a4), (10, .slice none 0 0), (11, str []), (12, .pointer (some ⟨b1, 0, none⟩)), (13, .int .i64 65)]) (fun s t => [cellsC b1 (arrC 65 (fun j_ => [.int .u8 ((fun _ => 0) j_)])) 112]) (fun s t => True) ?_ ?_
        · refine c_seq ?_
          refine c_region ?_
          refine l_val rfl rfl rfl (r_move (v := .bool a3) rfl) ?_
          refine l_nil ?_
          refine c_if (b := a3) rfl (fun hb => ?_) (fun hb => ?_)
          · have H81 := cnd_t hb H47; clear H47
            refine c_region ?_
            refine l_val rfl rfl rfl (r_move (v := .int .u64 a1) rfl) ?_
            refine l_val rfl rfl rfl (r_negW rfl (wr_u64 _)) ?_
            refine l_val rfl rfl rfl (r_assign (v := .int .u64 (wU64 (0 - a1))) rfl) ?_
            refine l_nil ?_
            refine c_close (wU64 (0 - a1)) () 0 [0] (by exact ⟨rfl, rfl, rfl, rfl, rfl, rfl, rfl, rfl, rfl, trivial⟩) (by decide) rfl (by exact ⟨H81, trivial⟩) (Nat.lt_succ_self _)
          · have H82 := cnd_f hb H47; clear H47
            refine c_skip ?_
            refine c_close a1 () 0 [0] (by exact ⟨rfl, rfl, rfl, rfl, rfl, rfl, rfl, rfl, rfl, trivial⟩) (by decide) rfl (by exact ⟨H82, trivial⟩) (Nat.lt_succ_self _)
        · rintro x1 _ gg H48 _
          replace H48 : internal_strconv_formatBits_j1 a2 a3 x1 = some r := H48
          refine c_tidyF [(0, v0), (1, .int .u64 x1), (2, .int .i64 a2), (3, .bool a3), (4, .bool a4), (10, .slice none 0 0), (11, str []), (12, .pointer (some ⟨b1, 0, none⟩)), (13, .int .i64 65)] [cellsC b1 (arrC 65 (fun j_ => [.int .u8 ((fun _ => 0) j_)])) 112] rfl rfl ?_
          refine c_meet (r := r) (σ := Int × (Nat → Int)) (τ := Unit) (fun s => internal_strconv_formatBits_j2 a3 s.1 s.2) (fun s t => [(0, v0), (3, .bool a3), (4, .bool a4), (10, .slice none 0 0), (11, str []), (12, .pointer (some ⟨b1, 0, none⟩)), (13, .int .i64 s.1)]) (fun s t => [cellsC b1 (arrC 65 (fun j_ => [.int .u8 (s.2 j_)])) 112]) (fun s t => True) ?_ ?_
          · refine c_seq ?_
            refine c_region ?_
            refine l_val rfl rfl rfl (r_move (v := .int .i64 a2) rfl) ?_
            obtain ⟨t34, h_t34, H55⟩ := bnd_some H48; clear H48
            refine l_call (k73 h_t34) Tryd.call73 rfl rfl rfl ?_
            refine l_nil ?_
            refine c_if (b := t34) rfl (fun hb => ?_) (fun hb => ?_)
            · have H56 := cnd_t hb H55; clear H55
              refine c_seq ?_
              refine c_region ?_
              refine l_val rfl rfl rfl (r_move (v := .int .i64 a2) rfl) ?_
              refine l_val rfl rfl rfl (r_convG Tryd.runUnderlying3 Tryd.runUnderlying69 rfl (wr_u64 _)) ?_
              obtain ⟨t37, h_t37, H57⟩ := bnd_some H56; clear H56
              refine l_call (k74 h_t37) Tryd.call74 rfl rfl rfl ?_
              refine l_val rfl rfl rfl (r_convG Tryd.runUnderlying3 Tryd.runUnderlying69 rfl (wr_u64 _)) ?_
              refine l_val rfl rfl rfl (r_assign (v := .int .u64 (wU64 t37)) rfl) ?_
              refine l_nil ?_
              refine c_seq ?_
              refine c_region ?_
              refine l_val rfl rfl rfl (r_move (v := .int .i64 a2) rfl) ?_
              refine l_val rfl rfl rfl (r_convG Tryd.runUnderlying3 Tryd.runUnderlying90 rfl (wr_u64 _)) ?_
              refine l_val rfl rfl rfl (r_assign (v := .int .u64 (wU64 a2)) rfl) ?_
              refine l_nil ?_
              refine c_seq ?_
              refine c_region ?_
              refine l_val rfl rfl rfl (r_move (v := .int .i64 a2) rfl) ?_
              refine l_val rfl rfl rfl (r_convG Tryd.runUnderlying3 Tryd.runUnderlying69 rfl (wr_u64 _)) ?_
              refine l_val rfl rfl rfl (r_subW rfl rfl (wr_u64 _)) ?_
              refine l_val rfl rfl rfl (r_assign (v := .int .u64 (wU64 ((wU64 a2) - 1))) rfl) ?_
              refine l_nil ?_
              refine c_meet (r := r) (σ := Int × Int × (Nat → Int)) (τ := Unit) (fun s => internal_strconv_formatBits_j4 a3 s.1 s.2.1 s.2.2) (fun s t => [(0, v0), (1, .int .u64 s.1), (3, .bool a3), (4, .bool a4), (10, .slice none 0 0), (11, str []), (12, .pointer (some ⟨b1, 0, none⟩)), (13, .int .i64 s.2.1)]) (fun s t => [cellsC b1 (arrC 65 (fun j_ => [.int .u8 (s.2.2 j_)])) 112]) (fun s t => True) ?_ ?_
              · refine c_block ?_
                refine c_fix (σ := Int × Int × (Nat → Int)) (τ := Unit) (fun next5 s => internal_strconv_formatBits_l5 a2 a3 t37 next5 s.1 s.2.1 s.2.2) (fun s t => [(0, v0), (1, .int .u64 s.1), (3, .bool a3), (4, .bool a4), (10, .slice none 0 0), (11, str []), (12, .pointer (some ⟨b1, 0, none⟩)), (13, .int .i64 s.2.1), (14, .int .u64 (wU64 t37)), (15, .int .u64 (wU64 a2)), (16, .int .u64 (wU64 ((wU64 a2) - 1)))]) (fun s t => [cellsC b1 (arrC 65 (fun j_ => [.int .u8 (s.2.2 j_)])) 112]) (fun s t => True) (x1, 65, (fun _ => 0)) () [0] H57 (by exact trivial) (by exact ⟨rfl, rfl, rfl, rfl, rfl, rfl, rfl, rfl, rfl, rfl, rfl, trivial⟩) (by decide) rfl ?_
                rintro ⟨x1_4, x13_5, m_5⟩ _ m5 gg H62 _
                clear H57
                replace H62 : internal_strconv_formatBits_l5 a2 a3 t37 (it (fun next5 s => internal_strconv_formatBits_l5 a2 a3 t37 next5 s.1 s.2.1 s.2.2) m5) x1_4 x13_5 m_5 = some r := H62
                generalize hn5 : it (fun next5 s => internal_strconv_formatBits_l5 a2 a3 t37 next5 s.1 s.2.1 s.2.2) m5 = next5 at H62
                refine c_tidyF [(0, v0), (1, .int .u64 x1_4), (3, .bool a3), (4, .bool a4), (10, .slice none 0 0), (11, str []), (12, .pointer (some ⟨b1, 0, none⟩)), (13, .int .i64 x13_5), (14, .int .u64 (wU64 t37)), (15, .int .u64 (wU64 a2)), (16, .int .u64 (wU64 ((wU64 a2) - 1)))] [cellsC b1 (arrC 65 (fun j_ => [.int .u8 (m_5 j_)])) 112] rfl rfl ?_
                refine c_seq ?_
                refine c_seq ?_
                refine c_region ?_
                refine l_val rfl rfl rfl (r_move (v := .int .u64 x1_4) rfl) ?_
                refine l_val rfl rfl rfl (r_move (v := .int .u64 (wU64 a2)) rfl) ?_
                refine l_val rfl rfl rfl (r_geq rfl rfl) ?_
                refine l_nil ?_
                refine c_if (b := (decide ((wU64 a2) ≤ x1_4))) rfl (fun hb => ?_) (fun hb => ?_)
                · have H63 := cnd_t hb H62; clear H62
                  refine c_skip ?_
                  refine c_block ?_
                  refine c_seq ?_
                  refine c_region ?_
                  refine l_val rfl rfl rfl (r_move (v := .int .i64 x13_5) rfl) ?_
                  obtain ⟨t48, h_t48, H64⟩ := bnd_some H63; clear H63
                  refine l_val rfl rfl rfl (r_subG rfl rfl h_t48) ?_
                  refine l_val rfl rfl rfl (r_assign (v := .int .i64 t48) rfl) ?_
                  refine l_nil ?_
                  refine c_seq ?_
                  refine c_region ?_
                  refine l_val rfl rfl rfl (r_move (v := .int .i64 t48) rfl) ?_
                  refine l_val rfl rfl rfl (r_move (v := .int .u64 x1_4) rfl) ?_
                  refine l_val rfl rfl rfl (r_move (v := .int .u64 (wU64 ((wU64 a2) - 1))) rfl) ?_
                  refine l_val rfl rfl rfl (r_bitsAnd (bits := 64) rfl rfl rfl (wr_u64 _)) ?_
                  obtain ⟨t53, h_t53, H65⟩ := bnd_some H64; clear H64
                  refine l_val rfl rfl rfl (r_octG Tryd.underlying9 rfl rfl h_t53) ?_
                  obtain ⟨k54, h_k54, H66⟩ := bnd_some H65; clear H65
                  refine l_val rfl rfl rfl (r_indexPG Tryd.runUnderlying112 Tryd.sizeOf5 rfl rfl h_k54) ?_
                  refine l_store (i := 0) (vs := [.int .u8 t53]) (cs' := (arrC 65 (fun j_ => [.int .u8 ((setA m_5 k54 t53) j_)]))) Tryd.sizeOf5 rfl rfl rfl rfl rfl rfl rfl rfl (wr_arr (pre := []) (post := []) (f := fun (j_ : Int) => [.int .u8 j_]) (n := 65) (sz := 1) (a := m_5) (x := t53) (arr_whole _ _) rfl (fun _ => rfl) (gIx_lt h_k54) rfl (arr_whole _ _)) ?_
                  refine l_nil ?_
                  refine c_region ?_
                  refine l_val rfl rfl rfl (r_move (v := .int .u64 x1_4) rfl) ?_
                  refine l_val rfl rfl rfl (r_move (v := .int .u64 (wU64 t37)) rfl) ?_
                  obtain ⟨t57, h_t57, H67⟩ := bnd_some H66; clear H66
                  refine l_val rfl rfl rfl (r_shrG rfl rfl rfl h_t57) ?_
                  refine l_val rfl rfl rfl (r_assign (v := .int .u64 t57) rfl) ?_
                  refine l_nil ?_
                  refine c_close (t57, t48, (setA m_5 k54 t53)) () m5 [0] (by exact ⟨rfl, rfl, rfl, rfl, rfl, rfl, rfl, rfl, rfl, rfl, rfl, trivial⟩) (by decide) rfl (by exact ⟨(by subst hn5; exact H67), trivial⟩) (Nat.lt_succ_self _)
                · have H68 := cnd_f hb H62; clear H62
                  refine c_exit ?_
                  refine c_close (x1_4, x13_5, m_5) () 0 [0] (by exact ⟨rfl, rfl, rfl, rfl, rfl, rfl, rfl, rfl, trivial⟩) (by decide) rfl (by exact ⟨H68, trivial⟩) (Nat.lt_succ_self _)
              · rintro ⟨x1_2, x13_3, m_3⟩ _ gg H58 _
                replace H58 : internal_strconv_formatBits_j4 a3 x1_2 x13_3 m_3 = some r := H58
                refine c_tidyF [(0, v0), (1, .int .u64 x1_2), (3, .bool a3), (4, .bool a4), (10, .slice none 0 0), (11, str []), (12, .pointer (some ⟨b1, 0, none⟩)), (13, .int .i64 x13_3)] [cellsC b1 (arrC 65 (fun j_ => [.int .u8 (m_3 j_)])) 112] rfl rfl ?_
                refine c_seq ?_
                refine c_region ?_
                refine l_val rfl rfl rfl (r_move (v := .int .i64 x13_3) rfl) ?_
                obtain ⟨t59, h_t59, H59⟩ := bnd_some H58; clear H58
                refine l_val rfl rfl rfl (r_subG rfl rfl h_t59) ?_
                refine l_val rfl rfl rfl (r_assign (v := .int .i64 t59) rfl) ?_
                refine l_nil ?_
                refine c_region ?_
                refine l_val rfl rfl rfl (r_move (v := .int .i64 t59) rfl) ?_
                refine l_val rfl rfl rfl (r_move (v := .int .u64 x1_2) rfl) ?_
                obtain ⟨t62, h_t62, H60⟩ := bnd_some H59; clear H59
                refine l_val rfl rfl rfl (r_octG Tryd.underlying9 rfl rfl h_t62) ?_
                obtain ⟨k63, h_k63, H61⟩ := bnd_some H60; clear H60
                refine l_val rfl rfl rfl (r_indexPG Tryd.runUnderlying112 Tryd.sizeOf5 rfl rfl h_k63) ?_
                refine l_store (i := 0) (vs := [.int .u8 t62]) (cs' := (arrC 65 (fun j_ => [.int .u8 ((setA m_3 k63 t62) j_)]))) Tryd.sizeOf5 rfl rfl rfl rfl rfl rfl rfl rfl (wr_arr (pre := []) (post := []) (f := fun (j_ : Int) => [.int .u8 j_]) (n := 65) (sz := 1) (a := m_3) (x := t62) (arr_whole _ _) rfl (fun _ => rfl) (gIx_lt h_k63) rfl (arr_whole _ _)) ?_
                refine l_nil ?_
                refine c_close (t59, (setA m_3 k63 t62)) () 0 [0] (by exact ⟨rfl, rfl, rfl, rfl, rfl, rfl, rfl, trivial⟩) (by decide) rfl (by exact ⟨H61, trivial⟩) (Nat.lt_succ_self _)
            · have H69 := cnd_f hb H55; clear H55
              refine c_seq ?_
              refine c_region ?_
              refine l_val rfl rfl rfl (r_move (v := .int .i64 a2) rfl) ?_
              refine l_val rfl rfl rfl (r_convG Tryd.runUnderlying3 Tryd.runUnderlying90 rfl (wr_u64 _)) ?_
              refine l_val rfl rfl rfl (r_assign (v := .int .u64 (wU64 a2)) rfl) ?_
              refine l_nil ?_
              refine c_meet (r := r) (σ := Int × Int × (Nat → Int)) (τ := Unit) (fun s => internal_strconv_formatBits_j6 a3 s.1 s.2.1 s.2.2) (fun s t => [(0, v0), (1, .int .u64 s.1), (3, .bool a3), (4, .bool a4), (10, .slice none 0 0), (11, str []), (12, .pointer (some ⟨b1, 0, none⟩)), (13, .int .i64 s.2.1)]) (fun s t => [cellsC b1 (arrC 65 (fun j_ => [.int .u8 (s.2.2 j_)])) 112]) (fun s t => True) ?_ ?_
              · refine c_block ?_
                refine c_fix (σ := Int × Int × (Nat → Int)) (τ := Unit) (fun next7 s => internal_strconv_formatBits_l7 a2 a3 next7 s.1 s.2.1 s.2.2) (fun s t => [(0, v0), (1, .int .u64 s.1), (3, .bool a3), (4, .bool a4), (10, .slice none 0 0), (11, str []), (12, .pointer (some ⟨b1, 0, none⟩)), (13, .int .i64 s.2.1), (17, .int .u64 (wU64 a2))]) (fun s t => [cellsC b1 (arrC 65 (fun j_ => [.int .u8 (s.2.2 j_)])) 112]) (fun s t => True) (x1, 65, (fun _ => 0)) () [0] H69 (by exact trivial) (by exact ⟨rfl, rfl, rfl, rfl, rfl, rfl, rfl, rfl, rfl, trivial⟩) (by decide) rfl ?_
                rintro ⟨x1_7, x13_8, m_8⟩ _ m7 gg H74 _
                clear H69
                replace H74 : internal_strconv_formatBits_l7 a2 a3 (it (fun next7 s => internal_strconv_formatBits_l7 a2 a3 next7 s.1 s.2.1 s.2.2) m7) x1_7 x13_8 m_8 = some r := H74
                generalize hn7 : it (fun next7 s => internal_strconv_formatBits_l7 a2 a3 next7 s.1 s.2.1 s.2.2) m7 = next7 at H74
                refine c_tidyF [(0, v0), (1, .int .u64 x1_7), (3, .bool a3), (4, .bool a4), (10, .slice none 0 0), (11, str []), (12, .pointer (some ⟨b1, 0, none⟩)), (13, .int .i64 x13_8), (17, .int .u64 (wU64 a2))] [cellsC b1 (arrC 65 (fun j_ => [.int .u8 (m_8 j_)])) 112] rfl rfl ?_
                refine c_seq ?_
                refine c_seq ?_
                refine c_region ?_
                refine l_val rfl rfl rfl (r_move (v := .int .u64 x1_7) rfl) ?_
                refine l_val rfl rfl rfl (r_move (v := .int .u64 (wU64 a2)) rfl) ?_
                refine l_val rfl rfl rfl (r_geq rfl rfl) ?_
                refine l_nil ?_
                refine c_if (b := (decide ((wU64 a2) ≤ x1_7))) rfl (fun hb => ?_) (fun hb => ?_)
                · have H75 := cnd_t hb H74; clear H74
                  refine c_skip ?_
                  refine c_block ?_
                  refine c_seq ?_
                  refine c_region ?_
                  refine l_val rfl rfl rfl (r_move (v := .int .i64 x13_8) rfl) ?_
                  obtain ⟨t70, h_t70, H76⟩ := bnd_some H75; clear H75
                  refine l_val rfl rfl rfl (r_subG rfl rfl h_t70) ?_
                  refine l_val rfl rfl rfl (r_assign (v := .int .i64 t70) rfl) ?_
                  refine l_nil ?_
                  refine c_seq ?_
                  refine c_region ?_
                  refine l_val rfl rfl rfl (r_move (v := .int .u64 x1_7) rfl) ?_
                  refine l_val rfl rfl rfl (r_move (v := .int .u64 (wU64 a2)) rfl) ?_
                  obtain ⟨t73, h_t73, H77⟩ := bnd_some H76; clear H76
                  refine l_val rfl rfl rfl (r_quoU rfl rfl ⟨rfl, rfl⟩ h_t73) ?_
                  refine l_val rfl rfl rfl (r_assign (v := .int .u64 t73) rfl) ?_
                  refine l_nil ?_
                  refine c_seq ?_
                  refine c_region ?_
                  refine l_val rfl rfl rfl (r_move (v := .int .i64 t70) rfl) ?_
                  refine l_val rfl rfl rfl (r_move (v := .int .u64 x1_7) rfl) ?_
                  refine l_val rfl rfl rfl (r_move (v := .int .u64 t73) rfl) ?_
                  refine l_val rfl rfl rfl (r_move (v := .int .u64 (wU64 a2)) rfl) ?_
                  refine l_val rfl rfl rfl (r_mulW rfl rfl (wr_u64 _)) ?_
                  refine l_val rfl rfl rfl (r_subW rfl rfl (wr_u64 _)) ?_
                  obtain ⟨t80, h_t80, H78⟩ := bnd_some H77; clear H77
                  refine l_val rfl rfl rfl (r_octG Tryd.underlying9 rfl rfl h_t80) ?_
                  obtain ⟨k81, h_k81, H79⟩ := bnd_some H78; clear H78
                  refine l_val rfl rfl rfl (r_indexPG Tryd.runUnderlying112 Tryd.sizeOf5 rfl rfl h_k81) ?_
                  refine l_store (i := 0) (vs := [.int .u8 t80]) (cs' := (arrC 65 (fun j_ => [.int .u8 ((setA m_8 k81 t80) j_)]))) Tryd.sizeOf5 rfl rfl rfl rfl rfl rfl rfl rfl (wr_arr (pre := []) (post := []) (f := fun (j_ : Int) => [.int .u8 j_]) (n := 65) (sz := 1) (a := m_8) (x := t80) (arr_whole _ _) rfl (fun _ => rfl) (gIx_lt h_k81) rfl (arr_whole _ _)) ?_
                  refine l_nil ?_
                  refine c_region ?_
                  refine l_val rfl rfl rfl (r_move (v := .int .u64 t73) rfl) ?_
                  refine l_val rfl rfl rfl (r_assign (v := .int .u64 t73) rfl) ?_
                  refine l_nil ?_
                  refine c_close (t73, t70, (setA m_8 k81 t80)) () m7 [0] (by exact ⟨rfl, rfl, rfl, rfl, rfl, rfl, rfl, rfl, rfl, trivial⟩) (by decide) rfl (by exact ⟨(by subst hn7; exact H79), trivial⟩) (Nat.lt_succ_self _)
                · have H80 := cnd_f hb H74; clear H74
                  refine c_exit ?_
                  refine c_close (x1_7, x13_8, m_8) () 0 [0] (by exact ⟨rfl, rfl, rfl, rfl, rfl, rfl, rfl, rfl, trivial⟩) (by decide) rfl (by exact ⟨H80, trivial⟩) (Nat.lt_succ_self _)
              · rintro ⟨x1_5, x13_6, m_6⟩ _ gg H70 _
                replace H70 : internal_strconv_formatBits_j6 a3 x1_5 x13_6 m_6 = some r := H70
                refine c_tidyF [(0, v0), (1, .int .u64 x1_5), (3, .bool a3), (4, .bool a4), (10, .slice none 0 0), (11, str []), (12, .pointer (some ⟨b1, 0, none⟩)), (13, .int .i64 x13_6)] [cellsC b1 (arrC 65 (fun j_ => [.int .u8 (m_6 j_)])) 112] rfl rfl ?_
                refine c_seq ?_
                refine c_region ?_
                refine l_val rfl rfl rfl (r_move (v := .int .i64 x13_6) rfl) ?_
                obtain ⟨t84, h_t84, H71⟩ := bnd_some H70; clear H70
                refine l_val rfl rfl rfl (r_subG rfl rfl h_t84) ?_
                refine l_val rfl rfl rfl (r_assign (v := .int .i64 t84) rfl) ?_
                refine l_nil ?_
                refine c_region ?_
                refine l_val rfl rfl rfl (r_move (v := .int .i64 t84) rfl) ?_
                refine l_val rfl rfl rfl (r_move (v := .int .u64 x1_5) rfl) ?_
                obtain ⟨t87, h_t87, H72⟩ := bnd_some H71; clear H71
                refine l_val rfl rfl rfl (r_octG Tryd.underlying9 rfl rfl h_t87) ?_
                obtain ⟨k88, h_k88, H73⟩ := bnd_some H72; clear H72
                refine l_val rfl rfl rfl (r_indexPG Tryd.runUnderlying112 Tryd.sizeOf5 rfl rfl h_k88) ?_
                refine l_store (i := 0) (vs := [.int .u8 t87]) (cs' := (arrC 65 (fun j_ => [.int .u8 ((setA m_6 k88 t87) j_)]))) Tryd.sizeOf5 rfl rfl rfl rfl rfl rfl rfl rfl (wr_arr (pre := []) (post := []) (f := fun (j_ : Int) => [.int .u8 j_]) (n := 65) (sz := 1) (a := m_6) (x := t87) (arr_whole _ _) rfl (fun _ => rfl) (gIx_lt h_k88) rfl (arr_whole _ _)) ?_
                refine l_nil ?_
                refine c_close (t84, (setA m_6 k88 t87)) () 0 [0] (by exact ⟨rfl, rfl, rfl, rfl, rfl, rfl, rfl, trivial⟩) (by decide) rfl (by exact ⟨H73, trivial⟩) (Nat.lt_succ_self _)
          · rintro ⟨x13, m⟩ _ gg H49 _
            replace H49 : internal_strconv_formatBits_j2 a3 x13 m = some r := H49
            refine c_tidyF [(0, v0), (3, .bool a3), (4, .bool a4), (10, .slice none 0 0), (11, str []), (12, .pointer (some ⟨b1, 0, none⟩)), (13, .int .i64 x13)] [cellsC b1 (arrC 65 (fun j_ => [.int .u8 (m j_)])) 112] rfl rfl ?_
            refine c_meet (r := r) (σ := Int × (Nat → Int)) (τ := Unit) (fun s => internal_strconv_formatBits_j3 s.1 s.2) (fun s t => [(0, v0), (4, .bool a4), (10, .slice none 0 0), (11, str []), (12, .pointer (some ⟨b1, 0, none⟩)), (13, .int .i64 s.1)]) (fun s t => [cellsC b1 (arrC 65 (fun j_ => [.int .u8 (s.2 j_)])) 112]) (fun s t => True) ?_ ?_
            · refine c_seq ?_
              refine c_region ?_
              refine l_val rfl rfl rfl (r_move (v := .bool a3) rfl) ?_
              refine l_nil ?_
              refine c_if (b := a3) rfl (fun hb => ?_) (fun hb => ?_)
              · have H51 := cnd_t hb H49; clear H49
                refine c_seq ?_
                refine c_region ?_
                refine l_val rfl rfl rfl (r_move (v := .int .i64 x13) rfl) ?_
                obtain ⟨t91, h_t91, H52⟩ := bnd_some H51; clear H51
                refine l_val rfl rfl rfl (r_subG rfl rfl h_t91) ?_
                refine l_val rfl rfl rfl (r_assign (v := .int .i64 t91) rfl) ?_
                refine l_nil ?_
                refine c_region ?_
                refine l_val rfl rfl rfl (r_move (v := .int .i64 t91) rfl) ?_
                obtain ⟨k93, h_k93, H53⟩ := bnd_some H52; clear H52
                refine l_val rfl rfl rfl (r_indexPG Tryd.runUnderlying112 Tryd.sizeOf5 rfl rfl h_k93) ?_
                refine l_store (i := 0) (vs := [.int .u8 45]) (cs' := (arrC 65 (fun j_ => [.int .u8 ((setA m k93 45) j_)]))) Tryd.sizeOf5 rfl rfl rfl rfl rfl rfl rfl rfl (wr_arr (pre := []) (post := []) (f := fun (j_ : Int) => [.int .u8 j_]) (n := 65) (sz := 1) (a := m) (x := 45) (arr_whole _ _) rfl (fun _ => rfl) (gIx_lt h_k93) rfl (arr_whole _ _)) ?_
                refine l_nil ?_
                refine c_close (t91, (setA m k93 45)) () 0 [0] (by exact ⟨rfl, rfl, rfl, rfl, rfl, rfl, trivial⟩) (by decide) rfl (by exact ⟨H53, trivial⟩) (Nat.lt_succ_self _)
              · have H54 := cnd_f hb H49; clear H49
                refine c_skip ?_
                refine c_close (x13, m) () 0 [0] (by exact ⟨rfl, rfl, rfl, rfl, rfl, rfl, trivial⟩) (by decide) rfl (by exact ⟨H54, trivial⟩) (Nat.lt_succ_self _)
            · rintro ⟨x13_2, m_2⟩ _ gg H50 _
              replace H50 : internal_strconv_formatBits_j3 x13_2 m_2 = some r := H50
              refine c_tidyF [(0, v0), (4, .bool a4), (10, .slice none 0 0), (11, str []), (12, .pointer (some ⟨b1, 0, none⟩)), (13, .int .i64 x13_2)] [cellsC b1 (arrC 65 (fun j_ => [.int .u8 (m_2 j_)])) 112] rfl rfl ?_
              exact absurd (show (none : Option ((List Int) × (List UInt8))) = some r from H50) (fun h => by cases h)
theorem k51 {a0 : Int} {a1 : Int} {r : (List UInt8)} (H : internal_strconv_FormatInt a0 a1 = some r) : Ret Tryd.prog 51 [.int .i64 a0, .int .i64 a1] (str r) := by
  refine enterRet (n := 54) Tryd.func51 rfl rfl rfl (fun wd => ?_)
  refine c_seq ?_
  refine c_region ?_
  refine l_val rfl rfl rfl (r_assign (v := str []) rfl) ?_
  refine l_nil ?_
  refine c_seq ?_
  refine c_seq ?_
  refine c_region ?_
  refine l_val rfl rfl rfl (r_move (v := .int .i64 a1) rfl) ?_
  refine l_val rfl rfl rfl (r_eql rfl rfl) ?_
  refine l_nil ?_
  refine c_if (b := (decide (a1 = 10))) rfl (fun hb => ?_) (fun hb => ?_)
  · have H13 := cnd_t hb H; clear H
    refine c_meet (r := r) (σ := Unit) (τ := Unit) (fun s => internal_strconv_FormatInt_j1 a0) (fun s t => [(0, .int .i64 a0), (1, .int .i64 a1)]) (fun s t => []) (fun s t => True) ?_ ?_
    · refine c_seq ?_
      refine c_region ?_
      refine l_val rfl rfl rfl (r_move (v := .int .i64 a0) rfl) ?_
      refine l_val rfl rfl rfl (r_leq rfl rfl) ?_
      refine l_val rfl rfl rfl (r_move (v := .bool (decide (0 ≤ a0))) rfl) ?_
      refine split (fun hb => ?_) (fun hb => ?_)
      · have H18 := cnd_t hb H13; clear H13
        refine l_val rfl rfl rfl (r_move (v := .int .i64 a0) rfl) ?_
        refine l_val rfl rfl rfl (r_lss rfl rfl) ?_
        refine l_val rfl rfl rfl (r_pickT (v := .bool (decide (a0 < 100))) rfl rfl) ?_
        refine l_nil ?_
        refine c_if (b := (decide (a0 < 100))) rfl (fun hb => ?_) (fun hb => ?_)
        · have H19 := cnd_t hb H18; clear H18
          refine c_seq ?_
          refine c_region ?_
          refine l_val rfl rfl rfl (r_move (v := .int .i64 a0) rfl) ?_
          obtain ⟨t19, h_t19, H20⟩ := bnd_some H19; clear H19
          refine l_call (k60 h_t19) Tryd.call60 rfl rfl rfl ?_
          refine l_val rfl rfl rfl (r_assign (v := str t19) rfl) ?_
          refine l_nil ?_
          refine c_ret ?_
          obtain rfl := Option.some.inj H20
          refine ret1 (v := str t19) rfl rfl (fin rfl)
        · have H21 := cnd_f hb H18; clear H18
          refine c_skip ?_
          refine c_close () () 0 [] (by exact ⟨rfl, rfl, trivial⟩) (by decide) rfl (by exact ⟨H21, trivial⟩) (Nat.lt_succ_self _)
      · have H22 := cnd_f hb H13; clear H13
        refine l_passed rfl rfl rfl ?_
        refine l_passed rfl rfl rfl ?_
        refine l_val rfl rfl rfl (r_pickF (v := .bool false) rfl rfl) ?_
        refine l_nil ?_
        refine c_false rfl ?_
        refine c_skip ?_
        refine c_close () () 0 [] (by exact ⟨rfl, rfl, trivial⟩) (by decide) rfl (by exact ⟨H22, trivial⟩) (Nat.lt_succ_self _)
    · rintro _ _ gg H14 _
      replace H14 : internal_strconv_FormatInt_j1 a0 = some r := H14
      refine c_tidyF [(0, .int .i64 a0), (1, .int .i64 a1)] [] rfl rfl ?_
      refine c_seq ?_
      refine c_region ?_
      refine l_alloc (cs := [.int .u8 ((fun _ => 0) 0), .int .u8 ((fun _ => 0) 1), .int .u8 ((fun _ => 0) 2), .int .u8 ((fun _ => 0) 3), .int .u8 ((fun _ => 0) 4), .int .u8 ((fun _ => 0) 5), .int .u8 ((fun _ => 0) 6), .int .u8 ((fun _ => 0) 7), .int .u8 ((fun _ => 0) 8), .int .u8 ((fun _ => 0) 9), .int .u8 ((fun _ => 0) 10), .int .u8 ((fun _ => 0) 11), .int .u8 ((fun _ => 0) 12), .int .u8 ((fun _ => 0) 13), .int .u8 ((fun _ => 0) 14), .int .u8 ((fun _ => 0) 15), .int .u8 ((fun _ => 0) 16), .int .u8 ((fun _ => 0) 17), .int .u8 ((fun _ => 0) 18), .int .u8 ((fun _ => 0) 19), .int .u8 ((fun _ => 0) 20), .int .u8 ((fun _ => 0) 21), .int .u8 ((fun _ => 0) 22), .int .u8 ((fun _ => 0) 23)]) Tryd.zeroValue53 rfl rfl rfl (fun b1 => ?_)
      refine l_nil ?_
      refine c_seq ?_
      refine c_region ?_
      refine l_val rfl rfl rfl (r_move (v := .int .i64 a0) rfl) ?_
      refine l_val rfl rfl rfl (r_convG Tryd.runUnderlying2 Tryd.runUnderlying90 rfl (wr_u64 _)) ?_
      refine l_val rfl rfl rfl (r_assign (v := .int .u64 (wU64 a0)) rfl) ?_
      refine l_nil ?_
      refine c_meet (r := r) (σ := Int) (τ := Unit) (fun s => internal_strconv_FormatInt_j2 s) (fun s t => [(0, .int .i64 a0), (1, .int .i64 a1), (5, .pointer (some ⟨b1, 0, none⟩)), (6, .int .u64 s)]) (fun s t => [cellsC b1 [.int .u8 ((fun _ => 0) 0), .int .u8 ((fun _ => 0) 1), .int .u8 ((fun _ => 0) 2), .int .u8 ((fun _ => 0) 3), .int .u8 ((fun _ => 0) 4), .int .u8 ((fun _ => 0) 5), .int .u8 ((fun _ => 0) 6), .int .u8 ((fun _ => 0) 7), .int .u8 ((fun _ => 0) 8), .int .u8 ((fun _ => 0) 9), .int .u8 ((fun _ => 0) 10), .int .u8 ((fun _ => 0) 11), .int .u8 ((fun _ => 0) 12), .int .u8 ((fun _ => 0) 13), .int .u8 ((fun _ => 0) 14), .int .u8 ((fun _ => 0) 15), .int .u8 ((fun _ => 0) 16), .int .u8 ((fun _ => 0) 17), .int .u8 ((fun _ => 0) 18), .int .u8 ((fun _ => 0) 19), .int .u8 ((fun _ => 0) 20), .int .u8 ((fun _ => 0) 21), .int .u8 ((fun _ => 0) 22), .int .u8 ((fun _ => 0) 23)] 53]) (fun s t => True) ?_ ?_
      · refine c_seq ?_
        refine c_region ?_
        refine l_val rfl rfl rfl (r_move (v := .int .i64 a0) rfl) ?_
        refine l_val rfl rfl rfl (r_lss rfl rfl) ?_
        refine l_nil ?_
        refine c_if (b := (decide (a0 < 0))) rfl (fun hb => ?_) (fun hb => ?_)
        · have H16 := cnd_t hb H14; clear H14
          refine c_region ?_
          refine l_val rfl rfl rfl (r_move (v := .int .u64 (wU64 a0)) rfl) ?_
          refine l_val rfl rfl rfl (r_negW rfl (wr_u64 _)) ?_
          refine l_val rfl rfl rfl (r_assign (v := .int .u64 (wU64 (0 - (wU64 a0)))) rfl) ?_
          refine l_nil ?_
          refine c_close (wU64 (0 - (wU64 a0))) () 0 [0] (by exact ⟨rfl, rfl, rfl, rfl, trivial⟩) (by decide) rfl (by exact ⟨H16, trivial⟩) (Nat.lt_succ_self _)
        · have H17 := cnd_f hb H14; clear H14
          refine c_skip ?_
          refine c_close (wU64 a0) () 0 [0] (by exact ⟨rfl, rfl, rfl, rfl, trivial⟩) (by decide) rfl (by exact ⟨H17, trivial⟩) (Nat.lt_succ_self _)
      · rintro x6 _ gg H15 _
        replace H15 : internal_strconv_FormatInt_j2 x6 = some r := H15
        refine c_tidyF [(0, .int .i64 a0), (1, .int .i64 a1), (5, .pointer (some ⟨b1, 0, none⟩)), (6, .int .u64 x6)] [cellsC b1 [.int .u8 ((fun _ => 0) 0), .int .u8 ((fun _ => 0) 1), .int .u8 ((fun _ => 0) 2), .int .u8 ((fun _ => 0) 3), .int .u8 ((fun _ => 0) 4), .int .u8 ((fun _ => 0) 5), .int .u8 ((fun _ => 0) 6), .int .u8 ((fun _ => 0) 7), .int .u8 ((fun _ => 0) 8), .int .u8 ((fun _ => 0) 9), .int .u8 ((fun _ => 0) 10), .int .u8 ((fun _ => 0) 11), .int .u8 ((fun _ => 0) 12), .int .u8 ((fun _ => 0) 13), .int .u8 ((fun _ => 0) 14), .int .u8 ((fun _ => 0) 15), .int .u8 ((fun _ => 0) 16), .int .u8 ((fun _ => 0) 17), .int .u8 ((fun _ => 0) 18), .int .u8 ((fun _ => 0) 19), .int .u8 ((fun _ => 0) 20), .int .u8 ((fun _ => 0) 21), .int .u8 ((fun _ => 0) 22), .int .u8 ((fun _ => 0) 23)] 53] rfl rfl ?_
        exact absurd (show (none : Option ((List UInt8))) = some r from H15) (fun h => by cases h)
  · have H23 := cnd_f hb H; clear H
    refine c_skip ?_
    refine c_seq ?_
    refine c_region ?_
    refine l_val rfl rfl rfl (r_move (v := .int .i64 a0) rfl) ?_
    refine l_val rfl rfl rfl (r_convG Tryd.runUnderlying2 Tryd.runUnderlying90 rfl (wr_u64 _)) ?_
    refine l_val rfl rfl rfl (r_move (v := .int .i64 a1) rfl) ?_
    refine l_val rfl rfl rfl (r_move (v := .int .i64 a0) rfl) ?_
    refine l_val rfl rfl rfl (r_lss rfl rfl) ?_
    obtain ⟨t50, h_t50, H24⟩ := bnd_some H23; clear H23
    refine l_make (makes_call (rds := []) (G := fun x : (Option Addr × Nat) => .tuple #[.slice x.1 t50.1.length x.2, str t50.2]) (C := fun x : (Option Addr × Nat) => rowV 5 1 (.slice x.1 t50.1.length x.2) t50.1.length (t50.1.map e_u8)) (fun w L' hF hS hi => k63 (know_all w) (FrS.nil _ _) h_t50) Tryd.call63 rfl) rfl rfl rfl (fun p => ?_)
    refine l_val rfl rfl rfl (r_move (v := .tuple #[.slice p.1 t50.1.length p.2, str t50.2]) rfl) ?_
    refine l_val rfl rfl rfl (r_extract (v := .slice p.1 t50.1.length p.2) rfl rfl) ?_
    refine l_val rfl rfl rfl (r_extract (v := str t50.2) rfl rfl) ?_
    refine l_val rfl rfl rfl (r_assign (v := .slice p.1 t50.1.length p.2) rfl) ?_
    refine l_val rfl rfl rfl (r_assign (v := str t50.2) rfl) ?_
    refine l_nil ?_
    refine c_seq ?_
    refine c_region ?_
    refine l_val rfl rfl rfl (r_move (v := str t50.2) rfl) ?_
    refine l_val rfl rfl rfl (r_assign (v := str t50.2) rfl) ?_
    refine l_nil ?_
    refine c_ret ?_
    obtain rfl := Option.some.inj H24
    refine ret1 (v := str t50.2) rfl rfl (fin rfl)
theorem k40 {a0 : Int} {r : (List UInt8)} (H : internal_strconv_Itoa a0 = some r) : Ret Tryd.prog 40 [.int .i64 a0] (str r) := by
  refine enterRet (n := 5) Tryd.func40 rfl rfl rfl (fun wd => ?_)
  refine c_seq ?_
  refine c_region ?_
  refine l_val rfl rfl rfl (r_assign (v := str []) rfl) ?_
  refine l_nil ?_
  refine c_seq ?_
  refine c_region ?_
  refine l_val rfl rfl rfl (r_move (v := .int .i64 a0) rfl) ?_
  obtain ⟨t4, h_t4, H2⟩ := bnd_some H; clear H
  refine l_call (k51 h_t4) Tryd.call51 rfl rfl rfl ?_
  refine l_val rfl rfl rfl (r_assign (v := str t4) rfl) ?_
  refine l_nil ?_
  refine c_ret ?_
  obtain rfl := Option.some.inj H2
  refine ret1 (v := str t4) rfl rfl (fin rfl)
theorem k31 {a0 : Int} {r : (List UInt8)} (H : strconv_Itoa a0 = some r) : Ret Tryd.prog 31 [.int .i64 a0] (str r) := by
  refine enterRet (n := 5) Tryd.func31 rfl rfl rfl (fun wd => ?_)
  refine c_seq ?_
  refine c_region ?_
  refine l_val rfl rfl rfl (r_assign (v := str []) rfl) ?_
  refine l_nil ?_
  refine c_seq ?_
  refine c_region ?_
  refine l_val rfl rfl rfl (r_move (v := .int .i64 a0) rfl) ?_
  obtain ⟨t4, h_t4, H2⟩ := bnd_some H; clear H
  refine l_call (k40 h_t4) Tryd.call40 rfl rfl rfl ?_
  refine l_val rfl rfl rfl (r_assign (v := str t4) rfl) ?_
  refine l_nil ?_
  refine c_ret ?_
  obtain rfl := Option.some.inj H2
  refine ret1 (v := str t4) rfl rfl (fin rfl)
theorem k52 {a0 : Int} {a1 : Int} {r : Int × Int} (H : math_bits_Mul32 a0 a1 = some r) : Ret Tryd.prog 52 [.int .u32 a0, .int .u32 a1] (.tuple #[.int .u32 r.1, .int .u32 r.2]) := by
  refine enterRet (n := 17) Tryd.func52 rfl rfl rfl (fun wd => ?_)
  refine c_seq ?_
  refine c_region ?_
  refine l_val rfl rfl rfl (r_assign (v := .int .u32 0) rfl) ?_
  refine l_val rfl rfl rfl (r_assign (v := .int .u32 0) rfl) ?_
  refine l_nil ?_
  refine c_seq ?_
  refine c_region ?_
  refine l_val rfl rfl rfl (r_move (v := .int .u32 a0) rfl) ?_
  obtain ⟨t8, h_t8, H4⟩ := bnd_some H; clear H
  refine l_val rfl rfl rfl (r_convG Tryd.runUnderlying87 Tryd.runUnderlying90 rfl (gK_u64 h_t8)) ?_
  refine l_val rfl rfl rfl (r_move (v := .int .u32 a1) rfl) ?_
  obtain ⟨t10, h_t10, H5⟩ := bnd_some H4; clear H4
  refine l_val rfl rfl rfl (r_convG Tryd.runUnderlying87 Tryd.runUnderlying90 rfl (gK_u64 h_t10)) ?_
  refine l_val rfl rfl rfl (r_mulW rfl rfl (wr_u64 _)) ?_
  refine l_val rfl rfl rfl (r_assign (v := .int .u64 (wU64 (t8 * t10))) rfl) ?_
  refine l_nil ?_
  refine c_seq ?_
  refine c_region ?_
  refine l_val rfl rfl rfl (r_move (v := .int .u64 (wU64 (t8 * t10))) rfl) ?_
  obtain ⟨t13, h_t13, H6⟩ := bnd_some H5; clear H5
  refine l_val rfl rfl rfl (r_shrG rfl rfl rfl h_t13) ?_
  refine l_val rfl rfl rfl (r_convG Tryd.runUnderlying90 Tryd.runUnderlying87 rfl (wr_u32 _)) ?_
  refine l_val rfl rfl rfl (r_move (v := .int .u64 (wU64 (t8 * t10))) rfl) ?_
  refine l_val rfl rfl rfl (r_convG Tryd.runUnderlying90 Tryd.runUnderlying87 rfl (wr_u32 _)) ?_
  refine l_val rfl rfl rfl (r_assign (v := .int .u32 (wU32 t13)) rfl) ?_
  refine l_val rfl rfl rfl (r_assign (v := .int .u32 (wU32 (wU64 (t8 * t10)))) rfl) ?_
  refine l_nil ?_
  refine c_ret ?_
  obtain rfl := Option.some.inj H6
  refine ret2 (v1 := .int .u32 (wU32 t13)) (v2 := .int .u32 (wU32 (wU64 (t8 * t10)))) rfl rfl rfl (fin rfl)
theorem k53 {a0 : Int} {a1 : Int} {r : Int × Int} (H : math_bits_Mul64 a0 a1 = some r) : Ret Tryd.prog 53 [.int .u64 a0, .int .u64 a1] (.tuple #[.int .u64 r.1, .int .u64 r.2]) := by
  refine enterRet (n := 51) Tryd.func53 rfl rfl rfl (fun wd => ?_)
  refine c_seq ?_
  refine c_region ?_
  refine l_val rfl rfl rfl (r_assign (v := .int .u64 0) rfl) ?_
  refine l_val rfl rfl rfl (r_assign (v := .int .u64 0) rfl) ?_
  refine l_nil ?_
  refine c_seq ?_
  refine c_region ?_
  refine l_val rfl rfl rfl (r_move (v := .int .u64 a0) rfl) ?_
  refine l_val rfl rfl rfl (r_bitsAnd (bits := 64) rfl rfl rfl (wr_u64 _)) ?_
  refine l_val rfl rfl rfl (r_assign (v := .int .u64 (wU64 (bAnd 64 a0 4294967295))) rfl) ?_
  refine l_nil ?_
  refine c_seq ?_
  refine c_region ?_
  refine l_val rfl rfl rfl (r_move (v := .int .u64 a0) rfl) ?_
  obtain ⟨t17, h_t17, H6⟩ := bnd_some H; clear H
  refine l_val rfl rfl rfl (r_shrG rfl rfl rfl h_t17) ?_
  refine l_val rfl rfl rfl (r_assign (v := .int .u64 t17) rfl) ?_
  refine l_nil ?_
  refine c_seq ?_
  refine c_region ?_
  refine l_val rfl rfl rfl (r_move (v := .int .u64 a1) rfl) ?_
  refine l_val rfl rfl rfl (r_bitsAnd (bits := 64) rfl rfl rfl (wr_u64 _)) ?_
  refine l_val rfl rfl rfl (r_assign (v := .int .u64 (wU64 (bAnd 64 a1 4294967295))) rfl) ?_
  refine l_nil ?_
  refine c_seq ?_
  refine c_region ?_
  refine l_val rfl rfl rfl (r_move (v := .int .u64 a1) rfl) ?_
  obtain ⟨t21, h_t21, H7⟩ := bnd_some H6; clear H6
  refine l_val rfl rfl rfl (r_shrG rfl rfl rfl h_t21) ?_
  refine l_val rfl rfl rfl (r_assign (v := .int .u64 t21) rfl) ?_
  refine l_nil ?_
  refine c_seq ?_
  refine c_region ?_
  refine l_val rfl rfl rfl (r_move (v := .int .u64 (wU64 (bAnd 64 a0 4294967295))) rfl) ?_
  refine l_val rfl rfl rfl (r_move (v := .int .u64 (wU64 (bAnd 64 a1 4294967295))) rfl) ?_
  refine l_val rfl rfl rfl (r_mulW rfl rfl (wr_u64 _)) ?_
  refine l_val rfl rfl rfl (r_assign (v := .int .u64 (wU64 ((wU64 (bAnd 64 a0 4294967295)) * (wU64 (bAnd 64 a1 4294967295))))) rfl) ?_
  refine l_nil ?_
  refine c_seq ?_
  refine c_region ?_
  refine l_val rfl rfl rfl (r_move (v := .int .u64 t17) rfl) ?_
  refine l_val rfl rfl rfl (r_move (v := .int .u64 (wU64 (bAnd 64 a1 4294967295))) rfl) ?_
  refine l_val rfl rfl rfl (r_mulW rfl rfl (wr_u64 _)) ?_
  refine l_val rfl rfl rfl (r_move (v := .int .u64 (wU64 ((wU64 (bAnd 64 a0 4294967295)) * (wU64 (bAnd 64 a1 4294967295))))) rfl) ?_
  obtain ⟨t29, h_t29, H8⟩ := bnd_some H7; clear H7
  refine l_val rfl rfl rfl (r_shrG rfl rfl rfl h_t29) ?_
  refine l_val rfl rfl rfl (r_addW rfl rfl (wr_u64 _)) ?_
  refine l_val rfl rfl rfl (r_assign (v := .int .u64 (wU64 ((wU64 (t17 * (wU64 (bAnd 64 a1 4294967295)))) + t29))) rfl) ?_
  refine l_nil ?_
  refine c_seq ?_
  refine c_region ?_
  refine l_val rfl rfl rfl (r_move (v := .int .u64 (wU64 ((wU64 (t17 * (wU64 (bAnd 64 a1 4294967295)))) + t29))) rfl) ?_
  refine l_val rfl rfl rfl (r_bitsAnd (bits := 64) rfl rfl rfl (wr_u64 _)) ?_
  refine l_val rfl rfl rfl (r_assign (v := .int .u64 (wU64 (bAnd 64 (wU64 ((wU64 (t17 * (wU64 (bAnd 64 a1 4294967295)))) + t29)) 4294967295))) rfl) ?_
  refine l_nil ?_
  refine c_seq ?_
  refine c_region ?_
  refine l_val rfl rfl rfl (r_move (v := .int .u64 (wU64 ((wU64 (t17 * (wU64 (bAnd 64 a1 4294967295)))) + t29))) rfl) ?_
  obtain ⟨t34, h_t34, H9⟩ := bnd_some H8; clear H8
  refine l_val rfl rfl rfl (r_shrG rfl rfl rfl h_t34) ?_
  refine l_val rfl rfl rfl (r_assign (v := .int .u64 t34) rfl) ?_
  refine l_nil ?_
  refine c_seq ?_
  refine c_region ?_
  refine l_val rfl rfl rfl (r_move (v := .int .u64 (wU64 (bAnd 64 (wU64 ((wU64 (t17 * (wU64 (bAnd 64 a1 4294967295)))) + t29)) 4294967295))) rfl) ?_
  refine l_val rfl rfl rfl (r_move (v := .int .u64 (wU64 (bAnd 64 a0 4294967295))) rfl) ?_
  refine l_val rfl rfl rfl (r_move (v := .int .u64 t21) rfl) ?_
  refine l_val rfl rfl rfl (r_mulW rfl rfl (wr_u64 _)) ?_
  refine l_val rfl rfl rfl (r_addW rfl rfl (wr_u64 _)) ?_
  refine l_val rfl rfl rfl (r_assign (v := .int .u64 (wU64 ((wU64 (bAnd 64 (wU64 ((wU64 (t17 * (wU64 (bAnd 64 a1 4294967295)))) + t29)) 4294967295)) + (wU64 ((wU64 (bAnd 64 a0 4294967295)) * t21))))) rfl) ?_
  refine l_nil ?_
  refine c_seq ?_
  refine c_region ?_
  refine l_val rfl rfl rfl (r_move (v := .int .u64 t17) rfl) ?_
  refine l_val rfl rfl rfl (r_move (v := .int .u64 t21) rfl) ?_
  refine l_val rfl rfl rfl (r_mulW rfl rfl (wr_u64 _)) ?_
  refine l_val rfl rfl rfl (r_move (v := .int .u64 t34) rfl) ?_
  refine l_val rfl rfl rfl (r_addW rfl rfl (wr_u64 _)) ?_
  refine l_val rfl rfl rfl (r_move (v := .int .u64 (wU64 ((wU64 (bAnd 64 (wU64 ((wU64 (t17 * (wU64 (bAnd 64 a1 4294967295)))) + t29)) 4294967295)) + (wU64 ((wU64 (bAnd 64 a0 4294967295)) * t21))))) rfl) ?_
  obtain ⟨t46, h_t46, H10⟩ := bnd_some H9; clear H9
  refine l_val rfl rfl rfl (r_shrG rfl rfl rfl h_t46) ?_
  refine l_val rfl rfl rfl (r_addW rfl rfl (wr_u64 _)) ?_
  refine l_val rfl rfl rfl (r_assign (v := .int .u64 (wU64 ((wU64 ((wU64 (t17 * t21)) + t34)) + t46))) rfl) ?_
  refine l_nil ?_
  refine c_seq ?_
  refine c_region ?_
  refine l_val rfl rfl rfl (r_move (v := .int .u64 a0) rfl) ?_
  refine l_val rfl rfl rfl (r_move (v := .int .u64 a1) rfl) ?_
  refine l_val rfl rfl rfl (r_mulW rfl rfl (wr_u64 _)) ?_
  refine l_val rfl rfl rfl (r_assign (v := .int .u64 (wU64 (a0 * a1))) rfl) ?_
  refine l_nil ?_
  refine c_ret ?_
  obtain rfl := Option.some.inj H10
  refine ret2 (v1 := .int .u64 (wU64 ((wU64 ((wU64 (t17 * t21)) + t34)) + t46))) (v2 := .int .u64 (wU64 (a0 * a1))) rfl rfl rfl (fin rfl)
theorem k41 {a0 : Int} {a1 : Int} {r : Int × Int} (H : math_bits_Mul a0 a1 = some r) : Ret Tryd.prog 41 [.int .u64 a0, .int .u64 a1] (.tuple #[.int .u64 r.1, .int .u64 r.2]) := by
  refine enterRet (n := 30) Tryd.func41 rfl rfl rfl (fun wd => ?_)
  refine c_seq ?_
  refine c_region ?_
  refine l_val rfl rfl rfl (r_assign (v := .int .u64 0) rfl) ?_
  refine l_val rfl rfl rfl (r_assign (v := .int .u64 0) rfl) ?_
  refine l_nil ?_
  refine c_seq ?_
  refine c_false rfl ?_
  refine c_skip ?_
  refine c_seq ?_
  refine c_region ?_
  refine l_val rfl rfl rfl (r_move (v := .int .u64 a0) rfl) ?_
  refine l_val rfl rfl rfl (r_move (v := .int .u64 a1) rfl) ?_
  obtain ⟨t25, h_t25, H2⟩ := bnd_some H; clear H
  refine l_call (k53 h_t25) Tryd.call53 rfl rfl rfl ?_
  refine l_val rfl rfl rfl (r_move (v := .tuple #[.int .u64 t25.1, .int .u64 t25.2]) rfl) ?_
  refine l_val rfl rfl rfl (r_extract (v := .int .u64 t25.1) rfl rfl) ?_
  refine l_val rfl rfl rfl (r_extract (v := .int .u64 t25.2) rfl rfl) ?_
  refine l_val rfl rfl rfl (r_assign (v := .int .u64 t25.1) rfl) ?_
  refine l_val rfl rfl rfl (r_assign (v := .int .u64 t25.2) rfl) ?_
  refine l_nil ?_
  refine c_seq ?_
  refine c_region ?_
  refine l_val rfl rfl rfl (r_move (v := .int .u64 t25.1) rfl) ?_
  refine l_val rfl rfl rfl (r_move (v := .int .u64 t25.2) rfl) ?_
  refine l_val rfl rfl rfl (r_assign (v := .int .u64 t25.1) rfl) ?_
  refine l_val rfl rfl rfl (r_assign (v := .int .u64 t25.2) rfl) ?_
  refine l_nil ?_
  refine c_ret ?_
  obtain rfl := Option.some.inj H2
  refine ret2 (v1 := .int .u64 t25.1) (v2 := .int .u64 t25.2) rfl rfl rfl (fin rfl)
theorem k54 {a0 : (List UInt8)} {a1 : (List UInt8)} {r : Bool} (H : internal_stringslite_HasPrefix a0 a1 = some r) : Ret Tryd.prog 54 [str a0, str a1] (.bool r) := by
  refine enterRet (n := 18) Tryd.func54 rfl rfl rfl (fun wd => ?_)
  refine c_seq ?_
  refine c_region ?_
  refine l_val rfl rfl rfl (r_assign (v := .bool false) rfl) ?_
  refine l_nil ?_
  refine c_seq ?_
  refine c_region ?_
  refine l_val rfl rfl rfl (r_move (v := str a0) rfl) ?_
  refine l_val rfl rfl rfl (r_lenT Tryd.underlying9 rfl) ?_
  refine l_val rfl rfl rfl (r_move (v := str a1) rfl) ?_
  refine l_val rfl rfl rfl (r_lenT Tryd.underlying9 rfl) ?_
  refine l_val rfl rfl rfl (r_geq rfl rfl) ?_
  refine l_val rfl rfl rfl (r_move (v := .bool (decide ((a1.length : Int) ≤ (a0.length : Int)))) rfl) ?_
  refine split (fun hb => ?_) (fun hb => ?_)
  · have H4 := cnd_t hb H; clear H
    refine l_val rfl rfl rfl (r_move (v := str a0) rfl) ?_
    refine l_val rfl rfl rfl (r_move (v := str a1) rfl) ?_
    refine l_val rfl rfl rfl (r_lenT Tryd.underlying9 rfl) ?_
    obtain ⟨t14, h_t14, H5⟩ := bnd_some H4; clear H4
    refine l_val rfl rfl rfl (r_cutToG Tryd.underlying9 rfl rfl h_t14) ?_
    refine l_val rfl rfl rfl (r_move (v := str a1) rfl) ?_
    refine l_val rfl rfl rfl (r_eqlT rfl rfl) ?_
    refine l_val rfl rfl rfl (r_pickT (v := .bool (decide (t14 = a1))) rfl rfl) ?_
    refine l_val rfl rfl rfl (r_assign (v := .bool (decide (t14 = a1))) rfl) ?_
    refine l_nil ?_
    refine c_ret ?_
    obtain rfl := Option.some.inj H5
    refine ret1 (v := .bool (decide (t14 = a1))) rfl rfl (fin rfl)
  · have H6 := cnd_f hb H; clear H
    refine l_passed rfl rfl rfl ?_
    refine l_passed rfl rfl rfl ?_
    refine l_passed rfl rfl rfl ?_
    refine l_passed rfl rfl rfl ?_
    refine l_passed rfl rfl rfl ?_
    refine l_passed rfl rfl rfl ?_
    refine l_val rfl rfl rfl (r_pickF (v := .bool false) rfl rfl) ?_
    refine l_val rfl rfl rfl (r_assign (v := .bool false) rfl) ?_
    refine l_nil ?_
    refine c_ret ?_
    obtain rfl := Option.some.inj H6
    refine ret1 (v := .bool false) rfl rfl (fin rfl)
theorem k42 {a0 : (List UInt8)} {a1 : (List UInt8)} {r : Bool} (H : strings_HasPrefix a0 a1 = some r) : Ret Tryd.prog 42 [str a0, str a1] (.bool r) := by
  refine enterRet (n := 8) Tryd.func42 rfl rfl rfl (fun wd => ?_)
  refine c_seq ?_
  refine c_region ?_
  refine l_val rfl rfl rfl (r_assign (v := .bool false) rfl) ?_
  refine l_nil ?_
  refine c_seq ?_
  refine c_region ?_
  refine l_val rfl rfl rfl (r_move (v := str a0) rfl) ?_
  refine l_val rfl rfl rfl (r_move (v := str a1) rfl) ?_
  obtain ⟨t7, h_t7, H2⟩ := bnd_some H; clear H
  refine l_call (k54 h_t7) Tryd.call54 rfl rfl rfl ?_
  refine l_val rfl rfl rfl (r_assign (v := .bool t7) rfl) ?_
  refine l_nil ?_
  refine c_ret ?_
  obtain rfl := Option.some.inj H2
  refine ret1 (v := .bool t7) rfl rfl (fin rfl)
theorem k32 {a0 : (List UInt8)} {a1 : Int} {r : (List UInt8)} (H : strings_Repeat a0 a1 = some r) : Ret Tryd.prog 32 [str a0, .int .i64 a1] (str r) := by
  refine enterRet (n := 125) Tryd.func32 rfl rfl rfl (fun wd => ?_)
  refine c_seq ?_
  refine c_region ?_
  refine l_val rfl rfl rfl (r_assign (v := str []) rfl) ?_
  refine l_nil ?_
  refine c_seq ?_
  refine c_seq ?_
  refine c_region ?_
  refine l_val rfl rfl rfl (r_move (v := .int .i64 a1) rfl) ?_
  refine l_nil ?_
  refine c_block ?_
  refine c_seq ?_
  refine c_region ?_
  refine l_val rfl rfl rfl (r_eql rfl rfl) ?_
  refine l_val rfl rfl rfl (r_assign (v := .bool (decide (a1 = 0))) rfl) ?_
  refine l_nil ?_
  refine c_if (b := (decide (a1 = 0))) rfl (fun hb => ?_) (fun hb => ?_)
  · have H68 := cnd_t hb H; clear H
    refine c_seq ?_
    refine c_region ?_
    refine l_val rfl rfl rfl (r_assign (v := str []) rfl) ?_
    refine l_nil ?_
    refine c_ret ?_
    obtain rfl := Option.some.inj H68
    refine ret1 (v := str []) rfl rfl (fin rfl)
  · have H69 := cnd_f hb H; clear H
    refine c_seq ?_
    refine c_region ?_
    refine l_val rfl rfl rfl (r_eql rfl rfl) ?_
    refine l_val rfl rfl rfl (r_assign (v := .bool (decide (a1 = 1))) rfl) ?_
    refine l_nil ?_
    refine c_if (b := (decide (a1 = 1))) rfl (fun hb => ?_) (fun hb => ?_)
    · have H70 := cnd_t hb H69; clear H69
      refine c_seq ?_
      refine c_region ?_
      refine l_val rfl rfl rfl (r_move (v := str a0) rfl) ?_
      refine l_val rfl rfl rfl (r_assign (v := str a0) rfl) ?_
      refine l_nil ?_
      refine c_ret ?_
      obtain rfl := Option.some.inj H70
      refine ret1 (v := str a0) rfl rfl (fin rfl)
    · have H71 := cnd_f hb H69; clear H69
      refine c_skip ?_
      refine c_seq ?_
      refine c_seq ?_
      refine c_region ?_
      refine l_val rfl rfl rfl (r_move (v := .int .i64 a1) rfl) ?_
      refine l_val rfl rfl rfl (r_lss rfl rfl) ?_
      refine l_nil ?_
      refine c_if (b := (decide (a1 < 0))) rfl (fun hb => ?_) (fun hb => ?_)
      · have H72 := cnd_t hb H71; clear H71
        exact absurd (show (none : Option ((List UInt8))) = some r from H72) (fun h => by cases h)
      · have H73 := cnd_f hb H71; clear H71
        refine c_skip ?_
        refine c_seq ?_
        refine c_region ?_
        refine l_val rfl rfl rfl (r_move (v := str a0) rfl) ?_
        refine l_val rfl rfl rfl (r_lenT Tryd.underlying9 rfl) ?_
        refine l_val rfl rfl rfl (r_convG Tryd.runUnderlying3 Tryd.runUnderlying69 rfl (wr_u64 _)) ?_
        refine l_val rfl rfl rfl (r_move (v := .int .i64 a1) rfl) ?_
        refine l_val rfl rfl rfl (r_convG Tryd.runUnderlying3 Tryd.runUnderlying69 rfl (wr_u64 _)) ?_
        obtain ⟨t26, h_t26, H74⟩ := bnd_some H73; clear H73
        refine l_call (k41 h_t26) Tryd.call41 rfl rfl rfl ?_
        refine l_val rfl rfl rfl (r_move (v := .tuple #[.int .u64 t26.1, .int .u64 t26.2]) rfl) ?_
        refine l_val rfl rfl rfl (r_extract (v := .int .u64 t26.1) rfl rfl) ?_
        refine l_val rfl rfl rfl (r_extract (v := .int .u64 t26.2) rfl rfl) ?_
        refine l_val rfl rfl rfl (r_assign (v := .int .u64 t26.1) rfl) ?_
        refine l_val rfl rfl rfl (r_assign (v := .int .u64 t26.2) rfl) ?_
        refine l_nil ?_
        refine c_seq ?_
        refine c_seq ?_
        refine c_region ?_
        refine l_val rfl rfl rfl (r_move (v := .int .u64 t26.1) rfl) ?_
        refine l_val rfl rfl rfl (r_gtr rfl rfl) ?_
        refine l_val rfl rfl rfl (r_move (v := .bool (decide (0 < t26.1))) rfl) ?_
        refine split (fun hb => ?_) (fun hb => ?_)
        · have H75 := cnd_t hb H74; clear H74
          exact absurd (show (none : Option ((List UInt8))) = some r from H75) (fun h => by cases h)
        · have H76 := cnd_f hb H74; clear H74
          refine l_val rfl rfl rfl (r_move (v := .int .u64 t26.2) rfl) ?_
          refine l_val rfl rfl rfl (r_gtr rfl rfl) ?_
          refine l_val rfl rfl rfl (r_pickF (v := .bool (decide (9223372036854775807 < t26.2))) rfl rfl) ?_
          refine l_nil ?_
          refine c_if (b := (decide (9223372036854775807 < t26.2))) rfl (fun hb => ?_) (fun hb => ?_)
          · have H77 := cnd_t hb H76; clear H76
            exact absurd (show (none : Option ((List UInt8))) = some r from H77) (fun h => by cases h)
          · have H78 := cnd_f hb H76; clear H76
            refine c_skip ?_
            refine c_seq ?_
            refine c_region ?_
            refine l_val rfl rfl rfl (r_move (v := .int .u64 t26.2) rfl) ?_
            refine l_val rfl rfl rfl (r_convG Tryd.runUnderlying69 Tryd.runUnderlying3 rfl (wr_i64 _)) ?_
            refine l_val rfl rfl rfl (r_assign (v := .int .i64 (wI64 t26.2)) rfl) ?_
            refine l_nil ?_
            refine c_seq ?_
            refine c_seq ?_
            refine c_region ?_
            refine l_val rfl rfl rfl (r_move (v := str a0) rfl) ?_
            refine l_val rfl rfl rfl (r_lenT Tryd.underlying9 rfl) ?_
            refine l_val rfl rfl rfl (r_eql rfl rfl) ?_
            refine l_nil ?_
            refine c_if (b := (decide ((a0.length : Int) = 0))) rfl (fun hb => ?_) (fun hb => ?_)
            · have H79 := cnd_t hb H78; clear H78
              refine c_seq ?_
              refine c_region ?_
              refine l_val rfl rfl rfl (r_assign (v := str []) rfl) ?_
              refine l_nil ?_
              refine c_ret ?_
              obtain rfl := Option.some.inj H79
              refine ret1 (v := str []) rfl rfl (fin rfl)
            · have H80 := cnd_f hb H78; clear H78
              refine c_skip ?_
              refine c_meet (r := r) (σ := Unit) (τ := Unit) (fun s => strings_Repeat_j1 a0 t26) (fun s t => [(0, str a0), (7, .int .i64 (wI64 t26.2))]) (fun s t => []) (fun s t => True) ?_ ?_
              · refine c_seq ?_
                refine c_region ?_
                refine l_val rfl rfl rfl (r_move (v := str a0) rfl) ?_
                obtain ⟨t42, h_t42, H89⟩ := bnd_some H80; clear H80
                refine l_val rfl rfl rfl (r_octG Tryd.underlying9 rfl rfl h_t42) ?_
                refine l_nil ?_
                refine c_block ?_
                refine c_meet (r := r) (σ := Bool) (τ := Unit) (fun s => strings_Repeat_j3 a0 t26 s) (fun s t => [(0, str a0), (7, .int .i64 (wI64 t26.2)), (43, .bool s)]) (fun s t => []) (fun s t => True) ?_ ?_
                · refine c_seq ?_
                  refine c_region ?_
                  refine l_val rfl rfl rfl (r_eql rfl rfl) ?_
                  refine l_val rfl rfl rfl (r_assign (v := .bool (decide (t42 = 32))) rfl) ?_
                  refine l_nil ?_
                  refine c_if (b := (decide (t42 = 32))) rfl (fun hb => ?_) (fun hb => ?_)
                  · have H127 := cnd_t hb H89; clear H89
                    refine c_skip ?_
                    refine c_close (decide (t42 = 32)) () 0 [] (by exact ⟨rfl, rfl, rfl, trivial⟩) (by decide) rfl (by exact ⟨H127, trivial⟩) (Nat.lt_succ_self _)
                  · have H128 := cnd_f hb H89; clear H89
                    refine c_seq ?_
                    refine c_region ?_
                    refine l_val rfl rfl rfl (r_eql rfl rfl) ?_
                    refine l_val rfl rfl rfl (r_assign (v := .bool (decide (t42 = 45))) rfl) ?_
                    refine l_nil ?_
                    refine c_if (b := (decide (t42 = 45))) rfl (fun hb => ?_) (fun hb => ?_)
                    · have H129 := cnd_t hb H128; clear H128
                      refine c_skip ?_
                      refine c_close (decide (t42 = 45)) () 0 [] (by exact ⟨rfl, rfl, rfl, trivial⟩) (by decide) rfl (by exact ⟨H129, trivial⟩) (Nat.lt_succ_self _)
                    · have H130 := cnd_f hb H128; clear H128
                      refine c_seq ?_
                      refine c_region ?_
                      refine l_val rfl rfl rfl (r_eql rfl rfl) ?_
                      refine l_val rfl rfl rfl (r_assign (v := .bool (decide (t42 = 48))) rfl) ?_
                      refine l_nil ?_
                      refine c_if (b := (decide (t42 = 48))) rfl (fun hb => ?_) (fun hb => ?_)
                      · have H131 := cnd_t hb H130; clear H130
                        refine c_skip ?_
                        refine c_close (decide (t42 = 48)) () 0 [] (by exact ⟨rfl, rfl, rfl, trivial⟩) (by decide) rfl (by exact ⟨H131, trivial⟩) (Nat.lt_succ_self _)
                      · have H132 := cnd_f hb H130; clear H130
                        refine c_seq ?_
                        refine c_region ?_
                        refine l_val rfl rfl rfl (r_eql rfl rfl) ?_
                        refine l_val rfl rfl rfl (r_assign (v := .bool (decide (t42 = 61))) rfl) ?_
                        refine l_nil ?_
                        refine c_if (b := (decide (t42 = 61))) rfl (fun hb => ?_) (fun hb => ?_)
                        · have H133 := cnd_t hb H132; clear H132
                          refine c_skip ?_
                          refine c_close (decide (t42 = 61)) () 0 [] (by exact ⟨rfl, rfl, rfl, trivial⟩) (by decide) rfl (by exact ⟨H133, trivial⟩) (Nat.lt_succ_self _)
                        · have H134 := cnd_f hb H132; clear H132
                          refine c_region ?_
                          refine l_val rfl rfl rfl (r_eql rfl rfl) ?_
                          refine l_val rfl rfl rfl (r_assign (v := .bool (decide (t42 = 9))) rfl) ?_
                          refine l_nil ?_
                          refine c_close (decide (t42 = 9)) () 0 [] (by exact ⟨rfl, rfl, rfl, trivial⟩) (by decide) rfl (by exact ⟨H134, trivial⟩) (Nat.lt_succ_self _)
                · rintro x43 _ gg H90 _
                  replace H90 : strings_Repeat_j3 a0 t26 x43 = some r := H90
                  refine c_tidyF [(0, str a0), (7, .int .i64 (wI64 t26.2)), (43, .bool x43)] [] rfl rfl ?_
                  refine c_if (b := x43) rfl (fun hb => ?_) (fun hb => ?_)
                  · have H91 := cnd_t hb H90; clear H90
                    refine c_block ?_
                    refine c_meet (r := r) (σ := Bool) (τ := Unit) (fun s => strings_Repeat_j4 a0 t26 s) (fun s t => [(0, str a0), (7, .int .i64 (wI64 t26.2)), (49, .bool s)]) (fun s t => []) (fun s t => True) ?_ ?_
                    · refine c_region ?_
                      refine l_val rfl rfl rfl (r_move (v := .int .i64 (wI64 t26.2)) rfl) ?_
                      refine l_val rfl rfl rfl (r_leq rfl rfl) ?_
                      refine l_val rfl rfl rfl (r_move (v := .bool (decide ((wI64 t26.2) ≤ 128))) rfl) ?_
                      refine split (fun hb => ?_) (fun hb => ?_)
                      · have H123 := cnd_t hb H91; clear H91
                        refine l_val rfl rfl rfl (r_move (v := str a0) rfl) ?_
                        obtain ⟨t54, h_t54, H124⟩ := bnd_some H123; clear H123
                        refine l_call (k42 h_t54) Tryd.call42 rfl rfl rfl ?_
                        refine l_val rfl rfl rfl (r_pickT (v := .bool t54) rfl rfl) ?_
                        refine l_val rfl rfl rfl (r_assign (v := .bool t54) rfl) ?_
                        refine l_nil ?_
                        refine c_close t54 () 0 [] (by exact ⟨rfl, rfl, rfl, trivial⟩) (by decide) rfl (by exact ⟨H124, trivial⟩) (Nat.lt_succ_self _)
                      · have H125 := cnd_f hb H91; clear H91
                        refine l_passed rfl rfl rfl ?_
                        refine l_passed rfl rfl rfl ?_
                        refine l_val rfl rfl rfl (r_pickF (v := .bool false) rfl rfl) ?_
                        refine l_val rfl rfl rfl (r_assign (v := .bool false) rfl) ?_
                        refine l_nil ?_
                        refine c_close false () 0 [] (by exact ⟨rfl, rfl, rfl, trivial⟩) (by decide) rfl (by exact ⟨H125, trivial⟩) (Nat.lt_succ_self _)
                    · rintro x49 _ gg H92 _
                      replace H92 : strings_Repeat_j4 a0 t26 x49 = some r := H92
                      refine c_tidyF [(0, str a0), (7, .int .i64 (wI64 t26.2)), (49, .bool x49)] [] rfl rfl ?_
                      refine c_if (b := x49) rfl (fun hb => ?_) (fun hb => ?_)
                      · have H93 := cnd_t hb H92; clear H92
                        refine c_seq ?_
                        refine c_region ?_
                        refine l_val rfl rfl rfl (r_move (v := .int .i64 (wI64 t26.2)) rfl) ?_
                        obtain ⟨t57, h_t57, H94⟩ := bnd_some H93; clear H93
                        refine l_val rfl rfl rfl (r_cutToG Tryd.underlying9 rfl rfl h_t57) ?_
                        refine l_val rfl rfl rfl (r_assign (v := str t57) rfl) ?_
                        refine l_nil ?_
                        refine c_ret ?_
                        obtain rfl := Option.some.inj H94
                        refine ret1 (v := str t57) rfl rfl (fin rfl)
                      · have H95 := cnd_f hb H92; clear H92
                        refine c_meet (r := r) (σ := Bool) (τ := Unit) (fun s => strings_Repeat_j5 a0 t26 s) (fun s t => [(0, str a0), (7, .int .i64 (wI64 t26.2)), (58, .bool s)]) (fun s t => []) (fun s t => True) ?_ ?_
                        · refine c_region ?_
                          refine l_val rfl rfl rfl (r_move (v := .int .i64 (wI64 t26.2)) rfl) ?_
                          refine l_val rfl rfl rfl (r_leq rfl rfl) ?_
                          refine l_val rfl rfl rfl (r_move (v := .bool (decide ((wI64 t26.2) ≤ 128))) rfl) ?_
                          refine split (fun hb => ?_) (fun hb => ?_)
                          · have H120 := cnd_t hb H95; clear H95
                            refine l_val rfl rfl rfl (r_move (v := str a0) rfl) ?_
                            obtain ⟨t63, h_t63, H121⟩ := bnd_some H120; clear H120
                            refine l_call (k42 h_t63) Tryd.call42 rfl rfl rfl ?_
                            refine l_val rfl rfl rfl (r_pickT (v := .bool t63) rfl rfl) ?_
                            refine l_val rfl rfl rfl (r_assign (v := .bool t63) rfl) ?_
                            refine l_nil ?_
                            refine c_close t63 () 0 [] (by exact ⟨rfl, rfl, rfl, trivial⟩) (by decide) rfl (by exact ⟨H121, trivial⟩) (Nat.lt_succ_self _)
                          · have H122 := cnd_f hb H95; clear H95
                            refine l_passed rfl rfl rfl ?_
                            refine l_passed rfl rfl rfl ?_
                            refine l_val rfl rfl rfl (r_pickF (v := .bool false) rfl rfl) ?_
                            refine l_val rfl rfl rfl (r_assign (v := .bool false) rfl) ?_
                            refine l_nil ?_
                            refine c_close false () 0 [] (by exact ⟨rfl, rfl, rfl, trivial⟩) (by decide) rfl (by exact ⟨H122, trivial⟩) (Nat.lt_succ_self _)
                        · rintro x58 _ gg H96 _
                          replace H96 : strings_Repeat_j5 a0 t26 x58 = some r := H96
                          refine c_tidyF [(0, str a0), (7, .int .i64 (wI64 t26.2)), (58, .bool x58)] [] rfl rfl ?_
                          refine c_if (b := x58) rfl (fun hb => ?_) (fun hb => ?_)
                          · have H97 := cnd_t hb H96; clear H96
                            refine c_seq ?_
                            refine c_region ?_
                            refine l_val rfl rfl rfl (r_move (v := .int .i64 (wI64 t26.2)) rfl) ?_
                            obtain ⟨t66, h_t66, H98⟩ := bnd_some H97; clear H97
                            refine l_val rfl rfl rfl (r_cutToG Tryd.underlying9 rfl rfl h_t66) ?_
                            refine l_val rfl rfl rfl (r_assign (v := str t66) rfl) ?_
                            refine l_nil ?_
                            refine c_ret ?_
                            obtain rfl := Option.some.inj H98
                            refine ret1 (v := str t66) rfl rfl (fin rfl)
                          · have H99 := cnd_f hb H96; clear H96
                            refine c_meet (r := r) (σ := Bool) (τ := Unit) (fun s => strings_Repeat_j6 a0 t26 s) (fun s t => [(0, str a0), (7, .int .i64 (wI64 t26.2)), (67, .bool s)]) (fun s t => []) (fun s t => True) ?_ ?_
                            · refine c_region ?_
                              refine l_val rfl rfl rfl (r_move (v := .int .i64 (wI64 t26.2)) rfl) ?_
                              refine l_val rfl rfl rfl (r_leq rfl rfl) ?_
                              refine l_val rfl rfl rfl (r_move (v := .bool (decide ((wI64 t26.2) ≤ 64))) rfl) ?_
                              refine split (fun hb => ?_) (fun hb => ?_)
                              · have H117 := cnd_t hb H99; clear H99
                                refine l_val rfl rfl rfl (r_move (v := str a0) rfl) ?_
                                obtain ⟨t72, h_t72, H118⟩ := bnd_some H117; clear H117
                                refine l_call (k42 h_t72) Tryd.call42 rfl rfl rfl ?_
                                refine l_val rfl rfl rfl (r_pickT (v := .bool t72) rfl rfl) ?_
                                refine l_val rfl rfl rfl (r_assign (v := .bool t72) rfl) ?_
                                refine l_nil ?_
                                refine c_close t72 () 0 [] (by exact ⟨rfl, rfl, rfl, trivial⟩) (by decide) rfl (by exact ⟨H118, trivial⟩) (Nat.lt_succ_self _)
                              · have H119 := cnd_f hb H99; clear H99
                                refine l_passed rfl rfl rfl ?_
                                refine l_passed rfl rfl rfl ?_
                                refine l_val rfl rfl rfl (r_pickF (v := .bool false) rfl rfl) ?_
                                refine l_val rfl rfl rfl (r_assign (v := .bool false) rfl) ?_
                                refine l_nil ?_
                                refine c_close false () 0 [] (by exact ⟨rfl, rfl, rfl, trivial⟩) (by decide) rfl (by exact ⟨H119, trivial⟩) (Nat.lt_succ_self _)
                            · rintro x67 _ gg H100 _
                              replace H100 : strings_Repeat_j6 a0 t26 x67 = some r := H100
                              refine c_tidyF [(0, str a0), (7, .int .i64 (wI64 t26.2)), (67, .bool x67)] [] rfl rfl ?_
                              refine c_if (b := x67) rfl (fun hb => ?_) (fun hb => ?_)
                              · have H101 := cnd_t hb H100; clear H100
                                refine c_seq ?_
                                refine c_region ?_
                                refine l_val rfl rfl rfl (r_move (v := .int .i64 (wI64 t26.2)) rfl) ?_
                                obtain ⟨t75, h_t75, H102⟩ := bnd_some H101; clear H101
                                refine l_val rfl rfl rfl (r_cutToG Tryd.underlying9 rfl rfl h_t75) ?_
                                refine l_val rfl rfl rfl (r_assign (v := str t75) rfl) ?_
                                refine l_nil ?_
                                refine c_ret ?_
                                obtain rfl := Option.some.inj H102
                                refine ret1 (v := str t75) rfl rfl (fin rfl)
                              · have H103 := cnd_f hb H100; clear H100
                                refine c_meet (r := r) (σ := Bool) (τ := Unit) (fun s => strings_Repeat_j7 a0 t26 s) (fun s t => [(0, str a0), (7, .int .i64 (wI64 t26.2)), (76, .bool s)]) (fun s t => []) (fun s t => True) ?_ ?_
                                · refine c_region ?_
                                  refine l_val rfl rfl rfl (r_move (v := .int .i64 (wI64 t26.2)) rfl) ?_
                                  refine l_val rfl rfl rfl (r_leq rfl rfl) ?_
                                  refine l_val rfl rfl rfl (r_move (v := .bool (decide ((wI64 t26.2) ≤ 128))) rfl) ?_
                                  refine split (fun hb => ?_) (fun hb => ?_)
                                  · have H114 := cnd_t hb H103; clear H103
                                    refine l_val rfl rfl rfl (r_move (v := str a0) rfl) ?_
                                    obtain ⟨t81, h_t81, H115⟩ := bnd_some H114; clear H114
                                    refine l_call (k42 h_t81) Tryd.call42 rfl rfl rfl ?_
                                    refine l_val rfl rfl rfl (r_pickT (v := .bool t81) rfl rfl) ?_
                                    refine l_val rfl rfl rfl (r_assign (v := .bool t81) rfl) ?_
                                    refine l_nil ?_
                                    refine c_close t81 () 0 [] (by exact ⟨rfl, rfl, rfl, trivial⟩) (by decide) rfl (by exact ⟨H115, trivial⟩) (Nat.lt_succ_self _)
                                  · have H116 := cnd_f hb H103; clear H103
                                    refine l_passed rfl rfl rfl ?_
                                    refine l_passed rfl rfl rfl ?_
                                    refine l_val rfl rfl rfl (r_pickF (v := .bool false) rfl rfl) ?_
                                    refine l_val rfl rfl rfl (r_assign (v := .bool false) rfl) ?_
                                    refine l_nil ?_
                                    refine c_close false () 0 [] (by exact ⟨rfl, rfl, rfl, trivial⟩) (by decide) rfl (by exact ⟨H116, trivial⟩) (Nat.lt_succ_self _)
                                · rintro x76 _ gg H104 _
                                  replace H104 : strings_Repeat_j7 a0 t26 x76 = some r := H104
                                  refine c_tidyF [(0, str a0), (7, .int .i64 (wI64 t26.2)), (76, .bool x76)] [] rfl rfl ?_
                                  refine c_if (b := x76) rfl (fun hb => ?_) (fun hb => ?_)
                                  · have H105 := cnd_t hb H104; clear H104
                                    refine c_seq ?_
                                    refine c_region ?_
                                    refine l_val rfl rfl rfl (r_move (v := .int .i64 (wI64 t26.2)) rfl) ?_
                                    obtain ⟨t84, h_t84, H106⟩ := bnd_some H105; clear H105
                                    refine l_val rfl rfl rfl (r_cutToG Tryd.underlying9 rfl rfl h_t84) ?_
                                    refine l_val rfl rfl rfl (r_assign (v := str t84) rfl) ?_
                                    refine l_nil ?_
                                    refine c_ret ?_
                                    obtain rfl := Option.some.inj H106
                                    refine ret1 (v := str t84) rfl rfl (fin rfl)
                                  · have H107 := cnd_f hb H104; clear H104
                                    refine c_seq ?_
                                    refine c_region ?_
                                    refine l_val rfl rfl rfl (r_move (v := .int .i64 (wI64 t26.2)) rfl) ?_
                                    refine l_val rfl rfl rfl (r_leq rfl rfl) ?_
                                    refine l_val rfl rfl rfl (r_move (v := .bool (decide ((wI64 t26.2) ≤ 64))) rfl) ?_
                                    refine split (fun hb => ?_) (fun hb => ?_)
                                    · have H108 := cnd_t hb H107; clear H107
                                      refine l_val rfl rfl rfl (r_move (v := str a0) rfl) ?_
                                      obtain ⟨t90, h_t90, H109⟩ := bnd_some H108; clear H108
                                      refine l_call (k42 h_t90) Tryd.call42 rfl rfl rfl ?_
                                      refine l_val rfl rfl rfl (r_pickT (v := .bool t90) rfl rfl) ?_
                                      refine l_val rfl rfl rfl (r_assign (v := .bool t90) rfl) ?_
                                      refine l_nil ?_
                                      refine c_if (b := t90) rfl (fun hb => ?_) (fun hb => ?_)
                                      · have H110 := cnd_t hb H109; clear H109
                                        refine c_seq ?_
                                        refine c_region ?_
                                        refine l_val rfl rfl rfl (r_move (v := .int .i64 (wI64 t26.2)) rfl) ?_
                                        obtain ⟨t93, h_t93, H111⟩ := bnd_some H110; clear H110
                                        refine l_val rfl rfl rfl (r_cutToG Tryd.underlying9 rfl rfl h_t93) ?_
                                        refine l_val rfl rfl rfl (r_assign (v := str t93) rfl) ?_
                                        refine l_nil ?_
                                        refine c_ret ?_
                                        obtain rfl := Option.some.inj H111
                                        refine ret1 (v := str t93) rfl rfl (fin rfl)
                                      · have H112 := cnd_f hb H109; clear H109
                                        refine c_skip ?_
                                        refine c_close () () 0 [] (by exact ⟨rfl, rfl, trivial⟩) (by decide) rfl (by exact ⟨H112, trivial⟩) (Nat.lt_succ_self _)
                                    · have H113 := cnd_f hb H107; clear H107
                                      refine l_passed rfl rfl rfl ?_
                                      refine l_passed rfl rfl rfl ?_
                                      refine l_val rfl rfl rfl (r_pickF (v := .bool false) rfl rfl) ?_
                                      refine l_val rfl rfl rfl (r_assign (v := .bool false) rfl) ?_
                                      refine l_nil ?_
                                      refine c_false rfl ?_
                                      refine c_skip ?_
                                      refine c_close () () 0 [] (by exact ⟨rfl, rfl, trivial⟩) (by decide) rfl (by exact ⟨H113, trivial⟩) (Nat.lt_succ_self _)
                  · have H126 := cnd_f hb H90; clear H90
                    refine c_skip ?_
                    refine c_close () () 0 [] (by exact ⟨rfl, rfl, trivial⟩) (by decide) rfl (by exact ⟨H126, trivial⟩) (Nat.lt_succ_self _)
              · rintro _ _ gg H81 _
                replace H81 : strings_Repeat_j1 a0 t26 = some r := H81
                refine c_tidyF [(0, str a0), (7, .int .i64 (wI64 t26.2))] [] rfl rfl ?_
                refine c_seq ?_
                refine c_region ?_
                refine l_val rfl rfl rfl (r_move (v := .int .i64 (wI64 t26.2)) rfl) ?_
                refine l_val rfl rfl rfl (r_assign (v := .int .i64 (wI64 t26.2)) rfl) ?_
                refine l_nil ?_
                refine c_meet (r := r) (σ := Int) (τ := Unit) (fun s => strings_Repeat_j2 s) (fun s t => [(0, str a0), (7, .int .i64 (wI64 t26.2)), (8, .int .i64 s)]) (fun s t => []) (fun s t => True) ?_ ?_
                · refine c_seq ?_
                  refine c_region ?_
                  refine l_val rfl rfl rfl (r_move (v := .int .i64 (wI64 t26.2)) rfl) ?_
                  refine l_val rfl rfl rfl (r_gtr rfl rfl) ?_
                  refine l_nil ?_
                  refine c_if (b := (decide (8192 < (wI64 t26.2)))) rfl (fun hb => ?_) (fun hb => ?_)
                  · have H83 := cnd_t hb H81; clear H81
                    refine c_seq ?_
                    refine c_region ?_
                    refine l_val rfl rfl rfl (r_move (v := str a0) rfl) ?_
                    refine l_val rfl rfl rfl (r_lenT Tryd.underlying9 rfl) ?_
                    obtain ⟨t99, h_t99, H84⟩ := bnd_some H83; clear H83
                    refine l_val rfl rfl rfl (r_quoG rfl rfl h_t99) ?_
                    refine l_val rfl rfl rfl (r_move (v := str a0) rfl) ?_
                    refine l_val rfl rfl rfl (r_lenT Tryd.underlying9 rfl) ?_
                    obtain ⟨t102, h_t102, H85⟩ := bnd_some H84; clear H84
                    refine l_val rfl rfl rfl (r_mulG rfl rfl h_t102) ?_
                    refine l_val rfl rfl rfl (r_assign (v := .int .i64 t102) rfl) ?_
                    refine l_nil ?_
                    refine c_seq ?_
                    refine c_region ?_
                    refine l_val rfl rfl rfl (r_move (v := .int .i64 t102) rfl) ?_
                    refine l_val rfl rfl rfl (r_eql rfl rfl) ?_
                    refine l_nil ?_
                    refine c_if (b := (decide (t102 = 0))) rfl (fun hb => ?_) (fun hb => ?_)
                    · have H86 := cnd_t hb H85; clear H85
                      refine c_region ?_
                      refine l_val rfl rfl rfl (r_move (v := str a0) rfl) ?_
                      refine l_val rfl rfl rfl (r_lenT Tryd.underlying9 rfl) ?_
                      refine l_val rfl rfl rfl (r_assign (v := .int .i64 (a0.length : Int)) rfl) ?_
                      refine l_nil ?_
                      refine c_close (a0.length : Int) () 0 [] (by exact ⟨rfl, rfl, rfl, trivial⟩) (by decide) rfl (by exact ⟨H86, trivial⟩) (Nat.lt_succ_self _)
                    · have H87 := cnd_f hb H85; clear H85
                      refine c_skip ?_
                      refine c_close t102 () 0 [] (by exact ⟨rfl, rfl, rfl, trivial⟩) (by decide) rfl (by exact ⟨H87, trivial⟩) (Nat.lt_succ_self _)
                  · have H88 := cnd_f hb H81; clear H81
                    refine c_skip ?_
                    refine c_close (wI64 t26.2) () 0 [] (by exact ⟨rfl, rfl, rfl, trivial⟩) (by decide) rfl (by exact ⟨H88, trivial⟩) (Nat.lt_succ_self _)
                · rintro x8 _ gg H82 _
                  replace H82 : strings_Repeat_j2 x8 = some r := H82
                  refine c_tidyF [(0, str a0), (7, .int .i64 (wI64 t26.2)), (8, .int .i64 x8)] [] rfl rfl ?_
                  exact absurd (show (none : Option ((List UInt8))) = some r from H82) (fun h => by cases h)
theorem k25 {a0 : Int} {r : (List UInt8)} (H : where_degrees a0 = some r) : Ret Tryd.prog 25 [.int .i64 a0] (str r) := by
  refine enterRet (n := 25) Tryd.func25 rfl rfl rfl (fun wd => ?_)
  refine c_seq ?_
  refine c_region ?_
  refine l_val rfl rfl rfl (r_assign (v := str []) rfl) ?_
  refine l_nil ?_
  refine c_seq ?_
  refine c_region ?_
  refine l_val rfl rfl rfl (r_assign (v := str []) rfl) ?_
  refine l_nil ?_
  refine c_meet (r := r) (σ := Int × (List UInt8)) (τ := Unit) (fun s => where_degrees_j1 s.1 s.2) (fun s t => [(0, .int .i64 s.1), (3, str s.2)]) (fun s t => []) (fun s t => True) ?_ ?_
  · refine c_seq ?_
    refine c_region ?_
    refine l_val rfl rfl rfl (r_move (v := .int .i64 a0) rfl) ?_
    refine l_val rfl rfl rfl (r_lss rfl rfl) ?_
    refine l_nil ?_
    refine c_if (b := (decide (a0 < 0))) rfl (fun hb => ?_) (fun hb => ?_)
    · have H26 := cnd_t hb H; clear H
      refine c_region ?_
      refine l_val rfl rfl rfl (r_move (v := .int .i64 a0) rfl) ?_
      obtain ⟨t8, h_t8, H27⟩ := bnd_some H26; clear H26
      refine l_val rfl rfl rfl (r_negG rfl h_t8) ?_
      refine l_val rfl rfl rfl (r_assign (v := str [45]) rfl) ?_
      refine l_val rfl rfl rfl (r_assign (v := .int .i64 t8) rfl) ?_
      refine l_nil ?_
      refine c_close (t8, [45]) () 0 [] (by exact ⟨rfl, rfl, trivial⟩) (by decide) rfl (by exact ⟨H27, trivial⟩) (Nat.lt_succ_self _)
    · have H28 := cnd_f hb H; clear H
      refine c_skip ?_
      refine c_close (a0, []) () 0 [] (by exact ⟨rfl, rfl, trivial⟩) (by decide) rfl (by exact ⟨H28, trivial⟩) (Nat.lt_succ_self _)
  · rintro ⟨x0, x3⟩ _ gg H15 _
    replace H15 : where_degrees_j1 x0 x3 = some r := H15
    refine c_tidyF [(0, .int .i64 x0), (3, str x3)] [] rfl rfl ?_
    refine c_seq ?_
    refine c_region ?_
    refine l_val rfl rfl rfl (r_move (v := .int .i64 x0) rfl) ?_
    obtain ⟨t10, h_t10, H16⟩ := bnd_some H15; clear H15
    refine l_val rfl rfl rfl (r_remG rfl rfl h_t10) ?_
    obtain ⟨t11, h_t11, H17⟩ := bnd_some H16; clear H16
    refine l_call (k31 h_t11) Tryd.call31 rfl rfl rfl ?_
    refine l_val rfl rfl rfl (r_assign (v := str t11) rfl) ?_
    refine l_nil ?_
    refine c_seq ?_
    refine c_region ?_
    refine l_val rfl rfl rfl (r_move (v := str x3) rfl) ?_
    refine l_val rfl rfl rfl (r_move (v := .int .i64 x0) rfl) ?_
    obtain ⟨t14, h_t14, H18⟩ := bnd_some H17; clear H17
    refine l_val rfl rfl rfl (r_quoG rfl rfl h_t14) ?_
    obtain ⟨t15, h_t15, H19⟩ := bnd_some H18; clear H18
    refine l_call (k31 h_t15) Tryd.call31 rfl rfl rfl ?_
    obtain ⟨t16, h_t16, H20⟩ := bnd_some H19; clear H19
    refine l_val rfl rfl rfl (r_concatG rfl rfl h_t16) ?_
    obtain ⟨t17, h_t17, H21⟩ := bnd_some H20; clear H20
    refine l_val rfl rfl rfl (r_concatG rfl rfl h_t17) ?_
    refine l_val rfl rfl rfl (r_move (v := str t11) rfl) ?_
    refine l_val rfl rfl rfl (r_lenT Tryd.underlying9 rfl) ?_
    obtain ⟨t20, h_t20, H22⟩ := bnd_some H21; clear H21
    refine l_val rfl rfl rfl (r_subG rfl rfl h_t20) ?_
    obtain ⟨t21, h_t21, H23⟩ := bnd_some H22; clear H22
    refine l_call (k32 h_t21) Tryd.call32 rfl rfl rfl ?_
    obtain ⟨t22, h_t22, H24⟩ := bnd_some H23; clear H23
    refine l_val rfl rfl rfl (r_concatG rfl rfl h_t22) ?_
    refine l_val rfl rfl rfl (r_move (v := str t11) rfl) ?_
    obtain ⟨t24, h_t24, H25⟩ := bnd_some H24; clear H24
    refine l_val rfl rfl rfl (r_concatG rfl rfl h_t24) ?_
    refine l_val rfl rfl rfl (r_assign (v := str t24) rfl) ?_
    refine l_nil ?_
    refine c_ret ?_
    obtain rfl := Option.some.inj H25
    refine ret1 (v := str t24) rfl rfl (fin rfl)
theorem k12 {a0 : T_api_Place} {r : (List UInt8) × Int} (H : where_PlaceText a0 = some r) : Ret Tryd.prog 12 [.agg #[.int .i64 a0.Lat, .int .i64 a0.Lon]] (.tuple #[str r.1, .int .i64 r.2]) := by
  refine enterRet (n := 18) Tryd.func12 rfl rfl rfl (fun wd => ?_)
  refine c_seq ?_
  refine c_region ?_
  refine l_box (cs := [.int .i64 a0.Lat, .int .i64 a0.Lon]) rfl rfl rfl rfl (fun b1 => ?_)
  refine l_val rfl rfl rfl (r_assign (v := str []) rfl) ?_
  refine l_val rfl rfl rfl (r_assign (v := .int .i64 0) rfl) ?_
  refine l_nil ?_
  refine c_seq ?_
  refine c_seq ?_
  refine c_region ?_
  refine l_loadN (i := 0) (vs := [.int .i64 a0.Lat, .int .i64 a0.Lon]) Tryd.isAgg25 Tryd.sizeOf25 rfl rfl rfl rfl rfl ?_
  obtain ⟨t6, h_t6, H8⟩ := bnd_some H; clear H
  refine l_call (k21 h_t6) Tryd.call21 rfl rfl rfl ?_
  refine l_val rfl rfl rfl (r_assign (v := .int .i64 t6) rfl) ?_
  refine l_nil ?_
  refine c_seq ?_
  refine c_region ?_
  refine l_val rfl rfl rfl (r_move (v := .int .i64 t6) rfl) ?_
  refine l_val rfl rfl rfl (r_neq rfl rfl) ?_
  refine l_nil ?_
  refine c_if (b := (decide (t6 ≠ 0))) rfl (fun hb => ?_) (fun hb => ?_)
  · have H9 := cnd_t hb H8; clear H8
    refine c_seq ?_
    refine c_region ?_
    refine l_val rfl rfl rfl (r_move (v := .int .i64 t6) rfl) ?_
    refine l_val rfl rfl rfl (r_assign (v := str []) rfl) ?_
    refine l_val rfl rfl rfl (r_assign (v := .int .i64 t6) rfl) ?_
    refine l_nil ?_
    refine c_ret ?_
    obtain rfl := Option.some.inj H9
    refine ret2 (v1 := str []) (v2 := .int .i64 t6) rfl rfl rfl (fin rfl)
  · have H10 := cnd_f hb H8; clear H8
    refine c_skip ?_
    refine c_seq ?_
    exact c_regionD (Kd.p :: Kd.d [0] _ :: Kd.d [] _ :: Kd.p :: Kd.p :: Kd.d [0] _ :: Kd.d [] _ :: Kd.p :: Kd.p :: Kd.p :: []) 0 mixed (by
      refine d_val rfl rfl (r_field Tryd.runUnderlying25 rfl Tryd.sizeOf3 rfl rfl) ?_
      refine d_load1 (i := 0) (v := .int .i64 a0.Lat) Tryd.isAgg3 rfl rfl rfl rfl ?_
      have h_t12 := bnd_val H10
      have H11 := bnd_rest H10
      refine d_call (k25 h_t12) Tryd.call25 rfl rfl ?_
      have h_t13 := bnd_val H11
      have H12 := bnd_rest H11
      refine d_val rfl rfl (r_concatG rfl rfl h_t13) ?_
      refine d_val rfl rfl (r_field Tryd.runUnderlying25 rfl Tryd.sizeOf3 rfl rfl) ?_
      refine d_load1 (i := 0) (v := .int .i64 a0.Lon) Tryd.isAgg3 rfl rfl rfl rfl ?_
      have h_t16 := bnd_val H12
      have H13 := bnd_rest H12
      refine d_call (k25 h_t16) Tryd.call25 rfl rfl ?_
      have h_t17 := bnd_val H13
      have H14 := bnd_rest H13
      refine d_val rfl rfl (r_concatG rfl rfl h_t17) ?_
      refine d_val rfl rfl (r_assign (v := str (val (gCat (val (gCat (val (where_degrees a0.Lat)) [32])) (val (where_degrees a0.Lon))))) rfl) ?_
      refine d_val rfl rfl (r_assign (v := .int .i64 0) rfl) ?_
      refine d_nil ?_
      refine c_ret ?_
      obtain rfl := Option.some.inj H14
      refine ret2 (v1 := str (val (gCat (val (gCat (val (where_degrees a0.Lat)) [32])) (val (where_degrees a0.Lon))))) (v2 := .int .i64 0) rfl rfl rfl (fin rfl)
      ) (by kernel_rfl)
theorem k4 {r : Bool} (H : Keep_awakeWhere = some r) : Ret Tryd.prog 4 [] (.bool r) := by
  refine enterRet (n := 14) Tryd.func4 rfl rfl rfl (fun wd => ?_)
  refine c_seq ?_
  refine c_region ?_
  refine l_val rfl rfl rfl (r_assign (v := .bool false) rfl) ?_
  refine l_nil ?_
  refine c_seq ?_
  refine c_region ?_
  refine l_val rfl rfl rfl (r_build (pl := #[(0, 1), (1, 1)]) (ps := []) (cells := #[.int .i64 0, .int .i64 0]) Tryd.zeroValue25 Tryd.runUnderlying25 (fun w => by kernel_rfl) rfl rfl) ?_
  obtain ⟨t5, h_t5, H4⟩ := bnd_some H; clear H
  refine l_call (k12 h_t5) Tryd.call12 rfl rfl rfl ?_
  refine l_val rfl rfl rfl (r_move (v := .tuple #[str t5.1, .int .i64 t5.2]) rfl) ?_
  refine l_val rfl rfl rfl (r_extract (v := str t5.1) rfl rfl) ?_
  refine l_val rfl rfl rfl (r_extract (v := .int .i64 t5.2) rfl rfl) ?_
  refine l_val rfl rfl rfl (r_assign (v := str t5.1) rfl) ?_
  refine l_val rfl rfl rfl (r_assign (v := .int .i64 t5.2) rfl) ?_
  refine l_nil ?_
  refine c_seq ?_
  refine c_region ?_
  refine l_val rfl rfl rfl (r_move (v := .int .i64 t5.2) rfl) ?_
  refine l_val rfl rfl rfl (r_eql rfl rfl) ?_
  refine l_val rfl rfl rfl (r_move (v := .bool (decide (t5.2 = 0))) rfl) ?_
  refine split (fun hb => ?_) (fun hb => ?_)
  · have H5 := cnd_t hb H4; clear H4
    refine l_val rfl rfl rfl (r_move (v := str t5.1) rfl) ?_
    refine l_val rfl rfl rfl (r_eqlT rfl rfl) ?_
    refine l_val rfl rfl rfl (r_pickT (v := .bool (decide (t5.1 = [48, 46, 48, 48, 48, 48, 48, 48, 32, 48, 46, 48, 48, 48, 48, 48, 48]))) rfl rfl) ?_
    refine l_val rfl rfl rfl (r_assign (v := .bool (decide (t5.1 = [48, 46, 48, 48, 48, 48, 48, 48, 32, 48, 46, 48, 48, 48, 48, 48, 48]))) rfl) ?_
    refine l_nil ?_
    refine c_ret ?_
    obtain rfl := Option.some.inj H5
    refine ret1 (v := .bool (decide (t5.1 = [48, 46, 48, 48, 48, 48, 48, 48, 32, 48, 46, 48, 48, 48, 48, 48, 48]))) rfl rfl (fin rfl)
  · have H6 := cnd_f hb H4; clear H4
    refine l_passed rfl rfl rfl ?_
    refine l_passed rfl rfl rfl ?_
    refine l_val rfl rfl rfl (r_pickF (v := .bool false) rfl rfl) ?_
    refine l_val rfl rfl rfl (r_assign (v := .bool false) rfl) ?_
    refine l_nil ?_
    refine c_ret ?_
    obtain rfl := Option.some.inj H6
    refine ret1 (v := .bool false) rfl rfl (fin rfl)
end Go.Proofs.YtfgehlmdcllclabDoor
