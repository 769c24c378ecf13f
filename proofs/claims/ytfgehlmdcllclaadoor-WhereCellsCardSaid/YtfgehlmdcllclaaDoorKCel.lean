/- WhereCells: the walks, printed by our generator; each follows its model. Conditions: the model yields a value. -/
import Derived.Test.YtfgehlmdcllclaaDoorKTrm
namespace Go.Proofs.YtfgehlmdcllclaaDoor
open Go Go.Vc Go.Md Go.M Go.Lx
set_option maxRecDepth 100000
set_option maxHeartbeats 4000000
set_option linter.unusedVariables false

theorem k10 {a0 : (List UInt8)} {a1 : Int} {a2 : (List UInt8)} {a3 : Int} {r : Bool} (H : Law_told_string a0 a1 a2 a3 = some r) : Ret Tryd.prog 10 [str a0, .int .i64 a1, str a2, .int .i64 a3] (.bool r) := by
  refine enterRet (n := 21) Tryd.func10 rfl rfl rfl (fun wd => ?_)
  refine c_seq ?_
  refine c_region ?_
  refine l_val rfl rfl rfl (r_assign (v := .bool false) rfl) ?_
  refine l_nil ?_
  refine c_seq ?_
  refine c_region ?_
  refine l_val rfl rfl rfl (r_assign (v := str []) rfl) ?_
  refine l_nil ?_
  refine c_meet (r := r) (σ := (List UInt8)) (τ := Unit) (fun s => Law_told_string_j1 a0 a1 a3 s) (fun s t => [(0, str a0), (1, .int .i64 a1), (2, str s), (3, .int .i64 a3)]) (fun s t => []) (fun s t => True) ?_ ?_
  · refine c_seq ?_
    refine c_region ?_
    refine l_val rfl rfl rfl (r_move (v := .int .i64 a3) rfl) ?_
    refine l_val rfl rfl rfl (r_neq rfl rfl) ?_
    refine l_nil ?_
    refine c_if (b := (decide (a3 ≠ 0))) rfl (fun hb => ?_) (fun hb => ?_)
    · have H9 := cnd_t hb H; clear H
      refine c_region ?_
      refine l_val rfl rfl rfl (r_move (v := str []) rfl) ?_
      refine l_val rfl rfl rfl (r_assign (v := str []) rfl) ?_
      refine l_nil ?_
      refine c_close [] () 0 [] (by exact ⟨rfl, rfl, rfl, rfl, trivial⟩) (by decide) rfl (by exact ⟨H9, trivial⟩) (Nat.lt_succ_self _)
    · have H10 := cnd_f hb H; clear H
      refine c_skip ?_
      refine c_close a2 () 0 [] (by exact ⟨rfl, rfl, rfl, rfl, trivial⟩) (by decide) rfl (by exact ⟨H10, trivial⟩) (Nat.lt_succ_self _)
  · rintro x2 _ gg H6 _
    replace H6 : Law_told_string_j1 a0 a1 a3 x2 = some r := H6
    refine c_tidyF [(0, str a0), (1, .int .i64 a1), (2, str x2), (3, .int .i64 a3)] [] rfl rfl ?_
    refine c_seq ?_
    refine c_region ?_
    refine l_val rfl rfl rfl (r_move (v := str a0) rfl) ?_
    refine l_val rfl rfl rfl (r_move (v := str x2) rfl) ?_
    refine l_val rfl rfl rfl (r_eqlT rfl rfl) ?_
    refine l_val rfl rfl rfl (r_move (v := .bool (decide (a0 = x2))) rfl) ?_
    refine split (fun hb => ?_) (fun hb => ?_)
    · have H7 := cnd_t hb H6; clear H6
      refine l_val rfl rfl rfl (r_move (v := .int .i64 a1) rfl) ?_
      refine l_val rfl rfl rfl (r_move (v := .int .i64 a3) rfl) ?_
      refine l_val rfl rfl rfl (r_eql rfl rfl) ?_
      refine l_val rfl rfl rfl (r_pickT (v := .bool (decide (a1 = a3))) rfl rfl) ?_
      refine l_val rfl rfl rfl (r_assign (v := .bool (decide (a1 = a3))) rfl) ?_
      refine l_nil ?_
      refine c_ret ?_
      obtain rfl := Option.some.inj H7
      refine ret1 (v := .bool (decide (a1 = a3))) rfl rfl (fin rfl)
    · have H8 := cnd_f hb H6; clear H6
      refine l_passed rfl rfl rfl ?_
      refine l_passed rfl rfl rfl ?_
      refine l_passed rfl rfl rfl ?_
      refine l_val rfl rfl rfl (r_pickF (v := .bool false) rfl rfl) ?_
      refine l_val rfl rfl rfl (r_assign (v := .bool false) rfl) ?_
      refine l_nil ?_
      refine c_ret ?_
      obtain rfl := Option.some.inj H8
      refine ret1 (v := .bool false) rfl rfl (fin rfl)
theorem k38 {a0 : Int} {a1 : Int} {a2 : Int} {r : Bool} (H : where_outside a0 a1 a2 = some r) : Ret Tryd.prog 38 [.int .i64 a0, .int .i64 a1, .int .i64 a2] (.bool r) := by
  refine enterRet (n := 15) Tryd.func38 rfl rfl rfl (fun wd => ?_)
  refine c_seq ?_
  refine c_region ?_
  refine l_val rfl rfl rfl (r_assign (v := .bool false) rfl) ?_
  refine l_nil ?_
  refine c_seq ?_
  refine c_region ?_
  refine l_val rfl rfl rfl (r_move (v := .int .i64 a0) rfl) ?_
  refine l_val rfl rfl rfl (r_move (v := .int .i64 a1) rfl) ?_
  refine l_val rfl rfl rfl (r_lss rfl rfl) ?_
  refine l_val rfl rfl rfl (r_move (v := .bool (decide (a0 < a1))) rfl) ?_
  refine split (fun hb => ?_) (fun hb => ?_)
  · have H3 := cnd_t hb H; clear H
    refine l_passed rfl rfl rfl ?_
    refine l_passed rfl rfl rfl ?_
    refine l_passed rfl rfl rfl ?_
    refine l_val rfl rfl rfl (r_pickT (v := .bool true) rfl rfl) ?_
    refine l_val rfl rfl rfl (r_assign (v := .bool true) rfl) ?_
    refine l_nil ?_
    refine c_ret ?_
    obtain rfl := Option.some.inj H3
    refine ret1 (v := .bool true) rfl rfl (fin rfl)
  · have H4 := cnd_f hb H; clear H
    refine l_val rfl rfl rfl (r_move (v := .int .i64 a0) rfl) ?_
    refine l_val rfl rfl rfl (r_move (v := .int .i64 a2) rfl) ?_
    refine l_val rfl rfl rfl (r_gtr rfl rfl) ?_
    refine l_val rfl rfl rfl (r_pickF (v := .bool (decide (a2 < a0))) rfl rfl) ?_
    refine l_val rfl rfl rfl (r_assign (v := .bool (decide (a2 < a0))) rfl) ?_
    refine l_nil ?_
    refine c_ret ?_
    obtain rfl := Option.some.inj H4
    refine ret1 (v := .bool (decide (a2 < a0))) rfl rfl (fin rfl)
theorem k53 {a0 : Int} {r : Bool} (H : where_isLat a0 = some r) : Ret Tryd.prog 53 [.int .i64 a0] (.bool r) := by
  refine enterRet (n := 6) Tryd.func53 rfl rfl rfl (fun wd => ?_)
  refine c_seq ?_
  refine c_region ?_
  refine l_val rfl rfl rfl (r_assign (v := .bool false) rfl) ?_
  refine l_nil ?_
  refine c_seq ?_
  refine c_region ?_
  refine l_val rfl rfl rfl (r_move (v := .int .i64 a0) rfl) ?_
  obtain ⟨t4, h_t4, H2⟩ := bnd_some H; clear H
  refine l_call (k38 h_t4) Tryd.call38 rfl rfl rfl ?_
  refine l_val rfl rfl rfl (r_not rfl) ?_
  refine l_val rfl rfl rfl (r_assign (v := .bool (!t4)) rfl) ?_
  refine l_nil ?_
  refine c_ret ?_
  obtain rfl := Option.some.inj H2
  refine ret1 (v := .bool (!t4)) rfl rfl (fin rfl)
theorem k54 {a0 : Int} {r : Bool} (H : where_isLon a0 = some r) : Ret Tryd.prog 54 [.int .i64 a0] (.bool r) := by
  refine enterRet (n := 6) Tryd.func54 rfl rfl rfl (fun wd => ?_)
  refine c_seq ?_
  refine c_region ?_
  refine l_val rfl rfl rfl (r_assign (v := .bool false) rfl) ?_
  refine l_nil ?_
  refine c_seq ?_
  refine c_region ?_
  refine l_val rfl rfl rfl (r_move (v := .int .i64 a0) rfl) ?_
  obtain ⟨t4, h_t4, H2⟩ := bnd_some H; clear H
  refine l_call (k38 h_t4) Tryd.call38 rfl rfl rfl ?_
  refine l_val rfl rfl rfl (r_not rfl) ?_
  refine l_val rfl rfl rfl (r_assign (v := .bool (!t4)) rfl) ?_
  refine l_nil ?_
  refine c_ret ?_
  obtain rfl := Option.some.inj H2
  refine ret1 (v := .bool (!t4)) rfl rfl (fin rfl)
theorem k37 {a0 : T_api_Place} {r : Int} (H : where_CheckPlace a0 = some r) : Ret Tryd.prog 37 [.agg #[.int .i64 a0.Lat, .int .i64 a0.Lon]] (.int .i64 r) := by
  refine enterRet (n := 13) Tryd.func37 rfl rfl rfl (fun wd => ?_)
  refine c_seq ?_
  refine c_region ?_
  refine l_box (cs := [.int .i64 a0.Lat, .int .i64 a0.Lon]) rfl rfl rfl rfl (fun b1 => ?_)
  refine l_val rfl rfl rfl (r_assign (v := .int .i64 0) rfl) ?_
  refine l_nil ?_
  refine c_seq ?_
  refine c_seq ?_
  refine c_region ?_
  refine l_val rfl rfl rfl (r_field Tryd.runUnderlying34 rfl Tryd.sizeOf3 rfl rfl) ?_
  refine l_load1 (i := 0) (v := .int .i64 a0.Lat) Tryd.isAgg3 rfl rfl rfl rfl rfl ?_
  obtain ⟨t5, h_t5, H7⟩ := bnd_some H; clear H
  refine l_call (k53 h_t5) Tryd.call53 rfl rfl rfl ?_
  refine l_val rfl rfl rfl (r_not rfl) ?_
  refine l_val rfl rfl rfl (r_move (v := .bool (!t5)) rfl) ?_
  refine split (fun hb => ?_) (fun hb => ?_)
  · have H8 := cnd_t hb H7; clear H7
    refine l_passed rfl rfl rfl ?_
    refine l_passed rfl rfl rfl ?_
    refine l_passed rfl rfl rfl ?_
    refine l_passed rfl rfl rfl ?_
    refine l_val rfl rfl rfl (r_pickT (v := .bool true) rfl rfl) ?_
    refine l_nil ?_
    refine c_true rfl ?_
    refine c_seq ?_
    refine c_region ?_
    refine l_val rfl rfl rfl (r_assign (v := .int .i64 2) rfl) ?_
    refine l_nil ?_
    refine c_ret ?_
    obtain rfl := Option.some.inj H8
    refine ret1 (v := .int .i64 2) rfl rfl (fin rfl)
  · have H9 := cnd_f hb H7; clear H7
    refine l_val rfl rfl rfl (r_field Tryd.runUnderlying34 rfl Tryd.sizeOf3 rfl rfl) ?_
    refine l_load1 (i := 0) (v := .int .i64 a0.Lon) Tryd.isAgg3 rfl rfl rfl rfl rfl ?_
    obtain ⟨t10, h_t10, H10⟩ := bnd_some H9; clear H9
    refine l_call (k54 h_t10) Tryd.call54 rfl rfl rfl ?_
    refine l_val rfl rfl rfl (r_not rfl) ?_
    refine l_val rfl rfl rfl (r_pickF (v := .bool (!t10)) rfl rfl) ?_
    refine l_nil ?_
    refine c_if (b := (!t10)) rfl (fun hb => ?_) (fun hb => ?_)
    · have H11 := cnd_t hb H10; clear H10
      refine c_seq ?_
      refine c_region ?_
      refine l_val rfl rfl rfl (r_assign (v := .int .i64 2) rfl) ?_
      refine l_nil ?_
      refine c_ret ?_
      obtain rfl := Option.some.inj H11
      refine ret1 (v := .int .i64 2) rfl rfl (fin rfl)
    · have H12 := cnd_f hb H10; clear H10
      refine c_skip ?_
      refine c_seq ?_
      refine c_region ?_
      refine l_val rfl rfl rfl (r_assign (v := .int .i64 0) rfl) ?_
      refine l_nil ?_
      refine c_ret ?_
      obtain rfl := Option.some.inj H12
      refine ret1 (v := .int .i64 0) rfl rfl (fin rfl)
theorem k39 {r : T_where_Box} (H : where_whole = some r) : Ret Tryd.prog 39 [] (.agg #[.int .i64 r.South, .int .i64 r.West, .int .i64 r.North, .int .i64 r.East]) := by
  refine enterRet (n := 2) Tryd.func39 rfl rfl rfl (fun wd => ?_)
  refine c_seq ?_
  refine c_region ?_
  refine l_alloc (cs := [.int .i64 0, .int .i64 0, .int .i64 0, .int .i64 0]) Tryd.zeroValue42 rfl rfl rfl (fun b1 => ?_)
  refine l_nil ?_
  refine c_seq ?_
  refine c_region ?_
  refine l_val rfl rfl rfl (r_build (pl := #[(0, 1), (1, 1), (2, 1), (3, 1)]) (ps := [(0, .int .i64 (-90000000)), (1, .int .i64 (-180000000)), (2, .int .i64 90000000), (3, .int .i64 179999999)]) (cells := #[.int .i64 (-90000000), .int .i64 (-180000000), .int .i64 90000000, .int .i64 179999999]) Tryd.zeroValue42 Tryd.runUnderlying42 (fun w => by kernel_rfl) rfl rfl) ?_
  refine l_store (i := 0) (vs := [.int .i64 (-90000000), .int .i64 (-180000000), .int .i64 90000000, .int .i64 179999999]) (cs' := [.int .i64 (-90000000), .int .i64 (-180000000), .int .i64 90000000, .int .i64 179999999]) Tryd.sizeOf42 rfl rfl rfl rfl rfl rfl rfl rfl rfl ?_
  refine l_nil ?_
  refine c_ret ?_
  obtain rfl := Option.some.inj H
  refine retC (i := 0) (vs := [.int .i64 (-90000000), .int .i64 (-180000000), .int .i64 90000000, .int .i64 179999999]) Tryd.isAgg42 Tryd.sizeOf42 rfl rfl rfl rfl (fin rfl)
theorem k40 {a0 : T_where_Box} {a1 : Int} {r : T_where_Box} (H : where_Box_quarter a0 a1 = some r) : Ret Tryd.prog 40 [.agg #[.int .i64 a0.South, .int .i64 a0.West, .int .i64 a0.North, .int .i64 a0.East], .int .i64 a1] (.agg #[.int .i64 r.South, .int .i64 r.West, .int .i64 r.North, .int .i64 r.East]) := by
  refine enterRet (n := 43) Tryd.func40 rfl rfl rfl (fun wd => ?_)
  refine c_seq ?_
  refine c_region ?_
  refine l_box (cs := [.int .i64 a0.South, .int .i64 a0.West, .int .i64 a0.North, .int .i64 a0.East]) rfl rfl rfl rfl (fun b2 => ?_)
  refine l_alloc (cs := [.int .i64 0, .int .i64 0, .int .i64 0, .int .i64 0]) Tryd.zeroValue42 rfl rfl rfl (fun b3 => ?_)
  refine l_nil ?_
  refine c_seq ?_
  exact c_regionD (Kd.p :: Kd.d [0] _ :: Kd.p :: Kd.d [0] _ :: Kd.p :: Kd.d [0] _ :: Kd.p :: Kd.p :: Kd.p :: Kd.p :: Kd.p :: Kd.d [0] _ :: Kd.p :: Kd.d [0] _ :: Kd.p :: Kd.d [0] _ :: Kd.p :: Kd.p :: Kd.p :: Kd.p :: Kd.p :: Kd.p :: []) 0 mixed (by
    refine d_val rfl rfl (r_field Tryd.runUnderlying42 rfl Tryd.sizeOf3 rfl rfl) ?_
    refine d_load1 (i := 0) (v := .int .i64 a0.South) Tryd.isAgg3 rfl rfl rfl rfl ?_
    refine d_val rfl rfl (r_field Tryd.runUnderlying42 rfl Tryd.sizeOf3 rfl rfl) ?_
    refine d_load1 (i := 0) (v := .int .i64 a0.North) Tryd.isAgg3 rfl rfl rfl rfl ?_
    refine d_val rfl rfl (r_field Tryd.runUnderlying42 rfl Tryd.sizeOf3 rfl rfl) ?_
    refine d_load1 (i := 0) (v := .int .i64 a0.South) Tryd.isAgg3 rfl rfl rfl rfl ?_
    have h_t13 := bnd_val H
    have H18 := bnd_rest H
    refine d_val rfl rfl (r_subG rfl rfl h_t13) ?_
    have h_t14 := bnd_val H18
    have H19 := bnd_rest H18
    refine d_val rfl rfl (r_addG rfl rfl h_t14) ?_
    have h_t15 := bnd_val H19
    have H20 := bnd_rest H19
    refine d_val rfl rfl (r_quoG rfl rfl h_t15) ?_
    have h_t16 := bnd_val H20
    have H21 := bnd_rest H20
    refine d_val rfl rfl (r_addG rfl rfl h_t16) ?_
    refine d_val rfl rfl (r_field Tryd.runUnderlying42 rfl Tryd.sizeOf3 rfl rfl) ?_
    refine d_load1 (i := 0) (v := .int .i64 a0.West) Tryd.isAgg3 rfl rfl rfl rfl ?_
    refine d_val rfl rfl (r_field Tryd.runUnderlying42 rfl Tryd.sizeOf3 rfl rfl) ?_
    refine d_load1 (i := 0) (v := .int .i64 a0.East) Tryd.isAgg3 rfl rfl rfl rfl ?_
    refine d_val rfl rfl (r_field Tryd.runUnderlying42 rfl Tryd.sizeOf3 rfl rfl) ?_
    refine d_load1 (i := 0) (v := .int .i64 a0.West) Tryd.isAgg3 rfl rfl rfl rfl ?_
    have h_t23 := bnd_val H21
    have H22 := bnd_rest H21
    refine d_val rfl rfl (r_subG rfl rfl h_t23) ?_
    have h_t24 := bnd_val H22
    have H23 := bnd_rest H22
    refine d_val rfl rfl (r_addG rfl rfl h_t24) ?_
    have h_t25 := bnd_val H23
    have H24 := bnd_rest H23
    refine d_val rfl rfl (r_quoG rfl rfl h_t25) ?_
    have h_t26 := bnd_val H24
    have H25 := bnd_rest H24
    refine d_val rfl rfl (r_addG rfl rfl h_t26) ?_
    refine d_val rfl rfl (r_assign (v := .int .i64 (val (gI (a0.South + (val (gQuo (val (gI ((val (gI (a0.North - a0.South))) + 1))) 2)))))) rfl) ?_
    refine d_val rfl rfl (r_assign (v := .int .i64 (val (gI (a0.West + (val (gQuo (val (gI ((val (gI (a0.East - a0.West))) + 1))) 2)))))) rfl) ?_
    refine d_nil ?_
    refine c_meet (r := r) (σ := Int × Int) (τ := Unit) (fun s => where_Box_quarter_j1 a0 a1 (val (gI (a0.West + (val (gQuo (val (gI ((val (gI (a0.East - a0.West))) + 1))) 2))))) s.1 s.2) (fun s t => [(1, .int .i64 a1), (2, .pointer (some ⟨b2, 0, none⟩)), (4, .pointer (some ⟨b3, 0, none⟩)), (6, .int .i64 (val (gI (a0.West + (val (gQuo (val (gI ((val (gI (a0.East - a0.West))) + 1))) 2))))))]) (fun s t => [cellsC b2 [.int .i64 s.1, .int .i64 a0.West, .int .i64 s.2, .int .i64 a0.East] 42, cellsC b3 [.int .i64 0, .int .i64 0, .int .i64 0, .int .i64 0] 42]) (fun s t => True) ?_ ?_
    · refine c_seq ?_
      refine c_region ?_
      refine l_val rfl rfl rfl (r_move (v := .int .i64 a1) rfl) ?_
      refine l_val rfl rfl rfl (r_geq rfl rfl) ?_
      refine l_nil ?_
      refine c_if (b := (decide (2 ≤ a1))) rfl (fun hb => ?_) (fun hb => ?_)
      · have H32 := cnd_t hb H25; clear H25
        refine c_region ?_
        refine l_val rfl rfl rfl (r_move (v := .int .i64 (val (gI (a0.South + (val (gQuo (val (gI ((val (gI (a0.North - a0.South))) + 1))) 2)))))) rfl) ?_
        refine l_val rfl rfl rfl (r_field Tryd.runUnderlying42 rfl Tryd.sizeOf3 rfl rfl) ?_
        refine l_store (i := 0) (vs := [.int .i64 (val (gI (a0.South + (val (gQuo (val (gI ((val (gI (a0.North - a0.South))) + 1))) 2)))))]) (cs' := [.int .i64 (val (gI (a0.South + (val (gQuo (val (gI ((val (gI (a0.North - a0.South))) + 1))) 2))))), .int .i64 a0.West, .int .i64 a0.North, .int .i64 a0.East]) Tryd.sizeOf3 rfl rfl rfl rfl rfl rfl rfl rfl rfl ?_
        refine l_nil ?_
        refine c_close ((val (gI (a0.South + (val (gQuo (val (gI ((val (gI (a0.North - a0.South))) + 1))) 2))))), a0.North) () 0 [0, 1] (by exact ⟨rfl, rfl, rfl, rfl, trivial⟩) (by decide) rfl (by exact ⟨H32, trivial⟩) (Nat.lt_succ_self _)
      · have H33 := cnd_f hb H25; clear H25
        refine c_region ?_
        refine l_val rfl rfl rfl (r_move (v := .int .i64 (val (gI (a0.South + (val (gQuo (val (gI ((val (gI (a0.North - a0.South))) + 1))) 2)))))) rfl) ?_
        obtain ⟨t32, h_t32, H34⟩ := bnd_some H33; clear H33
        refine l_val rfl rfl rfl (r_subG rfl rfl h_t32) ?_
        refine l_val rfl rfl rfl (r_field Tryd.runUnderlying42 rfl Tryd.sizeOf3 rfl rfl) ?_
        refine l_store (i := 0) (vs := [.int .i64 t32]) (cs' := [.int .i64 a0.South, .int .i64 a0.West, .int .i64 t32, .int .i64 a0.East]) Tryd.sizeOf3 rfl rfl rfl rfl rfl rfl rfl rfl rfl ?_
        refine l_nil ?_
        refine c_close (a0.South, t32) () 0 [0, 1] (by exact ⟨rfl, rfl, rfl, rfl, trivial⟩) (by decide) rfl (by exact ⟨H34, trivial⟩) (Nat.lt_succ_self _)
    · rintro ⟨m, m_2⟩ _ gg H26 _
      replace H26 : where_Box_quarter_j1 a0 a1 (val (gI (a0.West + (val (gQuo (val (gI ((val (gI (a0.East - a0.West))) + 1))) 2))))) m m_2 = some r := H26
      refine c_tidyF [(1, .int .i64 a1), (2, .pointer (some ⟨b2, 0, none⟩)), (4, .pointer (some ⟨b3, 0, none⟩)), (6, .int .i64 (val (gI (a0.West + (val (gQuo (val (gI ((val (gI (a0.East - a0.West))) + 1))) 2))))))] [cellsC b2 [.int .i64 m, .int .i64 a0.West, .int .i64 m_2, .int .i64 a0.East] 42, cellsC b3 [.int .i64 0, .int .i64 0, .int .i64 0, .int .i64 0] 42] rfl rfl ?_
      refine c_meet (r := r) (σ := Int × Int) (τ := Unit) (fun s => where_Box_quarter_j2 m m_2 s.1 s.2) (fun s t => [(2, .pointer (some ⟨b2, 0, none⟩)), (4, .pointer (some ⟨b3, 0, none⟩))]) (fun s t => [cellsC b2 [.int .i64 m, .int .i64 s.1, .int .i64 m_2, .int .i64 s.2] 42, cellsC b3 [.int .i64 0, .int .i64 0, .int .i64 0, .int .i64 0] 42]) (fun s t => True) ?_ ?_
      · refine c_seq ?_
        refine c_region ?_
        refine l_val rfl rfl rfl (r_move (v := .int .i64 a1) rfl) ?_
        obtain ⟨t35, h_t35, H28⟩ := bnd_some H26; clear H26
        refine l_val rfl rfl rfl (r_remG rfl rfl h_t35) ?_
        refine l_val rfl rfl rfl (r_eql rfl rfl) ?_
        refine l_nil ?_
        refine c_if (b := (decide (t35 = 1))) rfl (fun hb => ?_) (fun hb => ?_)
        · have H29 := cnd_t hb H28; clear H28
          refine c_region ?_
          refine l_val rfl rfl rfl (r_move (v := .int .i64 (val (gI (a0.West + (val (gQuo (val (gI ((val (gI (a0.East - a0.West))) + 1))) 2)))))) rfl) ?_
          refine l_val rfl rfl rfl (r_field Tryd.runUnderlying42 rfl Tryd.sizeOf3 rfl rfl) ?_
          refine l_store (i := 0) (vs := [.int .i64 (val (gI (a0.West + (val (gQuo (val (gI ((val (gI (a0.East - a0.West))) + 1))) 2)))))]) (cs' := [.int .i64 m, .int .i64 (val (gI (a0.West + (val (gQuo (val (gI ((val (gI (a0.East - a0.West))) + 1))) 2))))), .int .i64 m_2, .int .i64 a0.East]) Tryd.sizeOf3 rfl rfl rfl rfl rfl rfl rfl rfl rfl ?_
          refine l_nil ?_
          refine c_close ((val (gI (a0.West + (val (gQuo (val (gI ((val (gI (a0.East - a0.West))) + 1))) 2))))), a0.East) () 0 [0, 1] (by exact ⟨rfl, rfl, trivial⟩) (by decide) rfl (by exact ⟨H29, trivial⟩) (Nat.lt_succ_self _)
        · have H30 := cnd_f hb H28; clear H28
          refine c_region ?_
          refine l_val rfl rfl rfl (r_move (v := .int .i64 (val (gI (a0.West + (val (gQuo (val (gI ((val (gI (a0.East - a0.West))) + 1))) 2)))))) rfl) ?_
          obtain ⟨t40, h_t40, H31⟩ := bnd_some H30; clear H30
          refine l_val rfl rfl rfl (r_subG rfl rfl h_t40) ?_
          refine l_val rfl rfl rfl (r_field Tryd.runUnderlying42 rfl Tryd.sizeOf3 rfl rfl) ?_
          refine l_store (i := 0) (vs := [.int .i64 t40]) (cs' := [.int .i64 m, .int .i64 a0.West, .int .i64 m_2, .int .i64 t40]) Tryd.sizeOf3 rfl rfl rfl rfl rfl rfl rfl rfl rfl ?_
          refine l_nil ?_
          refine c_close (a0.West, t40) () 0 [0, 1] (by exact ⟨rfl, rfl, trivial⟩) (by decide) rfl (by exact ⟨H31, trivial⟩) (Nat.lt_succ_self _)
      · rintro ⟨m_3, m_4⟩ _ gg H27 _
        replace H27 : where_Box_quarter_j2 m m_2 m_3 m_4 = some r := H27
        refine c_tidyF [(2, .pointer (some ⟨b2, 0, none⟩)), (4, .pointer (some ⟨b3, 0, none⟩))] [cellsC b2 [.int .i64 m, .int .i64 m_3, .int .i64 m_2, .int .i64 m_4] 42, cellsC b3 [.int .i64 0, .int .i64 0, .int .i64 0, .int .i64 0] 42] rfl rfl ?_
        refine c_seq ?_
        refine c_region ?_
        refine l_loadN (i := 0) (vs := [.int .i64 m, .int .i64 m_3, .int .i64 m_2, .int .i64 m_4]) Tryd.isAgg42 Tryd.sizeOf42 rfl rfl rfl rfl rfl ?_
        refine l_store (i := 1) (vs := [.int .i64 m, .int .i64 m_3, .int .i64 m_2, .int .i64 m_4]) (cs' := [.int .i64 m, .int .i64 m_3, .int .i64 m_2, .int .i64 m_4]) Tryd.sizeOf42 rfl rfl rfl rfl rfl rfl rfl rfl rfl ?_
        refine l_nil ?_
        refine c_ret ?_
        obtain rfl := Option.some.inj H27
        refine retC (i := 1) (vs := [.int .i64 m, .int .i64 m_3, .int .i64 m_2, .int .i64 m_4]) Tryd.isAgg42 Tryd.sizeOf42 rfl rfl rfl rfl (fin rfl)
    ) (by kernel_rfl)
theorem k14 {a0 : T_api_Place} {a1 : Int} {r : (List UInt8) × Int} (H : where_Cell a0 a1 = some r) : Ret Tryd.prog 14 [.agg #[.int .i64 a0.Lat, .int .i64 a0.Lon], .int .i64 a1] (.tuple #[str r.1, .int .i64 r.2]) := by
  refine enterRet (n := 59) Tryd.func14 rfl rfl rfl (fun wd => ?_)
  refine c_seq ?_
  refine c_region ?_
  refine l_box (cs := [.int .i64 a0.Lat, .int .i64 a0.Lon]) rfl rfl rfl rfl (fun b4 => ?_)
  refine l_val rfl rfl rfl (r_assign (v := str []) rfl) ?_
  refine l_val rfl rfl rfl (r_assign (v := .int .i64 0) rfl) ?_
  refine l_nil ?_
  refine c_seq ?_
  refine c_seq ?_
  refine c_region ?_
  refine l_loadN (i := 0) (vs := [.int .i64 a0.Lat, .int .i64 a0.Lon]) Tryd.isAgg34 Tryd.sizeOf34 rfl rfl rfl rfl rfl ?_
  obtain ⟨t13, h_t13, H29⟩ := bnd_some H; clear H
  refine l_call (k37 h_t13) Tryd.call37 rfl rfl rfl ?_
  refine l_val rfl rfl rfl (r_assign (v := .int .i64 t13) rfl) ?_
  refine l_nil ?_
  refine c_seq ?_
  refine c_region ?_
  refine l_val rfl rfl rfl (r_move (v := .int .i64 t13) rfl) ?_
  refine l_val rfl rfl rfl (r_neq rfl rfl) ?_
  refine l_nil ?_
  refine c_if (b := (decide (t13 ≠ 0))) rfl (fun hb => ?_) (fun hb => ?_)
  · have H30 := cnd_t hb H29; clear H29
    refine c_seq ?_
    refine c_region ?_
    refine l_val rfl rfl rfl (r_move (v := .int .i64 t13) rfl) ?_
    refine l_val rfl rfl rfl (r_assign (v := str []) rfl) ?_
    refine l_val rfl rfl rfl (r_assign (v := .int .i64 t13) rfl) ?_
    refine l_nil ?_
    refine c_ret ?_
    obtain rfl := Option.some.inj H30
    refine ret2 (v1 := str []) (v2 := .int .i64 t13) rfl rfl rfl (fin rfl)
  · have H31 := cnd_f hb H29; clear H29
    refine c_skip ?_
    refine c_seq ?_
    refine c_seq ?_
    refine c_region ?_
    refine l_val rfl rfl rfl (r_move (v := .int .i64 a1) rfl) ?_
    obtain ⟨t18, h_t18, H32⟩ := bnd_some H31; clear H31
    refine l_call (k38 h_t18) Tryd.call38 rfl rfl rfl ?_
    refine l_nil ?_
    refine c_if (b := t18) rfl (fun hb => ?_) (fun hb => ?_)
    · have H33 := cnd_t hb H32; clear H32
      refine c_seq ?_
      refine c_region ?_
      refine l_val rfl rfl rfl (r_assign (v := str []) rfl) ?_
      refine l_val rfl rfl rfl (r_assign (v := .int .i64 2) rfl) ?_
      refine l_nil ?_
      refine c_ret ?_
      obtain rfl := Option.some.inj H33
      refine ret2 (v1 := str []) (v2 := .int .i64 2) rfl rfl rfl (fin rfl)
    · have H34 := cnd_f hb H32; clear H32
      refine c_skip ?_
      refine c_seq ?_
      refine c_region ?_
      refine l_alloc (cs := [.int .u8 ((fun _ => 0) 0), .int .u8 ((fun _ => 0) 1), .int .u8 ((fun _ => 0) 2), .int .u8 ((fun _ => 0) 3), .int .u8 ((fun _ => 0) 4), .int .u8 ((fun _ => 0) 5), .int .u8 ((fun _ => 0) 6), .int .u8 ((fun _ => 0) 7), .int .u8 ((fun _ => 0) 8), .int .u8 ((fun _ => 0) 9), .int .u8 ((fun _ => 0) 10), .int .u8 ((fun _ => 0) 11), .int .u8 ((fun _ => 0) 12), .int .u8 ((fun _ => 0) 13), .int .u8 ((fun _ => 0) 14), .int .u8 ((fun _ => 0) 15), .int .u8 ((fun _ => 0) 16), .int .u8 ((fun _ => 0) 17), .int .u8 ((fun _ => 0) 18), .int .u8 ((fun _ => 0) 19), .int .u8 ((fun _ => 0) 20), .int .u8 ((fun _ => 0) 21), .int .u8 ((fun _ => 0) 22), .int .u8 ((fun _ => 0) 23)]) Tryd.zeroValue78 rfl rfl rfl (fun b5 => ?_)
      refine l_nil ?_
      refine c_seq ?_
      refine c_region ?_
      obtain ⟨t19, h_t19, H35⟩ := bnd_some H34; clear H34
      refine l_call (k39 h_t19) Tryd.call39 rfl rfl rfl ?_
      refine l_alloc (cs := [.int .i64 0, .int .i64 0, .int .i64 0, .int .i64 0]) Tryd.zeroValue42 rfl rfl rfl (fun b6 => ?_)
      refine l_store (i := 2) (vs := [.int .i64 t19.South, .int .i64 t19.West, .int .i64 t19.North, .int .i64 t19.East]) (cs' := [.int .i64 t19.South, .int .i64 t19.West, .int .i64 t19.North, .int .i64 t19.East]) Tryd.sizeOf42 rfl rfl rfl rfl rfl rfl rfl rfl rfl ?_
      refine l_nil ?_
      refine c_meet (r := r) (σ := (Nat → Int)) (τ := Unit) (fun s => where_Cell_j1 a1 s) (fun s t => [(1, .int .i64 a1), (7, .pointer (some ⟨b5, 0, none⟩))]) (fun s t => [cellsC b5 [.int .u8 (s 0), .int .u8 (s 1), .int .u8 (s 2), .int .u8 (s 3), .int .u8 (s 4), .int .u8 (s 5), .int .u8 (s 6), .int .u8 (s 7), .int .u8 (s 8), .int .u8 (s 9), .int .u8 (s 10), .int .u8 (s 11), .int .u8 (s 12), .int .u8 (s 13), .int .u8 (s 14), .int .u8 (s 15), .int .u8 (s 16), .int .u8 (s 17), .int .u8 (s 18), .int .u8 (s 19), .int .u8 (s 20), .int .u8 (s 21), .int .u8 (s 22), .int .u8 (s 23)] 78]) (fun s t => True) ?_ ?_
      · refine c_seq ?_
        refine c_region ?_
        refine l_val rfl rfl rfl (r_move (v := .int .i64 a1) rfl) ?_
        refine l_val rfl rfl rfl (r_move (v := .int .i64 0) rfl) ?_
        refine l_nil ?_
        refine c_block ?_
        refine c_fix (σ := Int × (Nat → Int) × Int × Int × Int × Int) (τ := Unit) (fun next2 s => where_Cell_l2 a0 a1 next2 s.1 s.2.1 s.2.2.1 s.2.2.2.1 s.2.2.2.2.1 s.2.2.2.2.2) (fun s t => [(1, .int .i64 a1), (2, .pointer (some ⟨b4, 0, none⟩)), (7, .pointer (some ⟨b5, 0, none⟩)), (8, .pointer (some ⟨b6, 0, none⟩)), (20, .int .i64 a1), (21, .int .i64 s.1)]) (fun s t => [cellsC b4 [.int .i64 a0.Lat, .int .i64 a0.Lon] 34, cellsC b5 [.int .u8 (s.2.1 0), .int .u8 (s.2.1 1), .int .u8 (s.2.1 2), .int .u8 (s.2.1 3), .int .u8 (s.2.1 4), .int .u8 (s.2.1 5), .int .u8 (s.2.1 6), .int .u8 (s.2.1 7), .int .u8 (s.2.1 8), .int .u8 (s.2.1 9), .int .u8 (s.2.1 10), .int .u8 (s.2.1 11), .int .u8 (s.2.1 12), .int .u8 (s.2.1 13), .int .u8 (s.2.1 14), .int .u8 (s.2.1 15), .int .u8 (s.2.1 16), .int .u8 (s.2.1 17), .int .u8 (s.2.1 18), .int .u8 (s.2.1 19), .int .u8 (s.2.1 20), .int .u8 (s.2.1 21), .int .u8 (s.2.1 22), .int .u8 (s.2.1 23)] 78, cellsC b6 [.int .i64 s.2.2.1, .int .i64 s.2.2.2.1, .int .i64 s.2.2.2.2.1, .int .i64 s.2.2.2.2.2] 42]) (fun s t => True) (0, (fun _ => 0), t19.South, t19.West, t19.North, t19.East) () [0, 1, 2] H35 (by exact trivial) (by exact ⟨rfl, rfl, rfl, rfl, rfl, rfl, trivial⟩) (by decide) rfl ?_
        rintro ⟨x21_2, m_7, m_8, m_9, m_10, m_11⟩ _ m2 gg H38 _
        clear H35
        replace H38 : where_Cell_l2 a0 a1 (it (fun next2 s => where_Cell_l2 a0 a1 next2 s.1 s.2.1 s.2.2.1 s.2.2.2.1 s.2.2.2.2.1 s.2.2.2.2.2) m2) x21_2 m_7 m_8 m_9 m_10 m_11 = some r := H38
        generalize hn2 : it (fun next2 s => where_Cell_l2 a0 a1 next2 s.1 s.2.1 s.2.2.1 s.2.2.2.1 s.2.2.2.2.1 s.2.2.2.2.2) m2 = next2 at H38
        refine c_tidyF [(1, .int .i64 a1), (2, .pointer (some ⟨b4, 0, none⟩)), (7, .pointer (some ⟨b5, 0, none⟩)), (8, .pointer (some ⟨b6, 0, none⟩)), (20, .int .i64 a1), (21, .int .i64 x21_2)] [cellsC b4 [.int .i64 a0.Lat, .int .i64 a0.Lon] 34, cellsC b5 [.int .u8 (m_7 0), .int .u8 (m_7 1), .int .u8 (m_7 2), .int .u8 (m_7 3), .int .u8 (m_7 4), .int .u8 (m_7 5), .int .u8 (m_7 6), .int .u8 (m_7 7), .int .u8 (m_7 8), .int .u8 (m_7 9), .int .u8 (m_7 10), .int .u8 (m_7 11), .int .u8 (m_7 12), .int .u8 (m_7 13), .int .u8 (m_7 14), .int .u8 (m_7 15), .int .u8 (m_7 16), .int .u8 (m_7 17), .int .u8 (m_7 18), .int .u8 (m_7 19), .int .u8 (m_7 20), .int .u8 (m_7 21), .int .u8 (m_7 22), .int .u8 (m_7 23)] 78, cellsC b6 [.int .i64 m_8, .int .i64 m_9, .int .i64 m_10, .int .i64 m_11] 42] rfl rfl ?_
        refine c_seq ?_
        refine c_region ?_
        refine l_val rfl rfl rfl (r_lss rfl rfl) ?_
        refine l_nil ?_
        refine c_seq ?_
        refine c_if (b := (decide (x21_2 < a1))) rfl (fun hb => ?_) (fun hb => ?_)
        · have H39 := cnd_t hb H38; clear H38
          refine c_skip ?_
          refine c_meet (r := r) (σ := (Nat → Int) × Int × Int × Int × Int) (τ := Unit) (fun s => where_Cell_j3 x21_2 next2 s.1 s.2.1 s.2.2.1 s.2.2.2.1 s.2.2.2.2) (fun s t => [(1, .int .i64 a1), (2, .pointer (some ⟨b4, 0, none⟩)), (7, .pointer (some ⟨b5, 0, none⟩)), (8, .pointer (some ⟨b6, 0, none⟩)), (20, .int .i64 a1), (21, .int .i64 x21_2)]) (fun s t => [cellsC b4 [.int .i64 a0.Lat, .int .i64 a0.Lon] 34, cellsC b5 [.int .u8 (s.1 0), .int .u8 (s.1 1), .int .u8 (s.1 2), .int .u8 (s.1 3), .int .u8 (s.1 4), .int .u8 (s.1 5), .int .u8 (s.1 6), .int .u8 (s.1 7), .int .u8 (s.1 8), .int .u8 (s.1 9), .int .u8 (s.1 10), .int .u8 (s.1 11), .int .u8 (s.1 12), .int .u8 (s.1 13), .int .u8 (s.1 14), .int .u8 (s.1 15), .int .u8 (s.1 16), .int .u8 (s.1 17), .int .u8 (s.1 18), .int .u8 (s.1 19), .int .u8 (s.1 20), .int .u8 (s.1 21), .int .u8 (s.1 22), .int .u8 (s.1 23)] 78, cellsC b6 [.int .i64 s.2.1, .int .i64 s.2.2.1, .int .i64 s.2.2.2.1, .int .i64 s.2.2.2.2] 42]) (fun s t => True) ?_ ?_
          · refine c_block ?_
            refine c_seq ?_
            refine c_region ?_
            refine l_val rfl rfl rfl (r_move (v := .int .i64 x21_2) rfl) ?_
            refine l_val rfl rfl rfl (r_assign (v := .int .i64 x21_2) rfl) ?_
            refine l_nil ?_
            refine c_seq ?_
            refine c_region ?_
            refine l_val rfl rfl rfl (r_move (v := .int .i64 0) rfl) ?_
            refine l_nil ?_
            refine c_block ?_
            refine c_fix (σ := Int) (τ := Unit) (fun next4 s => where_Cell_l4 a0 x21_2 m_7 m_8 m_9 m_10 m_11 next2 next4 s) (fun s t => [(1, .int .i64 a1), (2, .pointer (some ⟨b4, 0, none⟩)), (7, .pointer (some ⟨b5, 0, none⟩)), (8, .pointer (some ⟨b6, 0, none⟩)), (9, .int .i64 x21_2), (20, .int .i64 a1), (21, .int .i64 x21_2), (24, .int .i64 s)]) (fun s t => [cellsC b4 [.int .i64 a0.Lat, .int .i64 a0.Lon] 34, cellsC b5 [.int .u8 (m_7 0), .int .u8 (m_7 1), .int .u8 (m_7 2), .int .u8 (m_7 3), .int .u8 (m_7 4), .int .u8 (m_7 5), .int .u8 (m_7 6), .int .u8 (m_7 7), .int .u8 (m_7 8), .int .u8 (m_7 9), .int .u8 (m_7 10), .int .u8 (m_7 11), .int .u8 (m_7 12), .int .u8 (m_7 13), .int .u8 (m_7 14), .int .u8 (m_7 15), .int .u8 (m_7 16), .int .u8 (m_7 17), .int .u8 (m_7 18), .int .u8 (m_7 19), .int .u8 (m_7 20), .int .u8 (m_7 21), .int .u8 (m_7 22), .int .u8 (m_7 23)] 78, cellsC b6 [.int .i64 m_8, .int .i64 m_9, .int .i64 m_10, .int .i64 m_11] 42]) (fun s t => True) 0 () [0, 1, 2] H39 (by exact trivial) (by exact ⟨rfl, rfl, rfl, rfl, rfl, rfl, rfl, rfl, trivial⟩) (by decide) rfl ?_
            rintro x24_2 _ m4 gg H42 _
            clear H39
            replace H42 : where_Cell_l4 a0 x21_2 m_7 m_8 m_9 m_10 m_11 next2 (it (fun next4 s => where_Cell_l4 a0 x21_2 m_7 m_8 m_9 m_10 m_11 next2 next4 s) m4) x24_2 = some r := H42
            generalize hn4 : it (fun next4 s => where_Cell_l4 a0 x21_2 m_7 m_8 m_9 m_10 m_11 next2 next4 s) m4 = next4 at H42
            refine c_tidyF [(1, .int .i64 a1), (2, .pointer (some ⟨b4, 0, none⟩)), (7, .pointer (some ⟨b5, 0, none⟩)), (8, .pointer (some ⟨b6, 0, none⟩)), (9, .int .i64 x21_2), (20, .int .i64 a1), (21, .int .i64 x21_2), (24, .int .i64 x24_2)] [cellsC b4 [.int .i64 a0.Lat, .int .i64 a0.Lon] 34, cellsC b5 [.int .u8 (m_7 0), .int .u8 (m_7 1), .int .u8 (m_7 2), .int .u8 (m_7 3), .int .u8 (m_7 4), .int .u8 (m_7 5), .int .u8 (m_7 6), .int .u8 (m_7 7), .int .u8 (m_7 8), .int .u8 (m_7 9), .int .u8 (m_7 10), .int .u8 (m_7 11), .int .u8 (m_7 12), .int .u8 (m_7 13), .int .u8 (m_7 14), .int .u8 (m_7 15), .int .u8 (m_7 16), .int .u8 (m_7 17), .int .u8 (m_7 18), .int .u8 (m_7 19), .int .u8 (m_7 20), .int .u8 (m_7 21), .int .u8 (m_7 22), .int .u8 (m_7 23)] 78, cellsC b6 [.int .i64 m_8, .int .i64 m_9, .int .i64 m_10, .int .i64 m_11] 42] rfl rfl ?_
            refine c_seq ?_
            refine c_region ?_
            refine l_val rfl rfl rfl (r_lss rfl rfl) ?_
            refine l_nil ?_
            refine c_seq ?_
            refine c_if (b := (decide (x24_2 < 4))) rfl (fun hb => ?_) (fun hb => ?_)
            · have H43 := cnd_t hb H42; clear H42
              refine c_skip ?_
              refine c_meet (r := r) (σ := Unit) (τ := Unit) (fun s => where_Cell_j5 x24_2 next4) (fun s t => [(1, .int .i64 a1), (2, .pointer (some ⟨b4, 0, none⟩)), (7, .pointer (some ⟨b5, 0, none⟩)), (8, .pointer (some ⟨b6, 0, none⟩)), (9, .int .i64 x21_2), (20, .int .i64 a1), (21, .int .i64 x21_2), (24, .int .i64 x24_2)]) (fun s t => [cellsC b4 [.int .i64 a0.Lat, .int .i64 a0.Lon] 34, cellsC b5 [.int .u8 (m_7 0), .int .u8 (m_7 1), .int .u8 (m_7 2), .int .u8 (m_7 3), .int .u8 (m_7 4), .int .u8 (m_7 5), .int .u8 (m_7 6), .int .u8 (m_7 7), .int .u8 (m_7 8), .int .u8 (m_7 9), .int .u8 (m_7 10), .int .u8 (m_7 11), .int .u8 (m_7 12), .int .u8 (m_7 13), .int .u8 (m_7 14), .int .u8 (m_7 15), .int .u8 (m_7 16), .int .u8 (m_7 17), .int .u8 (m_7 18), .int .u8 (m_7 19), .int .u8 (m_7 20), .int .u8 (m_7 21), .int .u8 (m_7 22), .int .u8 (m_7 23)] 78, cellsC b6 [.int .i64 m_8, .int .i64 m_9, .int .i64 m_10, .int .i64 m_11] 42]) (fun s t => True) ?_ ?_
              · refine c_block ?_
                refine c_seq ?_
                refine c_region ?_
                refine l_val rfl rfl rfl (r_move (v := .int .i64 x24_2) rfl) ?_
                refine l_val rfl rfl rfl (r_assign (v := .int .i64 x24_2) rfl) ?_
                refine l_nil ?_
                refine c_seq ?_
                refine c_region ?_
                refine l_loadN (i := 2) (vs := [.int .i64 m_8, .int .i64 m_9, .int .i64 m_10, .int .i64 m_11]) Tryd.isAgg42 Tryd.sizeOf42 rfl rfl rfl rfl rfl ?_
                refine l_val rfl rfl rfl (r_move (v := .int .i64 x24_2) rfl) ?_
                obtain ⟨t29, h_t29, H46⟩ := bnd_some H43; clear H43
                refine l_call (k40 h_t29) Tryd.call40 rfl rfl rfl ?_
                refine l_alloc (cs := [.int .i64 0, .int .i64 0, .int .i64 0, .int .i64 0]) Tryd.zeroValue42 rfl rfl rfl (fun b7 => ?_)
                refine l_store (i := 3) (vs := [.int .i64 t29.South, .int .i64 t29.West, .int .i64 t29.North, .int .i64 t29.East]) (cs' := [.int .i64 t29.South, .int .i64 t29.West, .int .i64 t29.North, .int .i64 t29.East]) Tryd.sizeOf42 rfl rfl rfl rfl rfl rfl rfl rfl rfl ?_
                refine l_nil ?_
                refine c_seq ?_
                refine c_region ?_
                refine l_val rfl rfl rfl (r_field Tryd.runUnderlying34 rfl Tryd.sizeOf3 rfl rfl) ?_
                refine l_load1 (i := 0) (v := .int .i64 a0.Lat) Tryd.isAgg3 rfl rfl rfl rfl rfl ?_
                refine l_val rfl rfl rfl (r_field Tryd.runUnderlying42 rfl Tryd.sizeOf3 rfl rfl) ?_
                refine l_load1 (i := 3) (v := .int .i64 t29.South) Tryd.isAgg3 rfl rfl rfl rfl rfl ?_
                refine l_val rfl rfl rfl (r_field Tryd.runUnderlying42 rfl Tryd.sizeOf3 rfl rfl) ?_
                refine l_load1 (i := 3) (v := .int .i64 t29.North) Tryd.isAgg3 rfl rfl rfl rfl rfl ?_
                obtain ⟨t36, h_t36, H47⟩ := bnd_some H46; clear H46
                refine l_call (k38 h_t36) Tryd.call38 rfl rfl rfl ?_
                refine l_val rfl rfl rfl (r_not rfl) ?_
                refine l_val rfl rfl rfl (r_move (v := .bool (!t36)) rfl) ?_
                refine split (fun hb => ?_) (fun hb => ?_)
                · have H48 := cnd_t hb H47; clear H47
                  refine l_val rfl rfl rfl (r_field Tryd.runUnderlying34 rfl Tryd.sizeOf3 rfl rfl) ?_
                  refine l_load1 (i := 0) (v := .int .i64 a0.Lon) Tryd.isAgg3 rfl rfl rfl rfl rfl ?_
                  refine l_val rfl rfl rfl (r_field Tryd.runUnderlying42 rfl Tryd.sizeOf3 rfl rfl) ?_
                  refine l_load1 (i := 3) (v := .int .i64 t29.West) Tryd.isAgg3 rfl rfl rfl rfl rfl ?_
                  refine l_val rfl rfl rfl (r_field Tryd.runUnderlying42 rfl Tryd.sizeOf3 rfl rfl) ?_
                  refine l_load1 (i := 3) (v := .int .i64 t29.East) Tryd.isAgg3 rfl rfl rfl rfl rfl ?_
                  obtain ⟨t45, h_t45, H49⟩ := bnd_some H48; clear H48
                  refine l_call (k38 h_t45) Tryd.call38 rfl rfl rfl ?_
                  refine l_val rfl rfl rfl (r_not rfl) ?_
                  refine l_val rfl rfl rfl (r_pickT (v := .bool (!t45)) rfl rfl) ?_
                  refine l_nil ?_
                  refine c_if (b := (!t45)) rfl (fun hb => ?_) (fun hb => ?_)
                  · have H50 := cnd_t hb H49; clear H49
                    refine c_seq ?_
                    exact c_regionD (Kd.p :: Kd.p :: Kd.p :: Kd.p :: Kd.d [3] _ :: Kd.p :: Kd.st 53 1 [_, _, _, _, _, _, _, _, _, _, _, _, _, _, _, _, _, _, _, _, _, _, _, _] 78 :: Kd.st 8 2 [_, _, _, _] 42 :: []) 0 mixed (by
                      refine d_val rfl rfl (r_move (v := .int .i64 x21_2) rfl) ?_
                      refine d_val rfl rfl (r_move (v := .int .i64 x24_2) rfl) ?_
                      have h_t50 := bnd_val H50
                      have H51 := bnd_rest H50
                      refine d_val rfl rfl (r_addG rfl rfl h_t50) ?_
                      refine d_val rfl rfl (r_convG Tryd.runUnderlying3 Tryd.runUnderlying5 rfl (wr_u8 _)) ?_
                      refine d_loadN (i := 3) (vs := [.int .i64 t29.South, .int .i64 t29.West, .int .i64 t29.North, .int .i64 t29.East]) Tryd.isAgg42 Tryd.sizeOf42 rfl rfl rfl rfl ?_
                      have h_k53 := bnd_val H51
                      have H52 := bnd_rest H51
                      refine d_val rfl rfl (r_indexPG Tryd.runUnderlying78 Tryd.sizeOf5 rfl rfl h_k53) ?_
                      refine d_store (i := 1) (vs := [.int .u8 (wU8 (val (gI (48 + x24_2))))]) (cs' := [.int .u8 ((setA m_7 (val (gIx 24 x21_2)) (wU8 (val (gI (48 + x24_2))))) 0), .int .u8 ((setA m_7 (val (gIx 24 x21_2)) (wU8 (val (gI (48 + x24_2))))) 1), .int .u8 ((setA m_7 (val (gIx 24 x21_2)) (wU8 (val (gI (48 + x24_2))))) 2), .int .u8 ((setA m_7 (val (gIx 24 x21_2)) (wU8 (val (gI (48 + x24_2))))) 3), .int .u8 ((setA m_7 (val (gIx 24 x21_2)) (wU8 (val (gI (48 + x24_2))))) 4), .int .u8 ((setA m_7 (val (gIx 24 x21_2)) (wU8 (val (gI (48 + x24_2))))) 5), .int .u8 ((setA m_7 (val (gIx 24 x21_2)) (wU8 (val (gI (48 + x24_2))))) 6), .int .u8 ((setA m_7 (val (gIx 24 x21_2)) (wU8 (val (gI (48 + x24_2))))) 7), .int .u8 ((setA m_7 (val (gIx 24 x21_2)) (wU8 (val (gI (48 + x24_2))))) 8), .int .u8 ((setA m_7 (val (gIx 24 x21_2)) (wU8 (val (gI (48 + x24_2))))) 9), .int .u8 ((setA m_7 (val (gIx 24 x21_2)) (wU8 (val (gI (48 + x24_2))))) 10), .int .u8 ((setA m_7 (val (gIx 24 x21_2)) (wU8 (val (gI (48 + x24_2))))) 11), .int .u8 ((setA m_7 (val (gIx 24 x21_2)) (wU8 (val (gI (48 + x24_2))))) 12), .int .u8 ((setA m_7 (val (gIx 24 x21_2)) (wU8 (val (gI (48 + x24_2))))) 13), .int .u8 ((setA m_7 (val (gIx 24 x21_2)) (wU8 (val (gI (48 + x24_2))))) 14), .int .u8 ((setA m_7 (val (gIx 24 x21_2)) (wU8 (val (gI (48 + x24_2))))) 15), .int .u8 ((setA m_7 (val (gIx 24 x21_2)) (wU8 (val (gI (48 + x24_2))))) 16), .int .u8 ((setA m_7 (val (gIx 24 x21_2)) (wU8 (val (gI (48 + x24_2))))) 17), .int .u8 ((setA m_7 (val (gIx 24 x21_2)) (wU8 (val (gI (48 + x24_2))))) 18), .int .u8 ((setA m_7 (val (gIx 24 x21_2)) (wU8 (val (gI (48 + x24_2))))) 19), .int .u8 ((setA m_7 (val (gIx 24 x21_2)) (wU8 (val (gI (48 + x24_2))))) 20), .int .u8 ((setA m_7 (val (gIx 24 x21_2)) (wU8 (val (gI (48 + x24_2))))) 21), .int .u8 ((setA m_7 (val (gIx 24 x21_2)) (wU8 (val (gI (48 + x24_2))))) 22), .int .u8 ((setA m_7 (val (gIx 24 x21_2)) (wU8 (val (gI (48 + x24_2))))) 23)]) Tryd.sizeOf5 rfl rfl rfl rfl rfl rfl rfl rfl (wr_arr (pre := []) (post := []) (f := fun (j_ : Int) => [.int .u8 j_]) (n := 24) (sz := 1) (a := m_7) (x := (wU8 (val (gI (48 + x24_2))))) rfl rfl (fun _ => rfl) (gIx_lt h_k53) rfl rfl) ?_
                      refine d_store (i := 2) (vs := [.int .i64 t29.South, .int .i64 t29.West, .int .i64 t29.North, .int .i64 t29.East]) (cs' := [.int .i64 t29.South, .int .i64 t29.West, .int .i64 t29.North, .int .i64 t29.East]) Tryd.sizeOf42 rfl rfl rfl rfl rfl rfl rfl rfl rfl ?_
                      refine d_nil ?_
                      refine c_exit ?_
                      refine c_close ((setA m_7 (val (gIx 24 x21_2)) (wU8 (val (gI (48 + x24_2))))), t29.South, t29.West, t29.North, t29.East) () 0 [0, 1, 2] (by exact ⟨rfl, rfl, rfl, rfl, rfl, rfl, trivial⟩) (by decide) rfl (by exact ⟨H52, trivial⟩) (Nat.lt_succ_self _)
                      ) (by kernel_rfl)
                  · have H53 := cnd_f hb H49; clear H49
                    refine c_skip ?_
                    refine c_close () () 0 [0, 1, 2] (by exact ⟨rfl, rfl, rfl, rfl, rfl, rfl, rfl, rfl, trivial⟩) (by decide) rfl (by exact ⟨H53, trivial⟩) (Nat.lt_succ_self _)
                · have H54 := cnd_f hb H47; clear H47
                  refine l_passed rfl rfl rfl ?_
                  refine l_passed rfl rfl rfl ?_
                  refine l_passed rfl rfl rfl ?_
                  refine l_passed rfl rfl rfl ?_
                  refine l_passed rfl rfl rfl ?_
                  refine l_passed rfl rfl rfl ?_
                  refine l_passed rfl rfl rfl ?_
                  refine l_passed rfl rfl rfl ?_
                  refine l_val rfl rfl rfl (r_pickF (v := .bool false) rfl rfl) ?_
                  refine l_nil ?_
                  refine c_false rfl ?_
                  refine c_skip ?_
                  refine c_close () () 0 [0, 1, 2] (by exact ⟨rfl, rfl, rfl, rfl, rfl, rfl, rfl, rfl, trivial⟩) (by decide) rfl (by exact ⟨H54, trivial⟩) (Nat.lt_succ_self _)
              · rintro _ _ gg H44 _
                replace H44 : where_Cell_j5 x24_2 next4 = some r := H44
                refine c_tidyF [(1, .int .i64 a1), (2, .pointer (some ⟨b4, 0, none⟩)), (7, .pointer (some ⟨b5, 0, none⟩)), (8, .pointer (some ⟨b6, 0, none⟩)), (9, .int .i64 x21_2), (20, .int .i64 a1), (21, .int .i64 x21_2), (24, .int .i64 x24_2)] [cellsC b4 [.int .i64 a0.Lat, .int .i64 a0.Lon] 34, cellsC b5 [.int .u8 (m_7 0), .int .u8 (m_7 1), .int .u8 (m_7 2), .int .u8 (m_7 3), .int .u8 (m_7 4), .int .u8 (m_7 5), .int .u8 (m_7 6), .int .u8 (m_7 7), .int .u8 (m_7 8), .int .u8 (m_7 9), .int .u8 (m_7 10), .int .u8 (m_7 11), .int .u8 (m_7 12), .int .u8 (m_7 13), .int .u8 (m_7 14), .int .u8 (m_7 15), .int .u8 (m_7 16), .int .u8 (m_7 17), .int .u8 (m_7 18), .int .u8 (m_7 19), .int .u8 (m_7 20), .int .u8 (m_7 21), .int .u8 (m_7 22), .int .u8 (m_7 23)] 78, cellsC b6 [.int .i64 m_8, .int .i64 m_9, .int .i64 m_10, .int .i64 m_11] 42] rfl rfl ?_
                refine c_region ?_
                obtain ⟨t54, h_t54, H45⟩ := bnd_some H44; clear H44
                refine l_val rfl rfl rfl (r_addG rfl rfl h_t54) ?_
                refine l_val rfl rfl rfl (r_move (v := .int .i64 t54) rfl) ?_
                refine l_nil ?_
                refine c_close t54 () m4 [0, 1, 2] (by exact ⟨rfl, rfl, rfl, rfl, rfl, rfl, rfl, rfl, trivial⟩) (by decide) rfl (by exact ⟨(by subst hn4; exact H45), trivial⟩) (Nat.lt_succ_self _)
            · have H55 := cnd_f hb H42; clear H42
              refine c_exit ?_
              refine c_close (m_7, m_8, m_9, m_10, m_11) () 0 [0, 1, 2] (by exact ⟨rfl, rfl, rfl, rfl, rfl, rfl, trivial⟩) (by decide) rfl (by exact ⟨H55, trivial⟩) (Nat.lt_succ_self _)
          · rintro ⟨m_12, m_13, m_14, m_15, m_16⟩ _ gg H40 _
            replace H40 : where_Cell_j3 x21_2 next2 m_12 m_13 m_14 m_15 m_16 = some r := H40
            refine c_tidyF [(1, .int .i64 a1), (2, .pointer (some ⟨b4, 0, none⟩)), (7, .pointer (some ⟨b5, 0, none⟩)), (8, .pointer (some ⟨b6, 0, none⟩)), (20, .int .i64 a1), (21, .int .i64 x21_2)] [cellsC b4 [.int .i64 a0.Lat, .int .i64 a0.Lon] 34, cellsC b5 [.int .u8 (m_12 0), .int .u8 (m_12 1), .int .u8 (m_12 2), .int .u8 (m_12 3), .int .u8 (m_12 4), .int .u8 (m_12 5), .int .u8 (m_12 6), .int .u8 (m_12 7), .int .u8 (m_12 8), .int .u8 (m_12 9), .int .u8 (m_12 10), .int .u8 (m_12 11), .int .u8 (m_12 12), .int .u8 (m_12 13), .int .u8 (m_12 14), .int .u8 (m_12 15), .int .u8 (m_12 16), .int .u8 (m_12 17), .int .u8 (m_12 18), .int .u8 (m_12 19), .int .u8 (m_12 20), .int .u8 (m_12 21), .int .u8 (m_12 22), .int .u8 (m_12 23)] 78, cellsC b6 [.int .i64 m_13, .int .i64 m_14, .int .i64 m_15, .int .i64 m_16] 42] rfl rfl ?_
            refine c_region ?_
            obtain ⟨t55, h_t55, H41⟩ := bnd_some H40; clear H40
            refine l_val rfl rfl rfl (r_addG rfl rfl h_t55) ?_
            refine l_val rfl rfl rfl (r_move (v := .int .i64 t55) rfl) ?_
            refine l_nil ?_
            refine c_close (t55, m_12, m_13, m_14, m_15, m_16) () m2 [0, 1, 2] (by exact ⟨rfl, rfl, rfl, rfl, rfl, rfl, trivial⟩) (by decide) rfl (by exact ⟨(by subst hn2; exact H41), trivial⟩) (Nat.lt_succ_self _)
        · have H56 := cnd_f hb H38; clear H38
          refine c_exit ?_
          refine c_close m_7 () 0 [1] (by exact ⟨rfl, rfl, trivial⟩) (by decide) rfl (by exact ⟨H56, trivial⟩) (Nat.lt_succ_self _)
      · rintro m _ gg H36 _
        replace H36 : where_Cell_j1 a1 m = some r := H36
        refine c_tidyF [(1, .int .i64 a1), (7, .pointer (some ⟨b5, 0, none⟩))] [cellsC b5 [.int .u8 (m 0), .int .u8 (m 1), .int .u8 (m 2), .int .u8 (m 3), .int .u8 (m 4), .int .u8 (m 5), .int .u8 (m 6), .int .u8 (m 7), .int .u8 (m 8), .int .u8 (m 9), .int .u8 (m 10), .int .u8 (m 11), .int .u8 (m 12), .int .u8 (m 13), .int .u8 (m 14), .int .u8 (m 15), .int .u8 (m 16), .int .u8 (m 17), .int .u8 (m 18), .int .u8 (m 19), .int .u8 (m 20), .int .u8 (m 21), .int .u8 (m 22), .int .u8 (m 23)] 78] rfl rfl ?_
        refine c_seq ?_
        refine c_region ?_
        refine l_val rfl rfl rfl (r_move (v := .int .i64 a1) rfl) ?_
        obtain ⟨t57, h_t57, H37⟩ := bnd_some H36; clear H36
        refine l_val rfl rfl rfl (r_sliceArr Tryd.underlying78 Tryd.sizeOf5 rfl rfl h_t57) ?_
        refine l_read (fun w hF hS => run_bytes (f := e_u8) (xs := t57) rfl Tryd.underlying63 Tryd.underlying5 Tryd.underlying9 rfl (fun _ => rfl) (row_arr (f := e_u8) (i := 0) hS rfl (by kernel_rfl) (fun _ => rfl) h_t57)) rfl rfl rfl ?_
        refine l_val rfl rfl rfl (r_assign (v := str (toStr t57)) rfl) ?_
        refine l_val rfl rfl rfl (r_assign (v := .int .i64 0) rfl) ?_
        refine l_nil ?_
        refine c_ret ?_
        obtain rfl := Option.some.inj H37
        refine ret2 (v1 := str (toStr t57)) (v2 := .int .i64 0) rfl rfl rfl (fin rfl)
theorem k15 {a0 : (List Int)} {v0 : Value} {r : Int} {w : World} {h : Heap} (hw : Know h w noS) (f0 : FrS h 1 v0 (a0.map e_i64)) (H : Law_first a0 = some r) : Does Tryd.prog 15 (List.toArray [v0]) w (fun v w' => v = (.int .i64 r) ∧ Grow w w') := by
  refine enter (n := 15) Tryd.func15 rfl rfl rfl noS [] (Sat.nil _ _) ?_
  refine c_seq ?_
  refine c_region ?_
  refine l_val rfl rfl rfl (r_assign (v := .int .i64 0) rfl) ?_
  refine l_nil ?_
  refine c_seq ?_
  refine c_seq ?_
  refine c_region ?_
  refine l_val rfl rfl rfl (r_move (v := v0) rfl) ?_
  refine l_val rfl rfl rfl (r_lenF Tryd.underlying81 rfl f0 rfl) ?_
  refine l_val rfl rfl rfl (r_move (v := .int .i64 0) rfl) ?_
  refine l_nil ?_
  refine c_block ?_
  refine c_fix (σ := Int) (τ := Unit) (fun next1 s => Law_first_l1 a0 next1 s) (fun s t => [(5, v0), (6, .int .i64 (a0.length : Int)), (7, .int .i64 s)]) (fun s t => []) (fun s t => True) 0 () [] H (by exact trivial) (by exact ⟨rfl, rfl, rfl, trivial⟩) (by decide) rfl ?_
  rintro x7_2 _ m1 gg H8 _
  clear H
  replace H8 : Law_first_l1 a0 (it (fun next1 s => Law_first_l1 a0 next1 s) m1) x7_2 = some r := H8
  generalize hn1 : it (fun next1 s => Law_first_l1 a0 next1 s) m1 = next1 at H8
  refine c_tidyF [(5, v0), (6, .int .i64 (a0.length : Int)), (7, .int .i64 x7_2)] [] rfl rfl ?_
  refine c_seq ?_
  refine c_region ?_
  refine l_val rfl rfl rfl (r_lss rfl rfl) ?_
  refine l_nil ?_
  refine c_seq ?_
  refine c_if (b := (decide (x7_2 < (a0.length : Int)))) rfl (fun hb => ?_) (fun hb => ?_)
  · have H9 := cnd_t hb H8; clear H8
    refine c_skip ?_
    refine c_seq ?_
    refine c_block ?_
    refine c_seq ?_
    refine c_region ?_
    obtain ⟨t9, h_t9, H10⟩ := bnd_some H9; clear H9
    refine l_val rfl rfl rfl (r_indexF Tryd.underlying81 Tryd.sizeOf23 rfl rfl f0 h_t9) ?_
    refine l_read (fun w hF hS => run_loadG1 (f := e_i64) (i := x7_2) (sz := 1) (j := 0) (v := .int .i64 t9) Tryd.isAgg23 rfl rfl (f0.row (hw.now hF)) h_t9 rfl) rfl rfl rfl ?_
    refine l_val rfl rfl rfl (r_assign (v := .int .i64 t9) rfl) ?_
    refine l_nil ?_
    refine c_seq ?_
    refine c_region ?_
    refine l_val rfl rfl rfl (r_move (v := .int .i64 t9) rfl) ?_
    refine l_val rfl rfl rfl (r_neq rfl rfl) ?_
    refine l_nil ?_
    refine c_if (b := (decide (t9 ≠ 0))) rfl (fun hb => ?_) (fun hb => ?_)
    · have H11 := cnd_t hb H10; clear H10
      refine c_seq ?_
      refine c_region ?_
      refine l_val rfl rfl rfl (r_move (v := .int .i64 t9) rfl) ?_
      refine l_val rfl rfl rfl (r_assign (v := .int .i64 t9) rfl) ?_
      refine l_nil ?_
      refine c_ret ?_
      obtain rfl := Option.some.inj H11
      refine ret1 (v := .int .i64 t9) rfl rfl (fin rfl)
    · have H12 := cnd_f hb H10; clear H10
      refine c_skip ?_
      refine c_region ?_
      obtain ⟨t14, h_t14, H13⟩ := bnd_some H12; clear H12
      refine l_val rfl rfl rfl (r_addG rfl rfl h_t14) ?_
      refine l_val rfl rfl rfl (r_move (v := .int .i64 t14) rfl) ?_
      refine l_nil ?_
      refine c_close t14 () m1 [] (by exact ⟨rfl, rfl, rfl, trivial⟩) (by decide) rfl (by exact ⟨(by subst hn1; exact H13), trivial⟩) (Nat.lt_succ_self _)
  · have H14 := cnd_f hb H8; clear H8
    refine c_exit ?_
    refine c_seq ?_
    refine c_region ?_
    refine l_val rfl rfl rfl (r_assign (v := .int .i64 0) rfl) ?_
    refine l_nil ?_
    refine c_ret ?_
    obtain rfl := Option.some.inj H14
    refine ret1 (v := .int .i64 0) rfl rfl (fin rfl)
theorem k16 {a0 : T_api_Place} {r : Int} (H : R_PlaceFault a0 = some r) : Ret Tryd.prog 16 [.agg #[.int .i64 a0.Lat, .int .i64 a0.Lon]] (.int .i64 r) := by
  refine enterRet (n := 21) Tryd.func16 rfl rfl rfl (fun wd => ?_)
  refine c_seq ?_
  refine c_region ?_
  refine l_box (cs := [.int .i64 a0.Lat, .int .i64 a0.Lon]) rfl rfl rfl rfl (fun b1 => ?_)
  refine l_val rfl rfl rfl (r_assign (v := .int .i64 0) rfl) ?_
  refine l_nil ?_
  refine c_seq ?_
  refine c_seq ?_
  refine c_region ?_
  refine l_val rfl rfl rfl (r_field Tryd.runUnderlying34 rfl Tryd.sizeOf3 rfl rfl) ?_
  refine l_load1 (i := 0) (v := .int .i64 a0.Lat) Tryd.isAgg3 rfl rfl rfl rfl rfl ?_
  refine l_val rfl rfl rfl (r_lss rfl rfl) ?_
  refine l_val rfl rfl rfl (r_move (v := .bool (decide (a0.Lat < (-90000000)))) rfl) ?_
  refine split (fun hb => ?_) (fun hb => ?_)
  · have H9 := cnd_t hb H; clear H
    refine l_passed rfl rfl rfl ?_
    refine l_passed rfl rfl rfl ?_
    refine l_passed rfl rfl rfl ?_
    refine l_val rfl rfl rfl (r_pickT (v := .bool true) rfl rfl) ?_
    refine l_val rfl rfl rfl (r_move (v := .bool true) rfl) ?_
    refine l_passed rfl rfl rfl ?_
    refine l_passed rfl rfl rfl ?_
    refine l_passed rfl rfl rfl ?_
    refine l_val rfl rfl rfl (r_pickT (v := .bool true) rfl rfl) ?_
    refine l_val rfl rfl rfl (r_move (v := .bool true) rfl) ?_
    refine l_passed rfl rfl rfl ?_
    refine l_passed rfl rfl rfl ?_
    refine l_passed rfl rfl rfl ?_
    refine l_val rfl rfl rfl (r_pickT (v := .bool true) rfl rfl) ?_
    refine l_nil ?_
    refine c_true rfl ?_
    refine c_seq ?_
    refine c_region ?_
    refine l_val rfl rfl rfl (r_assign (v := .int .i64 2) rfl) ?_
    refine l_nil ?_
    refine c_ret ?_
    obtain rfl := Option.some.inj H9
    refine ret1 (v := .int .i64 2) rfl rfl (fin rfl)
  · have H10 := cnd_f hb H; clear H
    refine l_val rfl rfl rfl (r_field Tryd.runUnderlying34 rfl Tryd.sizeOf3 rfl rfl) ?_
    refine l_load1 (i := 0) (v := .int .i64 a0.Lat) Tryd.isAgg3 rfl rfl rfl rfl rfl ?_
    refine l_val rfl rfl rfl (r_gtr rfl rfl) ?_
    refine l_val rfl rfl rfl (r_pickF (v := .bool (decide (90000000 < a0.Lat))) rfl rfl) ?_
    refine l_val rfl rfl rfl (r_move (v := .bool (decide (90000000 < a0.Lat))) rfl) ?_
    refine split (fun hb => ?_) (fun hb => ?_)
    · have H11 := cnd_t hb H10; clear H10
      refine l_passed rfl rfl rfl ?_
      refine l_passed rfl rfl rfl ?_
      refine l_passed rfl rfl rfl ?_
      refine l_val rfl rfl rfl (r_pickT (v := .bool true) rfl rfl) ?_
      refine l_val rfl rfl rfl (r_move (v := .bool true) rfl) ?_
      refine l_passed rfl rfl rfl ?_
      refine l_passed rfl rfl rfl ?_
      refine l_passed rfl rfl rfl ?_
      refine l_val rfl rfl rfl (r_pickT (v := .bool true) rfl rfl) ?_
      refine l_nil ?_
      refine c_true rfl ?_
      refine c_seq ?_
      refine c_region ?_
      refine l_val rfl rfl rfl (r_assign (v := .int .i64 2) rfl) ?_
      refine l_nil ?_
      refine c_ret ?_
      obtain rfl := Option.some.inj H11
      refine ret1 (v := .int .i64 2) rfl rfl (fin rfl)
    · have H12 := cnd_f hb H10; clear H10
      refine l_val rfl rfl rfl (r_field Tryd.runUnderlying34 rfl Tryd.sizeOf3 rfl rfl) ?_
      refine l_load1 (i := 0) (v := .int .i64 a0.Lon) Tryd.isAgg3 rfl rfl rfl rfl rfl ?_
      refine l_val rfl rfl rfl (r_lss rfl rfl) ?_
      refine l_val rfl rfl rfl (r_pickF (v := .bool (decide (a0.Lon < (-180000000)))) rfl rfl) ?_
      refine l_val rfl rfl rfl (r_move (v := .bool (decide (a0.Lon < (-180000000)))) rfl) ?_
      refine split (fun hb => ?_) (fun hb => ?_)
      · have H13 := cnd_t hb H12; clear H12
        refine l_passed rfl rfl rfl ?_
        refine l_passed rfl rfl rfl ?_
        refine l_passed rfl rfl rfl ?_
        refine l_val rfl rfl rfl (r_pickT (v := .bool true) rfl rfl) ?_
        refine l_nil ?_
        refine c_true rfl ?_
        refine c_seq ?_
        refine c_region ?_
        refine l_val rfl rfl rfl (r_assign (v := .int .i64 2) rfl) ?_
        refine l_nil ?_
        refine c_ret ?_
        obtain rfl := Option.some.inj H13
        refine ret1 (v := .int .i64 2) rfl rfl (fin rfl)
      · have H14 := cnd_f hb H12; clear H12
        refine l_val rfl rfl rfl (r_field Tryd.runUnderlying34 rfl Tryd.sizeOf3 rfl rfl) ?_
        refine l_load1 (i := 0) (v := .int .i64 a0.Lon) Tryd.isAgg3 rfl rfl rfl rfl rfl ?_
        refine l_val rfl rfl rfl (r_gtr rfl rfl) ?_
        refine l_val rfl rfl rfl (r_pickF (v := .bool (decide (179999999 < a0.Lon))) rfl rfl) ?_
        refine l_nil ?_
        refine c_if (b := (decide (179999999 < a0.Lon))) rfl (fun hb => ?_) (fun hb => ?_)
        · have H15 := cnd_t hb H14; clear H14
          refine c_seq ?_
          refine c_region ?_
          refine l_val rfl rfl rfl (r_assign (v := .int .i64 2) rfl) ?_
          refine l_nil ?_
          refine c_ret ?_
          obtain rfl := Option.some.inj H15
          refine ret1 (v := .int .i64 2) rfl rfl (fin rfl)
        · have H16 := cnd_f hb H14; clear H14
          refine c_skip ?_
          refine c_seq ?_
          refine c_region ?_
          refine l_val rfl rfl rfl (r_assign (v := .int .i64 0) rfl) ?_
          refine l_nil ?_
          refine c_ret ?_
          obtain rfl := Option.some.inj H16
          refine ret1 (v := .int .i64 0) rfl rfl (fin rfl)
theorem k17 {a0 : Bool} {a1 : Int} {r : Int} (H : Law_unless a0 a1 = some r) : Ret Tryd.prog 17 [.bool a0, .int .i64 a1] (.int .i64 r) := by
  refine enterRet (n := 7) Tryd.func17 rfl rfl rfl (fun wd => ?_)
  refine c_seq ?_
  refine c_region ?_
  refine l_val rfl rfl rfl (r_assign (v := .int .i64 0) rfl) ?_
  refine l_nil ?_
  refine c_seq ?_
  refine c_seq ?_
  refine c_region ?_
  refine l_val rfl rfl rfl (r_move (v := .bool a0) rfl) ?_
  refine l_nil ?_
  refine c_if (b := a0) rfl (fun hb => ?_) (fun hb => ?_)
  · have H3 := cnd_t hb H; clear H
    refine c_seq ?_
    refine c_region ?_
    refine l_val rfl rfl rfl (r_assign (v := .int .i64 0) rfl) ?_
    refine l_nil ?_
    refine c_ret ?_
    obtain rfl := Option.some.inj H3
    refine ret1 (v := .int .i64 0) rfl rfl (fin rfl)
  · have H4 := cnd_f hb H; clear H
    refine c_skip ?_
    refine c_seq ?_
    refine c_region ?_
    refine l_val rfl rfl rfl (r_move (v := .int .i64 a1) rfl) ?_
    refine l_val rfl rfl rfl (r_assign (v := .int .i64 a1) rfl) ?_
    refine l_nil ?_
    refine c_ret ?_
    obtain rfl := Option.some.inj H4
    refine ret1 (v := .int .i64 a1) rfl rfl (fin rfl)
theorem k41 {a0 : T_where_Box} {a1 : Int} {r : T_where_Box} (H : R_part a0 a1 = some r) : Ret Tryd.prog 41 [.agg #[.int .i64 a0.South, .int .i64 a0.West, .int .i64 a0.North, .int .i64 a0.East], .int .u8 a1] (.agg #[.int .i64 r.South, .int .i64 r.West, .int .i64 r.North, .int .i64 r.East]) := by
  refine enterRet (n := 50) Tryd.func41 rfl rfl rfl (fun wd => ?_)
  refine c_seq ?_
  refine c_region ?_
  refine l_box (cs := [.int .i64 a0.South, .int .i64 a0.West, .int .i64 a0.North, .int .i64 a0.East]) rfl rfl rfl rfl (fun b2 => ?_)
  refine l_alloc (cs := [.int .i64 0, .int .i64 0, .int .i64 0, .int .i64 0]) Tryd.zeroValue42 rfl rfl rfl (fun b3 => ?_)
  refine l_nil ?_
  refine c_seq ?_
  exact c_regionD (Kd.p :: Kd.d [0] _ :: Kd.p :: Kd.d [0] _ :: Kd.p :: Kd.d [0] _ :: Kd.p :: Kd.p :: Kd.p :: Kd.p :: Kd.p :: Kd.d [0] _ :: Kd.p :: Kd.d [0] _ :: Kd.p :: Kd.d [0] _ :: Kd.p :: Kd.p :: Kd.p :: Kd.p :: Kd.p :: Kd.p :: []) 0 mixed (by
    refine d_val rfl rfl (r_field Tryd.runUnderlying42 rfl Tryd.sizeOf3 rfl rfl) ?_
    refine d_load1 (i := 0) (v := .int .i64 a0.South) Tryd.isAgg3 rfl rfl rfl rfl ?_
    refine d_val rfl rfl (r_field Tryd.runUnderlying42 rfl Tryd.sizeOf3 rfl rfl) ?_
    refine d_load1 (i := 0) (v := .int .i64 a0.North) Tryd.isAgg3 rfl rfl rfl rfl ?_
    refine d_val rfl rfl (r_field Tryd.runUnderlying42 rfl Tryd.sizeOf3 rfl rfl) ?_
    refine d_load1 (i := 0) (v := .int .i64 a0.South) Tryd.isAgg3 rfl rfl rfl rfl ?_
    have h_t13 := bnd_val H
    have H23 := bnd_rest H
    refine d_val rfl rfl (r_subG rfl rfl h_t13) ?_
    have h_t14 := bnd_val H23
    have H24 := bnd_rest H23
    refine d_val rfl rfl (r_addG rfl rfl h_t14) ?_
    have h_t15 := bnd_val H24
    have H25 := bnd_rest H24
    refine d_val rfl rfl (r_quoG rfl rfl h_t15) ?_
    have h_t16 := bnd_val H25
    have H26 := bnd_rest H25
    refine d_val rfl rfl (r_addG rfl rfl h_t16) ?_
    refine d_val rfl rfl (r_field Tryd.runUnderlying42 rfl Tryd.sizeOf3 rfl rfl) ?_
    refine d_load1 (i := 0) (v := .int .i64 a0.West) Tryd.isAgg3 rfl rfl rfl rfl ?_
    refine d_val rfl rfl (r_field Tryd.runUnderlying42 rfl Tryd.sizeOf3 rfl rfl) ?_
    refine d_load1 (i := 0) (v := .int .i64 a0.East) Tryd.isAgg3 rfl rfl rfl rfl ?_
    refine d_val rfl rfl (r_field Tryd.runUnderlying42 rfl Tryd.sizeOf3 rfl rfl) ?_
    refine d_load1 (i := 0) (v := .int .i64 a0.West) Tryd.isAgg3 rfl rfl rfl rfl ?_
    have h_t23 := bnd_val H26
    have H27 := bnd_rest H26
    refine d_val rfl rfl (r_subG rfl rfl h_t23) ?_
    have h_t24 := bnd_val H27
    have H28 := bnd_rest H27
    refine d_val rfl rfl (r_addG rfl rfl h_t24) ?_
    have h_t25 := bnd_val H28
    have H29 := bnd_rest H28
    refine d_val rfl rfl (r_quoG rfl rfl h_t25) ?_
    have h_t26 := bnd_val H29
    have H30 := bnd_rest H29
    refine d_val rfl rfl (r_addG rfl rfl h_t26) ?_
    refine d_val rfl rfl (r_assign (v := .int .i64 (val (gI (a0.South + (val (gQuo (val (gI ((val (gI (a0.North - a0.South))) + 1))) 2)))))) rfl) ?_
    refine d_val rfl rfl (r_assign (v := .int .i64 (val (gI (a0.West + (val (gQuo (val (gI ((val (gI (a0.East - a0.West))) + 1))) 2)))))) rfl) ?_
    refine d_nil ?_
    refine c_meet (r := r) (σ := Int × Int) (τ := Unit) (fun s => R_part_j1 a0 a1 (val (gI (a0.West + (val (gQuo (val (gI ((val (gI (a0.East - a0.West))) + 1))) 2))))) s.1 s.2) (fun s t => [(1, .int .u8 a1), (2, .pointer (some ⟨b2, 0, none⟩)), (4, .pointer (some ⟨b3, 0, none⟩)), (6, .int .i64 (val (gI (a0.West + (val (gQuo (val (gI ((val (gI (a0.East - a0.West))) + 1))) 2))))))]) (fun s t => [cellsC b2 [.int .i64 s.1, .int .i64 a0.West, .int .i64 s.2, .int .i64 a0.East] 42, cellsC b3 [.int .i64 0, .int .i64 0, .int .i64 0, .int .i64 0] 42]) (fun s t => True) ?_ ?_
    · refine c_seq ?_
      refine c_region ?_
      refine l_val rfl rfl rfl (r_move (v := .int .u8 a1) rfl) ?_
      refine l_val rfl rfl rfl (r_eql rfl rfl) ?_
      refine l_val rfl rfl rfl (r_move (v := .bool (decide (a1 = 48))) rfl) ?_
      refine split (fun hb => ?_) (fun hb => ?_)
      · have H39 := cnd_t hb H30; clear H30
        refine l_passed rfl rfl rfl ?_
        refine l_passed rfl rfl rfl ?_
        refine l_val rfl rfl rfl (r_pickT (v := .bool true) rfl rfl) ?_
        refine l_nil ?_
        refine c_true rfl ?_
        refine c_region ?_
        refine l_val rfl rfl rfl (r_move (v := .int .i64 (val (gI (a0.South + (val (gQuo (val (gI ((val (gI (a0.North - a0.South))) + 1))) 2)))))) rfl) ?_
        obtain ⟨t34, h_t34, H40⟩ := bnd_some H39; clear H39
        refine l_val rfl rfl rfl (r_subG rfl rfl h_t34) ?_
        refine l_val rfl rfl rfl (r_field Tryd.runUnderlying42 rfl Tryd.sizeOf3 rfl rfl) ?_
        refine l_store (i := 0) (vs := [.int .i64 t34]) (cs' := [.int .i64 a0.South, .int .i64 a0.West, .int .i64 t34, .int .i64 a0.East]) Tryd.sizeOf3 rfl rfl rfl rfl rfl rfl rfl rfl rfl ?_
        refine l_nil ?_
        refine c_close (a0.South, t34) () 0 [0, 1] (by exact ⟨rfl, rfl, rfl, rfl, trivial⟩) (by decide) rfl (by exact ⟨H40, trivial⟩) (Nat.lt_succ_self _)
      · have H41 := cnd_f hb H30; clear H30
        refine l_val rfl rfl rfl (r_move (v := .int .u8 a1) rfl) ?_
        refine l_val rfl rfl rfl (r_eql rfl rfl) ?_
        refine l_val rfl rfl rfl (r_pickF (v := .bool (decide (a1 = 49))) rfl rfl) ?_
        refine l_nil ?_
        refine c_if (b := (decide (a1 = 49))) rfl (fun hb => ?_) (fun hb => ?_)
        · have H42 := cnd_t hb H41; clear H41
          refine c_region ?_
          refine l_val rfl rfl rfl (r_move (v := .int .i64 (val (gI (a0.South + (val (gQuo (val (gI ((val (gI (a0.North - a0.South))) + 1))) 2)))))) rfl) ?_
          obtain ⟨t34_2, h_t34_2, H43⟩ := bnd_some H42; clear H42
          refine l_val rfl rfl rfl (r_subG rfl rfl h_t34_2) ?_
          refine l_val rfl rfl rfl (r_field Tryd.runUnderlying42 rfl Tryd.sizeOf3 rfl rfl) ?_
          refine l_store (i := 0) (vs := [.int .i64 t34_2]) (cs' := [.int .i64 a0.South, .int .i64 a0.West, .int .i64 t34_2, .int .i64 a0.East]) Tryd.sizeOf3 rfl rfl rfl rfl rfl rfl rfl rfl rfl ?_
          refine l_nil ?_
          refine c_close (a0.South, t34_2) () 0 [0, 1] (by exact ⟨rfl, rfl, rfl, rfl, trivial⟩) (by decide) rfl (by exact ⟨H43, trivial⟩) (Nat.lt_succ_self _)
        · have H44 := cnd_f hb H41; clear H41
          refine c_region ?_
          refine l_val rfl rfl rfl (r_move (v := .int .i64 (val (gI (a0.South + (val (gQuo (val (gI ((val (gI (a0.North - a0.South))) + 1))) 2)))))) rfl) ?_
          refine l_val rfl rfl rfl (r_field Tryd.runUnderlying42 rfl Tryd.sizeOf3 rfl rfl) ?_
          refine l_store (i := 0) (vs := [.int .i64 (val (gI (a0.South + (val (gQuo (val (gI ((val (gI (a0.North - a0.South))) + 1))) 2)))))]) (cs' := [.int .i64 (val (gI (a0.South + (val (gQuo (val (gI ((val (gI (a0.North - a0.South))) + 1))) 2))))), .int .i64 a0.West, .int .i64 a0.North, .int .i64 a0.East]) Tryd.sizeOf3 rfl rfl rfl rfl rfl rfl rfl rfl rfl ?_
          refine l_nil ?_
          refine c_close ((val (gI (a0.South + (val (gQuo (val (gI ((val (gI (a0.North - a0.South))) + 1))) 2))))), a0.North) () 0 [0, 1] (by exact ⟨rfl, rfl, rfl, rfl, trivial⟩) (by decide) rfl (by exact ⟨H44, trivial⟩) (Nat.lt_succ_self _)
    · rintro ⟨m, m_2⟩ _ gg H31 _
      replace H31 : R_part_j1 a0 a1 (val (gI (a0.West + (val (gQuo (val (gI ((val (gI (a0.East - a0.West))) + 1))) 2))))) m m_2 = some r := H31
      refine c_tidyF [(1, .int .u8 a1), (2, .pointer (some ⟨b2, 0, none⟩)), (4, .pointer (some ⟨b3, 0, none⟩)), (6, .int .i64 (val (gI (a0.West + (val (gQuo (val (gI ((val (gI (a0.East - a0.West))) + 1))) 2))))))] [cellsC b2 [.int .i64 m, .int .i64 a0.West, .int .i64 m_2, .int .i64 a0.East] 42, cellsC b3 [.int .i64 0, .int .i64 0, .int .i64 0, .int .i64 0] 42] rfl rfl ?_
      refine c_meet (r := r) (σ := Int × Int) (τ := Unit) (fun s => R_part_j2 m m_2 s.1 s.2) (fun s t => [(2, .pointer (some ⟨b2, 0, none⟩)), (4, .pointer (some ⟨b3, 0, none⟩))]) (fun s t => [cellsC b2 [.int .i64 m, .int .i64 s.1, .int .i64 m_2, .int .i64 s.2] 42, cellsC b3 [.int .i64 0, .int .i64 0, .int .i64 0, .int .i64 0] 42]) (fun s t => True) ?_ ?_
      · refine c_seq ?_
        refine c_region ?_
        refine l_val rfl rfl rfl (r_move (v := .int .u8 a1) rfl) ?_
        refine l_val rfl rfl rfl (r_eql rfl rfl) ?_
        refine l_val rfl rfl rfl (r_move (v := .bool (decide (a1 = 48))) rfl) ?_
        refine split (fun hb => ?_) (fun hb => ?_)
        · have H33 := cnd_t hb H31; clear H31
          refine l_passed rfl rfl rfl ?_
          refine l_passed rfl rfl rfl ?_
          refine l_val rfl rfl rfl (r_pickT (v := .bool true) rfl rfl) ?_
          refine l_nil ?_
          refine c_true rfl ?_
          refine c_region ?_
          refine l_val rfl rfl rfl (r_move (v := .int .i64 (val (gI (a0.West + (val (gQuo (val (gI ((val (gI (a0.East - a0.West))) + 1))) 2)))))) rfl) ?_
          obtain ⟨t45, h_t45, H34⟩ := bnd_some H33; clear H33
          refine l_val rfl rfl rfl (r_subG rfl rfl h_t45) ?_
          refine l_val rfl rfl rfl (r_field Tryd.runUnderlying42 rfl Tryd.sizeOf3 rfl rfl) ?_
          refine l_store (i := 0) (vs := [.int .i64 t45]) (cs' := [.int .i64 m, .int .i64 a0.West, .int .i64 m_2, .int .i64 t45]) Tryd.sizeOf3 rfl rfl rfl rfl rfl rfl rfl rfl rfl ?_
          refine l_nil ?_
          refine c_close (a0.West, t45) () 0 [0, 1] (by exact ⟨rfl, rfl, trivial⟩) (by decide) rfl (by exact ⟨H34, trivial⟩) (Nat.lt_succ_self _)
        · have H35 := cnd_f hb H31; clear H31
          refine l_val rfl rfl rfl (r_move (v := .int .u8 a1) rfl) ?_
          refine l_val rfl rfl rfl (r_eql rfl rfl) ?_
          refine l_val rfl rfl rfl (r_pickF (v := .bool (decide (a1 = 50))) rfl rfl) ?_
          refine l_nil ?_
          refine c_if (b := (decide (a1 = 50))) rfl (fun hb => ?_) (fun hb => ?_)
          · have H36 := cnd_t hb H35; clear H35
            refine c_region ?_
            refine l_val rfl rfl rfl (r_move (v := .int .i64 (val (gI (a0.West + (val (gQuo (val (gI ((val (gI (a0.East - a0.West))) + 1))) 2)))))) rfl) ?_
            obtain ⟨t45_2, h_t45_2, H37⟩ := bnd_some H36; clear H36
            refine l_val rfl rfl rfl (r_subG rfl rfl h_t45_2) ?_
            refine l_val rfl rfl rfl (r_field Tryd.runUnderlying42 rfl Tryd.sizeOf3 rfl rfl) ?_
            refine l_store (i := 0) (vs := [.int .i64 t45_2]) (cs' := [.int .i64 m, .int .i64 a0.West, .int .i64 m_2, .int .i64 t45_2]) Tryd.sizeOf3 rfl rfl rfl rfl rfl rfl rfl rfl rfl ?_
            refine l_nil ?_
            refine c_close (a0.West, t45_2) () 0 [0, 1] (by exact ⟨rfl, rfl, trivial⟩) (by decide) rfl (by exact ⟨H37, trivial⟩) (Nat.lt_succ_self _)
          · have H38 := cnd_f hb H35; clear H35
            refine c_region ?_
            refine l_val rfl rfl rfl (r_move (v := .int .i64 (val (gI (a0.West + (val (gQuo (val (gI ((val (gI (a0.East - a0.West))) + 1))) 2)))))) rfl) ?_
            refine l_val rfl rfl rfl (r_field Tryd.runUnderlying42 rfl Tryd.sizeOf3 rfl rfl) ?_
            refine l_store (i := 0) (vs := [.int .i64 (val (gI (a0.West + (val (gQuo (val (gI ((val (gI (a0.East - a0.West))) + 1))) 2)))))]) (cs' := [.int .i64 m, .int .i64 (val (gI (a0.West + (val (gQuo (val (gI ((val (gI (a0.East - a0.West))) + 1))) 2))))), .int .i64 m_2, .int .i64 a0.East]) Tryd.sizeOf3 rfl rfl rfl rfl rfl rfl rfl rfl rfl ?_
            refine l_nil ?_
            refine c_close ((val (gI (a0.West + (val (gQuo (val (gI ((val (gI (a0.East - a0.West))) + 1))) 2))))), a0.East) () 0 [0, 1] (by exact ⟨rfl, rfl, trivial⟩) (by decide) rfl (by exact ⟨H38, trivial⟩) (Nat.lt_succ_self _)
      · rintro ⟨m_3, m_4⟩ _ gg H32 _
        replace H32 : R_part_j2 m m_2 m_3 m_4 = some r := H32
        refine c_tidyF [(2, .pointer (some ⟨b2, 0, none⟩)), (4, .pointer (some ⟨b3, 0, none⟩))] [cellsC b2 [.int .i64 m, .int .i64 m_3, .int .i64 m_2, .int .i64 m_4] 42, cellsC b3 [.int .i64 0, .int .i64 0, .int .i64 0, .int .i64 0] 42] rfl rfl ?_
        refine c_seq ?_
        refine c_region ?_
        refine l_loadN (i := 0) (vs := [.int .i64 m, .int .i64 m_3, .int .i64 m_2, .int .i64 m_4]) Tryd.isAgg42 Tryd.sizeOf42 rfl rfl rfl rfl rfl ?_
        refine l_store (i := 1) (vs := [.int .i64 m, .int .i64 m_3, .int .i64 m_2, .int .i64 m_4]) (cs' := [.int .i64 m, .int .i64 m_3, .int .i64 m_2, .int .i64 m_4]) Tryd.sizeOf42 rfl rfl rfl rfl rfl rfl rfl rfl rfl ?_
        refine l_nil ?_
        refine c_ret ?_
        obtain rfl := Option.some.inj H32
        refine retC (i := 1) (vs := [.int .i64 m, .int .i64 m_3, .int .i64 m_2, .int .i64 m_4]) Tryd.isAgg42 Tryd.sizeOf42 rfl rfl rfl rfl (fin rfl)
    ) (by kernel_rfl)
theorem k18 {a0 : T_api_Place} {a1 : Int} {r : (List UInt8)} (H : R_CellOf a0 a1 = some r) : Ret Tryd.prog 18 [.agg #[.int .i64 a0.Lat, .int .i64 a0.Lon], .int .i64 a1] (str r) := by
  refine enterRet (n := 59) Tryd.func18 rfl rfl rfl (fun wd => ?_)
  refine c_seq ?_
  refine c_region ?_
  refine l_box (cs := [.int .i64 a0.Lat, .int .i64 a0.Lon]) rfl rfl rfl rfl (fun b5 => ?_)
  refine l_val rfl rfl rfl (r_assign (v := str []) rfl) ?_
  refine l_nil ?_
  refine c_seq ?_
  refine c_region ?_
  refine l_val rfl rfl rfl (r_build (pl := #[(0, 1), (1, 1), (2, 1), (3, 1)]) (ps := [(0, .int .i64 (-90000000)), (2, .int .i64 90000000), (1, .int .i64 (-180000000)), (3, .int .i64 179999999)]) (cells := #[.int .i64 (-90000000), .int .i64 (-180000000), .int .i64 90000000, .int .i64 179999999]) Tryd.zeroValue42 Tryd.runUnderlying42 (fun w => by kernel_rfl) rfl rfl) ?_
  refine l_alloc (cs := [.int .i64 0, .int .i64 0, .int .i64 0, .int .i64 0]) Tryd.zeroValue42 rfl rfl rfl (fun b6 => ?_)
  refine l_store (i := 1) (vs := [.int .i64 (-90000000), .int .i64 (-180000000), .int .i64 90000000, .int .i64 179999999]) (cs' := [.int .i64 (-90000000), .int .i64 (-180000000), .int .i64 90000000, .int .i64 179999999]) Tryd.sizeOf42 rfl rfl rfl rfl rfl rfl rfl rfl rfl ?_
  refine l_nil ?_
  refine c_seq ?_
  refine c_region ?_
  refine l_val rfl rfl rfl (r_assign (v := str []) rfl) ?_
  refine l_nil ?_
  refine c_seq ?_
  refine c_seq ?_
  refine c_region ?_
  refine l_val rfl rfl rfl (r_move (v := .int .i64 a1) rfl) ?_
  refine l_val rfl rfl rfl (r_move (v := .int .i64 0) rfl) ?_
  refine l_nil ?_
  refine c_block ?_
  refine c_fix (σ := (List UInt8) × Int × Int × Int × Int × Int) (τ := Unit) (fun next1 s => R_CellOf_l1 a0 a1 next1 s.1 s.2.1 s.2.2.1 s.2.2.2.1 s.2.2.2.2.1 s.2.2.2.2.2) (fun s t => [(2, .pointer (some ⟨b5, 0, none⟩)), (5, .pointer (some ⟨b6, 0, none⟩)), (6, str s.1), (11, .int .i64 a1), (12, .int .i64 s.2.1)]) (fun s t => [cellsC b5 [.int .i64 a0.Lat, .int .i64 a0.Lon] 34, cellsC b6 [.int .i64 s.2.2.1, .int .i64 s.2.2.2.1, .int .i64 s.2.2.2.2.1, .int .i64 s.2.2.2.2.2] 42]) (fun s t => True) ([], 0, (-90000000), (-180000000), 90000000, 179999999) () [0, 1] H (by exact trivial) (by exact ⟨rfl, rfl, rfl, rfl, rfl, trivial⟩) (by decide) rfl ?_
  rintro ⟨x6_2, x12_2, m_5, m_6, m_7, m_8⟩ _ m1 gg H22 _
  clear H
  replace H22 : R_CellOf_l1 a0 a1 (it (fun next1 s => R_CellOf_l1 a0 a1 next1 s.1 s.2.1 s.2.2.1 s.2.2.2.1 s.2.2.2.2.1 s.2.2.2.2.2) m1) x6_2 x12_2 m_5 m_6 m_7 m_8 = some r := H22
  generalize hn1 : it (fun next1 s => R_CellOf_l1 a0 a1 next1 s.1 s.2.1 s.2.2.1 s.2.2.2.1 s.2.2.2.2.1 s.2.2.2.2.2) m1 = next1 at H22
  refine c_tidyF [(2, .pointer (some ⟨b5, 0, none⟩)), (5, .pointer (some ⟨b6, 0, none⟩)), (6, str x6_2), (11, .int .i64 a1), (12, .int .i64 x12_2)] [cellsC b5 [.int .i64 a0.Lat, .int .i64 a0.Lon] 34, cellsC b6 [.int .i64 m_5, .int .i64 m_6, .int .i64 m_7, .int .i64 m_8] 42] rfl rfl ?_
  refine c_seq ?_
  refine c_region ?_
  refine l_val rfl rfl rfl (r_lss rfl rfl) ?_
  refine l_nil ?_
  refine c_seq ?_
  refine c_if (b := (decide (x12_2 < a1))) rfl (fun hb => ?_) (fun hb => ?_)
  · have H23 := cnd_t hb H22; clear H22
    refine c_skip ?_
    refine c_meet (r := r) (σ := (List UInt8) × Int × Int × Int × Int) (τ := Unit) (fun s => R_CellOf_j2 x12_2 next1 s.1 s.2.1 s.2.2.1 s.2.2.2.1 s.2.2.2.2) (fun s t => [(2, .pointer (some ⟨b5, 0, none⟩)), (5, .pointer (some ⟨b6, 0, none⟩)), (6, str s.1), (11, .int .i64 a1), (12, .int .i64 x12_2)]) (fun s t => [cellsC b5 [.int .i64 a0.Lat, .int .i64 a0.Lon] 34, cellsC b6 [.int .i64 s.2.1, .int .i64 s.2.2.1, .int .i64 s.2.2.2.1, .int .i64 s.2.2.2.2] 42]) (fun s t => True) ?_ ?_
    · refine c_block ?_
      refine c_seq ?_
      refine c_region ?_
      refine l_buildSlice (vs := [.int .u8 48, .int .u8 49, .int .u8 50, .int .u8 51]) (cs := [.int .u8 48, .int .u8 49, .int .u8 50, .int .u8 51]) Tryd.underlying63 Tryd.sizeOf5 Tryd.zeroValue5 rfl rfl rfl rfl rfl rfl rfl (fun b7 => ?_)
      refine l_turn (turns_mark (i := 2) (rds := []) (f := e_u8) (xs := ([48, 49, 50, 51] : List Int)) (m := 4) (sz := 1) rfl Tryd.underlying63 Tryd.underlying5 rfl rfl rfl rfl rfl rfl) rfl rfl rfl (fun _ => ?_)
      refine l_val rfl rfl rfl (r_len Tryd.underlying63 rfl) ?_
      refine l_val rfl rfl rfl (r_move (v := .int .i64 0) rfl) ?_
      refine l_nil ?_
      refine c_block ?_
      refine c_fix (σ := Int) (τ := Unit) (fun next3 s => R_CellOf_l3 a0 x6_2 x12_2 m_5 m_6 m_7 m_8 next1 next3 s) (fun s t => [(2, .pointer (some ⟨b5, 0, none⟩)), (5, .pointer (some ⟨b6, 0, none⟩)), (6, str x6_2), (11, .int .i64 a1), (12, .int .i64 x12_2), (15, .slice ((some ⟨b7, 0, none⟩, 4) : Option Addr × Nat).1 4 ((some ⟨b7, 0, none⟩, 4) : Option Addr × Nat).2), (16, .int .i64 (4 : Int)), (17, .int .i64 s)]) (fun s t => [cellsC b5 [.int .i64 a0.Lat, .int .i64 a0.Lon] 34, cellsC b6 [.int .i64 m_5, .int .i64 m_6, .int .i64 m_7, .int .i64 m_8] 42, apV 5 1 (.slice ((some ⟨b7, 0, none⟩, 4) : Option Addr × Nat).1 4 ((some ⟨b7, 0, none⟩, 4) : Option Addr × Nat).2) 4 (([48, 49, 50, 51] : List Int).map e_u8)]) (fun s t => True) 0 () [0, 1, 2] H23 (by exact trivial) (by exact ⟨rfl, rfl, rfl, rfl, rfl, rfl, rfl, rfl, trivial⟩) (by decide) rfl ?_
      rintro x17_2 _ m3 gg H26 _
      clear H23
      replace H26 : R_CellOf_l3 a0 x6_2 x12_2 m_5 m_6 m_7 m_8 next1 (it (fun next3 s => R_CellOf_l3 a0 x6_2 x12_2 m_5 m_6 m_7 m_8 next1 next3 s) m3) x17_2 = some r := H26
      generalize hn3 : it (fun next3 s => R_CellOf_l3 a0 x6_2 x12_2 m_5 m_6 m_7 m_8 next1 next3 s) m3 = next3 at H26
      refine c_tidyF [(2, .pointer (some ⟨b5, 0, none⟩)), (5, .pointer (some ⟨b6, 0, none⟩)), (6, str x6_2), (11, .int .i64 a1), (12, .int .i64 x12_2), (15, .slice ((some ⟨b7, 0, none⟩, 4) : Option Addr × Nat).1 4 ((some ⟨b7, 0, none⟩, 4) : Option Addr × Nat).2), (16, .int .i64 (4 : Int)), (17, .int .i64 x17_2)] [cellsC b5 [.int .i64 a0.Lat, .int .i64 a0.Lon] 34, cellsC b6 [.int .i64 m_5, .int .i64 m_6, .int .i64 m_7, .int .i64 m_8] 42, apV 5 1 (.slice ((some ⟨b7, 0, none⟩, 4) : Option Addr × Nat).1 4 ((some ⟨b7, 0, none⟩, 4) : Option Addr × Nat).2) 4 (([48, 49, 50, 51] : List Int).map e_u8)] rfl rfl ?_
      refine c_seq ?_
      refine c_region ?_
      refine l_val rfl rfl rfl (r_lss rfl rfl) ?_
      refine l_nil ?_
      refine c_seq ?_
      refine c_if (b := (decide (x17_2 < (4 : Int)))) rfl (fun hb => ?_) (fun hb => ?_)
      · have H27 := cnd_t hb H26; clear H26
        refine c_skip ?_
        refine c_meet (r := r) (σ := Unit) (τ := Unit) (fun s => R_CellOf_j4 x17_2 next3) (fun s t => [(2, .pointer (some ⟨b5, 0, none⟩)), (5, .pointer (some ⟨b6, 0, none⟩)), (6, str x6_2), (11, .int .i64 a1), (12, .int .i64 x12_2), (15, .slice ((some ⟨b7, 0, none⟩, 4) : Option Addr × Nat).1 4 ((some ⟨b7, 0, none⟩, 4) : Option Addr × Nat).2), (16, .int .i64 (4 : Int)), (17, .int .i64 x17_2)]) (fun s t => [cellsC b5 [.int .i64 a0.Lat, .int .i64 a0.Lon] 34, cellsC b6 [.int .i64 m_5, .int .i64 m_6, .int .i64 m_7, .int .i64 m_8] 42, apV 5 1 (.slice ((some ⟨b7, 0, none⟩, 4) : Option Addr × Nat).1 4 ((some ⟨b7, 0, none⟩, 4) : Option Addr × Nat).2) 4 (([48, 49, 50, 51] : List Int).map e_u8)]) (fun s t => True) ?_ ?_
        · refine c_block ?_
          refine c_seq ?_
          refine c_region ?_
          obtain ⟨t19, h_t19, H30⟩ := bnd_some H27; clear H27
          refine l_read (fun w hF hS => run_indexO Tryd.underlying63 Tryd.sizeOf5 rfl rfl (apOf (i := 2) hS rfl) rfl h_t19) rfl rfl rfl ?_
          refine l_read (fun w hF hS => run_loadG1 (f := e_u8) (i := x17_2) (sz := 1) (j := 0) (v := .int .u8 t19) Tryd.isAgg5 rfl rfl (apOf (i := 2) hS rfl) h_t19 rfl) rfl rfl rfl ?_
          refine l_val rfl rfl rfl (r_assign (v := .int .u8 t19) rfl) ?_
          refine l_nil ?_
          refine c_seq ?_
          refine c_region ?_
          refine l_loadN (i := 1) (vs := [.int .i64 m_5, .int .i64 m_6, .int .i64 m_7, .int .i64 m_8]) Tryd.isAgg42 Tryd.sizeOf42 rfl rfl rfl rfl rfl ?_
          refine l_val rfl rfl rfl (r_move (v := .int .u8 t19) rfl) ?_
          obtain ⟨t23, h_t23, H31⟩ := bnd_some H30; clear H30
          refine l_call (k41 h_t23) Tryd.call41 rfl rfl rfl ?_
          refine l_alloc (cs := [.int .i64 0, .int .i64 0, .int .i64 0, .int .i64 0]) Tryd.zeroValue42 rfl rfl rfl (fun b8 => ?_)
          refine l_store (i := 3) (vs := [.int .i64 t23.South, .int .i64 t23.West, .int .i64 t23.North, .int .i64 t23.East]) (cs' := [.int .i64 t23.South, .int .i64 t23.West, .int .i64 t23.North, .int .i64 t23.East]) Tryd.sizeOf42 rfl rfl rfl rfl rfl rfl rfl rfl rfl ?_
          refine l_nil ?_
          refine c_seq ?_
          refine c_region ?_
          refine l_val rfl rfl rfl (r_field Tryd.runUnderlying42 rfl Tryd.sizeOf3 rfl rfl) ?_
          refine l_load1 (i := 3) (v := .int .i64 t23.South) Tryd.isAgg3 rfl rfl rfl rfl rfl ?_
          refine l_val rfl rfl rfl (r_field Tryd.runUnderlying34 rfl Tryd.sizeOf3 rfl rfl) ?_
          refine l_load1 (i := 0) (v := .int .i64 a0.Lat) Tryd.isAgg3 rfl rfl rfl rfl rfl ?_
          refine l_val rfl rfl rfl (r_leq rfl rfl) ?_
          refine l_val rfl rfl rfl (r_move (v := .bool (decide (t23.South ≤ a0.Lat))) rfl) ?_
          refine split (fun hb => ?_) (fun hb => ?_)
          · have H32 := cnd_t hb H31; clear H31
            refine l_val rfl rfl rfl (r_field Tryd.runUnderlying34 rfl Tryd.sizeOf3 rfl rfl) ?_
            refine l_load1 (i := 0) (v := .int .i64 a0.Lat) Tryd.isAgg3 rfl rfl rfl rfl rfl ?_
            refine l_val rfl rfl rfl (r_field Tryd.runUnderlying42 rfl Tryd.sizeOf3 rfl rfl) ?_
            refine l_load1 (i := 3) (v := .int .i64 t23.North) Tryd.isAgg3 rfl rfl rfl rfl rfl ?_
            refine l_val rfl rfl rfl (r_leq rfl rfl) ?_
            refine l_val rfl rfl rfl (r_pickT (v := .bool (decide (a0.Lat ≤ t23.North))) rfl rfl) ?_
            refine l_val rfl rfl rfl (r_move (v := .bool (decide (a0.Lat ≤ t23.North))) rfl) ?_
            refine split (fun hb => ?_) (fun hb => ?_)
            · have H33 := cnd_t hb H32; clear H32
              refine l_val rfl rfl rfl (r_field Tryd.runUnderlying42 rfl Tryd.sizeOf3 rfl rfl) ?_
              refine l_load1 (i := 3) (v := .int .i64 t23.West) Tryd.isAgg3 rfl rfl rfl rfl rfl ?_
              refine l_val rfl rfl rfl (r_field Tryd.runUnderlying34 rfl Tryd.sizeOf3 rfl rfl) ?_
              refine l_load1 (i := 0) (v := .int .i64 a0.Lon) Tryd.isAgg3 rfl rfl rfl rfl rfl ?_
              refine l_val rfl rfl rfl (r_leq rfl rfl) ?_
              refine l_val rfl rfl rfl (r_pickT (v := .bool (decide (t23.West ≤ a0.Lon))) rfl rfl) ?_
              refine l_val rfl rfl rfl (r_move (v := .bool (decide (t23.West ≤ a0.Lon))) rfl) ?_
              refine split (fun hb => ?_) (fun hb => ?_)
              · have H34 := cnd_t hb H33; clear H33
                refine l_val rfl rfl rfl (r_field Tryd.runUnderlying34 rfl Tryd.sizeOf3 rfl rfl) ?_
                refine l_load1 (i := 0) (v := .int .i64 a0.Lon) Tryd.isAgg3 rfl rfl rfl rfl rfl ?_
                refine l_val rfl rfl rfl (r_field Tryd.runUnderlying42 rfl Tryd.sizeOf3 rfl rfl) ?_
                refine l_load1 (i := 3) (v := .int .i64 t23.East) Tryd.isAgg3 rfl rfl rfl rfl rfl ?_
                refine l_val rfl rfl rfl (r_leq rfl rfl) ?_
                refine l_val rfl rfl rfl (r_pickT (v := .bool (decide (a0.Lon ≤ t23.East))) rfl rfl) ?_
                refine l_nil ?_
                refine c_if (b := (decide (a0.Lon ≤ t23.East))) rfl (fun hb => ?_) (fun hb => ?_)
                · have H35 := cnd_t hb H34; clear H34
                  refine c_seq ?_
                  exact c_regionD (Kd.p :: Kd.p :: Kd.ns 4 [_] 5 1 :: Kd.d [4] _ :: Kd.p :: Kd.d [3] _ :: Kd.p :: Kd.st 5 1 [_, _, _, _] 42 :: []) 1 mixed (by
                    refine d_val rfl rfl (r_move (v := str x6_2) rfl) ?_
                    refine d_val rfl rfl (r_move (v := .int .u8 t19) rfl) ?_
                    refine d_newS rfl rfl (run_buildSlice (vs := [.int .u8 t19]) (cs := [.int .u8 t19]) Tryd.underlying63 Tryd.sizeOf5 Tryd.zeroValue5 rfl rfl rfl rfl rfl) rfl (fun b9 => ?_)
                    refine d_readD (fun w L' hF hS hi => run_bytes (f := e_u8) (xs := ([t19] : List Int)) rfl Tryd.underlying63 Tryd.underlying5 Tryd.underlying9 rfl (fun _ => rfl) (row_box (sz := 1) (xs := ([t19] : List Int).map e_u8) (i := 4) hS ((hi 4 (by simp)).trans rfl) rfl rfl)) rfl rfl ?_
                    have h_t54 := bnd_val H35
                    have H36 := bnd_rest H35
                    refine d_val rfl rfl (r_concatG rfl rfl h_t54) ?_
                    refine d_loadN (i := 3) (vs := [.int .i64 t23.South, .int .i64 t23.West, .int .i64 t23.North, .int .i64 t23.East]) Tryd.isAgg42 Tryd.sizeOf42 rfl rfl rfl rfl ?_
                    refine d_val rfl rfl (r_assign (v := str (val (gCat x6_2 (toStr ([t19] : List Int))))) rfl) ?_
                    refine d_store (i := 1) (vs := [.int .i64 t23.South, .int .i64 t23.West, .int .i64 t23.North, .int .i64 t23.East]) (cs' := [.int .i64 t23.South, .int .i64 t23.West, .int .i64 t23.North, .int .i64 t23.East]) Tryd.sizeOf42 rfl rfl rfl rfl rfl rfl rfl rfl rfl ?_
                    refine d_nil ?_
                    refine c_exit ?_
                    refine c_close ((val (gCat x6_2 (toStr ([t19] : List Int)))), t23.South, t23.West, t23.North, t23.East) () 0 [0, 1] (by exact ⟨rfl, rfl, rfl, rfl, rfl, trivial⟩) (by decide) rfl (by exact ⟨H36, trivial⟩) (Nat.lt_succ_self _)
                    ) (by kernel_rfl)
                · have H37 := cnd_f hb H34; clear H34
                  refine c_skip ?_
                  refine c_close () () 0 [0, 1, 2] (by exact ⟨rfl, rfl, rfl, rfl, rfl, rfl, rfl, rfl, trivial⟩) (by decide) rfl (by exact ⟨H37, trivial⟩) (Nat.lt_succ_self _)
              · have H38 := cnd_f hb H33; clear H33
                refine l_passed rfl rfl rfl ?_
                refine l_passed rfl rfl rfl ?_
                refine l_passed rfl rfl rfl ?_
                refine l_passed rfl rfl rfl ?_
                refine l_passed rfl rfl rfl ?_
                refine l_val rfl rfl rfl (r_pickF (v := .bool false) rfl rfl) ?_
                refine l_nil ?_
                refine c_false rfl ?_
                refine c_skip ?_
                refine c_close () () 0 [0, 1, 2] (by exact ⟨rfl, rfl, rfl, rfl, rfl, rfl, rfl, rfl, trivial⟩) (by decide) rfl (by exact ⟨H38, trivial⟩) (Nat.lt_succ_self _)
            · have H39 := cnd_f hb H32; clear H32
              refine l_passed rfl rfl rfl ?_
              refine l_passed rfl rfl rfl ?_
              refine l_passed rfl rfl rfl ?_
              refine l_passed rfl rfl rfl ?_
              refine l_passed rfl rfl rfl ?_
              refine l_val rfl rfl rfl (r_pickF (v := .bool false) rfl rfl) ?_
              refine l_val rfl rfl rfl (r_move (v := .bool false) rfl) ?_
              refine l_passed rfl rfl rfl ?_
              refine l_passed rfl rfl rfl ?_
              refine l_passed rfl rfl rfl ?_
              refine l_passed rfl rfl rfl ?_
              refine l_passed rfl rfl rfl ?_
              refine l_val rfl rfl rfl (r_pickF (v := .bool false) rfl rfl) ?_
              refine l_nil ?_
              refine c_false rfl ?_
              refine c_skip ?_
              refine c_close () () 0 [0, 1, 2] (by exact ⟨rfl, rfl, rfl, rfl, rfl, rfl, rfl, rfl, trivial⟩) (by decide) rfl (by exact ⟨H39, trivial⟩) (Nat.lt_succ_self _)
          · have H40 := cnd_f hb H31; clear H31
            refine l_passed rfl rfl rfl ?_
            refine l_passed rfl rfl rfl ?_
            refine l_passed rfl rfl rfl ?_
            refine l_passed rfl rfl rfl ?_
            refine l_passed rfl rfl rfl ?_
            refine l_val rfl rfl rfl (r_pickF (v := .bool false) rfl rfl) ?_
            refine l_val rfl rfl rfl (r_move (v := .bool false) rfl) ?_
            refine l_passed rfl rfl rfl ?_
            refine l_passed rfl rfl rfl ?_
            refine l_passed rfl rfl rfl ?_
            refine l_passed rfl rfl rfl ?_
            refine l_passed rfl rfl rfl ?_
            refine l_val rfl rfl rfl (r_pickF (v := .bool false) rfl rfl) ?_
            refine l_val rfl rfl rfl (r_move (v := .bool false) rfl) ?_
            refine l_passed rfl rfl rfl ?_
            refine l_passed rfl rfl rfl ?_
            refine l_passed rfl rfl rfl ?_
            refine l_passed rfl rfl rfl ?_
            refine l_passed rfl rfl rfl ?_
            refine l_val rfl rfl rfl (r_pickF (v := .bool false) rfl rfl) ?_
            refine l_nil ?_
            refine c_false rfl ?_
            refine c_skip ?_
            refine c_close () () 0 [0, 1, 2] (by exact ⟨rfl, rfl, rfl, rfl, rfl, rfl, rfl, rfl, trivial⟩) (by decide) rfl (by exact ⟨H40, trivial⟩) (Nat.lt_succ_self _)
        · rintro _ _ gg H28 _
          replace H28 : R_CellOf_j4 x17_2 next3 = some r := H28
          refine c_tidyF [(2, .pointer (some ⟨b5, 0, none⟩)), (5, .pointer (some ⟨b6, 0, none⟩)), (6, str x6_2), (11, .int .i64 a1), (12, .int .i64 x12_2), (15, .slice ((some ⟨b7, 0, none⟩, 4) : Option Addr × Nat).1 4 ((some ⟨b7, 0, none⟩, 4) : Option Addr × Nat).2), (16, .int .i64 (4 : Int)), (17, .int .i64 x17_2)] [cellsC b5 [.int .i64 a0.Lat, .int .i64 a0.Lon] 34, cellsC b6 [.int .i64 m_5, .int .i64 m_6, .int .i64 m_7, .int .i64 m_8] 42, apV 5 1 (.slice ((some ⟨b7, 0, none⟩, 4) : Option Addr × Nat).1 4 ((some ⟨b7, 0, none⟩, 4) : Option Addr × Nat).2) 4 (([48, 49, 50, 51] : List Int).map e_u8)] rfl rfl ?_
          refine c_region ?_
          obtain ⟨t56, h_t56, H29⟩ := bnd_some H28; clear H28
          refine l_val rfl rfl rfl (r_addG rfl rfl h_t56) ?_
          refine l_val rfl rfl rfl (r_move (v := .int .i64 t56) rfl) ?_
          refine l_nil ?_
          refine c_close t56 () m3 [0, 1, 2] (by exact ⟨rfl, rfl, rfl, rfl, rfl, rfl, rfl, rfl, trivial⟩) (by decide) rfl (by exact ⟨(by subst hn3; exact H29), trivial⟩) (Nat.lt_succ_self _)
      · have H41 := cnd_f hb H26; clear H26
        refine c_exit ?_
        refine c_close (x6_2, m_5, m_6, m_7, m_8) () 0 [0, 1] (by exact ⟨rfl, rfl, rfl, rfl, rfl, trivial⟩) (by decide) rfl (by exact ⟨H41, trivial⟩) (Nat.lt_succ_self _)
    · rintro ⟨x6_3, m_9, m_10, m_11, m_12⟩ _ gg H24 _
      replace H24 : R_CellOf_j2 x12_2 next1 x6_3 m_9 m_10 m_11 m_12 = some r := H24
      refine c_tidyF [(2, .pointer (some ⟨b5, 0, none⟩)), (5, .pointer (some ⟨b6, 0, none⟩)), (6, str x6_3), (11, .int .i64 a1), (12, .int .i64 x12_2)] [cellsC b5 [.int .i64 a0.Lat, .int .i64 a0.Lon] 34, cellsC b6 [.int .i64 m_9, .int .i64 m_10, .int .i64 m_11, .int .i64 m_12] 42] rfl rfl ?_
      refine c_region ?_
      obtain ⟨t57, h_t57, H25⟩ := bnd_some H24; clear H24
      refine l_val rfl rfl rfl (r_addG rfl rfl h_t57) ?_
      refine l_val rfl rfl rfl (r_move (v := .int .i64 t57) rfl) ?_
      refine l_nil ?_
      refine c_close (x6_3, t57, m_9, m_10, m_11, m_12) () m1 [0, 1] (by exact ⟨rfl, rfl, rfl, rfl, rfl, trivial⟩) (by decide) rfl (by exact ⟨(by subst hn1; exact H25), trivial⟩) (Nat.lt_succ_self _)
  · have H42 := cnd_f hb H22; clear H22
    refine c_exit ?_
    refine c_seq ?_
    refine c_region ?_
    refine l_val rfl rfl rfl (r_move (v := str x6_2) rfl) ?_
    refine l_val rfl rfl rfl (r_assign (v := str x6_2) rfl) ?_
    refine l_nil ?_
    refine c_ret ?_
    obtain rfl := Option.some.inj H42
    refine ret1 (v := str x6_2) rfl rfl (fin rfl)
theorem k19 {a0 : (List UInt8)} {r : T_where_Box × Int} (H : where_BoxOf a0 = some r) : Ret Tryd.prog 19 [str a0] (.tuple #[.agg #[.int .i64 r.1.South, .int .i64 r.1.West, .int .i64 r.1.North, .int .i64 r.1.East], .int .i64 r.2]) := by
  refine enterRet (n := 28) Tryd.func19 rfl rfl rfl (fun wd => ?_)
  refine c_seq ?_
  refine c_region ?_
  refine l_alloc (cs := [.int .i64 0, .int .i64 0, .int .i64 0, .int .i64 0]) Tryd.zeroValue42 rfl rfl rfl (fun b2 => ?_)
  refine l_val rfl rfl rfl (r_assign (v := .int .i64 0) rfl) ?_
  refine l_nil ?_
  refine c_seq ?_
  refine c_seq ?_
  refine c_region ?_
  refine l_val rfl rfl rfl (r_move (v := str a0) rfl) ?_
  obtain ⟨t8, h_t8, H13⟩ := bnd_some H; clear H
  refine l_call (k42 h_t8) Tryd.call42 rfl rfl rfl ?_
  refine l_val rfl rfl rfl (r_assign (v := .int .i64 t8) rfl) ?_
  refine l_nil ?_
  refine c_seq ?_
  refine c_region ?_
  refine l_val rfl rfl rfl (r_move (v := .int .i64 t8) rfl) ?_
  refine l_val rfl rfl rfl (r_neq rfl rfl) ?_
  refine l_nil ?_
  refine c_if (b := (decide (t8 ≠ 0))) rfl (fun hb => ?_) (fun hb => ?_)
  · have H14 := cnd_t hb H13; clear H13
    refine c_seq ?_
    refine c_region ?_
    refine l_val rfl rfl rfl (r_build (pl := #[(0, 1), (1, 1), (2, 1), (3, 1)]) (ps := []) (cells := #[.int .i64 0, .int .i64 0, .int .i64 0, .int .i64 0]) Tryd.zeroValue42 Tryd.runUnderlying42 (fun w => by kernel_rfl) rfl rfl) ?_
    refine l_val rfl rfl rfl (r_move (v := .int .i64 t8) rfl) ?_
    refine l_store (i := 0) (vs := [.int .i64 0, .int .i64 0, .int .i64 0, .int .i64 0]) (cs' := [.int .i64 0, .int .i64 0, .int .i64 0, .int .i64 0]) Tryd.sizeOf42 rfl rfl rfl rfl rfl rfl rfl rfl rfl ?_
    refine l_val rfl rfl rfl (r_assign (v := .int .i64 t8) rfl) ?_
    refine l_nil ?_
    refine c_ret ?_
    obtain rfl := Option.some.inj H14
    refine retCt (i := 0) (vs := [.int .i64 0, .int .i64 0, .int .i64 0, .int .i64 0]) (v2 := .int .i64 t8) Tryd.isAgg42 Tryd.sizeOf42 rfl rfl rfl rfl rfl (fin rfl)
  · have H15 := cnd_f hb H13; clear H13
    refine c_skip ?_
    refine c_seq ?_
    refine c_region ?_
    obtain ⟨t13, h_t13, H16⟩ := bnd_some H15; clear H15
    refine l_call (k39 h_t13) Tryd.call39 rfl rfl rfl ?_
    refine l_alloc (cs := [.int .i64 0, .int .i64 0, .int .i64 0, .int .i64 0]) Tryd.zeroValue42 rfl rfl rfl (fun b3 => ?_)
    refine l_store (i := 1) (vs := [.int .i64 t13.South, .int .i64 t13.West, .int .i64 t13.North, .int .i64 t13.East]) (cs' := [.int .i64 t13.South, .int .i64 t13.West, .int .i64 t13.North, .int .i64 t13.East]) Tryd.sizeOf42 rfl rfl rfl rfl rfl rfl rfl rfl rfl ?_
    refine l_nil ?_
    refine c_meet (r := r) (σ := Int × Int × Int × Int) (τ := Unit) (fun s => where_BoxOf_j1 s.1 s.2.1 s.2.2.1 s.2.2.2) (fun s t => [(2, .pointer (some ⟨b2, 0, none⟩)), (5, .pointer (some ⟨b3, 0, none⟩))]) (fun s t => [cellsC b2 [.int .i64 0, .int .i64 0, .int .i64 0, .int .i64 0] 42, cellsC b3 [.int .i64 s.1, .int .i64 s.2.1, .int .i64 s.2.2.1, .int .i64 s.2.2.2] 42]) (fun s t => True) ?_ ?_
    · refine c_seq ?_
      refine c_region ?_
      refine l_val rfl rfl rfl (r_move (v := str a0) rfl) ?_
      refine l_val rfl rfl rfl (r_lenT Tryd.underlying9 rfl) ?_
      refine l_val rfl rfl rfl (r_move (v := .int .i64 0) rfl) ?_
      refine l_nil ?_
      refine c_block ?_
      refine c_fix (σ := Int × Int × Int × Int × Int) (τ := Unit) (fun next2 s => where_BoxOf_l2 a0 next2 s.1 s.2.1 s.2.2.1 s.2.2.2.1 s.2.2.2.2) (fun s t => [(0, str a0), (2, .pointer (some ⟨b2, 0, none⟩)), (5, .pointer (some ⟨b3, 0, none⟩)), (15, .int .i64 (a0.length : Int)), (16, .int .i64 s.1)]) (fun s t => [cellsC b2 [.int .i64 0, .int .i64 0, .int .i64 0, .int .i64 0] 42, cellsC b3 [.int .i64 s.2.1, .int .i64 s.2.2.1, .int .i64 s.2.2.2.1, .int .i64 s.2.2.2.2] 42]) (fun s t => True) (0, t13.South, t13.West, t13.North, t13.East) () [0, 1] H16 (by exact trivial) (by exact ⟨rfl, rfl, rfl, rfl, rfl, trivial⟩) (by decide) rfl ?_
      rintro ⟨x16_2, m_9, m_10, m_11, m_12⟩ _ m2 gg H18 _
      clear H16
      replace H18 : where_BoxOf_l2 a0 (it (fun next2 s => where_BoxOf_l2 a0 next2 s.1 s.2.1 s.2.2.1 s.2.2.2.1 s.2.2.2.2) m2) x16_2 m_9 m_10 m_11 m_12 = some r := H18
      generalize hn2 : it (fun next2 s => where_BoxOf_l2 a0 next2 s.1 s.2.1 s.2.2.1 s.2.2.2.1 s.2.2.2.2) m2 = next2 at H18
      refine c_tidyF [(0, str a0), (2, .pointer (some ⟨b2, 0, none⟩)), (5, .pointer (some ⟨b3, 0, none⟩)), (15, .int .i64 (a0.length : Int)), (16, .int .i64 x16_2)] [cellsC b2 [.int .i64 0, .int .i64 0, .int .i64 0, .int .i64 0] 42, cellsC b3 [.int .i64 m_9, .int .i64 m_10, .int .i64 m_11, .int .i64 m_12] 42] rfl rfl ?_
      refine c_seq ?_
      refine c_region ?_
      refine l_val rfl rfl rfl (r_lss rfl rfl) ?_
      refine l_nil ?_
      refine c_seq ?_
      refine c_if (b := (decide (x16_2 < (a0.length : Int)))) rfl (fun hb => ?_) (fun hb => ?_)
      · have H19 := cnd_t hb H18; clear H18
        refine c_skip ?_
        refine c_seq ?_
        refine c_block ?_
        refine c_seq ?_
        refine c_region ?_
        refine l_val rfl rfl rfl (r_move (v := .int .i64 x16_2) rfl) ?_
        refine l_val rfl rfl rfl (r_assign (v := .int .i64 x16_2) rfl) ?_
        refine l_nil ?_
        exact c_regionD (Kd.d [1] _ :: Kd.p :: Kd.p :: Kd.p :: Kd.p :: Kd.p :: Kd.d [] _ :: Kd.st 5 1 [_, _, _, _] 42 :: []) 0 mixed (by
          refine d_loadN (i := 1) (vs := [.int .i64 m_9, .int .i64 m_10, .int .i64 m_11, .int .i64 m_12]) Tryd.isAgg42 Tryd.sizeOf42 rfl rfl rfl rfl ?_
          refine d_val rfl rfl (r_move (v := str a0) rfl) ?_
          refine d_val rfl rfl (r_move (v := .int .i64 x16_2) rfl) ?_
          have h_t22 := bnd_val H19
          have H20 := bnd_rest H19
          refine d_val rfl rfl (r_octG Tryd.underlying9 rfl rfl h_t22) ?_
          refine d_val rfl rfl (r_subW rfl rfl (wr_u8 _)) ?_
          have h_t24 := bnd_val H20
          have H21 := bnd_rest H20
          refine d_val rfl rfl (r_convG Tryd.runUnderlying5 Tryd.runUnderlying3 rfl (gK_i64 h_t24)) ?_
          have h_t25 := bnd_val H21
          have H22 := bnd_rest H21
          refine d_call (k40 h_t25) Tryd.call40 rfl rfl ?_
          refine d_store (i := 1) (vs := [.int .i64 (val (where_Box_quarter (⟨m_9, m_10, m_11, m_12⟩ : T_where_Box) (val (gK (-9223372036854775808) 9223372036854775807 (wU8 ((val (gOct a0 x16_2)) - 48)))))).South, .int .i64 (val (where_Box_quarter (⟨m_9, m_10, m_11, m_12⟩ : T_where_Box) (val (gK (-9223372036854775808) 9223372036854775807 (wU8 ((val (gOct a0 x16_2)) - 48)))))).West, .int .i64 (val (where_Box_quarter (⟨m_9, m_10, m_11, m_12⟩ : T_where_Box) (val (gK (-9223372036854775808) 9223372036854775807 (wU8 ((val (gOct a0 x16_2)) - 48)))))).North, .int .i64 (val (where_Box_quarter (⟨m_9, m_10, m_11, m_12⟩ : T_where_Box) (val (gK (-9223372036854775808) 9223372036854775807 (wU8 ((val (gOct a0 x16_2)) - 48)))))).East]) (cs' := [.int .i64 (val (where_Box_quarter (⟨m_9, m_10, m_11, m_12⟩ : T_where_Box) (val (gK (-9223372036854775808) 9223372036854775807 (wU8 ((val (gOct a0 x16_2)) - 48)))))).South, .int .i64 (val (where_Box_quarter (⟨m_9, m_10, m_11, m_12⟩ : T_where_Box) (val (gK (-9223372036854775808) 9223372036854775807 (wU8 ((val (gOct a0 x16_2)) - 48)))))).West, .int .i64 (val (where_Box_quarter (⟨m_9, m_10, m_11, m_12⟩ : T_where_Box) (val (gK (-9223372036854775808) 9223372036854775807 (wU8 ((val (gOct a0 x16_2)) - 48)))))).North, .int .i64 (val (where_Box_quarter (⟨m_9, m_10, m_11, m_12⟩ : T_where_Box) (val (gK (-9223372036854775808) 9223372036854775807 (wU8 ((val (gOct a0 x16_2)) - 48)))))).East]) Tryd.sizeOf42 rfl rfl rfl rfl rfl rfl rfl rfl rfl ?_
          refine d_nil ?_
          refine c_region ?_
          obtain ⟨t26, h_t26, H23⟩ := bnd_some H22; clear H22
          refine l_val rfl rfl rfl (r_addG rfl rfl h_t26) ?_
          refine l_val rfl rfl rfl (r_move (v := .int .i64 t26) rfl) ?_
          refine l_nil ?_
          refine c_close (t26, (val (where_Box_quarter (⟨m_9, m_10, m_11, m_12⟩ : T_where_Box) (val (gK (-9223372036854775808) 9223372036854775807 (wU8 ((val (gOct a0 x16_2)) - 48)))))).South, (val (where_Box_quarter (⟨m_9, m_10, m_11, m_12⟩ : T_where_Box) (val (gK (-9223372036854775808) 9223372036854775807 (wU8 ((val (gOct a0 x16_2)) - 48)))))).West, (val (where_Box_quarter (⟨m_9, m_10, m_11, m_12⟩ : T_where_Box) (val (gK (-9223372036854775808) 9223372036854775807 (wU8 ((val (gOct a0 x16_2)) - 48)))))).North, (val (where_Box_quarter (⟨m_9, m_10, m_11, m_12⟩ : T_where_Box) (val (gK (-9223372036854775808) 9223372036854775807 (wU8 ((val (gOct a0 x16_2)) - 48)))))).East) () m2 [0, 1] (by exact ⟨rfl, rfl, rfl, rfl, rfl, trivial⟩) (by decide) rfl (by exact ⟨(by subst hn2; exact H23), trivial⟩) (Nat.lt_succ_self _)
          ) (by kernel_rfl)
      · have H24 := cnd_f hb H18; clear H18
        refine c_exit ?_
        refine c_close (m_9, m_10, m_11, m_12) () 0 [0, 1] (by exact ⟨rfl, rfl, trivial⟩) (by decide) rfl (by exact ⟨H24, trivial⟩) (Nat.lt_succ_self _)
    · rintro ⟨m, m_2, m_3, m_4⟩ _ gg H17 _
      replace H17 : where_BoxOf_j1 m m_2 m_3 m_4 = some r := H17
      refine c_tidyF [(2, .pointer (some ⟨b2, 0, none⟩)), (5, .pointer (some ⟨b3, 0, none⟩))] [cellsC b2 [.int .i64 0, .int .i64 0, .int .i64 0, .int .i64 0] 42, cellsC b3 [.int .i64 m, .int .i64 m_2, .int .i64 m_3, .int .i64 m_4] 42] rfl rfl ?_
      refine c_seq ?_
      refine c_region ?_
      refine l_loadN (i := 1) (vs := [.int .i64 m, .int .i64 m_2, .int .i64 m_3, .int .i64 m_4]) Tryd.isAgg42 Tryd.sizeOf42 rfl rfl rfl rfl rfl ?_
      refine l_store (i := 0) (vs := [.int .i64 m, .int .i64 m_2, .int .i64 m_3, .int .i64 m_4]) (cs' := [.int .i64 m, .int .i64 m_2, .int .i64 m_3, .int .i64 m_4]) Tryd.sizeOf42 rfl rfl rfl rfl rfl rfl rfl rfl rfl ?_
      refine l_val rfl rfl rfl (r_assign (v := .int .i64 0) rfl) ?_
      refine l_nil ?_
      refine c_ret ?_
      obtain rfl := Option.some.inj H17
      refine retCt (i := 0) (vs := [.int .i64 m, .int .i64 m_2, .int .i64 m_3, .int .i64 m_4]) (v2 := .int .i64 0) Tryd.isAgg42 Tryd.sizeOf42 rfl rfl rfl rfl rfl (fin rfl)
theorem k20 {a0 : (List UInt8)} {a1 : Int} {a2 : Int} {r : (List UInt8) × Bool × Int} (H : where_Beside a0 a1 a2 = some r) : Ret Tryd.prog 20 [str a0, .int .i64 a1, .int .i64 a2] (.tuple #[str r.1, .bool r.2.1, .int .i64 r.2.2]) := by
  refine enterRet (n := 98) Tryd.func20 rfl rfl rfl (fun wd => ?_)
  refine c_seq ?_
  refine c_region ?_
  refine l_val rfl rfl rfl (r_assign (v := str []) rfl) ?_
  refine l_val rfl rfl rfl (r_assign (v := .bool false) rfl) ?_
  refine l_val rfl rfl rfl (r_assign (v := .int .i64 0) rfl) ?_
  refine l_nil ?_
  refine c_seq ?_
  refine c_seq ?_
  refine c_region ?_
  refine l_val rfl rfl rfl (r_move (v := str a0) rfl) ?_
  obtain ⟨t19, h_t19, H47⟩ := bnd_some H; clear H
  refine l_call (k42 h_t19) Tryd.call42 rfl rfl rfl ?_
  refine l_val rfl rfl rfl (r_assign (v := .int .i64 t19) rfl) ?_
  refine l_nil ?_
  refine c_seq ?_
  refine c_region ?_
  refine l_val rfl rfl rfl (r_move (v := .int .i64 t19) rfl) ?_
  refine l_val rfl rfl rfl (r_neq rfl rfl) ?_
  refine l_nil ?_
  refine c_if (b := (decide (t19 ≠ 0))) rfl (fun hb => ?_) (fun hb => ?_)
  · have H48 := cnd_t hb H47; clear H47
    refine c_seq ?_
    refine c_region ?_
    refine l_val rfl rfl rfl (r_move (v := .int .i64 t19) rfl) ?_
    refine l_val rfl rfl rfl (r_assign (v := str []) rfl) ?_
    refine l_val rfl rfl rfl (r_assign (v := .bool false) rfl) ?_
    refine l_val rfl rfl rfl (r_assign (v := .int .i64 t19) rfl) ?_
    refine l_nil ?_
    refine c_ret ?_
    obtain rfl := Option.some.inj H48
    refine ret3 (v1 := str []) (v2 := .bool false) (v3 := .int .i64 t19) rfl rfl rfl rfl (fin rfl)
  · have H49 := cnd_f hb H47; clear H47
    refine c_skip ?_
    refine c_seq ?_
    refine c_seq ?_
    refine c_region ?_
    refine l_val rfl rfl rfl (r_move (v := .int .i64 a1) rfl) ?_
    obtain ⟨t24, h_t24, H50⟩ := bnd_some H49; clear H49
    refine l_call (k38 h_t24) Tryd.call38 rfl rfl rfl ?_
    refine l_val rfl rfl rfl (r_move (v := .bool t24) rfl) ?_
    refine split (fun hb => ?_) (fun hb => ?_)
    · have H51 := cnd_t hb H50; clear H50
      refine l_passed rfl rfl rfl ?_
      refine l_passed rfl rfl rfl ?_
      refine l_val rfl rfl rfl (r_pickT (v := .bool true) rfl rfl) ?_
      refine l_nil ?_
      refine c_true rfl ?_
      refine c_seq ?_
      refine c_region ?_
      refine l_val rfl rfl rfl (r_assign (v := str []) rfl) ?_
      refine l_val rfl rfl rfl (r_assign (v := .bool false) rfl) ?_
      refine l_val rfl rfl rfl (r_assign (v := .int .i64 2) rfl) ?_
      refine l_nil ?_
      refine c_ret ?_
      obtain rfl := Option.some.inj H51
      refine ret3 (v1 := str []) (v2 := .bool false) (v3 := .int .i64 2) rfl rfl rfl rfl (fin rfl)
    · have H52 := cnd_f hb H50; clear H50
      refine l_val rfl rfl rfl (r_move (v := .int .i64 a2) rfl) ?_
      obtain ⟨t27, h_t27, H53⟩ := bnd_some H52; clear H52
      refine l_call (k38 h_t27) Tryd.call38 rfl rfl rfl ?_
      refine l_val rfl rfl rfl (r_pickF (v := .bool t27) rfl rfl) ?_
      refine l_nil ?_
      refine c_if (b := t27) rfl (fun hb => ?_) (fun hb => ?_)
      · have H54 := cnd_t hb H53; clear H53
        refine c_seq ?_
        refine c_region ?_
        refine l_val rfl rfl rfl (r_assign (v := str []) rfl) ?_
        refine l_val rfl rfl rfl (r_assign (v := .bool false) rfl) ?_
        refine l_val rfl rfl rfl (r_assign (v := .int .i64 2) rfl) ?_
        refine l_nil ?_
        refine c_ret ?_
        obtain rfl := Option.some.inj H54
        refine ret3 (v1 := str []) (v2 := .bool false) (v3 := .int .i64 2) rfl rfl rfl rfl (fin rfl)
      · have H55 := cnd_f hb H53; clear H53
        refine c_skip ?_
        refine c_seq ?_
        refine c_region ?_
        refine l_val rfl rfl rfl (r_assign (v := .int .i64 0) rfl) ?_
        refine l_val rfl rfl rfl (r_assign (v := .int .i64 0) rfl) ?_
        refine l_nil ?_
        refine c_meet (r := r) (σ := Int × Int) (τ := Unit) (fun s => where_Beside_j1 a0 a1 a2 s.1 s.2) (fun s t => [(0, str a0), (1, .int .i64 a1), (2, .int .i64 a2), (10, .int .i64 s.1), (11, .int .i64 s.2)]) (fun s t => []) (fun s t => True) ?_ ?_
        · refine c_seq ?_
          refine c_region ?_
          refine l_val rfl rfl rfl (r_move (v := str a0) rfl) ?_
          refine l_val rfl rfl rfl (r_lenT Tryd.underlying9 rfl) ?_
          refine l_val rfl rfl rfl (r_move (v := .int .i64 0) rfl) ?_
          refine l_nil ?_
          refine c_block ?_
          refine c_fix (σ := Int × Int × Int) (τ := Unit) (fun next4 s => where_Beside_l4 a0 a1 a2 next4 s.1 s.2.1 s.2.2) (fun s t => [(0, str a0), (1, .int .i64 a1), (2, .int .i64 a2), (10, .int .i64 s.1), (11, .int .i64 s.2.1), (30, .int .i64 (a0.length : Int)), (31, .int .i64 s.2.2)]) (fun s t => []) (fun s t => True) (0, 0, 0) () [] H55 (by exact trivial) (by exact ⟨rfl, rfl, rfl, rfl, rfl, rfl, rfl, trivial⟩) (by decide) rfl ?_
          rintro ⟨x10_3, x11_3, x31_2⟩ _ m4 gg H81 _
          clear H55
          replace H81 : where_Beside_l4 a0 a1 a2 (it (fun next4 s => where_Beside_l4 a0 a1 a2 next4 s.1 s.2.1 s.2.2) m4) x10_3 x11_3 x31_2 = some r := H81
          generalize hn4 : it (fun next4 s => where_Beside_l4 a0 a1 a2 next4 s.1 s.2.1 s.2.2) m4 = next4 at H81
          refine c_tidyF [(0, str a0), (1, .int .i64 a1), (2, .int .i64 a2), (10, .int .i64 x10_3), (11, .int .i64 x11_3), (30, .int .i64 (a0.length : Int)), (31, .int .i64 x31_2)] [] rfl rfl ?_
          refine c_seq ?_
          refine c_region ?_
          refine l_val rfl rfl rfl (r_lss rfl rfl) ?_
          refine l_nil ?_
          refine c_seq ?_
          refine c_if (b := (decide (x31_2 < (a0.length : Int)))) rfl (fun hb => ?_) (fun hb => ?_)
          · have H82 := cnd_t hb H81; clear H81
            refine c_skip ?_
            refine c_seq ?_
            refine c_block ?_
            refine c_seq ?_
            refine c_region ?_
            refine l_val rfl rfl rfl (r_move (v := .int .i64 x31_2) rfl) ?_
            refine l_val rfl rfl rfl (r_assign (v := .int .i64 x31_2) rfl) ?_
            refine l_nil ?_
            refine c_seq ?_
            refine c_region ?_
            refine l_val rfl rfl rfl (r_move (v := str a0) rfl) ?_
            refine l_val rfl rfl rfl (r_move (v := .int .i64 x31_2) rfl) ?_
            obtain ⟨t36, h_t36, H83⟩ := bnd_some H82; clear H82
            refine l_val rfl rfl rfl (r_octG Tryd.underlying9 rfl rfl h_t36) ?_
            refine l_val rfl rfl rfl (r_subW rfl rfl (wr_u8 _)) ?_
            obtain ⟨t38, h_t38, H84⟩ := bnd_some H83; clear H83
            refine l_val rfl rfl rfl (r_convG Tryd.runUnderlying5 Tryd.runUnderlying3 rfl (gK_i64 h_t38)) ?_
            refine l_val rfl rfl rfl (r_assign (v := .int .i64 t38) rfl) ?_
            refine l_nil ?_
            refine c_region ?_
            refine l_val rfl rfl rfl (r_move (v := .int .i64 x10_3) rfl) ?_
            obtain ⟨t40, h_t40, H85⟩ := bnd_some H84; clear H84
            refine l_val rfl rfl rfl (r_mulG rfl rfl h_t40) ?_
            refine l_val rfl rfl rfl (r_move (v := .int .i64 t38) rfl) ?_
            obtain ⟨t42, h_t42, H86⟩ := bnd_some H85; clear H85
            refine l_val rfl rfl rfl (r_quoG rfl rfl h_t42) ?_
            obtain ⟨t43, h_t43, H87⟩ := bnd_some H86; clear H86
            refine l_val rfl rfl rfl (r_addG rfl rfl h_t43) ?_
            refine l_val rfl rfl rfl (r_move (v := .int .i64 x11_3) rfl) ?_
            obtain ⟨t45, h_t45, H88⟩ := bnd_some H87; clear H87
            refine l_val rfl rfl rfl (r_mulG rfl rfl h_t45) ?_
            refine l_val rfl rfl rfl (r_move (v := .int .i64 t38) rfl) ?_
            obtain ⟨t47, h_t47, H89⟩ := bnd_some H88; clear H88
            refine l_val rfl rfl rfl (r_remG rfl rfl h_t47) ?_
            obtain ⟨t48, h_t48, H90⟩ := bnd_some H89; clear H89
            refine l_val rfl rfl rfl (r_addG rfl rfl h_t48) ?_
            refine l_val rfl rfl rfl (r_assign (v := .int .i64 t43) rfl) ?_
            refine l_val rfl rfl rfl (r_assign (v := .int .i64 t48) rfl) ?_
            refine l_nil ?_
            refine c_region ?_
            obtain ⟨t49, h_t49, H91⟩ := bnd_some H90; clear H90
            refine l_val rfl rfl rfl (r_addG rfl rfl h_t49) ?_
            refine l_val rfl rfl rfl (r_move (v := .int .i64 t49) rfl) ?_
            refine l_nil ?_
            refine c_close (t43, t48, t49) () m4 [] (by exact ⟨rfl, rfl, rfl, rfl, rfl, rfl, rfl, trivial⟩) (by decide) rfl (by exact ⟨(by subst hn4; exact H91), trivial⟩) (Nat.lt_succ_self _)
          · have H92 := cnd_f hb H81; clear H81
            refine c_exit ?_
            refine c_close (x10_3, x11_3) () 0 [] (by exact ⟨rfl, rfl, rfl, rfl, rfl, trivial⟩) (by decide) rfl (by exact ⟨H92, trivial⟩) (Nat.lt_succ_self _)
        · rintro ⟨x10, x11⟩ _ gg H56 _
          replace H56 : where_Beside_j1 a0 a1 a2 x10 x11 = some r := H56
          refine c_tidyF [(0, str a0), (1, .int .i64 a1), (2, .int .i64 a2), (10, .int .i64 x10), (11, .int .i64 x11)] [] rfl rfl ?_
          refine c_seq ?_
          refine c_region ?_
          refine l_val rfl rfl rfl (r_move (v := str a0) rfl) ?_
          refine l_val rfl rfl rfl (r_lenT Tryd.underlying9 rfl) ?_
          obtain ⟨t52, h_t52, H57⟩ := bnd_some H56; clear H56
          refine l_val rfl rfl rfl (r_shlG rfl rfl h_t52) ?_
          refine l_val rfl rfl rfl (r_assign (v := .int .i64 t52) rfl) ?_
          refine l_nil ?_
          refine c_seq ?_
          exact c_regionD (Kd.p :: Kd.p :: Kd.p :: Kd.p :: Kd.p :: Kd.p :: Kd.p :: Kd.p :: Kd.p :: Kd.p :: Kd.p :: Kd.p :: Kd.p :: Kd.p :: []) 0 mixed (by
            refine d_val rfl rfl (r_move (v := .int .i64 x10) rfl) ?_
            refine d_val rfl rfl (r_move (v := .int .i64 a1) rfl) ?_
            have h_t55 := bnd_val H57
            have H58 := bnd_rest H57
            refine d_val rfl rfl (r_addG rfl rfl h_t55) ?_
            refine d_val rfl rfl (r_move (v := .int .i64 x11) rfl) ?_
            refine d_val rfl rfl (r_move (v := .int .i64 a2) rfl) ?_
            have h_t58 := bnd_val H58
            have H59 := bnd_rest H58
            refine d_val rfl rfl (r_addG rfl rfl h_t58) ?_
            refine d_val rfl rfl (r_move (v := .int .i64 t52) rfl) ?_
            have h_t60 := bnd_val H59
            have H60 := bnd_rest H59
            refine d_val rfl rfl (r_remG rfl rfl h_t60) ?_
            refine d_val rfl rfl (r_move (v := .int .i64 t52) rfl) ?_
            have h_t62 := bnd_val H60
            have H61 := bnd_rest H60
            refine d_val rfl rfl (r_addG rfl rfl h_t62) ?_
            refine d_val rfl rfl (r_move (v := .int .i64 t52) rfl) ?_
            have h_t64 := bnd_val H61
            have H62 := bnd_rest H61
            refine d_val rfl rfl (r_remG rfl rfl h_t64) ?_
            refine d_val rfl rfl (r_assign (v := .int .i64 (val (gI (x10 + a1)))) rfl) ?_
            refine d_val rfl rfl (r_assign (v := .int .i64 (val (gRem (val (gI ((val (gRem (val (gI (x11 + a2))) t52)) + t52))) t52))) rfl) ?_
            refine d_nil ?_
            refine c_seq ?_
            refine c_seq ?_
            refine c_region ?_
            refine l_val rfl rfl rfl (r_move (v := .int .i64 (val (gI (x10 + a1)))) rfl) ?_
            refine l_val rfl rfl rfl (r_move (v := .int .i64 t52) rfl) ?_
            obtain ⟨t67, h_t67, H63⟩ := bnd_some H62; clear H62
            refine l_val rfl rfl rfl (r_subG rfl rfl h_t67) ?_
            obtain ⟨t68, h_t68, H64⟩ := bnd_some H63; clear H63
            refine l_call (k38 h_t68) Tryd.call38 rfl rfl rfl ?_
            refine l_nil ?_
            refine c_if (b := t68) rfl (fun hb => ?_) (fun hb => ?_)
            · have H65 := cnd_t hb H64; clear H64
              refine c_seq ?_
              refine c_region ?_
              refine l_val rfl rfl rfl (r_assign (v := str []) rfl) ?_
              refine l_val rfl rfl rfl (r_assign (v := .bool false) rfl) ?_
              refine l_val rfl rfl rfl (r_assign (v := .int .i64 0) rfl) ?_
              refine l_nil ?_
              refine c_ret ?_
              obtain rfl := Option.some.inj H65
              refine ret3 (v1 := str []) (v2 := .bool false) (v3 := .int .i64 0) rfl rfl rfl rfl (fin rfl)
            · have H66 := cnd_f hb H64; clear H64
              refine c_skip ?_
              refine c_seq ?_
              refine c_region ?_
              refine l_alloc (cs := [.int .u8 ((fun _ => 0) 0), .int .u8 ((fun _ => 0) 1), .int .u8 ((fun _ => 0) 2), .int .u8 ((fun _ => 0) 3), .int .u8 ((fun _ => 0) 4), .int .u8 ((fun _ => 0) 5), .int .u8 ((fun _ => 0) 6), .int .u8 ((fun _ => 0) 7), .int .u8 ((fun _ => 0) 8), .int .u8 ((fun _ => 0) 9), .int .u8 ((fun _ => 0) 10), .int .u8 ((fun _ => 0) 11), .int .u8 ((fun _ => 0) 12), .int .u8 ((fun _ => 0) 13), .int .u8 ((fun _ => 0) 14), .int .u8 ((fun _ => 0) 15), .int .u8 ((fun _ => 0) 16), .int .u8 ((fun _ => 0) 17), .int .u8 ((fun _ => 0) 18), .int .u8 ((fun _ => 0) 19), .int .u8 ((fun _ => 0) 20), .int .u8 ((fun _ => 0) 21), .int .u8 ((fun _ => 0) 22), .int .u8 ((fun _ => 0) 23)]) Tryd.zeroValue78 rfl rfl rfl (fun b1 => ?_)
              refine l_nil ?_
              refine c_meet (r := r) (σ := (Nat → Int)) (τ := Unit) (fun s => where_Beside_j2 a0 s) (fun s t => [(0, str a0), (15, .pointer (some ⟨b1, 0, none⟩))]) (fun s t => [cellsC b1 [.int .u8 (s 0), .int .u8 (s 1), .int .u8 (s 2), .int .u8 (s 3), .int .u8 (s 4), .int .u8 (s 5), .int .u8 (s 6), .int .u8 (s 7), .int .u8 (s 8), .int .u8 (s 9), .int .u8 (s 10), .int .u8 (s 11), .int .u8 (s 12), .int .u8 (s 13), .int .u8 (s 14), .int .u8 (s 15), .int .u8 (s 16), .int .u8 (s 17), .int .u8 (s 18), .int .u8 (s 19), .int .u8 (s 20), .int .u8 (s 21), .int .u8 (s 22), .int .u8 (s 23)] 78]) (fun s t => True) ?_ ?_
              · refine c_seq ?_
                refine c_region ?_
                refine l_val rfl rfl rfl (r_move (v := str a0) rfl) ?_
                refine l_val rfl rfl rfl (r_lenT Tryd.underlying9 rfl) ?_
                refine l_val rfl rfl rfl (r_move (v := .int .i64 0) rfl) ?_
                refine l_nil ?_
                refine c_block ?_
                refine c_fix (σ := Int × (Nat → Int)) (τ := Unit) (fun next3 s => where_Beside_l3 a0 (val (gI (x10 + a1))) (val (gRem (val (gI ((val (gRem (val (gI (x11 + a2))) t52)) + t52))) t52)) next3 s.1 s.2) (fun s t => [(0, str a0), (10, .int .i64 (val (gI (x10 + a1)))), (11, .int .i64 (val (gRem (val (gI ((val (gRem (val (gI (x11 + a2))) t52)) + t52))) t52))), (15, .pointer (some ⟨b1, 0, none⟩)), (70, .int .i64 (a0.length : Int)), (71, .int .i64 s.1)]) (fun s t => [cellsC b1 [.int .u8 (s.2 0), .int .u8 (s.2 1), .int .u8 (s.2 2), .int .u8 (s.2 3), .int .u8 (s.2 4), .int .u8 (s.2 5), .int .u8 (s.2 6), .int .u8 (s.2 7), .int .u8 (s.2 8), .int .u8 (s.2 9), .int .u8 (s.2 10), .int .u8 (s.2 11), .int .u8 (s.2 12), .int .u8 (s.2 13), .int .u8 (s.2 14), .int .u8 (s.2 15), .int .u8 (s.2 16), .int .u8 (s.2 17), .int .u8 (s.2 18), .int .u8 (s.2 19), .int .u8 (s.2 20), .int .u8 (s.2 21), .int .u8 (s.2 22), .int .u8 (s.2 23)] 78]) (fun s t => True) (0, (fun _ => 0)) () [0] H66 (by exact trivial) (by exact ⟨rfl, rfl, rfl, rfl, rfl, rfl, trivial⟩) (by decide) rfl ?_
                rintro ⟨x71_2, m_3⟩ _ m3 gg H69 _
                clear H66
                replace H69 : where_Beside_l3 a0 (val (gI (x10 + a1))) (val (gRem (val (gI ((val (gRem (val (gI (x11 + a2))) t52)) + t52))) t52)) (it (fun next3 s => where_Beside_l3 a0 (val (gI (x10 + a1))) (val (gRem (val (gI ((val (gRem (val (gI (x11 + a2))) t52)) + t52))) t52)) next3 s.1 s.2) m3) x71_2 m_3 = some r := H69
                generalize hn3 : it (fun next3 s => where_Beside_l3 a0 (val (gI (x10 + a1))) (val (gRem (val (gI ((val (gRem (val (gI (x11 + a2))) t52)) + t52))) t52)) next3 s.1 s.2) m3 = next3 at H69
                refine c_tidyF [(0, str a0), (10, .int .i64 (val (gI (x10 + a1)))), (11, .int .i64 (val (gRem (val (gI ((val (gRem (val (gI (x11 + a2))) t52)) + t52))) t52))), (15, .pointer (some ⟨b1, 0, none⟩)), (70, .int .i64 (a0.length : Int)), (71, .int .i64 x71_2)] [cellsC b1 [.int .u8 (m_3 0), .int .u8 (m_3 1), .int .u8 (m_3 2), .int .u8 (m_3 3), .int .u8 (m_3 4), .int .u8 (m_3 5), .int .u8 (m_3 6), .int .u8 (m_3 7), .int .u8 (m_3 8), .int .u8 (m_3 9), .int .u8 (m_3 10), .int .u8 (m_3 11), .int .u8 (m_3 12), .int .u8 (m_3 13), .int .u8 (m_3 14), .int .u8 (m_3 15), .int .u8 (m_3 16), .int .u8 (m_3 17), .int .u8 (m_3 18), .int .u8 (m_3 19), .int .u8 (m_3 20), .int .u8 (m_3 21), .int .u8 (m_3 22), .int .u8 (m_3 23)] 78] rfl rfl ?_
                refine c_seq ?_
                refine c_region ?_
                refine l_val rfl rfl rfl (r_lss rfl rfl) ?_
                refine l_nil ?_
                refine c_seq ?_
                refine c_if (b := (decide (x71_2 < (a0.length : Int)))) rfl (fun hb => ?_) (fun hb => ?_)
                · have H70 := cnd_t hb H69; clear H69
                  refine c_skip ?_
                  refine c_seq ?_
                  refine c_block ?_
                  refine c_seq ?_
                  refine c_region ?_
                  refine l_val rfl rfl rfl (r_move (v := .int .i64 x71_2) rfl) ?_
                  refine l_val rfl rfl rfl (r_assign (v := .int .i64 x71_2) rfl) ?_
                  refine l_nil ?_
                  refine c_seq ?_
                  refine c_region ?_
                  refine l_val rfl rfl rfl (r_move (v := str a0) rfl) ?_
                  refine l_val rfl rfl rfl (r_lenT Tryd.underlying9 rfl) ?_
                  obtain ⟨t76, h_t76, H71⟩ := bnd_some H70; clear H70
                  refine l_val rfl rfl rfl (r_subG rfl rfl h_t76) ?_
                  refine l_val rfl rfl rfl (r_move (v := .int .i64 x71_2) rfl) ?_
                  obtain ⟨t78, h_t78, H72⟩ := bnd_some H71; clear H71
                  refine l_val rfl rfl rfl (r_subG rfl rfl h_t78) ?_
                  refine l_val rfl rfl rfl (r_assign (v := .int .i64 t78) rfl) ?_
                  refine l_nil ?_
                  exact c_regionD (Kd.p :: Kd.p :: Kd.p :: Kd.p :: Kd.p :: Kd.p :: Kd.p :: Kd.p :: Kd.p :: Kd.p :: Kd.p :: Kd.p :: Kd.p :: Kd.p :: Kd.st 92 0 [_, _, _, _, _, _, _, _, _, _, _, _, _, _, _, _, _, _, _, _, _, _, _, _] 78 :: []) 0 mixed (by
                    refine d_val rfl rfl (r_move (v := .int .i64 x71_2) rfl) ?_
                    refine d_val rfl rfl (r_move (v := .int .i64 (val (gI (x10 + a1)))) rfl) ?_
                    refine d_val rfl rfl (r_move (v := .int .i64 t78) rfl) ?_
                    have h_t82 := bnd_val H72
                    have H73 := bnd_rest H72
                    refine d_val rfl rfl (r_shrG rfl rfl rfl h_t82) ?_
                    refine d_val rfl rfl (r_bitsAnd (bits := 64) rfl rfl rfl (wr_i64 _)) ?_
                    have h_t84 := bnd_val H73
                    have H74 := bnd_rest H73
                    refine d_val rfl rfl (r_mulG rfl rfl h_t84) ?_
                    have h_t85 := bnd_val H74
                    have H75 := bnd_rest H74
                    refine d_val rfl rfl (r_addG rfl rfl h_t85) ?_
                    refine d_val rfl rfl (r_move (v := .int .i64 (val (gRem (val (gI ((val (gRem (val (gI (x11 + a2))) t52)) + t52))) t52))) rfl) ?_
                    refine d_val rfl rfl (r_move (v := .int .i64 t78) rfl) ?_
                    have h_t88 := bnd_val H75
                    have H76 := bnd_rest H75
                    refine d_val rfl rfl (r_shrG rfl rfl rfl h_t88) ?_
                    refine d_val rfl rfl (r_bitsAnd (bits := 64) rfl rfl rfl (wr_i64 _)) ?_
                    have h_t90 := bnd_val H76
                    have H77 := bnd_rest H76
                    refine d_val rfl rfl (r_addG rfl rfl h_t90) ?_
                    refine d_val rfl rfl (r_convG Tryd.runUnderlying3 Tryd.runUnderlying5 rfl (wr_u8 _)) ?_
                    have h_k92 := bnd_val H77
                    have H78 := bnd_rest H77
                    refine d_val rfl rfl (r_indexPG Tryd.runUnderlying78 Tryd.sizeOf5 rfl rfl h_k92) ?_
                    refine d_store (i := 0) (vs := [.int .u8 (wU8 (val (gI ((val (gI (48 + (val (gI (2 * (wI64 (bAnd 64 (val (gShr 64 (val (gI (x10 + a1))) t78)) 1)))))))) + (wI64 (bAnd 64 (val (gShr 64 (val (gRem (val (gI ((val (gRem (val (gI (x11 + a2))) t52)) + t52))) t52)) t78)) 1))))))]) (cs' := [.int .u8 ((setA m_3 (val (gIx 24 x71_2)) (wU8 (val (gI ((val (gI (48 + (val (gI (2 * (wI64 (bAnd 64 (val (gShr 64 (val (gI (x10 + a1))) t78)) 1)))))))) + (wI64 (bAnd 64 (val (gShr 64 (val (gRem (val (gI ((val (gRem (val (gI (x11 + a2))) t52)) + t52))) t52)) t78)) 1))))))) 0), .int .u8 ((setA m_3 (val (gIx 24 x71_2)) (wU8 (val (gI ((val (gI (48 + (val (gI (2 * (wI64 (bAnd 64 (val (gShr 64 (val (gI (x10 + a1))) t78)) 1)))))))) + (wI64 (bAnd 64 (val (gShr 64 (val (gRem (val (gI ((val (gRem (val (gI (x11 + a2))) t52)) + t52))) t52)) t78)) 1))))))) 1), .int .u8 ((setA m_3 (val (gIx 24 x71_2)) (wU8 (val (gI ((val (gI (48 + (val (gI (2 * (wI64 (bAnd 64 (val (gShr 64 (val (gI (x10 + a1))) t78)) 1)))))))) + (wI64 (bAnd 64 (val (gShr 64 (val (gRem (val (gI ((val (gRem (val (gI (x11 + a2))) t52)) + t52))) t52)) t78)) 1))))))) 2), .int .u8 ((setA m_3 (val (gIx 24 x71_2)) (wU8 (val (gI ((val (gI (48 + (val (gI (2 * (wI64 (bAnd 64 (val (gShr 64 (val (gI (x10 + a1))) t78)) 1)))))))) + (wI64 (bAnd 64 (val (gShr 64 (val (gRem (val (gI ((val (gRem (val (gI (x11 + a2))) t52)) + t52))) t52)) t78)) 1))))))) 3), .int .u8 ((setA m_3 (val (gIx 24 x71_2)) (wU8 (val (gI ((val (gI (48 + (val (gI (2 * (wI64 (bAnd 64 (val (gShr 64 (val (gI (x10 + a1))) t78)) 1)))))))) + (wI64 (bAnd 64 (val (gShr 64 (val (gRem (val (gI ((val (gRem (val (gI (x11 + a2))) t52)) + t52))) t52)) t78)) 1))))))) 4), .int .u8 ((setA m_3 (val (gIx 24 x71_2)) (wU8 (val (gI ((val (gI (48 + (val (gI (2 * (wI64 (bAnd 64 (val (gShr 64 (val (gI (x10 + a1))) t78)) 1)))))))) + (wI64 (bAnd 64 (val (gShr 64 (val (gRem (val (gI ((val (gRem (val (gI (x11 + a2))) t52)) + t52))) t52)) t78)) 1))))))) 5), .int .u8 ((setA m_3 (val (gIx 24 x71_2)) (wU8 (val (gI ((val (gI (48 + (val (gI (2 * (wI64 (bAnd 64 (val (gShr 64 (val (gI (x10 + a1))) t78)) 1)))))))) + (wI64 (bAnd 64 (val (gShr 64 (val (gRem (val (gI ((val (gRem (val (gI (x11 + a2))) t52)) + t52))) t52)) t78)) 1))))))) 6), .int .u8 ((setA m_3 (val (gIx 24 x71_2)) (wU8 (val (gI ((val (gI (48 + (val (gI (2 * (wI64 (bAnd 64 (val (gShr 64 (val (gI (x10 + a1))) t78)) 1)))))))) + (wI64 (bAnd 64 (val (gShr 64 (val (gRem (val (gI ((val (gRem (val (gI (x11 + a2))) t52)) + t52))) t52)) t78)) 1))))))) 7), .int .u8 ((setA m_3 (val (gIx 24 x71_2)) (wU8 (val (gI ((val (gI (48 + (val (gI (2 * (wI64 (bAnd 64 (val (gShr 64 (val (gI (x10 + a1))) t78)) 1)))))))) + (wI64 (bAnd 64 (val (gShr 64 (val (gRem (val (gI ((val (gRem (val (gI (x11 + a2))) t52)) + t52))) t52)) t78)) 1))))))) 8), .int .u8 ((setA m_3 (val (gIx 24 x71_2)) (wU8 (val (gI ((val (gI (48 + (val (gI (2 * (wI64 (bAnd 64 (val (gShr 64 (val (gI (x10 + a1))) t78)) 1)))))))) + (wI64 (bAnd 64 (val (gShr 64 (val (gRem (val (gI ((val (gRem (val (gI (x11 + a2))) t52)) + t52))) t52)) t78)) 1))))))) 9), .int .u8 ((setA m_3 (val (gIx 24 x71_2)) (wU8 (val (gI ((val (gI (48 + (val (gI (2 * (wI64 (bAnd 64 (val (gShr 64 (val (gI (x10 + a1))) t78)) 1)))))))) + (wI64 (bAnd 64 (val (gShr 64 (val (gRem (val (gI ((val (gRem (val (gI (x11 + a2))) t52)) + t52))) t52)) t78)) 1))))))) 10), .int .u8 ((setA m_3 (val (gIx 24 x71_2)) (wU8 (val (gI ((val (gI (48 + (val (gI (2 * (wI64 (bAnd 64 (val (gShr 64 (val (gI (x10 + a1))) t78)) 1)))))))) + (wI64 (bAnd 64 (val (gShr 64 (val (gRem (val (gI ((val (gRem (val (gI (x11 + a2))) t52)) + t52))) t52)) t78)) 1))))))) 11), .int .u8 ((setA m_3 (val (gIx 24 x71_2)) (wU8 (val (gI ((val (gI (48 + (val (gI (2 * (wI64 (bAnd 64 (val (gShr 64 (val (gI (x10 + a1))) t78)) 1)))))))) + (wI64 (bAnd 64 (val (gShr 64 (val (gRem (val (gI ((val (gRem (val (gI (x11 + a2))) t52)) + t52))) t52)) t78)) 1))))))) 12), .int .u8 ((setA m_3 (val (gIx 24 x71_2)) (wU8 (val (gI ((val (gI (48 + (val (gI (2 * (wI64 (bAnd 64 (val (gShr 64 (val (gI (x10 + a1))) t78)) 1)))))))) + (wI64 (bAnd 64 (val (gShr 64 (val (gRem (val (gI ((val (gRem (val (gI (x11 + a2))) t52)) + t52))) t52)) t78)) 1))))))) 13), .int .u8 ((setA m_3 (val (gIx 24 x71_2)) (wU8 (val (gI ((val (gI (48 + (val (gI (2 * (wI64 (bAnd 64 (val (gShr 64 (val (gI (x10 + a1))) t78)) 1)))))))) + (wI64 (bAnd 64 (val (gShr 64 (val (gRem (val (gI ((val (gRem (val (gI (x11 + a2))) t52)) + t52))) t52)) t78)) 1))))))) 14), .int .u8 ((setA m_3 (val (gIx 24 x71_2)) (wU8 (val (gI ((val (gI (48 + (val (gI (2 * (wI64 (bAnd 64 (val (gShr 64 (val (gI (x10 + a1))) t78)) 1)))))))) + (wI64 (bAnd 64 (val (gShr 64 (val (gRem (val (gI ((val (gRem (val (gI (x11 + a2))) t52)) + t52))) t52)) t78)) 1))))))) 15), .int .u8 ((setA m_3 (val (gIx 24 x71_2)) (wU8 (val (gI ((val (gI (48 + (val (gI (2 * (wI64 (bAnd 64 (val (gShr 64 (val (gI (x10 + a1))) t78)) 1)))))))) + (wI64 (bAnd 64 (val (gShr 64 (val (gRem (val (gI ((val (gRem (val (gI (x11 + a2))) t52)) + t52))) t52)) t78)) 1))))))) 16), .int .u8 ((setA m_3 (val (gIx 24 x71_2)) (wU8 (val (gI ((val (gI (48 + (val (gI (2 * (wI64 (bAnd 64 (val (gShr 64 (val (gI (x10 + a1))) t78)) 1)))))))) + (wI64 (bAnd 64 (val (gShr 64 (val (gRem (val (gI ((val (gRem (val (gI (x11 + a2))) t52)) + t52))) t52)) t78)) 1))))))) 17), .int .u8 ((setA m_3 (val (gIx 24 x71_2)) (wU8 (val (gI ((val (gI (48 + (val (gI (2 * (wI64 (bAnd 64 (val (gShr 64 (val (gI (x10 + a1))) t78)) 1)))))))) + (wI64 (bAnd 64 (val (gShr 64 (val (gRem (val (gI ((val (gRem (val (gI (x11 + a2))) t52)) + t52))) t52)) t78)) 1))))))) 18), .int .u8 ((setA m_3 (val (gIx 24 x71_2)) (wU8 (val (gI ((val (gI (48 + (val (gI (2 * (wI64 (bAnd 64 (val (gShr 64 (val (gI (x10 + a1))) t78)) 1)))))))) + (wI64 (bAnd 64 (val (gShr 64 (val (gRem (val (gI ((val (gRem (val (gI (x11 + a2))) t52)) + t52))) t52)) t78)) 1))))))) 19), .int .u8 ((setA m_3 (val (gIx 24 x71_2)) (wU8 (val (gI ((val (gI (48 + (val (gI (2 * (wI64 (bAnd 64 (val (gShr 64 (val (gI (x10 + a1))) t78)) 1)))))))) + (wI64 (bAnd 64 (val (gShr 64 (val (gRem (val (gI ((val (gRem (val (gI (x11 + a2))) t52)) + t52))) t52)) t78)) 1))))))) 20), .int .u8 ((setA m_3 (val (gIx 24 x71_2)) (wU8 (val (gI ((val (gI (48 + (val (gI (2 * (wI64 (bAnd 64 (val (gShr 64 (val (gI (x10 + a1))) t78)) 1)))))))) + (wI64 (bAnd 64 (val (gShr 64 (val (gRem (val (gI ((val (gRem (val (gI (x11 + a2))) t52)) + t52))) t52)) t78)) 1))))))) 21), .int .u8 ((setA m_3 (val (gIx 24 x71_2)) (wU8 (val (gI ((val (gI (48 + (val (gI (2 * (wI64 (bAnd 64 (val (gShr 64 (val (gI (x10 + a1))) t78)) 1)))))))) + (wI64 (bAnd 64 (val (gShr 64 (val (gRem (val (gI ((val (gRem (val (gI (x11 + a2))) t52)) + t52))) t52)) t78)) 1))))))) 22), .int .u8 ((setA m_3 (val (gIx 24 x71_2)) (wU8 (val (gI ((val (gI (48 + (val (gI (2 * (wI64 (bAnd 64 (val (gShr 64 (val (gI (x10 + a1))) t78)) 1)))))))) + (wI64 (bAnd 64 (val (gShr 64 (val (gRem (val (gI ((val (gRem (val (gI (x11 + a2))) t52)) + t52))) t52)) t78)) 1))))))) 23)]) Tryd.sizeOf5 rfl rfl rfl rfl rfl rfl rfl rfl (wr_arr (pre := []) (post := []) (f := fun (j_ : Int) => [.int .u8 j_]) (n := 24) (sz := 1) (a := m_3) (x := (wU8 (val (gI ((val (gI (48 + (val (gI (2 * (wI64 (bAnd 64 (val (gShr 64 (val (gI (x10 + a1))) t78)) 1)))))))) + (wI64 (bAnd 64 (val (gShr 64 (val (gRem (val (gI ((val (gRem (val (gI (x11 + a2))) t52)) + t52))) t52)) t78)) 1))))))) rfl rfl (fun _ => rfl) (gIx_lt h_k92) rfl rfl) ?_
                    refine d_nil ?_
                    refine c_region ?_
                    obtain ⟨t93, h_t93, H79⟩ := bnd_some H78; clear H78
                    refine l_val rfl rfl rfl (r_addG rfl rfl h_t93) ?_
                    refine l_val rfl rfl rfl (r_move (v := .int .i64 t93) rfl) ?_
                    refine l_nil ?_
                    refine c_close (t93, (setA m_3 (val (gIx 24 x71_2)) (wU8 (val (gI ((val (gI (48 + (val (gI (2 * (wI64 (bAnd 64 (val (gShr 64 (val (gI (x10 + a1))) t78)) 1)))))))) + (wI64 (bAnd 64 (val (gShr 64 (val (gRem (val (gI ((val (gRem (val (gI (x11 + a2))) t52)) + t52))) t52)) t78)) 1)))))))) () m3 [0] (by exact ⟨rfl, rfl, rfl, rfl, rfl, rfl, trivial⟩) (by decide) rfl (by exact ⟨(by subst hn3; exact H79), trivial⟩) (Nat.lt_succ_self _)
                    ) (by kernel_rfl)
                · have H80 := cnd_f hb H69; clear H69
                  refine c_exit ?_
                  refine c_close m_3 () 0 [0] (by exact ⟨rfl, rfl, trivial⟩) (by decide) rfl (by exact ⟨H80, trivial⟩) (Nat.lt_succ_self _)
              · rintro m _ gg H67 _
                replace H67 : where_Beside_j2 a0 m = some r := H67
                refine c_tidyF [(0, str a0), (15, .pointer (some ⟨b1, 0, none⟩))] [cellsC b1 [.int .u8 (m 0), .int .u8 (m 1), .int .u8 (m 2), .int .u8 (m 3), .int .u8 (m 4), .int .u8 (m 5), .int .u8 (m 6), .int .u8 (m 7), .int .u8 (m 8), .int .u8 (m 9), .int .u8 (m 10), .int .u8 (m 11), .int .u8 (m 12), .int .u8 (m 13), .int .u8 (m 14), .int .u8 (m 15), .int .u8 (m 16), .int .u8 (m 17), .int .u8 (m 18), .int .u8 (m 19), .int .u8 (m 20), .int .u8 (m 21), .int .u8 (m 22), .int .u8 (m 23)] 78] rfl rfl ?_
                refine c_seq ?_
                refine c_region ?_
                refine l_val rfl rfl rfl (r_move (v := str a0) rfl) ?_
                refine l_val rfl rfl rfl (r_lenT Tryd.underlying9 rfl) ?_
                obtain ⟨t96, h_t96, H68⟩ := bnd_some H67; clear H67
                refine l_val rfl rfl rfl (r_sliceArr Tryd.underlying78 Tryd.sizeOf5 rfl rfl h_t96) ?_
                refine l_read (fun w hF hS => run_bytes (f := e_u8) (xs := t96) rfl Tryd.underlying63 Tryd.underlying5 Tryd.underlying9 rfl (fun _ => rfl) (row_arr (f := e_u8) (i := 0) hS rfl (by kernel_rfl) (fun _ => rfl) h_t96)) rfl rfl rfl ?_
                refine l_val rfl rfl rfl (r_assign (v := str (toStr t96)) rfl) ?_
                refine l_val rfl rfl rfl (r_assign (v := .bool true) rfl) ?_
                refine l_val rfl rfl rfl (r_assign (v := .int .i64 0) rfl) ?_
                refine l_nil ?_
                refine c_ret ?_
                obtain rfl := Option.some.inj H68
                refine ret3 (v1 := str (toStr t96)) (v2 := .bool true) (v3 := .int .i64 0) rfl rfl rfl rfl (fin rfl)
            ) (by kernel_rfl)
theorem k21 {a0 : (List UInt8)} {r : Int} (H : R_CellFault a0 = some r) : Ret Tryd.prog 21 [str a0] (.int .i64 r) := by
  refine enterRet (n := 11) Tryd.func21 rfl rfl rfl (fun wd => ?_)
  refine c_seq ?_
  refine c_region ?_
  refine l_val rfl rfl rfl (r_assign (v := .int .i64 0) rfl) ?_
  refine l_nil ?_
  refine c_seq ?_
  refine c_block ?_
  refine c_seq ?_
  refine c_region ?_
  refine l_val rfl rfl rfl (r_move (v := str a0) rfl) ?_
  refine l_val rfl rfl rfl (r_lenT Tryd.underlying9 rfl) ?_
  refine l_val rfl rfl rfl (r_gtr rfl rfl) ?_
  refine l_val rfl rfl rfl (r_assign (v := .bool (decide (24 < (a0.length : Int)))) rfl) ?_
  refine l_nil ?_
  refine c_if (b := (decide (24 < (a0.length : Int)))) rfl (fun hb => ?_) (fun hb => ?_)
  · have H6 := cnd_t hb H; clear H
    refine c_seq ?_
    refine c_region ?_
    refine l_val rfl rfl rfl (r_assign (v := .int .i64 4) rfl) ?_
    refine l_nil ?_
    refine c_ret ?_
    obtain rfl := Option.some.inj H6
    refine ret1 (v := .int .i64 4) rfl rfl (fin rfl)
  · have H7 := cnd_f hb H; clear H
    refine c_seq ?_
    refine c_region ?_
    refine l_val rfl rfl rfl (r_move (v := str a0) rfl) ?_
    obtain ⟨t9, h_t9, H8⟩ := bnd_some H7; clear H7
    refine l_call (k43 h_t9) Tryd.call43 rfl rfl rfl ?_
    refine l_val rfl rfl rfl (r_neqT rfl rfl) ?_
    refine l_val rfl rfl rfl (r_assign (v := .bool (decide (t9 ≠ []))) rfl) ?_
    refine l_nil ?_
    refine c_if (b := (decide (t9 ≠ []))) rfl (fun hb => ?_) (fun hb => ?_)
    · have H9 := cnd_t hb H8; clear H8
      refine c_seq ?_
      refine c_region ?_
      refine l_val rfl rfl rfl (r_assign (v := .int .i64 8) rfl) ?_
      refine l_nil ?_
      refine c_ret ?_
      obtain rfl := Option.some.inj H9
      refine ret1 (v := .int .i64 8) rfl rfl (fin rfl)
    · have H10 := cnd_f hb H8; clear H8
      refine c_skip ?_
      refine c_seq ?_
      refine c_region ?_
      refine l_val rfl rfl rfl (r_assign (v := .int .i64 0) rfl) ?_
      refine l_nil ?_
      refine c_ret ?_
      obtain rfl := Option.some.inj H10
      refine ret1 (v := .int .i64 0) rfl rfl (fin rfl)
theorem k22 {a0 : (List UInt8)} {r : T_where_Box} (H : R_BoxOfCell a0 = some r) : Ret Tryd.prog 22 [str a0] (.agg #[.int .i64 r.South, .int .i64 r.West, .int .i64 r.North, .int .i64 r.East]) := by
  refine enterRet (n := 18) Tryd.func22 rfl rfl rfl (fun wd => ?_)
  refine c_seq ?_
  refine c_region ?_
  refine l_alloc (cs := [.int .i64 0, .int .i64 0, .int .i64 0, .int .i64 0]) Tryd.zeroValue42 rfl rfl rfl (fun b2 => ?_)
  refine l_nil ?_
  refine c_seq ?_
  refine c_region ?_
  refine l_val rfl rfl rfl (r_build (pl := #[(0, 1), (1, 1), (2, 1), (3, 1)]) (ps := [(0, .int .i64 (-90000000)), (2, .int .i64 90000000), (1, .int .i64 (-180000000)), (3, .int .i64 179999999)]) (cells := #[.int .i64 (-90000000), .int .i64 (-180000000), .int .i64 90000000, .int .i64 179999999]) Tryd.zeroValue42 Tryd.runUnderlying42 (fun w => by kernel_rfl) rfl rfl) ?_
  refine l_alloc (cs := [.int .i64 0, .int .i64 0, .int .i64 0, .int .i64 0]) Tryd.zeroValue42 rfl rfl rfl (fun b3 => ?_)
  refine l_store (i := 1) (vs := [.int .i64 (-90000000), .int .i64 (-180000000), .int .i64 90000000, .int .i64 179999999]) (cs' := [.int .i64 (-90000000), .int .i64 (-180000000), .int .i64 90000000, .int .i64 179999999]) Tryd.sizeOf42 rfl rfl rfl rfl rfl rfl rfl rfl rfl ?_
  refine l_nil ?_
  refine c_meet (r := r) (σ := Int × Int × Int × Int) (τ := Unit) (fun s => R_BoxOfCell_j1 s.1 s.2.1 s.2.2.1 s.2.2.2) (fun s t => [(2, .pointer (some ⟨b2, 0, none⟩)), (3, .pointer (some ⟨b3, 0, none⟩))]) (fun s t => [cellsC b2 [.int .i64 0, .int .i64 0, .int .i64 0, .int .i64 0] 42, cellsC b3 [.int .i64 s.1, .int .i64 s.2.1, .int .i64 s.2.2.1, .int .i64 s.2.2.2] 42]) (fun s t => True) ?_ ?_
  · refine c_seq ?_
    refine c_region ?_
    refine l_val rfl rfl rfl (r_move (v := str a0) rfl) ?_
    refine l_val rfl rfl rfl (r_lenT Tryd.underlying9 rfl) ?_
    refine l_val rfl rfl rfl (r_move (v := .int .i64 0) rfl) ?_
    refine l_nil ?_
    refine c_block ?_
    refine c_fix (σ := Int × Int × Int × Int × Int) (τ := Unit) (fun next2 s => R_BoxOfCell_l2 a0 next2 s.1 s.2.1 s.2.2.1 s.2.2.2.1 s.2.2.2.2) (fun s t => [(0, str a0), (2, .pointer (some ⟨b2, 0, none⟩)), (3, .pointer (some ⟨b3, 0, none⟩)), (7, .int .i64 (a0.length : Int)), (8, .int .i64 s.1)]) (fun s t => [cellsC b2 [.int .i64 0, .int .i64 0, .int .i64 0, .int .i64 0] 42, cellsC b3 [.int .i64 s.2.1, .int .i64 s.2.2.1, .int .i64 s.2.2.2.1, .int .i64 s.2.2.2.2] 42]) (fun s t => True) (0, (-90000000), (-180000000), 90000000, 179999999) () [0, 1] H (by exact trivial) (by exact ⟨rfl, rfl, rfl, rfl, rfl, trivial⟩) (by decide) rfl ?_
    rintro ⟨x8_2, m_9, m_10, m_11, m_12⟩ _ m2 gg H9 _
    clear H
    replace H9 : R_BoxOfCell_l2 a0 (it (fun next2 s => R_BoxOfCell_l2 a0 next2 s.1 s.2.1 s.2.2.1 s.2.2.2.1 s.2.2.2.2) m2) x8_2 m_9 m_10 m_11 m_12 = some r := H9
    generalize hn2 : it (fun next2 s => R_BoxOfCell_l2 a0 next2 s.1 s.2.1 s.2.2.1 s.2.2.2.1 s.2.2.2.2) m2 = next2 at H9
    refine c_tidyF [(0, str a0), (2, .pointer (some ⟨b2, 0, none⟩)), (3, .pointer (some ⟨b3, 0, none⟩)), (7, .int .i64 (a0.length : Int)), (8, .int .i64 x8_2)] [cellsC b2 [.int .i64 0, .int .i64 0, .int .i64 0, .int .i64 0] 42, cellsC b3 [.int .i64 m_9, .int .i64 m_10, .int .i64 m_11, .int .i64 m_12] 42] rfl rfl ?_
    refine c_seq ?_
    refine c_region ?_
    refine l_val rfl rfl rfl (r_lss rfl rfl) ?_
    refine l_nil ?_
    refine c_seq ?_
    refine c_if (b := (decide (x8_2 < (a0.length : Int)))) rfl (fun hb => ?_) (fun hb => ?_)
    · have H10 := cnd_t hb H9; clear H9
      refine c_skip ?_
      refine c_seq ?_
      refine c_block ?_
      refine c_seq ?_
      refine c_region ?_
      refine l_val rfl rfl rfl (r_move (v := .int .i64 x8_2) rfl) ?_
      refine l_val rfl rfl rfl (r_assign (v := .int .i64 x8_2) rfl) ?_
      refine l_nil ?_
      exact c_regionD (Kd.d [1] _ :: Kd.p :: Kd.p :: Kd.p :: Kd.d [] _ :: Kd.st 3 1 [_, _, _, _] 42 :: []) 0 mixed (by
        refine d_loadN (i := 1) (vs := [.int .i64 m_9, .int .i64 m_10, .int .i64 m_11, .int .i64 m_12]) Tryd.isAgg42 Tryd.sizeOf42 rfl rfl rfl rfl ?_
        refine d_val rfl rfl (r_move (v := str a0) rfl) ?_
        refine d_val rfl rfl (r_move (v := .int .i64 x8_2) rfl) ?_
        have h_t14 := bnd_val H10
        have H11 := bnd_rest H10
        refine d_val rfl rfl (r_octG Tryd.underlying9 rfl rfl h_t14) ?_
        have h_t15 := bnd_val H11
        have H12 := bnd_rest H11
        refine d_call (k41 h_t15) Tryd.call41 rfl rfl ?_
        refine d_store (i := 1) (vs := [.int .i64 (val (R_part (⟨m_9, m_10, m_11, m_12⟩ : T_where_Box) (val (gOct a0 x8_2)))).South, .int .i64 (val (R_part (⟨m_9, m_10, m_11, m_12⟩ : T_where_Box) (val (gOct a0 x8_2)))).West, .int .i64 (val (R_part (⟨m_9, m_10, m_11, m_12⟩ : T_where_Box) (val (gOct a0 x8_2)))).North, .int .i64 (val (R_part (⟨m_9, m_10, m_11, m_12⟩ : T_where_Box) (val (gOct a0 x8_2)))).East]) (cs' := [.int .i64 (val (R_part (⟨m_9, m_10, m_11, m_12⟩ : T_where_Box) (val (gOct a0 x8_2)))).South, .int .i64 (val (R_part (⟨m_9, m_10, m_11, m_12⟩ : T_where_Box) (val (gOct a0 x8_2)))).West, .int .i64 (val (R_part (⟨m_9, m_10, m_11, m_12⟩ : T_where_Box) (val (gOct a0 x8_2)))).North, .int .i64 (val (R_part (⟨m_9, m_10, m_11, m_12⟩ : T_where_Box) (val (gOct a0 x8_2)))).East]) Tryd.sizeOf42 rfl rfl rfl rfl rfl rfl rfl rfl rfl ?_
        refine d_nil ?_
        refine c_region ?_
        obtain ⟨t16, h_t16, H13⟩ := bnd_some H12; clear H12
        refine l_val rfl rfl rfl (r_addG rfl rfl h_t16) ?_
        refine l_val rfl rfl rfl (r_move (v := .int .i64 t16) rfl) ?_
        refine l_nil ?_
        refine c_close (t16, (val (R_part (⟨m_9, m_10, m_11, m_12⟩ : T_where_Box) (val (gOct a0 x8_2)))).South, (val (R_part (⟨m_9, m_10, m_11, m_12⟩ : T_where_Box) (val (gOct a0 x8_2)))).West, (val (R_part (⟨m_9, m_10, m_11, m_12⟩ : T_where_Box) (val (gOct a0 x8_2)))).North, (val (R_part (⟨m_9, m_10, m_11, m_12⟩ : T_where_Box) (val (gOct a0 x8_2)))).East) () m2 [0, 1] (by exact ⟨rfl, rfl, rfl, rfl, rfl, trivial⟩) (by decide) rfl (by exact ⟨(by subst hn2; exact H13), trivial⟩) (Nat.lt_succ_self _)
        ) (by kernel_rfl)
    · have H14 := cnd_f hb H9; clear H9
      refine c_exit ?_
      refine c_close (m_9, m_10, m_11, m_12) () 0 [0, 1] (by exact ⟨rfl, rfl, trivial⟩) (by decide) rfl (by exact ⟨H14, trivial⟩) (Nat.lt_succ_self _)
  · rintro ⟨m, m_2, m_3, m_4⟩ _ gg H8 _
    replace H8 : R_BoxOfCell_j1 m m_2 m_3 m_4 = some r := H8
    refine c_tidyF [(2, .pointer (some ⟨b2, 0, none⟩)), (3, .pointer (some ⟨b3, 0, none⟩))] [cellsC b2 [.int .i64 0, .int .i64 0, .int .i64 0, .int .i64 0] 42, cellsC b3 [.int .i64 m, .int .i64 m_2, .int .i64 m_3, .int .i64 m_4] 42] rfl rfl ?_
    refine c_seq ?_
    refine c_region ?_
    refine l_loadN (i := 1) (vs := [.int .i64 m, .int .i64 m_2, .int .i64 m_3, .int .i64 m_4]) Tryd.isAgg42 Tryd.sizeOf42 rfl rfl rfl rfl rfl ?_
    refine l_store (i := 0) (vs := [.int .i64 m, .int .i64 m_2, .int .i64 m_3, .int .i64 m_4]) (cs' := [.int .i64 m, .int .i64 m_2, .int .i64 m_3, .int .i64 m_4]) Tryd.sizeOf42 rfl rfl rfl rfl rfl rfl rfl rfl rfl ?_
    refine l_nil ?_
    refine c_ret ?_
    obtain rfl := Option.some.inj H8
    refine retC (i := 0) (vs := [.int .i64 m, .int .i64 m_2, .int .i64 m_3, .int .i64 m_4]) Tryd.isAgg42 Tryd.sizeOf42 rfl rfl rfl rfl (fin rfl)
theorem k23 {a0 : (List UInt8)} {a1 : Int} {a2 : Int} {r : (List UInt8) × Bool} (H : R_BesideOf a0 a1 a2 = some r) : Ret Tryd.prog 23 [str a0, .int .i64 a1, .int .i64 a2] (.tuple #[str r.1, .bool r.2]) := by
  refine enterRet (n := 77) Tryd.func23 rfl rfl rfl (fun wd => ?_)
  refine c_seq ?_
  refine c_region ?_
  refine l_val rfl rfl rfl (r_assign (v := str []) rfl) ?_
  refine l_val rfl rfl rfl (r_assign (v := .bool false) rfl) ?_
  refine l_nil ?_
  refine c_seq ?_
  refine c_region ?_
  refine l_val rfl rfl rfl (r_assign (v := .int .i64 0) rfl) ?_
  refine l_val rfl rfl rfl (r_assign (v := .int .i64 0) rfl) ?_
  refine l_val rfl rfl rfl (r_assign (v := .int .i64 1) rfl) ?_
  refine l_nil ?_
  refine c_meet (r := r) (σ := Int × Int × Int) (τ := Unit) (fun s => R_BesideOf_j1 a0 a1 a2 s.1 s.2.1 s.2.2) (fun s t => [(0, str a0), (1, .int .i64 a1), (2, .int .i64 a2), (8, .int .i64 s.1), (9, .int .i64 s.2.1), (10, .int .i64 s.2.2)]) (fun s t => []) (fun s t => True) ?_ ?_
  · refine c_seq ?_
    refine c_region ?_
    refine l_val rfl rfl rfl (r_move (v := str a0) rfl) ?_
    refine l_val rfl rfl rfl (r_lenT Tryd.underlying9 rfl) ?_
    refine l_val rfl rfl rfl (r_move (v := .int .i64 0) rfl) ?_
    refine l_nil ?_
    refine c_block ?_
    refine c_fix (σ := Int × Int × Int × Int) (τ := Unit) (fun next3 s => R_BesideOf_l3 a0 a1 a2 next3 s.1 s.2.1 s.2.2.1 s.2.2.2) (fun s t => [(0, str a0), (1, .int .i64 a1), (2, .int .i64 a2), (8, .int .i64 s.1), (9, .int .i64 s.2.1), (10, .int .i64 s.2.2.1), (15, .int .i64 (a0.length : Int)), (16, .int .i64 s.2.2.2)]) (fun s t => []) (fun s t => True) (0, 0, 1, 0) () [] H (by exact trivial) (by exact ⟨rfl, rfl, rfl, rfl, rfl, rfl, rfl, rfl, trivial⟩) (by decide) rfl ?_
    rintro ⟨x8_5, x9_5, x10_3, x16_2⟩ _ m3 gg H58 _
    clear H
    replace H58 : R_BesideOf_l3 a0 a1 a2 (it (fun next3 s => R_BesideOf_l3 a0 a1 a2 next3 s.1 s.2.1 s.2.2.1 s.2.2.2) m3) x8_5 x9_5 x10_3 x16_2 = some r := H58
    generalize hn3 : it (fun next3 s => R_BesideOf_l3 a0 a1 a2 next3 s.1 s.2.1 s.2.2.1 s.2.2.2) m3 = next3 at H58
    refine c_tidyF [(0, str a0), (1, .int .i64 a1), (2, .int .i64 a2), (8, .int .i64 x8_5), (9, .int .i64 x9_5), (10, .int .i64 x10_3), (15, .int .i64 (a0.length : Int)), (16, .int .i64 x16_2)] [] rfl rfl ?_
    refine c_seq ?_
    refine c_region ?_
    refine l_val rfl rfl rfl (r_lss rfl rfl) ?_
    refine l_nil ?_
    refine c_seq ?_
    refine c_if (b := (decide (x16_2 < (a0.length : Int)))) rfl (fun hb => ?_) (fun hb => ?_)
    · have H59 := cnd_t hb H58; clear H58
      refine c_skip ?_
      refine c_seq ?_
      refine c_block ?_
      refine c_seq ?_
      refine c_region ?_
      refine l_val rfl rfl rfl (r_move (v := .int .i64 x16_2) rfl) ?_
      refine l_val rfl rfl rfl (r_assign (v := .int .i64 x16_2) rfl) ?_
      refine l_nil ?_
      refine c_seq ?_
      refine c_region ?_
      refine l_val rfl rfl rfl (r_move (v := str a0) rfl) ?_
      refine l_val rfl rfl rfl (r_move (v := .int .i64 x16_2) rfl) ?_
      obtain ⟨t21, h_t21, H60⟩ := bnd_some H59; clear H59
      refine l_val rfl rfl rfl (r_octG Tryd.underlying9 rfl rfl h_t21) ?_
      refine l_val rfl rfl rfl (r_subW rfl rfl (wr_u8 _)) ?_
      obtain ⟨t23, h_t23, H61⟩ := bnd_some H60; clear H60
      refine l_val rfl rfl rfl (r_convG Tryd.runUnderlying5 Tryd.runUnderlying3 rfl (gK_i64 h_t23)) ?_
      refine l_val rfl rfl rfl (r_assign (v := .int .i64 t23) rfl) ?_
      refine l_nil ?_
      refine c_region ?_
      refine l_val rfl rfl rfl (r_move (v := .int .i64 x8_5) rfl) ?_
      obtain ⟨t25, h_t25, H62⟩ := bnd_some H61; clear H61
      refine l_val rfl rfl rfl (r_mulG rfl rfl h_t25) ?_
      refine l_val rfl rfl rfl (r_move (v := .int .i64 t23) rfl) ?_
      obtain ⟨t27, h_t27, H63⟩ := bnd_some H62; clear H62
      refine l_val rfl rfl rfl (r_quoG rfl rfl h_t27) ?_
      obtain ⟨t28, h_t28, H64⟩ := bnd_some H63; clear H63
      refine l_val rfl rfl rfl (r_addG rfl rfl h_t28) ?_
      refine l_val rfl rfl rfl (r_move (v := .int .i64 x9_5) rfl) ?_
      obtain ⟨t30, h_t30, H65⟩ := bnd_some H64; clear H64
      refine l_val rfl rfl rfl (r_mulG rfl rfl h_t30) ?_
      refine l_val rfl rfl rfl (r_move (v := .int .i64 t23) rfl) ?_
      obtain ⟨t32, h_t32, H66⟩ := bnd_some H65; clear H65
      refine l_val rfl rfl rfl (r_remG rfl rfl h_t32) ?_
      obtain ⟨t33, h_t33, H67⟩ := bnd_some H66; clear H66
      refine l_val rfl rfl rfl (r_addG rfl rfl h_t33) ?_
      refine l_val rfl rfl rfl (r_move (v := .int .i64 x10_3) rfl) ?_
      obtain ⟨t35, h_t35, H68⟩ := bnd_some H67; clear H67
      refine l_val rfl rfl rfl (r_mulG rfl rfl h_t35) ?_
      refine l_val rfl rfl rfl (r_assign (v := .int .i64 t28) rfl) ?_
      refine l_val rfl rfl rfl (r_assign (v := .int .i64 t33) rfl) ?_
      refine l_val rfl rfl rfl (r_assign (v := .int .i64 t35) rfl) ?_
      refine l_nil ?_
      refine c_region ?_
      obtain ⟨t36, h_t36, H69⟩ := bnd_some H68; clear H68
      refine l_val rfl rfl rfl (r_addG rfl rfl h_t36) ?_
      refine l_val rfl rfl rfl (r_move (v := .int .i64 t36) rfl) ?_
      refine l_nil ?_
      refine c_close (t28, t33, t35, t36) () m3 [] (by exact ⟨rfl, rfl, rfl, rfl, rfl, rfl, rfl, rfl, trivial⟩) (by decide) rfl (by exact ⟨(by subst hn3; exact H69), trivial⟩) (Nat.lt_succ_self _)
    · have H70 := cnd_f hb H58; clear H58
      refine c_exit ?_
      refine c_close (x8_5, x9_5, x10_3) () 0 [] (by exact ⟨rfl, rfl, rfl, rfl, rfl, rfl, trivial⟩) (by decide) rfl (by exact ⟨H70, trivial⟩) (Nat.lt_succ_self _)
  · rintro ⟨x8, x9, x10⟩ _ gg H36 _
    replace H36 : R_BesideOf_j1 a0 a1 a2 x8 x9 x10 = some r := H36
    refine c_tidyF [(0, str a0), (1, .int .i64 a1), (2, .int .i64 a2), (8, .int .i64 x8), (9, .int .i64 x9), (10, .int .i64 x10)] [] rfl rfl ?_
    refine c_seq ?_
    refine c_region ?_
    refine l_val rfl rfl rfl (r_move (v := .int .i64 x8) rfl) ?_
    refine l_val rfl rfl rfl (r_move (v := .int .i64 a1) rfl) ?_
    obtain ⟨t39, h_t39, H37⟩ := bnd_some H36; clear H36
    refine l_val rfl rfl rfl (r_addG rfl rfl h_t39) ?_
    refine l_val rfl rfl rfl (r_assign (v := .int .i64 t39) rfl) ?_
    refine l_nil ?_
    refine c_seq ?_
    refine c_region ?_
    refine l_val rfl rfl rfl (r_move (v := .int .i64 x9) rfl) ?_
    refine l_val rfl rfl rfl (r_move (v := .int .i64 a2) rfl) ?_
    obtain ⟨t42, h_t42, H38⟩ := bnd_some H37; clear H37
    refine l_val rfl rfl rfl (r_addG rfl rfl h_t42) ?_
    refine l_val rfl rfl rfl (r_move (v := .int .i64 x10) rfl) ?_
    obtain ⟨t44, h_t44, H39⟩ := bnd_some H38; clear H38
    refine l_val rfl rfl rfl (r_remG rfl rfl h_t44) ?_
    refine l_val rfl rfl rfl (r_move (v := .int .i64 x10) rfl) ?_
    obtain ⟨t46, h_t46, H40⟩ := bnd_some H39; clear H39
    refine l_val rfl rfl rfl (r_addG rfl rfl h_t46) ?_
    refine l_val rfl rfl rfl (r_move (v := .int .i64 x10) rfl) ?_
    obtain ⟨t48, h_t48, H41⟩ := bnd_some H40; clear H40
    refine l_val rfl rfl rfl (r_remG rfl rfl h_t48) ?_
    refine l_val rfl rfl rfl (r_assign (v := .int .i64 t48) rfl) ?_
    refine l_nil ?_
    refine c_seq ?_
    refine c_seq ?_
    refine c_region ?_
    refine l_val rfl rfl rfl (r_move (v := .int .i64 t39) rfl) ?_
    refine l_val rfl rfl rfl (r_lss rfl rfl) ?_
    refine l_val rfl rfl rfl (r_move (v := .bool (decide (t39 < 0))) rfl) ?_
    refine split (fun hb => ?_) (fun hb => ?_)
    · have H42 := cnd_t hb H41; clear H41
      refine l_passed rfl rfl rfl ?_
      refine l_passed rfl rfl rfl ?_
      refine l_passed rfl rfl rfl ?_
      refine l_val rfl rfl rfl (r_pickT (v := .bool true) rfl rfl) ?_
      refine l_nil ?_
      refine c_true rfl ?_
      refine c_seq ?_
      refine c_region ?_
      refine l_val rfl rfl rfl (r_assign (v := str []) rfl) ?_
      refine l_val rfl rfl rfl (r_assign (v := .bool false) rfl) ?_
      refine l_nil ?_
      refine c_ret ?_
      obtain rfl := Option.some.inj H42
      refine ret2 (v1 := str []) (v2 := .bool false) rfl rfl rfl (fin rfl)
    · have H43 := cnd_f hb H41; clear H41
      refine l_val rfl rfl rfl (r_move (v := .int .i64 t39) rfl) ?_
      refine l_val rfl rfl rfl (r_move (v := .int .i64 x10) rfl) ?_
      refine l_val rfl rfl rfl (r_geq rfl rfl) ?_
      refine l_val rfl rfl rfl (r_pickF (v := .bool (decide (x10 ≤ t39))) rfl rfl) ?_
      refine l_nil ?_
      refine c_if (b := (decide (x10 ≤ t39))) rfl (fun hb => ?_) (fun hb => ?_)
      · have H44 := cnd_t hb H43; clear H43
        refine c_seq ?_
        refine c_region ?_
        refine l_val rfl rfl rfl (r_assign (v := str []) rfl) ?_
        refine l_val rfl rfl rfl (r_assign (v := .bool false) rfl) ?_
        refine l_nil ?_
        refine c_ret ?_
        obtain rfl := Option.some.inj H44
        refine ret2 (v1 := str []) (v2 := .bool false) rfl rfl rfl (fin rfl)
      · have H45 := cnd_f hb H43; clear H43
        refine c_skip ?_
        refine c_seq ?_
        refine c_region ?_
        refine l_val rfl rfl rfl (r_assign (v := str []) rfl) ?_
        refine l_nil ?_
        refine c_seq ?_
        refine c_seq ?_
        refine c_region ?_
        refine l_val rfl rfl rfl (r_move (v := str a0) rfl) ?_
        refine l_make (rds := []) (makes_range (s := a0) Tryd.underlying9 rfl) rfl rfl rfl (fun b2 => ?_)
        refine l_nil ?_
        refine c_block ?_
        refine c_fix (σ := Int × Int × (List UInt8) × Nat) (τ := Unit) (fun next2 s => R_BesideOf_l2 a0 next2 s.1 s.2.1 s.2.2.1 s.2.2.2) (fun s t => [(8, .int .i64 s.1), (9, .int .i64 s.2.1), (13, str s.2.2.1), (57, .pointer (some ⟨b2, 0, none⟩))]) (fun s t => [iterC b2 a0 s.2.2.2]) (fun s t => True) (t39, t48, [], 0) () [0] H45 (by exact trivial) (by exact ⟨rfl, rfl, rfl, rfl, trivial⟩) (by decide) rfl ?_
        rintro ⟨x8_3, x9_3, x13_2, k_2⟩ _ m2 gg H46 _
        clear H45
        replace H46 : R_BesideOf_l2 a0 (it (fun next2 s => R_BesideOf_l2 a0 next2 s.1 s.2.1 s.2.2.1 s.2.2.2) m2) x8_3 x9_3 x13_2 k_2 = some r := H46
        generalize hn2 : it (fun next2 s => R_BesideOf_l2 a0 next2 s.1 s.2.1 s.2.2.1 s.2.2.2) m2 = next2 at H46
        refine c_tidyF [(8, .int .i64 x8_3), (9, .int .i64 x9_3), (13, str x13_2), (57, .pointer (some ⟨b2, 0, none⟩))] [iterC b2 a0 k_2] rfl rfl ?_
        refine c_seq ?_
        refine c_region ?_
        refine caseB (decide (k_2 < a0.length)) (fun hb => ?_) (fun hb => ?_)
        · have H47 := cnd_t hb H46; clear H46
          obtain ⟨t58, h_t58, H48⟩ := bnd_some H47; clear H47
          refine l_turn (turns_next (i := 0) (rds := []) rfl rfl h_t58) rfl rfl rfl (fun _ => ?_)
          refine l_val rfl rfl rfl (r_extract (v := .bool true) rfl rfl) ?_
          refine l_nil ?_
          refine c_seq ?_
          refine c_true rfl ?_
          refine c_skip ?_
          refine c_block ?_
          refine c_seq ?_
          refine c_region ?_
          refine l_val rfl rfl rfl (r_move (v := .int .i64 x8_3) rfl) ?_
          obtain ⟨t61, h_t61, H49⟩ := bnd_some H48; clear H48
          refine l_val rfl rfl rfl (r_remG rfl rfl h_t61) ?_
          obtain ⟨t62, h_t62, H50⟩ := bnd_some H49; clear H49
          refine l_val rfl rfl rfl (r_mulG rfl rfl h_t62) ?_
          obtain ⟨t63, h_t63, H51⟩ := bnd_some H50; clear H50
          refine l_val rfl rfl rfl (r_addG rfl rfl h_t63) ?_
          refine l_val rfl rfl rfl (r_move (v := .int .i64 x9_3) rfl) ?_
          obtain ⟨t65, h_t65, H52⟩ := bnd_some H51; clear H51
          refine l_val rfl rfl rfl (r_remG rfl rfl h_t65) ?_
          obtain ⟨t66, h_t66, H53⟩ := bnd_some H52; clear H52
          refine l_val rfl rfl rfl (r_addG rfl rfl h_t66) ?_
          refine l_val rfl rfl rfl (r_convG Tryd.runUnderlying3 Tryd.runUnderlying5 rfl (wr_u8 _)) ?_
          refine l_buildSlice (vs := [.int .u8 (wU8 t66)]) (cs := [.int .u8 (wU8 t66)]) Tryd.underlying63 Tryd.sizeOf5 Tryd.zeroValue5 rfl rfl rfl rfl rfl rfl rfl (fun b3 => ?_)
          refine l_read (fun w hF hS => run_bytes (f := e_u8) (xs := ([(wU8 t66)] : List Int)) rfl Tryd.underlying63 Tryd.underlying5 Tryd.underlying9 rfl (fun _ => rfl) (row_box (sz := 1) (xs := ([(wU8 t66)] : List Int).map e_u8) (i := 1) hS rfl rfl rfl)) rfl rfl rfl ?_
          refine l_val rfl rfl rfl (r_move (v := str x13_2) rfl) ?_
          obtain ⟨t71, h_t71, H54⟩ := bnd_some H53; clear H53
          refine l_val rfl rfl rfl (r_concatG rfl rfl h_t71) ?_
          refine l_val rfl rfl rfl (r_assign (v := str t71) rfl) ?_
          refine l_nil ?_
          refine c_region ?_
          refine l_val rfl rfl rfl (r_move (v := .int .i64 x8_3) rfl) ?_
          obtain ⟨t73, h_t73, H55⟩ := bnd_some H54; clear H54
          refine l_val rfl rfl rfl (r_quoG rfl rfl h_t73) ?_
          refine l_val rfl rfl rfl (r_move (v := .int .i64 x9_3) rfl) ?_
          obtain ⟨t75, h_t75, H56⟩ := bnd_some H55; clear H55
          refine l_val rfl rfl rfl (r_quoG rfl rfl h_t75) ?_
          refine l_val rfl rfl rfl (r_assign (v := .int .i64 t73) rfl) ?_
          refine l_val rfl rfl rfl (r_assign (v := .int .i64 t75) rfl) ?_
          refine l_nil ?_
          refine c_close (t73, t75, t71, (k_2 + 1)) () m2 [0] (by exact ⟨rfl, rfl, rfl, rfl, trivial⟩) (by decide) rfl (by exact ⟨(by subst hn2; exact H56), trivial⟩) (Nat.lt_succ_self _)
        · have H57 := cnd_f hb H46; clear H46
          refine l_read (fun w hF hS => r_nextOver (i := 0) hS rfl rfl hb) rfl rfl rfl ?_
          refine l_val rfl rfl rfl (r_extract (v := .bool false) rfl rfl) ?_
          refine l_nil ?_
          refine c_seq ?_
          refine c_false rfl ?_
          refine c_exit ?_
          refine c_seq ?_
          refine c_region ?_
          refine l_val rfl rfl rfl (r_move (v := str x13_2) rfl) ?_
          refine l_val rfl rfl rfl (r_assign (v := str x13_2) rfl) ?_
          refine l_val rfl rfl rfl (r_assign (v := .bool true) rfl) ?_
          refine l_nil ?_
          refine c_ret ?_
          obtain rfl := Option.some.inj H57
          refine ret2 (v1 := str x13_2) (v2 := .bool true) rfl rfl rfl (fin rfl)
theorem k24 {a0 : T_where_Box} {a1 : Int} {a2 : T_where_Box} {a3 : Int} {r : Bool} (H : Law_told_where_Box a0 a1 a2 a3 = some r) : Ret Tryd.prog 24 [.agg #[.int .i64 a0.South, .int .i64 a0.West, .int .i64 a0.North, .int .i64 a0.East], .int .i64 a1, .agg #[.int .i64 a2.South, .int .i64 a2.West, .int .i64 a2.North, .int .i64 a2.East], .int .i64 a3] (.bool r) := by
  refine enterRet (n := 21) Tryd.func24 rfl rfl rfl (fun wd => ?_)
  refine c_seq ?_
  refine c_region ?_
  refine l_box (cs := [.int .i64 a0.South, .int .i64 a0.West, .int .i64 a0.North, .int .i64 a0.East]) rfl rfl rfl rfl (fun b3 => ?_)
  refine l_box (cs := [.int .i64 a2.South, .int .i64 a2.West, .int .i64 a2.North, .int .i64 a2.East]) rfl rfl rfl rfl (fun b4 => ?_)
  refine l_val rfl rfl rfl (r_assign (v := .bool false) rfl) ?_
  refine l_nil ?_
  refine c_seq ?_
  refine c_region ?_
  refine l_alloc (cs := [.int .i64 0, .int .i64 0, .int .i64 0, .int .i64 0]) Tryd.zeroValue42 rfl rfl rfl (fun b5 => ?_)
  refine l_nil ?_
  refine c_meet (r := r) (σ := Int × Int × Int × Int) (τ := Unit) (fun s => Law_told_where_Box_j1 a0 a1 a3 s.1 s.2.1 s.2.2.1 s.2.2.2) (fun s t => [(1, .int .i64 a1), (3, .int .i64 a3), (4, .pointer (some ⟨b3, 0, none⟩)), (6, .pointer (some ⟨b4, 0, none⟩))]) (fun s t => [cellsC b3 [.int .i64 a0.South, .int .i64 a0.West, .int .i64 a0.North, .int .i64 a0.East] 42, cellsC b4 [.int .i64 s.1, .int .i64 s.2.1, .int .i64 s.2.2.1, .int .i64 s.2.2.2] 42]) (fun s t => True) ?_ ?_
  · refine c_seq ?_
    refine c_region ?_
    refine l_val rfl rfl rfl (r_move (v := .int .i64 a3) rfl) ?_
    refine l_val rfl rfl rfl (r_neq rfl rfl) ?_
    refine l_nil ?_
    refine c_if (b := (decide (a3 ≠ 0))) rfl (fun hb => ?_) (fun hb => ?_)
    · have H9 := cnd_t hb H; clear H
      refine c_region ?_
      refine l_loadN (i := 2) (vs := [.int .i64 0, .int .i64 0, .int .i64 0, .int .i64 0]) Tryd.isAgg42 Tryd.sizeOf42 rfl rfl rfl rfl rfl ?_
      refine l_store (i := 1) (vs := [.int .i64 0, .int .i64 0, .int .i64 0, .int .i64 0]) (cs' := [.int .i64 0, .int .i64 0, .int .i64 0, .int .i64 0]) Tryd.sizeOf42 rfl rfl rfl rfl rfl rfl rfl rfl rfl ?_
      refine l_nil ?_
      refine c_close (0, 0, 0, 0) () 0 [0, 1] (by exact ⟨rfl, rfl, rfl, rfl, trivial⟩) (by decide) rfl (by exact ⟨H9, trivial⟩) (Nat.lt_succ_self _)
    · have H10 := cnd_f hb H; clear H
      refine c_skip ?_
      refine c_close (a2.South, a2.West, a2.North, a2.East) () 0 [0, 1] (by exact ⟨rfl, rfl, rfl, rfl, trivial⟩) (by decide) rfl (by exact ⟨H10, trivial⟩) (Nat.lt_succ_self _)
  · rintro ⟨m, m_2, m_3, m_4⟩ _ gg H6 _
    replace H6 : Law_told_where_Box_j1 a0 a1 a3 m m_2 m_3 m_4 = some r := H6
    refine c_tidyF [(1, .int .i64 a1), (3, .int .i64 a3), (4, .pointer (some ⟨b3, 0, none⟩)), (6, .pointer (some ⟨b4, 0, none⟩))] [cellsC b3 [.int .i64 a0.South, .int .i64 a0.West, .int .i64 a0.North, .int .i64 a0.East] 42, cellsC b4 [.int .i64 m, .int .i64 m_2, .int .i64 m_3, .int .i64 m_4] 42] rfl rfl ?_
    refine c_seq ?_
    refine c_region ?_
    refine l_loadN (i := 0) (vs := [.int .i64 a0.South, .int .i64 a0.West, .int .i64 a0.North, .int .i64 a0.East]) Tryd.isAgg42 Tryd.sizeOf42 rfl rfl rfl rfl rfl ?_
    refine l_loadN (i := 1) (vs := [.int .i64 m, .int .i64 m_2, .int .i64 m_3, .int .i64 m_4]) Tryd.isAgg42 Tryd.sizeOf42 rfl rfl rfl rfl rfl ?_
    refine l_val rfl rfl rfl (r_eqlA (xs := #[.int .i64 a0.South, .int .i64 a0.West, .int .i64 a0.North, .int .i64 a0.East]) (ys := #[.int .i64 m, .int .i64 m_2, .int .i64 m_3, .int .i64 m_4]) Tryd.eqGuardType42 (fun w => run_eq_where_Box w a0 (⟨m, m_2, m_3, m_4⟩ : T_where_Box)) rfl rfl) ?_
    refine l_val rfl rfl rfl (r_move (v := .bool (eq_where_Box a0 (⟨m, m_2, m_3, m_4⟩ : T_where_Box))) rfl) ?_
    refine split (fun hb => ?_) (fun hb => ?_)
    · have H7 := cnd_t hb H6; clear H6
      refine l_val rfl rfl rfl (r_move (v := .int .i64 a1) rfl) ?_
      refine l_val rfl rfl rfl (r_move (v := .int .i64 a3) rfl) ?_
      refine l_val rfl rfl rfl (r_eql rfl rfl) ?_
      refine l_val rfl rfl rfl (r_pickT (v := .bool (decide (a1 = a3))) rfl rfl) ?_
      refine l_val rfl rfl rfl (r_assign (v := .bool (decide (a1 = a3))) rfl) ?_
      refine l_nil ?_
      refine c_ret ?_
      obtain rfl := Option.some.inj H7
      refine ret1 (v := .bool (decide (a1 = a3))) rfl rfl (fin rfl)
    · have H8 := cnd_f hb H6; clear H6
      refine l_passed rfl rfl rfl ?_
      refine l_passed rfl rfl rfl ?_
      refine l_passed rfl rfl rfl ?_
      refine l_val rfl rfl rfl (r_pickF (v := .bool false) rfl rfl) ?_
      refine l_val rfl rfl rfl (r_assign (v := .bool false) rfl) ?_
      refine l_nil ?_
      refine c_ret ?_
      obtain rfl := Option.some.inj H8
      refine ret1 (v := .bool false) rfl rfl (fin rfl)
theorem k4 {a0 : T_api_Place} {a1 : Int} {a2 : (List UInt8)} {a3 : Int} {a4 : Int} {r : Bool} (H : Law_WhereCells a0 a1 a2 a3 a4 = some r) : Ret Tryd.prog 4 [.agg #[.int .i64 a0.Lat, .int .i64 a0.Lon], .int .i64 a1, str a2, .int .i64 a3, .int .i64 a4] (.bool r) := by
  refine enterRet (n := 117) Tryd.func4 rfl rfl rfl (fun wd => ?_)
  refine c_seq ?_
  refine c_region ?_
  refine l_box (cs := [.int .i64 a0.Lat, .int .i64 a0.Lon]) rfl rfl rfl rfl (fun b9 => ?_)
  refine l_val rfl rfl rfl (r_assign (v := .bool false) rfl) ?_
  refine l_nil ?_
  refine c_seq ?_
  refine c_region ?_
  refine l_loadN (i := 0) (vs := [.int .i64 a0.Lat, .int .i64 a0.Lon]) Tryd.isAgg34 Tryd.sizeOf34 rfl rfl rfl rfl rfl ?_
  refine l_val rfl rfl rfl (r_move (v := .int .i64 a1) rfl) ?_
  obtain ⟨t28, h_t28, H49⟩ := bnd_some H; clear H
  refine l_call (k14 h_t28) Tryd.call14 rfl rfl rfl ?_
  refine l_val rfl rfl rfl (r_move (v := .tuple #[str t28.1, .int .i64 t28.2]) rfl) ?_
  refine l_val rfl rfl rfl (r_extract (v := str t28.1) rfl rfl) ?_
  refine l_val rfl rfl rfl (r_extract (v := .int .i64 t28.2) rfl rfl) ?_
  refine l_val rfl rfl rfl (r_assign (v := str t28.1) rfl) ?_
  refine l_val rfl rfl rfl (r_assign (v := .int .i64 t28.2) rfl) ?_
  refine l_nil ?_
  refine c_meet (r := r) (σ := Int) (τ := Unit) (fun s => Law_WhereCells_j1 a0 a1 a2 a3 a4 t28 s) (fun s t => [(1, .int .i64 a1), (2, str a2), (3, .int .i64 a3), (4, .int .i64 a4), (5, .pointer (some ⟨b9, 0, none⟩)), (11, str t28.1), (12, .int .i64 t28.2), (13, .int .i64 s)]) (fun s t => [cellsC b9 [.int .i64 a0.Lat, .int .i64 a0.Lon] 34]) (fun s t => True) ?_ ?_
  · refine c_region ?_
    refine l_loadN (i := 0) (vs := [.int .i64 a0.Lat, .int .i64 a0.Lon]) Tryd.isAgg34 Tryd.sizeOf34 rfl rfl rfl rfl rfl ?_
    obtain ⟨t32, h_t32, H90⟩ := bnd_some H49; clear H49
    refine l_call (k16 h_t32) Tryd.call16 rfl rfl rfl ?_
    refine l_val rfl rfl rfl (r_move (v := .int .i64 a1) rfl) ?_
    refine l_val rfl rfl rfl (r_geq rfl rfl) ?_
    refine l_val rfl rfl rfl (r_move (v := .bool (decide (0 ≤ a1))) rfl) ?_
    refine split (fun hb => ?_) (fun hb => ?_)
    · have H91 := cnd_t hb H90; clear H90
      refine l_val rfl rfl rfl (r_move (v := .int .i64 a1) rfl) ?_
      refine l_val rfl rfl rfl (r_leq rfl rfl) ?_
      refine l_val rfl rfl rfl (r_pickT (v := .bool (decide (a1 ≤ 24))) rfl rfl) ?_
      obtain ⟨t39, h_t39, H92⟩ := bnd_some H91; clear H91
      refine l_call (k17 h_t39) Tryd.call17 rfl rfl rfl ?_
      refine l_buildSlice (vs := [.int .i64 t32, .int .i64 t39]) (cs := [.int .i64 t32, .int .i64 t39]) Tryd.underlying81 Tryd.sizeOf23 Tryd.zeroValue23 rfl rfl rfl rfl rfl rfl rfl (fun b16 => ?_)
      obtain ⟨t41, h_t41, H93⟩ := bnd_some H92; clear H92
      refine l_callG (fun w hF hS => k15 (know_all w) (frs_box (i := 1) (xs := ([t32, t39] : List Int)) (f := e_i64) hS rfl rfl rfl rfl rfl) h_t41) Tryd.call15 rfl rfl rfl ?_
      refine l_val rfl rfl rfl (r_assign (v := .int .i64 t41) rfl) ?_
      refine l_nil ?_
      refine c_close t41 () 0 [0] (by exact ⟨rfl, rfl, rfl, rfl, rfl, rfl, rfl, rfl, trivial⟩) (by decide) rfl (by exact ⟨H93, trivial⟩) (Nat.lt_succ_self _)
    · have H94 := cnd_f hb H90; clear H90
      refine l_passed rfl rfl rfl ?_
      refine l_passed rfl rfl rfl ?_
      refine l_val rfl rfl rfl (r_pickF (v := .bool false) rfl rfl) ?_
      obtain ⟨t39_2, h_t39_2, H95⟩ := bnd_some H94; clear H94
      refine l_call (k17 h_t39_2) Tryd.call17 rfl rfl rfl ?_
      refine l_buildSlice (vs := [.int .i64 t32, .int .i64 t39_2]) (cs := [.int .i64 t32, .int .i64 t39_2]) Tryd.underlying81 Tryd.sizeOf23 Tryd.zeroValue23 rfl rfl rfl rfl rfl rfl rfl (fun b17 => ?_)
      obtain ⟨t41_2, h_t41_2, H96⟩ := bnd_some H95; clear H95
      refine l_callG (fun w hF hS => k15 (know_all w) (frs_box (i := 1) (xs := ([t32, t39_2] : List Int)) (f := e_i64) hS rfl rfl rfl rfl rfl) h_t41_2) Tryd.call15 rfl rfl rfl ?_
      refine l_val rfl rfl rfl (r_assign (v := .int .i64 t41_2) rfl) ?_
      refine l_nil ?_
      refine c_close t41_2 () 0 [0] (by exact ⟨rfl, rfl, rfl, rfl, rfl, rfl, rfl, rfl, trivial⟩) (by decide) rfl (by exact ⟨H96, trivial⟩) (Nat.lt_succ_self _)
  · rintro x13 _ gg H50 _
    replace H50 : Law_WhereCells_j1 a0 a1 a2 a3 a4 t28 x13 = some r := H50
    refine c_tidyF [(1, .int .i64 a1), (2, str a2), (3, .int .i64 a3), (4, .int .i64 a4), (5, .pointer (some ⟨b9, 0, none⟩)), (11, str t28.1), (12, .int .i64 t28.2), (13, .int .i64 x13)] [cellsC b9 [.int .i64 a0.Lat, .int .i64 a0.Lon] 34] rfl rfl ?_
    refine c_seq ?_
    refine c_region ?_
    refine l_val rfl rfl rfl (r_assign (v := str []) rfl) ?_
    refine l_nil ?_
    refine c_meet (r := r) (σ := (List UInt8)) (τ := Unit) (fun s => Law_WhereCells_j2 a2 a3 a4 t28 x13 s) (fun s t => [(2, str a2), (3, .int .i64 a3), (4, .int .i64 a4), (11, str t28.1), (12, .int .i64 t28.2), (13, .int .i64 x13), (14, str s)]) (fun s t => []) (fun s t => True) ?_ ?_
    · refine c_seq ?_
      refine c_region ?_
      refine l_val rfl rfl rfl (r_move (v := .int .i64 x13) rfl) ?_
      refine l_val rfl rfl rfl (r_eql rfl rfl) ?_
      refine l_nil ?_
      refine c_if (b := (decide (x13 = 0))) rfl (fun hb => ?_) (fun hb => ?_)
      · have H87 := cnd_t hb H50; clear H50
        refine c_region ?_
        refine l_loadN (i := 0) (vs := [.int .i64 a0.Lat, .int .i64 a0.Lon]) Tryd.isAgg34 Tryd.sizeOf34 rfl rfl rfl rfl rfl ?_
        refine l_val rfl rfl rfl (r_move (v := .int .i64 a1) rfl) ?_
        obtain ⟨t46, h_t46, H88⟩ := bnd_some H87; clear H87
        refine l_call (k18 h_t46) Tryd.call18 rfl rfl rfl ?_
        refine l_val rfl rfl rfl (r_assign (v := str t46) rfl) ?_
        refine l_nil ?_
        refine c_close t46 () 0 [] (by exact ⟨rfl, rfl, rfl, rfl, rfl, rfl, rfl, trivial⟩) (by decide) rfl (by exact ⟨H88, trivial⟩) (Nat.lt_succ_self _)
      · have H89 := cnd_f hb H50; clear H50
        refine c_skip ?_
        refine c_close [] () 0 [] (by exact ⟨rfl, rfl, rfl, rfl, rfl, rfl, rfl, trivial⟩) (by decide) rfl (by exact ⟨H89, trivial⟩) (Nat.lt_succ_self _)
    · rintro x14 _ gg H51 _
      replace H51 : Law_WhereCells_j2 a2 a3 a4 t28 x13 x14 = some r := H51
      refine c_tidyF [(2, str a2), (3, .int .i64 a3), (4, .int .i64 a4), (11, str t28.1), (12, .int .i64 t28.2), (13, .int .i64 x13), (14, str x14)] [] rfl rfl ?_
      refine c_seq ?_
      refine c_region ?_
      refine l_val rfl rfl rfl (r_move (v := str a2) rfl) ?_
      obtain ⟨t49, h_t49, H52⟩ := bnd_some H51; clear H51
      refine l_call (k19 h_t49) Tryd.call19 rfl rfl rfl ?_
      refine l_val rfl rfl rfl (r_move (v := .tuple #[.agg #[.int .i64 t49.1.South, .int .i64 t49.1.West, .int .i64 t49.1.North, .int .i64 t49.1.East], .int .i64 t49.2]) rfl) ?_
      refine l_val rfl rfl rfl (r_extract (v := .agg #[.int .i64 t49.1.South, .int .i64 t49.1.West, .int .i64 t49.1.North, .int .i64 t49.1.East]) rfl rfl) ?_
      refine l_val rfl rfl rfl (r_extract (v := .int .i64 t49.2) rfl rfl) ?_
      refine l_alloc (cs := [.int .i64 0, .int .i64 0, .int .i64 0, .int .i64 0]) Tryd.zeroValue42 rfl rfl rfl (fun b10 => ?_)
      refine l_store (i := 0) (vs := [.int .i64 t49.1.South, .int .i64 t49.1.West, .int .i64 t49.1.North, .int .i64 t49.1.East]) (cs' := [.int .i64 t49.1.South, .int .i64 t49.1.West, .int .i64 t49.1.North, .int .i64 t49.1.East]) Tryd.sizeOf42 rfl rfl rfl rfl rfl rfl rfl rfl rfl ?_
      refine l_val rfl rfl rfl (r_assign (v := .int .i64 t49.2) rfl) ?_
      refine l_nil ?_
      refine c_seq ?_
      refine c_region ?_
      refine l_val rfl rfl rfl (r_move (v := str a2) rfl) ?_
      refine l_val rfl rfl rfl (r_move (v := .int .i64 a3) rfl) ?_
      refine l_val rfl rfl rfl (r_move (v := .int .i64 a4) rfl) ?_
      obtain ⟨t56, h_t56, H53⟩ := bnd_some H52; clear H52
      refine l_call (k20 h_t56) Tryd.call20 rfl rfl rfl ?_
      refine l_val rfl rfl rfl (r_move (v := .tuple #[str t56.1, .bool t56.2.1, .int .i64 t56.2.2]) rfl) ?_
      refine l_val rfl rfl rfl (r_extract (v := str t56.1) rfl rfl) ?_
      refine l_val rfl rfl rfl (r_extract (v := .bool t56.2.1) rfl rfl) ?_
      refine l_val rfl rfl rfl (r_extract (v := .int .i64 t56.2.2) rfl rfl) ?_
      refine l_val rfl rfl rfl (r_assign (v := str t56.1) rfl) ?_
      refine l_val rfl rfl rfl (r_assign (v := .bool t56.2.1) rfl) ?_
      refine l_val rfl rfl rfl (r_assign (v := .int .i64 t56.2.2) rfl) ?_
      refine l_nil ?_
      refine c_seq ?_
      refine c_region ?_
      refine l_val rfl rfl rfl (r_move (v := str a2) rfl) ?_
      obtain ⟨t61, h_t61, H54⟩ := bnd_some H53; clear H53
      refine l_call (k21 h_t61) Tryd.call21 rfl rfl rfl ?_
      refine l_val rfl rfl rfl (r_assign (v := .int .i64 t61) rfl) ?_
      refine l_nil ?_
      refine c_meet (r := r) (σ := Int) (τ := Unit) (fun s => Law_WhereCells_j3 a2 a3 a4 t28 x13 x14 t49 t56 t61 s) (fun s t => [(2, str a2), (3, .int .i64 a3), (4, .int .i64 a4), (11, str t28.1), (12, .int .i64 t28.2), (13, .int .i64 x13), (14, str x14), (15, .pointer (some ⟨b10, 0, none⟩)), (16, .int .i64 t49.2), (17, str t56.1), (18, .bool t56.2.1), (19, .int .i64 t56.2.2), (20, .int .i64 t61), (21, .int .i64 s)]) (fun s t => [cellsC b10 [.int .i64 t49.1.South, .int .i64 t49.1.West, .int .i64 t49.1.North, .int .i64 t49.1.East] 42]) (fun s t => True) ?_ ?_
      · refine c_region ?_
        refine l_val rfl rfl rfl (r_move (v := .int .i64 t61) rfl) ?_
        refine l_val rfl rfl rfl (r_move (v := .int .i64 a3) rfl) ?_
        refine l_val rfl rfl rfl (r_geq rfl rfl) ?_
        refine l_val rfl rfl rfl (r_move (v := .bool (decide ((-100) ≤ a3))) rfl) ?_
        refine split (fun hb => ?_) (fun hb => ?_)
        · have H73 := cnd_t hb H54; clear H54
          refine l_val rfl rfl rfl (r_move (v := .int .i64 a3) rfl) ?_
          refine l_val rfl rfl rfl (r_leq rfl rfl) ?_
          refine l_val rfl rfl rfl (r_pickT (v := .bool (decide (a3 ≤ 100))) rfl rfl) ?_
          refine l_val rfl rfl rfl (r_move (v := .bool (decide (a3 ≤ 100))) rfl) ?_
          refine split (fun hb => ?_) (fun hb => ?_)
          · have H74 := cnd_t hb H73; clear H73
            refine l_val rfl rfl rfl (r_move (v := .int .i64 a4) rfl) ?_
            refine l_val rfl rfl rfl (r_geq rfl rfl) ?_
            refine l_val rfl rfl rfl (r_pickT (v := .bool (decide ((-100) ≤ a4))) rfl rfl) ?_
            refine l_val rfl rfl rfl (r_move (v := .bool (decide ((-100) ≤ a4))) rfl) ?_
            refine split (fun hb => ?_) (fun hb => ?_)
            · have H75 := cnd_t hb H74; clear H74
              refine l_val rfl rfl rfl (r_move (v := .int .i64 a4) rfl) ?_
              refine l_val rfl rfl rfl (r_leq rfl rfl) ?_
              refine l_val rfl rfl rfl (r_pickT (v := .bool (decide (a4 ≤ 100))) rfl rfl) ?_
              obtain ⟨t77, h_t77, H76⟩ := bnd_some H75; clear H75
              refine l_call (k17 h_t77) Tryd.call17 rfl rfl rfl ?_
              refine l_buildSlice (vs := [.int .i64 t61, .int .i64 t77]) (cs := [.int .i64 t61, .int .i64 t77]) Tryd.underlying81 Tryd.sizeOf23 Tryd.zeroValue23 rfl rfl rfl rfl rfl rfl rfl (fun b12 => ?_)
              obtain ⟨t79, h_t79, H77⟩ := bnd_some H76; clear H76
              refine l_callG (fun w hF hS => k15 (know_all w) (frs_box (i := 1) (xs := ([t61, t77] : List Int)) (f := e_i64) hS rfl rfl rfl rfl rfl) h_t79) Tryd.call15 rfl rfl rfl ?_
              refine l_val rfl rfl rfl (r_assign (v := .int .i64 t79) rfl) ?_
              refine l_nil ?_
              refine c_close t79 () 0 [0] (by exact ⟨rfl, rfl, rfl, rfl, rfl, rfl, rfl, rfl, rfl, rfl, rfl, rfl, rfl, rfl, trivial⟩) (by decide) rfl (by exact ⟨H77, trivial⟩) (Nat.lt_succ_self _)
            · have H78 := cnd_f hb H74; clear H74
              refine l_passed rfl rfl rfl ?_
              refine l_passed rfl rfl rfl ?_
              refine l_val rfl rfl rfl (r_pickF (v := .bool false) rfl rfl) ?_
              obtain ⟨t77_2, h_t77_2, H79⟩ := bnd_some H78; clear H78
              refine l_call (k17 h_t77_2) Tryd.call17 rfl rfl rfl ?_
              refine l_buildSlice (vs := [.int .i64 t61, .int .i64 t77_2]) (cs := [.int .i64 t61, .int .i64 t77_2]) Tryd.underlying81 Tryd.sizeOf23 Tryd.zeroValue23 rfl rfl rfl rfl rfl rfl rfl (fun b13 => ?_)
              obtain ⟨t79_2, h_t79_2, H80⟩ := bnd_some H79; clear H79
              refine l_callG (fun w hF hS => k15 (know_all w) (frs_box (i := 1) (xs := ([t61, t77_2] : List Int)) (f := e_i64) hS rfl rfl rfl rfl rfl) h_t79_2) Tryd.call15 rfl rfl rfl ?_
              refine l_val rfl rfl rfl (r_assign (v := .int .i64 t79_2) rfl) ?_
              refine l_nil ?_
              refine c_close t79_2 () 0 [0] (by exact ⟨rfl, rfl, rfl, rfl, rfl, rfl, rfl, rfl, rfl, rfl, rfl, rfl, rfl, rfl, trivial⟩) (by decide) rfl (by exact ⟨H80, trivial⟩) (Nat.lt_succ_self _)
          · have H81 := cnd_f hb H73; clear H73
            refine l_passed rfl rfl rfl ?_
            refine l_passed rfl rfl rfl ?_
            refine l_val rfl rfl rfl (r_pickF (v := .bool false) rfl rfl) ?_
            refine l_val rfl rfl rfl (r_move (v := .bool false) rfl) ?_
            refine l_passed rfl rfl rfl ?_
            refine l_passed rfl rfl rfl ?_
            refine l_val rfl rfl rfl (r_pickF (v := .bool false) rfl rfl) ?_
            obtain ⟨t77_3, h_t77_3, H82⟩ := bnd_some H81; clear H81
            refine l_call (k17 h_t77_3) Tryd.call17 rfl rfl rfl ?_
            refine l_buildSlice (vs := [.int .i64 t61, .int .i64 t77_3]) (cs := [.int .i64 t61, .int .i64 t77_3]) Tryd.underlying81 Tryd.sizeOf23 Tryd.zeroValue23 rfl rfl rfl rfl rfl rfl rfl (fun b14 => ?_)
            obtain ⟨t79_3, h_t79_3, H83⟩ := bnd_some H82; clear H82
            refine l_callG (fun w hF hS => k15 (know_all w) (frs_box (i := 1) (xs := ([t61, t77_3] : List Int)) (f := e_i64) hS rfl rfl rfl rfl rfl) h_t79_3) Tryd.call15 rfl rfl rfl ?_
            refine l_val rfl rfl rfl (r_assign (v := .int .i64 t79_3) rfl) ?_
            refine l_nil ?_
            refine c_close t79_3 () 0 [0] (by exact ⟨rfl, rfl, rfl, rfl, rfl, rfl, rfl, rfl, rfl, rfl, rfl, rfl, rfl, rfl, trivial⟩) (by decide) rfl (by exact ⟨H83, trivial⟩) (Nat.lt_succ_self _)
        · have H84 := cnd_f hb H54; clear H54
          refine l_passed rfl rfl rfl ?_
          refine l_passed rfl rfl rfl ?_
          refine l_val rfl rfl rfl (r_pickF (v := .bool false) rfl rfl) ?_
          refine l_val rfl rfl rfl (r_move (v := .bool false) rfl) ?_
          refine l_passed rfl rfl rfl ?_
          refine l_passed rfl rfl rfl ?_
          refine l_val rfl rfl rfl (r_pickF (v := .bool false) rfl rfl) ?_
          refine l_val rfl rfl rfl (r_move (v := .bool false) rfl) ?_
          refine l_passed rfl rfl rfl ?_
          refine l_passed rfl rfl rfl ?_
          refine l_val rfl rfl rfl (r_pickF (v := .bool false) rfl rfl) ?_
          obtain ⟨t77_4, h_t77_4, H85⟩ := bnd_some H84; clear H84
          refine l_call (k17 h_t77_4) Tryd.call17 rfl rfl rfl ?_
          refine l_buildSlice (vs := [.int .i64 t61, .int .i64 t77_4]) (cs := [.int .i64 t61, .int .i64 t77_4]) Tryd.underlying81 Tryd.sizeOf23 Tryd.zeroValue23 rfl rfl rfl rfl rfl rfl rfl (fun b15 => ?_)
          obtain ⟨t79_4, h_t79_4, H86⟩ := bnd_some H85; clear H85
          refine l_callG (fun w hF hS => k15 (know_all w) (frs_box (i := 1) (xs := ([t61, t77_4] : List Int)) (f := e_i64) hS rfl rfl rfl rfl rfl) h_t79_4) Tryd.call15 rfl rfl rfl ?_
          refine l_val rfl rfl rfl (r_assign (v := .int .i64 t79_4) rfl) ?_
          refine l_nil ?_
          refine c_close t79_4 () 0 [0] (by exact ⟨rfl, rfl, rfl, rfl, rfl, rfl, rfl, rfl, rfl, rfl, rfl, rfl, rfl, rfl, trivial⟩) (by decide) rfl (by exact ⟨H86, trivial⟩) (Nat.lt_succ_self _)
      · rintro x21 _ gg H55 _
        replace H55 : Law_WhereCells_j3 a2 a3 a4 t28 x13 x14 t49 t56 t61 x21 = some r := H55
        refine c_tidyF [(2, str a2), (3, .int .i64 a3), (4, .int .i64 a4), (11, str t28.1), (12, .int .i64 t28.2), (13, .int .i64 x13), (14, str x14), (15, .pointer (some ⟨b10, 0, none⟩)), (16, .int .i64 t49.2), (17, str t56.1), (18, .bool t56.2.1), (19, .int .i64 t56.2.2), (20, .int .i64 t61), (21, .int .i64 x21)] [cellsC b10 [.int .i64 t49.1.South, .int .i64 t49.1.West, .int .i64 t49.1.North, .int .i64 t49.1.East] 42] rfl rfl ?_
        refine c_seq ?_
        refine c_region ?_
        refine l_alloc (cs := [.int .i64 0, .int .i64 0, .int .i64 0, .int .i64 0]) Tryd.zeroValue42 rfl rfl rfl (fun b11 => ?_)
        refine l_nil ?_
        refine c_meet (r := r) (σ := Int × Int × Int × Int) (τ := Unit) (fun s => Law_WhereCells_j4 a2 a3 a4 t28 x13 x14 t49 t56 t61 x21 s.1 s.2.1 s.2.2.1 s.2.2.2) (fun s t => [(2, str a2), (3, .int .i64 a3), (4, .int .i64 a4), (11, str t28.1), (12, .int .i64 t28.2), (13, .int .i64 x13), (14, str x14), (15, .pointer (some ⟨b10, 0, none⟩)), (16, .int .i64 t49.2), (17, str t56.1), (18, .bool t56.2.1), (19, .int .i64 t56.2.2), (20, .int .i64 t61), (21, .int .i64 x21), (22, .pointer (some ⟨b11, 0, none⟩))]) (fun s t => [cellsC b10 [.int .i64 t49.1.South, .int .i64 t49.1.West, .int .i64 t49.1.North, .int .i64 t49.1.East] 42, cellsC b11 [.int .i64 s.1, .int .i64 s.2.1, .int .i64 s.2.2.1, .int .i64 s.2.2.2] 42]) (fun s t => True) ?_ ?_
        · refine c_seq ?_
          refine c_region ?_
          refine l_val rfl rfl rfl (r_move (v := .int .i64 t61) rfl) ?_
          refine l_val rfl rfl rfl (r_eql rfl rfl) ?_
          refine l_nil ?_
          refine c_if (b := (decide (t61 = 0))) rfl (fun hb => ?_) (fun hb => ?_)
          · have H70 := cnd_t hb H55; clear H55
            refine c_region ?_
            refine l_val rfl rfl rfl (r_move (v := str a2) rfl) ?_
            obtain ⟨t83, h_t83, H71⟩ := bnd_some H70; clear H70
            refine l_call (k22 h_t83) Tryd.call22 rfl rfl rfl ?_
            refine l_store (i := 1) (vs := [.int .i64 t83.South, .int .i64 t83.West, .int .i64 t83.North, .int .i64 t83.East]) (cs' := [.int .i64 t83.South, .int .i64 t83.West, .int .i64 t83.North, .int .i64 t83.East]) Tryd.sizeOf42 rfl rfl rfl rfl rfl rfl rfl rfl rfl ?_
            refine l_nil ?_
            refine c_close (t83.South, t83.West, t83.North, t83.East) () 0 [0, 1] (by exact ⟨rfl, rfl, rfl, rfl, rfl, rfl, rfl, rfl, rfl, rfl, rfl, rfl, rfl, rfl, rfl, trivial⟩) (by decide) rfl (by exact ⟨H71, trivial⟩) (Nat.lt_succ_self _)
          · have H72 := cnd_f hb H55; clear H55
            refine c_skip ?_
            refine c_close (0, 0, 0, 0) () 0 [0, 1] (by exact ⟨rfl, rfl, rfl, rfl, rfl, rfl, rfl, rfl, rfl, rfl, rfl, rfl, rfl, rfl, rfl, trivial⟩) (by decide) rfl (by exact ⟨H72, trivial⟩) (Nat.lt_succ_self _)
        · rintro ⟨m, m_2, m_3, m_4⟩ _ gg H56 _
          replace H56 : Law_WhereCells_j4 a2 a3 a4 t28 x13 x14 t49 t56 t61 x21 m m_2 m_3 m_4 = some r := H56
          refine c_tidyF [(2, str a2), (3, .int .i64 a3), (4, .int .i64 a4), (11, str t28.1), (12, .int .i64 t28.2), (13, .int .i64 x13), (14, str x14), (15, .pointer (some ⟨b10, 0, none⟩)), (16, .int .i64 t49.2), (17, str t56.1), (18, .bool t56.2.1), (19, .int .i64 t56.2.2), (20, .int .i64 t61), (21, .int .i64 x21), (22, .pointer (some ⟨b11, 0, none⟩))] [cellsC b10 [.int .i64 t49.1.South, .int .i64 t49.1.West, .int .i64 t49.1.North, .int .i64 t49.1.East] 42, cellsC b11 [.int .i64 m, .int .i64 m_2, .int .i64 m_3, .int .i64 m_4] 42] rfl rfl ?_
          refine c_seq ?_
          refine c_region ?_
          refine l_val rfl rfl rfl (r_assign (v := str []) rfl) ?_
          refine l_val rfl rfl rfl (r_assign (v := .bool false) rfl) ?_
          refine l_nil ?_
          refine c_meet (r := r) (σ := (List UInt8) × Bool) (τ := Unit) (fun s => Law_WhereCells_j5 t28 x13 x14 t49 t56 t61 x21 m m_2 m_3 m_4 s.1 s.2) (fun s t => [(11, str t28.1), (12, .int .i64 t28.2), (13, .int .i64 x13), (14, str x14), (15, .pointer (some ⟨b10, 0, none⟩)), (16, .int .i64 t49.2), (17, str t56.1), (18, .bool t56.2.1), (19, .int .i64 t56.2.2), (20, .int .i64 t61), (21, .int .i64 x21), (22, .pointer (some ⟨b11, 0, none⟩)), (23, str s.1), (24, .bool s.2)]) (fun s t => [cellsC b10 [.int .i64 t49.1.South, .int .i64 t49.1.West, .int .i64 t49.1.North, .int .i64 t49.1.East] 42, cellsC b11 [.int .i64 m, .int .i64 m_2, .int .i64 m_3, .int .i64 m_4] 42]) (fun s t => True) ?_ ?_
          · refine c_seq ?_
            refine c_region ?_
            refine l_val rfl rfl rfl (r_move (v := .int .i64 x21) rfl) ?_
            refine l_val rfl rfl rfl (r_eql rfl rfl) ?_
            refine l_nil ?_
            refine c_if (b := (decide (x21 = 0))) rfl (fun hb => ?_) (fun hb => ?_)
            · have H67 := cnd_t hb H56; clear H56
              refine c_region ?_
              refine l_val rfl rfl rfl (r_move (v := str a2) rfl) ?_
              refine l_val rfl rfl rfl (r_move (v := .int .i64 a3) rfl) ?_
              refine l_val rfl rfl rfl (r_move (v := .int .i64 a4) rfl) ?_
              obtain ⟨t90, h_t90, H68⟩ := bnd_some H67; clear H67
              refine l_call (k23 h_t90) Tryd.call23 rfl rfl rfl ?_
              refine l_val rfl rfl rfl (r_move (v := .tuple #[str t90.1, .bool t90.2]) rfl) ?_
              refine l_val rfl rfl rfl (r_extract (v := str t90.1) rfl rfl) ?_
              refine l_val rfl rfl rfl (r_extract (v := .bool t90.2) rfl rfl) ?_
              refine l_val rfl rfl rfl (r_assign (v := str t90.1) rfl) ?_
              refine l_val rfl rfl rfl (r_assign (v := .bool t90.2) rfl) ?_
              refine l_nil ?_
              refine c_close (t90.1, t90.2) () 0 [0, 1] (by exact ⟨rfl, rfl, rfl, rfl, rfl, rfl, rfl, rfl, rfl, rfl, rfl, rfl, rfl, rfl, trivial⟩) (by decide) rfl (by exact ⟨H68, trivial⟩) (Nat.lt_succ_self _)
            · have H69 := cnd_f hb H56; clear H56
              refine c_skip ?_
              refine c_close ([], false) () 0 [0, 1] (by exact ⟨rfl, rfl, rfl, rfl, rfl, rfl, rfl, rfl, rfl, rfl, rfl, rfl, rfl, rfl, trivial⟩) (by decide) rfl (by exact ⟨H69, trivial⟩) (Nat.lt_succ_self _)
          · rintro ⟨x23, x24⟩ _ gg H57 _
            replace H57 : Law_WhereCells_j5 t28 x13 x14 t49 t56 t61 x21 m m_2 m_3 m_4 x23 x24 = some r := H57
            refine c_tidyF [(11, str t28.1), (12, .int .i64 t28.2), (13, .int .i64 x13), (14, str x14), (15, .pointer (some ⟨b10, 0, none⟩)), (16, .int .i64 t49.2), (17, str t56.1), (18, .bool t56.2.1), (19, .int .i64 t56.2.2), (20, .int .i64 t61), (21, .int .i64 x21), (22, .pointer (some ⟨b11, 0, none⟩)), (23, str x23), (24, .bool x24)] [cellsC b10 [.int .i64 t49.1.South, .int .i64 t49.1.West, .int .i64 t49.1.North, .int .i64 t49.1.East] 42, cellsC b11 [.int .i64 m, .int .i64 m_2, .int .i64 m_3, .int .i64 m_4] 42] rfl rfl ?_
            refine c_seq ?_
            refine c_region ?_
            refine l_val rfl rfl rfl (r_move (v := str t28.1) rfl) ?_
            refine l_val rfl rfl rfl (r_move (v := .int .i64 t28.2) rfl) ?_
            refine l_val rfl rfl rfl (r_move (v := str x14) rfl) ?_
            refine l_val rfl rfl rfl (r_move (v := .int .i64 x13) rfl) ?_
            obtain ⟨t97, h_t97, H58⟩ := bnd_some H57; clear H57
            refine l_call (k10 h_t97) Tryd.call10 rfl rfl rfl ?_
            refine l_val rfl rfl rfl (r_move (v := .bool t97) rfl) ?_
            refine split (fun hb => ?_) (fun hb => ?_)
            · have H59 := cnd_t hb H58; clear H58
              refine l_loadN (i := 0) (vs := [.int .i64 t49.1.South, .int .i64 t49.1.West, .int .i64 t49.1.North, .int .i64 t49.1.East]) Tryd.isAgg42 Tryd.sizeOf42 rfl rfl rfl rfl rfl ?_
              refine l_val rfl rfl rfl (r_move (v := .int .i64 t49.2) rfl) ?_
              refine l_loadN (i := 1) (vs := [.int .i64 m, .int .i64 m_2, .int .i64 m_3, .int .i64 m_4]) Tryd.isAgg42 Tryd.sizeOf42 rfl rfl rfl rfl rfl ?_
              refine l_val rfl rfl rfl (r_move (v := .int .i64 t61) rfl) ?_
              obtain ⟨t103, h_t103, H60⟩ := bnd_some H59; clear H59
              refine l_call (k24 h_t103) Tryd.call24 rfl rfl rfl ?_
              refine l_val rfl rfl rfl (r_pickT (v := .bool t103) rfl rfl) ?_
              refine l_val rfl rfl rfl (r_move (v := .bool t103) rfl) ?_
              refine split (fun hb => ?_) (fun hb => ?_)
              · have H61 := cnd_t hb H60; clear H60
                refine l_val rfl rfl rfl (r_move (v := str t56.1) rfl) ?_
                refine l_val rfl rfl rfl (r_move (v := .int .i64 t56.2.2) rfl) ?_
                refine l_val rfl rfl rfl (r_move (v := str x23) rfl) ?_
                refine l_val rfl rfl rfl (r_move (v := .int .i64 x21) rfl) ?_
                obtain ⟨t110, h_t110, H62⟩ := bnd_some H61; clear H61
                refine l_call (k10 h_t110) Tryd.call10 rfl rfl rfl ?_
                refine l_val rfl rfl rfl (r_pickT (v := .bool t110) rfl rfl) ?_
                refine l_val rfl rfl rfl (r_move (v := .bool t110) rfl) ?_
                refine split (fun hb => ?_) (fun hb => ?_)
                · have H63 := cnd_t hb H62; clear H62
                  refine l_val rfl rfl rfl (r_move (v := .bool t56.2.1) rfl) ?_
                  refine l_val rfl rfl rfl (r_move (v := .bool x24) rfl) ?_
                  refine l_val rfl rfl rfl (r_eqlB Tryd.underlying4 rfl rfl) ?_
                  refine l_val rfl rfl rfl (r_pickT (v := .bool (decide (t56.2.1 = x24))) rfl rfl) ?_
                  refine l_val rfl rfl rfl (r_assign (v := .bool (decide (t56.2.1 = x24))) rfl) ?_
                  refine l_nil ?_
                  refine c_ret ?_
                  obtain rfl := Option.some.inj H63
                  refine ret1 (v := .bool (decide (t56.2.1 = x24))) rfl rfl (fin rfl)
                · have H64 := cnd_f hb H62; clear H62
                  refine l_passed rfl rfl rfl ?_
                  refine l_passed rfl rfl rfl ?_
                  refine l_passed rfl rfl rfl ?_
                  refine l_val rfl rfl rfl (r_pickF (v := .bool false) rfl rfl) ?_
                  refine l_val rfl rfl rfl (r_assign (v := .bool false) rfl) ?_
                  refine l_nil ?_
                  refine c_ret ?_
                  obtain rfl := Option.some.inj H64
                  refine ret1 (v := .bool false) rfl rfl (fin rfl)
              · have H65 := cnd_f hb H60; clear H60
                refine l_passed rfl rfl rfl ?_
                refine l_passed rfl rfl rfl ?_
                refine l_passed rfl rfl rfl ?_
                refine l_passed rfl rfl rfl ?_
                refine l_passed rfl rfl rfl ?_
                refine l_val rfl rfl rfl (r_pickF (v := .bool false) rfl rfl) ?_
                refine l_val rfl rfl rfl (r_move (v := .bool false) rfl) ?_
                refine l_passed rfl rfl rfl ?_
                refine l_passed rfl rfl rfl ?_
                refine l_passed rfl rfl rfl ?_
                refine l_val rfl rfl rfl (r_pickF (v := .bool false) rfl rfl) ?_
                refine l_val rfl rfl rfl (r_assign (v := .bool false) rfl) ?_
                refine l_nil ?_
                refine c_ret ?_
                obtain rfl := Option.some.inj H65
                refine ret1 (v := .bool false) rfl rfl (fin rfl)
            · have H66 := cnd_f hb H58; clear H58
              refine l_passed rfl rfl rfl ?_
              refine l_passed rfl rfl rfl ?_
              refine l_passed rfl rfl rfl ?_
              refine l_passed rfl rfl rfl ?_
              refine l_passed rfl rfl rfl ?_
              refine l_val rfl rfl rfl (r_pickF (v := .bool false) rfl rfl) ?_
              refine l_val rfl rfl rfl (r_move (v := .bool false) rfl) ?_
              refine l_passed rfl rfl rfl ?_
              refine l_passed rfl rfl rfl ?_
              refine l_passed rfl rfl rfl ?_
              refine l_passed rfl rfl rfl ?_
              refine l_passed rfl rfl rfl ?_
              refine l_val rfl rfl rfl (r_pickF (v := .bool false) rfl rfl) ?_
              refine l_val rfl rfl rfl (r_move (v := .bool false) rfl) ?_
              refine l_passed rfl rfl rfl ?_
              refine l_passed rfl rfl rfl ?_
              refine l_passed rfl rfl rfl ?_
              refine l_val rfl rfl rfl (r_pickF (v := .bool false) rfl rfl) ?_
              refine l_val rfl rfl rfl (r_assign (v := .bool false) rfl) ?_
              refine l_nil ?_
              refine c_ret ?_
              obtain rfl := Option.some.inj H66
              refine ret1 (v := .bool false) rfl rfl (fin rfl)
end Go.Proofs.YtfgehlmdcllclaaDoor
