/- EditComes: the walks, printed by our generator; each follows its model. Conditions: the model yields a value. -/
import Derived.Test.YtinpjnlocahjjaaDoorKEb
namespace Go.Proofs.YtinpjnlocahjjaaDoor
open Go Go.Vc Go.Md Go.M Go.Lx
set_option maxRecDepth 100000
set_option maxHeartbeats 4000000
set_option linter.unusedVariables false

theorem k82 {a0 : (List T_edit_Step)} {v0 : Value} {a1 : (T_edit_Step → Option (Bool))} {v1 : Value} {r : Int} {w : World} {h : Heap} (hw : Know h w noS) (f0 : FrS h 5 v0 (a0.map e_edit_Step)) (f1 : FnH Tryd.prog h v1 (fnR_func_edit_Step_bool a1)) (H : slices_IndexFunc_edit_Step a0 a1 = some r) : Does Tryd.prog 82 (List.toArray [v0, v1]) w (fun v w' => v = (.int .i64 r) ∧ Grow w w') := by
  refine enter (n := 19) Tryd.func82 rfl rfl rfl noS [] (Sat.nil _ _) ?_
  refine c_seq ?_
  refine c_region ?_
  refine l_val rfl rfl rfl (r_assign (v := .int .i64 0) rfl) ?_
  refine l_nil ?_
  refine c_seq ?_
  refine c_seq ?_
  refine c_region ?_
  refine l_val rfl rfl rfl (r_move (v := v0) rfl) ?_
  refine l_val rfl rfl rfl (r_lenF Tryd.underlying22 rfl f0 rfl) ?_
  refine l_val rfl rfl rfl (r_move (v := .int .i64 0) rfl) ?_
  refine l_nil ?_
  refine c_block ?_
  refine c_fix (σ := Int) (τ := Unit) (fun next1 s => slices_IndexFunc_edit_Step_l1 a0 a1 next1 s) (fun s t => [(0, v0), (1, v1), (7, .int .i64 (a0.length : Int)), (8, .int .i64 s)]) (fun s t => []) (fun s t => True) 0 () [] H (by exact trivial) (by exact ⟨rfl, rfl, rfl, rfl, trivial⟩) (by decide) rfl ?_
  rintro x8_2 _ m1 gg H9 _
  clear H
  replace H9 : slices_IndexFunc_edit_Step_l1 a0 a1 (it (fun next1 s => slices_IndexFunc_edit_Step_l1 a0 a1 next1 s) m1) x8_2 = some r := H9
  generalize hn1 : it (fun next1 s => slices_IndexFunc_edit_Step_l1 a0 a1 next1 s) m1 = next1 at H9
  refine c_tidyF [(0, v0), (1, v1), (7, .int .i64 (a0.length : Int)), (8, .int .i64 x8_2)] [] rfl rfl ?_
  refine c_seq ?_
  refine c_region ?_
  refine l_val rfl rfl rfl (r_lss rfl rfl) ?_
  refine l_nil ?_
  refine c_seq ?_
  refine c_if (b := (decide (x8_2 < (a0.length : Int)))) rfl (fun hb => ?_) (fun hb => ?_)
  · have H10 := cnd_t hb H9; clear H9
    refine c_skip ?_
    refine c_seq ?_
    refine c_block ?_
    refine c_seq ?_
    refine c_region ?_
    refine l_val rfl rfl rfl (r_move (v := .int .i64 x8_2) rfl) ?_
    refine l_val rfl rfl rfl (r_assign (v := .int .i64 x8_2) rfl) ?_
    refine l_nil ?_
    refine c_seq ?_
    refine c_region ?_
    refine l_val rfl rfl rfl (r_move (v := v1) rfl) ?_
    refine l_val rfl rfl rfl (r_move (v := v0) rfl) ?_
    refine l_val rfl rfl rfl (r_move (v := .int .i64 x8_2) rfl) ?_
    obtain ⟨t14, h_t14, H11⟩ := bnd_some H10; clear H10
    refine l_val rfl rfl rfl (r_indexF Tryd.underlying22 Tryd.sizeOf35 rfl rfl f0 h_t14) ?_
    refine l_read (fun w hF hS => run_loadGN (f := e_edit_Step) (i := x8_2) (sz := 5) (j := 0) (vs := [.int .i64 t14.Kind, .int .i64 t14.A, .int .i64 t14.B, .int .i64 t14.C, .int .i64 t14.D]) Tryd.isAgg35 Tryd.sizeOf35 rfl rfl (f0.row (hw.now hF)) h_t14 rfl) rfl rfl rfl ?_
    obtain ⟨t16, h_t16, H12⟩ := bnd_some H11; clear H11
    refine l_callV (R := fnR_func_edit_Step_bool a1) (r := .bool t16) (v := v1) (fun w hF hS => ⟨(f1.mono (hw.now hF)), ⟨t14, _, rfl, h_t16, rfl⟩⟩) rfl rfl rfl rfl ?_
    refine l_nil ?_
    refine c_if (b := t16) rfl (fun hb => ?_) (fun hb => ?_)
    · have H13 := cnd_t hb H12; clear H12
      refine c_seq ?_
      refine c_region ?_
      refine l_val rfl rfl rfl (r_move (v := .int .i64 x8_2) rfl) ?_
      refine l_val rfl rfl rfl (r_assign (v := .int .i64 x8_2) rfl) ?_
      refine l_nil ?_
      refine c_ret ?_
      obtain rfl := Option.some.inj H13
      refine ret1 (v := .int .i64 x8_2) rfl rfl (fin rfl)
    · have H14 := cnd_f hb H12; clear H12
      refine c_skip ?_
      refine c_region ?_
      obtain ⟨t18, h_t18, H15⟩ := bnd_some H14; clear H14
      refine l_val rfl rfl rfl (r_addG rfl rfl h_t18) ?_
      refine l_val rfl rfl rfl (r_move (v := .int .i64 t18) rfl) ?_
      refine l_nil ?_
      refine c_close t18 () m1 [] (by exact ⟨rfl, rfl, rfl, rfl, trivial⟩) (by decide) rfl (by exact ⟨(by subst hn1; exact H15), trivial⟩) (Nat.lt_succ_self _)
  · have H16 := cnd_f hb H9; clear H9
    refine c_exit ?_
    refine c_seq ?_
    refine c_region ?_
    refine l_val rfl rfl rfl (r_assign (v := .int .i64 (-1)) rfl) ?_
    refine l_nil ?_
    refine c_ret ?_
    obtain rfl := Option.some.inj H16
    refine ret1 (v := .int .i64 (-1)) rfl rfl (fin rfl)
theorem k33 {a0 : (List T_edit_Step)} {v0 : Value} {a1 : (T_edit_Step → Option (Bool))} {v1 : Value} {r : Bool} {w : World} {h : Heap} (hw : Know h w noS) (f0 : FrS h 5 v0 (a0.map e_edit_Step)) (f1 : FnH Tryd.prog h v1 (fnR_func_edit_Step_bool a1)) (H : slices_ContainsFunc_edit_Step a0 a1 = some r) : Does Tryd.prog 33 (List.toArray [v0, v1]) w (fun v w' => v = (.bool r) ∧ Grow w w') := by
  refine enter (n := 9) Tryd.func33 rfl rfl rfl noS [] (Sat.nil _ _) ?_
  refine c_seq ?_
  refine c_region ?_
  refine l_val rfl rfl rfl (r_assign (v := .bool false) rfl) ?_
  refine l_nil ?_
  refine c_seq ?_
  refine c_region ?_
  refine l_val rfl rfl rfl (r_move (v := v0) rfl) ?_
  refine l_val rfl rfl rfl (r_move (v := v1) rfl) ?_
  obtain ⟨t7, h_t7, H2⟩ := bnd_some H; clear H
  refine l_callG (fun w hF hS => k82 (know_all w) (f0.mono (hw.now hF)) (f1.mono (hw.now hF)) h_t7) Tryd.call82 rfl rfl rfl ?_
  refine l_val rfl rfl rfl (r_geq rfl rfl) ?_
  refine l_val rfl rfl rfl (r_assign (v := .bool (decide (0 ≤ t7))) rfl) ?_
  refine l_nil ?_
  refine c_ret ?_
  obtain rfl := Option.some.inj H2
  refine ret1 (v := .bool (decide (0 ≤ t7))) rfl rfl (fin rfl)
theorem k34 {a0 : T_edit_Step} {r : Bool} (H : Keep_EditComes_1 a0 = some r) : Ret Tryd.prog 34 [.agg #[.int .i64 a0.Kind, .int .i64 a0.A, .int .i64 a0.B, .int .i64 a0.C, .int .i64 a0.D]] (.bool r) := by
  refine enterRet (n := 6) Tryd.func34 rfl rfl rfl (fun wd => ?_)
  refine c_seq ?_
  refine c_region ?_
  refine l_box (cs := [.int .i64 a0.Kind, .int .i64 a0.A, .int .i64 a0.B, .int .i64 a0.C, .int .i64 a0.D]) rfl rfl rfl rfl (fun b1 => ?_)
  refine l_val rfl rfl rfl (r_assign (v := .bool false) rfl) ?_
  refine l_nil ?_
  refine c_seq ?_
  refine c_region ?_
  refine l_val rfl rfl rfl (r_field Tryd.runUnderlying35 rfl Tryd.sizeOf3 rfl rfl) ?_
  refine l_load1 (i := 0) (v := .int .i64 a0.Kind) Tryd.isAgg3 rfl rfl rfl rfl rfl ?_
  refine l_val rfl rfl rfl (r_eql rfl rfl) ?_
  refine l_val rfl rfl rfl (r_assign (v := .bool (decide (a0.Kind = 3))) rfl) ?_
  refine l_nil ?_
  refine c_ret ?_
  obtain rfl := Option.some.inj H
  refine ret1 (v := .bool (decide (a0.Kind = 3))) rfl rfl (fin rfl)
theorem k83 {a0 : Int} {a1 : Int} {a2 : Int} {a3 : Int} {a4 : Int} {r : Int × Int} (H : pix_From a0 a1 a2 a3 a4 = some r) : Ret Tryd.prog 83 [.int .i64 a0, .int .i64 a1, .int .i64 a2, .int .i64 a3, .int .i64 a4] (.tuple #[.int .i64 r.1, .int .i64 r.2]) := by
  refine enterRet (n := 23) Tryd.func83 rfl rfl rfl (fun wd => ?_)
  refine c_seq ?_
  refine c_region ?_
  refine l_val rfl rfl rfl (r_assign (v := .int .i64 0) rfl) ?_
  refine l_val rfl rfl rfl (r_assign (v := .int .i64 0) rfl) ?_
  refine l_nil ?_
  refine c_seq ?_
  refine c_region ?_
  obtain ⟨t12, h_t12, H5⟩ := bnd_some H; clear H
  refine l_call (k120 h_t12) Tryd.call120 rfl rfl rfl ?_
  refine l_val rfl rfl rfl (r_move (v := .int .i64 a0) rfl) ?_
  obtain ⟨k14, h_k14, H6⟩ := bnd_some H5; clear H5
  refine l_val rfl rfl rfl (r_indexAN (f := fun j_ => [v120_0_0 j_, .bool (pix_turnings_tab1 j_)]) Tryd.runUnderlying162 Tryd.isAgg161 Tryd.sizeOf161 rfl rfl rfl (fun _ => rfl) h_k14) ?_
  refine l_val rfl rfl rfl (r_fieldV (v := (v120_0_0 k14)) Tryd.runUnderlying161 Tryd.isAgg159 rfl rfl rfl) ?_
  refine l_val rfl rfl rfl (r_move (v := .int .i64 a1) rfl) ?_
  refine l_val rfl rfl rfl (r_move (v := .int .i64 a2) rfl) ?_
  refine l_val rfl rfl rfl (r_move (v := .int .i64 a3) rfl) ?_
  refine l_val rfl rfl rfl (r_move (v := .int .i64 a4) rfl) ?_
  obtain ⟨g20, h_g20, H7⟩ := bnd_some H6; clear H6
  obtain ⟨t20, h_t20, H8⟩ := bnd_some H7; clear H7
  refine l_callV (R := fnR_func_int_int_int_int_int_int g20) (r := .tuple #[.int .i64 t20.1, .int .i64 t20.2]) (v := (v120_0_0 k14)) (fun w hF hS => ⟨((h120_0_0 (gIx_lt h_k14)).fn (gFn_some h_g20) _), ⟨a1, a2, a3, a4, _, rfl, h_t20, rfl⟩⟩) rfl rfl rfl rfl ?_
  refine l_val rfl rfl rfl (r_extract (v := .int .i64 t20.1) rfl rfl) ?_
  refine l_val rfl rfl rfl (r_extract (v := .int .i64 t20.2) rfl rfl) ?_
  refine l_val rfl rfl rfl (r_assign (v := .int .i64 t20.1) rfl) ?_
  refine l_val rfl rfl rfl (r_assign (v := .int .i64 t20.2) rfl) ?_
  refine l_nil ?_
  refine c_ret ?_
  obtain rfl := Option.some.inj H8
  refine ret2 (v1 := .int .i64 t20.1) (v2 := .int .i64 t20.2) rfl rfl rfl (fin rfl)
theorem k36 {a0 : (List T_edit_Step)} {v0 : Value} {a1 : Int} {a2 : Int} {a3 : Int} {a4 : Int} {r : Int × Int × Int} {w : World} {h : Heap} (hw : Know h w noS) (f0 : FrS h 5 v0 (a0.map e_edit_Step)) (H : edit_Comes a0 a1 a2 a3 a4 = some r) : Does Tryd.prog 36 (List.toArray [v0, .int .i64 a1, .int .i64 a2, .int .i64 a3, .int .i64 a4]) w (fun v w' => v = (.tuple #[.int .i64 r.1, .int .i64 r.2.1, .int .i64 r.2.2]) ∧ Grow w w') := by
  refine enter (n := 107) Tryd.func36 rfl rfl rfl noS [] (Sat.nil _ _) ?_
  refine c_seq ?_
  refine c_region ?_
  refine l_val rfl rfl rfl (r_assign (v := .int .i64 0) rfl) ?_
  refine l_val rfl rfl rfl (r_assign (v := .int .i64 0) rfl) ?_
  refine l_val rfl rfl rfl (r_assign (v := .int .i64 0) rfl) ?_
  refine l_nil ?_
  refine c_seq ?_
  refine c_seq ?_
  refine c_region ?_
  refine l_val rfl rfl rfl (r_move (v := v0) rfl) ?_
  obtain ⟨t25, h_t25, H40⟩ := bnd_some H; clear H
  refine l_callG (fun w hF hS => k73 (know_all w) (f0.mono (hw.now hF)) h_t25) Tryd.call73 rfl rfl rfl ?_
  refine l_val rfl rfl rfl (r_assign (v := .int .i64 t25) rfl) ?_
  refine l_nil ?_
  refine c_seq ?_
  refine c_region ?_
  refine l_val rfl rfl rfl (r_move (v := .int .i64 t25) rfl) ?_
  refine l_val rfl rfl rfl (r_neq rfl rfl) ?_
  refine l_nil ?_
  refine c_if (b := (decide (t25 ≠ 0))) rfl (fun hb => ?_) (fun hb => ?_)
  · have H41 := cnd_t hb H40; clear H40
    refine c_seq ?_
    refine c_region ?_
    refine l_val rfl rfl rfl (r_move (v := .int .i64 t25) rfl) ?_
    refine l_val rfl rfl rfl (r_assign (v := .int .i64 0) rfl) ?_
    refine l_val rfl rfl rfl (r_assign (v := .int .i64 0) rfl) ?_
    refine l_val rfl rfl rfl (r_assign (v := .int .i64 t25) rfl) ?_
    refine l_nil ?_
    refine c_ret ?_
    obtain rfl := Option.some.inj H41
    refine ret3 (v1 := .int .i64 0) (v2 := .int .i64 0) (v3 := .int .i64 t25) rfl rfl rfl rfl (fin rfl)
  · have H42 := cnd_f hb H40; clear H40
    refine c_skip ?_
    refine c_seq ?_
    refine c_region ?_
    refine l_val rfl rfl rfl (r_move (v := v0) rfl) ?_
    refine l_val rfl rfl rfl (r_move (v := .int .i64 a1) rfl) ?_
    refine l_val rfl rfl rfl (r_move (v := .int .i64 a2) rfl) ?_
    obtain ⟨t33, h_t33, H43⟩ := bnd_some H42; clear H42
    refine l_callG (fun w hF hS => k75 (know_all w) (f0.mono (hw.now hF)) h_t33) Tryd.call75 rfl rfl rfl ?_
    refine l_val rfl rfl rfl (r_move (v := .tuple #[.int .i64 t33.1, .int .i64 t33.2.1, .int .i64 t33.2.2]) rfl) ?_
    refine l_val rfl rfl rfl (r_extract (v := .int .i64 t33.1) rfl rfl) ?_
    refine l_val rfl rfl rfl (r_extract (v := .int .i64 t33.2.1) rfl rfl) ?_
    refine l_val rfl rfl rfl (r_extract (v := .int .i64 t33.2.2) rfl rfl) ?_
    refine l_val rfl rfl rfl (r_assign (v := .int .i64 t33.1) rfl) ?_
    refine l_val rfl rfl rfl (r_assign (v := .int .i64 t33.2.1) rfl) ?_
    refine l_val rfl rfl rfl (r_assign (v := .int .i64 t33.2.2) rfl) ?_
    refine l_nil ?_
    refine c_seq ?_
    refine c_seq ?_
    refine c_region ?_
    refine l_val rfl rfl rfl (r_move (v := .int .i64 t33.2.2) rfl) ?_
    refine l_val rfl rfl rfl (r_neq rfl rfl) ?_
    refine l_nil ?_
    refine c_if (b := (decide (t33.2.2 ≠ 0))) rfl (fun hb => ?_) (fun hb => ?_)
    · have H44 := cnd_t hb H43; clear H43
      refine c_seq ?_
      refine c_region ?_
      refine l_val rfl rfl rfl (r_move (v := .int .i64 t33.2.2) rfl) ?_
      refine l_val rfl rfl rfl (r_assign (v := .int .i64 0) rfl) ?_
      refine l_val rfl rfl rfl (r_assign (v := .int .i64 0) rfl) ?_
      refine l_val rfl rfl rfl (r_assign (v := .int .i64 t33.2.2) rfl) ?_
      refine l_nil ?_
      refine c_ret ?_
      obtain rfl := Option.some.inj H44
      refine ret3 (v1 := .int .i64 0) (v2 := .int .i64 0) (v3 := .int .i64 t33.2.2) rfl rfl rfl rfl (fin rfl)
    · have H45 := cnd_f hb H43; clear H43
      refine c_skip ?_
      refine c_meet (r := r) (σ := Unit) (τ := Unit) (fun s => edit_Comes_j1 a0 a1 a2 a3 a4 t33) (fun s t => [(0, v0), (1, .int .i64 a1), (2, .int .i64 a2), (3, .int .i64 a3), (4, .int .i64 a4), (14, .int .i64 t33.1), (15, .int .i64 t33.2.1)]) (fun s t => []) (fun s t => True) ?_ ?_
      · refine c_seq ?_
        refine c_region ?_
        refine l_val rfl rfl rfl (r_move (v := v0) rfl) ?_
        refine l_val rfl rfl rfl (r_lenF Tryd.underlying22 rfl f0 rfl) ?_
        refine l_val rfl rfl rfl (r_move (v := .int .i64 0) rfl) ?_
        refine l_nil ?_
        refine c_block ?_
        refine c_fix (σ := Int) (τ := Unit) (fun next5 s => edit_Comes_l5 a0 a1 a2 a3 a4 t33 next5 s) (fun s t => [(0, v0), (1, .int .i64 a1), (2, .int .i64 a2), (3, .int .i64 a3), (4, .int .i64 a4), (14, .int .i64 t33.1), (15, .int .i64 t33.2.1), (40, v0), (41, .int .i64 (a0.length : Int)), (42, .int .i64 s)]) (fun s t => []) (fun s t => True) 0 () [] H45 (by exact trivial) (by exact ⟨rfl, rfl, rfl, rfl, rfl, rfl, rfl, rfl, rfl, rfl, trivial⟩) (by decide) rfl ?_
        rintro x42_2 _ m5 gg H72 _
        clear H45
        replace H72 : edit_Comes_l5 a0 a1 a2 a3 a4 t33 (it (fun next5 s => edit_Comes_l5 a0 a1 a2 a3 a4 t33 next5 s) m5) x42_2 = some r := H72
        generalize hn5 : it (fun next5 s => edit_Comes_l5 a0 a1 a2 a3 a4 t33 next5 s) m5 = next5 at H72
        refine c_tidyF [(0, v0), (1, .int .i64 a1), (2, .int .i64 a2), (3, .int .i64 a3), (4, .int .i64 a4), (14, .int .i64 t33.1), (15, .int .i64 t33.2.1), (40, v0), (41, .int .i64 (a0.length : Int)), (42, .int .i64 x42_2)] [] rfl rfl ?_
        refine c_seq ?_
        refine c_region ?_
        refine l_val rfl rfl rfl (r_lss rfl rfl) ?_
        refine l_nil ?_
        refine c_seq ?_
        refine c_if (b := (decide (x42_2 < (a0.length : Int)))) rfl (fun hb => ?_) (fun hb => ?_)
        · have H73 := cnd_t hb H72; clear H72
          refine c_skip ?_
          refine c_seq ?_
          refine c_block ?_
          refine c_seq ?_
          refine c_region ?_
          obtain ⟨t44, h_t44, H74⟩ := bnd_some H73; clear H73
          refine l_val rfl rfl rfl (r_indexF Tryd.underlying22 Tryd.sizeOf35 rfl rfl f0 h_t44) ?_
          refine l_read (fun w hF hS => run_loadGN (f := e_edit_Step) (i := x42_2) (sz := 5) (j := 0) (vs := [.int .i64 t44.Kind, .int .i64 t44.A, .int .i64 t44.B, .int .i64 t44.C, .int .i64 t44.D]) Tryd.isAgg35 Tryd.sizeOf35 rfl rfl (f0.row (hw.now hF)) h_t44 rfl) rfl rfl rfl ?_
          refine l_alloc (cs := [.int .i64 0, .int .i64 0, .int .i64 0, .int .i64 0, .int .i64 0]) Tryd.zeroValue35 rfl rfl rfl (fun b3 => ?_)
          refine l_store (i := 0) (vs := [.int .i64 t44.Kind, .int .i64 t44.A, .int .i64 t44.B, .int .i64 t44.C, .int .i64 t44.D]) (cs' := [.int .i64 t44.Kind, .int .i64 t44.A, .int .i64 t44.B, .int .i64 t44.C, .int .i64 t44.D]) Tryd.sizeOf35 rfl rfl rfl rfl rfl rfl rfl rfl rfl ?_
          refine l_nil ?_
          refine c_seq ?_
          refine c_region ?_
          refine l_val rfl rfl rfl (r_field Tryd.runUnderlying35 rfl Tryd.sizeOf3 rfl rfl) ?_
          refine l_load1 (i := 0) (v := .int .i64 t44.Kind) Tryd.isAgg3 rfl rfl rfl rfl rfl ?_
          refine l_val rfl rfl rfl (r_eql rfl rfl) ?_
          refine l_nil ?_
          refine c_if (b := (decide (t44.Kind = 3))) rfl (fun hb => ?_) (fun hb => ?_)
          · have H75 := cnd_t hb H74; clear H74
            refine c_seq ?_
            refine c_region ?_
            refine l_val rfl rfl rfl (r_assign (v := .int .i64 0) rfl) ?_
            refine l_val rfl rfl rfl (r_assign (v := .int .i64 0) rfl) ?_
            refine l_val rfl rfl rfl (r_assign (v := .int .i64 11) rfl) ?_
            refine l_nil ?_
            refine c_ret ?_
            obtain rfl := Option.some.inj H75
            refine ret3 (v1 := .int .i64 0) (v2 := .int .i64 0) (v3 := .int .i64 11) rfl rfl rfl rfl (fin rfl)
          · have H76 := cnd_f hb H74; clear H74
            refine c_skip ?_
            refine c_region ?_
            obtain ⟨t49, h_t49, H77⟩ := bnd_some H76; clear H76
            refine l_val rfl rfl rfl (r_addG rfl rfl h_t49) ?_
            refine l_val rfl rfl rfl (r_move (v := .int .i64 t49) rfl) ?_
            refine l_nil ?_
            refine c_close t49 () m5 [] (by exact ⟨rfl, rfl, rfl, rfl, rfl, rfl, rfl, rfl, rfl, rfl, trivial⟩) (by decide) rfl (by exact ⟨(by subst hn5; exact H77), trivial⟩) (Nat.lt_succ_self _)
        · have H78 := cnd_f hb H72; clear H72
          refine c_exit ?_
          refine c_close () () 0 [] (by exact ⟨rfl, rfl, rfl, rfl, rfl, rfl, rfl, trivial⟩) (by decide) rfl (by exact ⟨H78, trivial⟩) (Nat.lt_succ_self _)
      · rintro _ _ gg H46 _
        replace H46 : edit_Comes_j1 a0 a1 a2 a3 a4 t33 = some r := H46
        refine c_tidyF [(0, v0), (1, .int .i64 a1), (2, .int .i64 a2), (3, .int .i64 a3), (4, .int .i64 a4), (14, .int .i64 t33.1), (15, .int .i64 t33.2.1)] [] rfl rfl ?_
        refine c_seq ?_
        refine c_seq ?_
        refine c_region ?_
        refine l_val rfl rfl rfl (r_move (v := .int .i64 a3) rfl) ?_
        refine l_val rfl rfl rfl (r_move (v := .int .i64 t33.1) rfl) ?_
        obtain ⟨t52, h_t52, H47⟩ := bnd_some H46; clear H46
        refine l_val rfl rfl rfl (r_subG rfl rfl h_t52) ?_
        obtain ⟨t53, h_t53, H48⟩ := bnd_some H47; clear H47
        refine l_call (k81 h_t53) Tryd.call81 rfl rfl rfl ?_
        refine l_val rfl rfl rfl (r_move (v := .bool t53) rfl) ?_
        refine split (fun hb => ?_) (fun hb => ?_)
        · have H49 := cnd_t hb H48; clear H48
          refine l_passed rfl rfl rfl ?_
          refine l_passed rfl rfl rfl ?_
          refine l_passed rfl rfl rfl ?_
          refine l_passed rfl rfl rfl ?_
          refine l_val rfl rfl rfl (r_pickT (v := .bool true) rfl rfl) ?_
          refine l_nil ?_
          refine c_true rfl ?_
          refine c_seq ?_
          refine c_region ?_
          refine l_val rfl rfl rfl (r_assign (v := .int .i64 0) rfl) ?_
          refine l_val rfl rfl rfl (r_assign (v := .int .i64 0) rfl) ?_
          refine l_val rfl rfl rfl (r_assign (v := .int .i64 2) rfl) ?_
          refine l_nil ?_
          refine c_ret ?_
          obtain rfl := Option.some.inj H49
          refine ret3 (v1 := .int .i64 0) (v2 := .int .i64 0) (v3 := .int .i64 2) rfl rfl rfl rfl (fin rfl)
        · have H50 := cnd_f hb H48; clear H48
          refine l_val rfl rfl rfl (r_move (v := .int .i64 a4) rfl) ?_
          refine l_val rfl rfl rfl (r_move (v := .int .i64 t33.2.1) rfl) ?_
          obtain ⟨t57, h_t57, H51⟩ := bnd_some H50; clear H50
          refine l_val rfl rfl rfl (r_subG rfl rfl h_t57) ?_
          obtain ⟨t58, h_t58, H52⟩ := bnd_some H51; clear H51
          refine l_call (k81 h_t58) Tryd.call81 rfl rfl rfl ?_
          refine l_val rfl rfl rfl (r_pickF (v := .bool t58) rfl rfl) ?_
          refine l_nil ?_
          refine c_if (b := t58) rfl (fun hb => ?_) (fun hb => ?_)
          · have H53 := cnd_t hb H52; clear H52
            refine c_seq ?_
            refine c_region ?_
            refine l_val rfl rfl rfl (r_assign (v := .int .i64 0) rfl) ?_
            refine l_val rfl rfl rfl (r_assign (v := .int .i64 0) rfl) ?_
            refine l_val rfl rfl rfl (r_assign (v := .int .i64 2) rfl) ?_
            refine l_nil ?_
            refine c_ret ?_
            obtain rfl := Option.some.inj H53
            refine ret3 (v1 := .int .i64 0) (v2 := .int .i64 0) (v3 := .int .i64 2) rfl rfl rfl rfl (fin rfl)
          · have H54 := cnd_f hb H52; clear H52
            refine c_skip ?_
            refine c_meet (r := r) (σ := Int × Int) (τ := Unit) (fun s => edit_Comes_j2 s.1 s.2) (fun s t => [(3, .int .i64 s.1), (4, .int .i64 s.2)]) (fun s t => []) (fun s t => True) ?_ ?_
            · refine c_seq ?_
              refine c_region ?_
              refine l_val rfl rfl rfl (r_move (v := v0) rfl) ?_
              refine l_val rfl rfl rfl (r_lenF Tryd.underlying22 rfl f0 rfl) ?_
              obtain ⟨t62, h_t62, H56⟩ := bnd_some H54; clear H54
              refine l_val rfl rfl rfl (r_subG rfl rfl h_t62) ?_
              refine l_val rfl rfl rfl (r_assign (v := .int .i64 t62) rfl) ?_
              refine l_nil ?_
              refine c_block ?_
              refine c_fix (σ := Int × Int × Int) (τ := Unit) (fun next3 s => edit_Comes_l3 a0 a1 a2 next3 s.1 s.2.1 s.2.2) (fun s t => [(0, v0), (1, .int .i64 a1), (2, .int .i64 a2), (3, .int .i64 s.1), (4, .int .i64 s.2.1), (19, .int .i64 s.2.2)]) (fun s t => []) (fun s t => True) (a3, a4, t62) () [] H56 (by exact trivial) (by exact ⟨rfl, rfl, rfl, rfl, rfl, rfl, trivial⟩) (by decide) rfl ?_
              rintro ⟨x3_3, x4_3, x19_2⟩ _ m3 gg H57 _
              clear H56
              replace H57 : edit_Comes_l3 a0 a1 a2 (it (fun next3 s => edit_Comes_l3 a0 a1 a2 next3 s.1 s.2.1 s.2.2) m3) x3_3 x4_3 x19_2 = some r := H57
              generalize hn3 : it (fun next3 s => edit_Comes_l3 a0 a1 a2 next3 s.1 s.2.1 s.2.2) m3 = next3 at H57
              refine c_tidyF [(0, v0), (1, .int .i64 a1), (2, .int .i64 a2), (3, .int .i64 x3_3), (4, .int .i64 x4_3), (19, .int .i64 x19_2)] [] rfl rfl ?_
              refine c_seq ?_
              refine c_seq ?_
              refine c_region ?_
              refine l_val rfl rfl rfl (r_move (v := .int .i64 x19_2) rfl) ?_
              refine l_val rfl rfl rfl (r_geq rfl rfl) ?_
              refine l_nil ?_
              refine c_if (b := (decide (0 ≤ x19_2))) rfl (fun hb => ?_) (fun hb => ?_)
              · have H58 := cnd_t hb H57; clear H57
                refine c_skip ?_
                refine c_meet (r := r) (σ := Int × Int) (τ := Unit) (fun s => edit_Comes_j4 x19_2 next3 s.1 s.2) (fun s t => [(0, v0), (1, .int .i64 a1), (2, .int .i64 a2), (3, .int .i64 s.1), (4, .int .i64 s.2), (19, .int .i64 x19_2)]) (fun s t => []) (fun s t => True) ?_ ?_
                · refine c_block ?_
                  refine c_seq ?_
                  refine c_region ?_
                  refine l_val rfl rfl rfl (r_move (v := v0) rfl) ?_
                  refine l_val rfl rfl rfl (r_move (v := .int .i64 x19_2) rfl) ?_
                  obtain ⟨t69, h_t69, H61⟩ := bnd_some H58; clear H58
                  refine l_val rfl rfl rfl (r_indexF Tryd.underlying22 Tryd.sizeOf35 rfl rfl f0 h_t69) ?_
                  refine l_read (fun w hF hS => run_loadGN (f := e_edit_Step) (i := x19_2) (sz := 5) (j := 0) (vs := [.int .i64 t69.Kind, .int .i64 t69.A, .int .i64 t69.B, .int .i64 t69.C, .int .i64 t69.D]) Tryd.isAgg35 Tryd.sizeOf35 rfl rfl (f0.row (hw.now hF)) h_t69 rfl) rfl rfl rfl ?_
                  refine l_alloc (cs := [.int .i64 0, .int .i64 0, .int .i64 0, .int .i64 0, .int .i64 0]) Tryd.zeroValue35 rfl rfl rfl (fun b2 => ?_)
                  refine l_store (i := 0) (vs := [.int .i64 t69.Kind, .int .i64 t69.A, .int .i64 t69.B, .int .i64 t69.C, .int .i64 t69.D]) (cs' := [.int .i64 t69.Kind, .int .i64 t69.A, .int .i64 t69.B, .int .i64 t69.C, .int .i64 t69.D]) Tryd.sizeOf35 rfl rfl rfl rfl rfl rfl rfl rfl rfl ?_
                  refine l_nil ?_
                  refine c_seq ?_
                  refine c_region ?_
                  refine l_val rfl rfl rfl (r_field Tryd.runUnderlying35 rfl Tryd.sizeOf3 rfl rfl) ?_
                  refine l_load1 (i := 0) (v := .int .i64 t69.Kind) Tryd.isAgg3 rfl rfl rfl rfl rfl ?_
                  refine l_nil ?_
                  refine c_block ?_
                  refine c_seq ?_
                  refine c_region ?_
                  refine l_val rfl rfl rfl (r_eql rfl rfl) ?_
                  refine l_val rfl rfl rfl (r_assign (v := .bool (decide (t69.Kind = 1))) rfl) ?_
                  refine l_nil ?_
                  refine c_if (b := (decide (t69.Kind = 1))) rfl (fun hb => ?_) (fun hb => ?_)
                  · have H62 := cnd_t hb H61; clear H61
                    refine c_seq ?_
                    refine c_region ?_
                    refine l_val rfl rfl rfl (r_move (v := v0) rfl) ?_
                    refine l_val rfl rfl rfl (r_move (v := .int .i64 x19_2) rfl) ?_
                    obtain ⟨t78, h_t78, H63⟩ := bnd_some H62; clear H62
                    refine l_val rfl rfl rfl (r_sliceHF Tryd.underlying22 Tryd.sizeOf35 rfl rfl f0 h_t78) ?_
                    refine l_val rfl rfl rfl (r_move (v := .int .i64 a1) rfl) ?_
                    refine l_val rfl rfl rfl (r_move (v := .int .i64 a2) rfl) ?_
                    obtain ⟨t81, h_t81, H64⟩ := bnd_some H63; clear H63
                    refine l_callG (fun w hF hS => k75 (know_all w) ((f0.cut h_t78).mono (hw.now hF)) h_t81) Tryd.call75 rfl rfl rfl ?_
                    refine l_val rfl rfl rfl (r_move (v := .tuple #[.int .i64 t81.1, .int .i64 t81.2.1, .int .i64 t81.2.2]) rfl) ?_
                    refine l_val rfl rfl rfl (r_extract (v := .int .i64 t81.1) rfl rfl) ?_
                    refine l_val rfl rfl rfl (r_extract (v := .int .i64 t81.2.1) rfl rfl) ?_
                    refine l_val rfl rfl rfl (r_extract (v := .int .i64 t81.2.2) rfl rfl) ?_
                    refine l_val rfl rfl rfl (r_assign (v := .int .i64 t81.1) rfl) ?_
                    refine l_val rfl rfl rfl (r_assign (v := .int .i64 t81.2.1) rfl) ?_
                    refine l_val rfl rfl rfl (r_assign (v := .int .i64 t81.2.2) rfl) ?_
                    refine l_nil ?_
                    refine c_region ?_
                    refine l_val rfl rfl rfl (r_field Tryd.runUnderlying35 rfl Tryd.sizeOf3 rfl rfl) ?_
                    refine l_load1 (i := 0) (v := .int .i64 t69.A) Tryd.isAgg3 rfl rfl rfl rfl rfl ?_
                    refine l_val rfl rfl rfl (r_move (v := .int .i64 t81.1) rfl) ?_
                    refine l_val rfl rfl rfl (r_move (v := .int .i64 t81.2.1) rfl) ?_
                    refine l_val rfl rfl rfl (r_move (v := .int .i64 x3_3) rfl) ?_
                    refine l_val rfl rfl rfl (r_move (v := .int .i64 x4_3) rfl) ?_
                    obtain ⟨t92, h_t92, H65⟩ := bnd_some H64; clear H64
                    refine l_call (k83 h_t92) Tryd.call83 rfl rfl rfl ?_
                    refine l_val rfl rfl rfl (r_move (v := .tuple #[.int .i64 t92.1, .int .i64 t92.2]) rfl) ?_
                    refine l_val rfl rfl rfl (r_extract (v := .int .i64 t92.1) rfl rfl) ?_
                    refine l_val rfl rfl rfl (r_extract (v := .int .i64 t92.2) rfl rfl) ?_
                    refine l_val rfl rfl rfl (r_assign (v := .int .i64 t92.1) rfl) ?_
                    refine l_val rfl rfl rfl (r_assign (v := .int .i64 t92.2) rfl) ?_
                    refine l_nil ?_
                    refine c_close (t92.1, t92.2) () 0 [] (by exact ⟨rfl, rfl, rfl, rfl, rfl, rfl, trivial⟩) (by decide) rfl (by exact ⟨H65, trivial⟩) (Nat.lt_succ_self _)
                  · have H66 := cnd_f hb H61; clear H61
                    refine c_seq ?_
                    refine c_region ?_
                    refine l_val rfl rfl rfl (r_eql rfl rfl) ?_
                    refine l_val rfl rfl rfl (r_assign (v := .bool (decide (t69.Kind = 2))) rfl) ?_
                    refine l_nil ?_
                    refine c_if (b := (decide (t69.Kind = 2))) rfl (fun hb => ?_) (fun hb => ?_)
                    · have H67 := cnd_t hb H66; clear H66
                      exact c_regionD (Kd.p :: Kd.p :: Kd.d [0] _ :: Kd.p :: Kd.p :: Kd.p :: Kd.d [0] _ :: Kd.p :: Kd.p :: Kd.p :: []) 0 mixed (by
                        refine d_val rfl rfl (r_move (v := .int .i64 x3_3) rfl) ?_
                        refine d_val rfl rfl (r_field Tryd.runUnderlying35 rfl Tryd.sizeOf3 rfl rfl) ?_
                        refine d_load1 (i := 0) (v := .int .i64 t69.A) Tryd.isAgg3 rfl rfl rfl rfl ?_
                        have h_t100 := bnd_val H67
                        have H68 := bnd_rest H67
                        refine d_val rfl rfl (r_addG rfl rfl h_t100) ?_
                        refine d_val rfl rfl (r_move (v := .int .i64 x4_3) rfl) ?_
                        refine d_val rfl rfl (r_field Tryd.runUnderlying35 rfl Tryd.sizeOf3 rfl rfl) ?_
                        refine d_load1 (i := 0) (v := .int .i64 t69.B) Tryd.isAgg3 rfl rfl rfl rfl ?_
                        have h_t104 := bnd_val H68
                        have H69 := bnd_rest H68
                        refine d_val rfl rfl (r_addG rfl rfl h_t104) ?_
                        refine d_val rfl rfl (r_assign (v := .int .i64 (val (gI (x3_3 + t69.A)))) rfl) ?_
                        refine d_val rfl rfl (r_assign (v := .int .i64 (val (gI (x4_3 + t69.B)))) rfl) ?_
                        refine d_nil ?_
                        refine c_close ((val (gI (x3_3 + t69.A))), (val (gI (x4_3 + t69.B)))) () 0 [] (by exact ⟨rfl, rfl, rfl, rfl, rfl, rfl, trivial⟩) (by decide) rfl (by exact ⟨H69, trivial⟩) (Nat.lt_succ_self _)
                        ) (by kernel_rfl)
                    · have H70 := cnd_f hb H66; clear H66
                      refine c_skip ?_
                      refine c_close (x3_3, x4_3) () 0 [] (by exact ⟨rfl, rfl, rfl, rfl, rfl, rfl, trivial⟩) (by decide) rfl (by exact ⟨H70, trivial⟩) (Nat.lt_succ_self _)
                · rintro ⟨x3_4, x4_4⟩ _ gg H59 _
                  replace H59 : edit_Comes_j4 x19_2 next3 x3_4 x4_4 = some r := H59
                  refine c_tidyF [(0, v0), (1, .int .i64 a1), (2, .int .i64 a2), (3, .int .i64 x3_4), (4, .int .i64 x4_4), (19, .int .i64 x19_2)] [] rfl rfl ?_
                  refine c_region ?_
                  refine l_val rfl rfl rfl (r_move (v := .int .i64 x19_2) rfl) ?_
                  obtain ⟨t66, h_t66, H60⟩ := bnd_some H59; clear H59
                  refine l_val rfl rfl rfl (r_subG rfl rfl h_t66) ?_
                  refine l_val rfl rfl rfl (r_assign (v := .int .i64 t66) rfl) ?_
                  refine l_nil ?_
                  refine c_close (x3_4, x4_4, t66) () m3 [] (by exact ⟨rfl, rfl, rfl, rfl, rfl, rfl, trivial⟩) (by decide) rfl (by exact ⟨(by subst hn3; exact H60), trivial⟩) (Nat.lt_succ_self _)
              · have H71 := cnd_f hb H57; clear H57
                refine c_exit ?_
                refine c_close (x3_3, x4_3) () 0 [] (by exact ⟨rfl, rfl, trivial⟩) (by decide) rfl (by exact ⟨H71, trivial⟩) (Nat.lt_succ_self _)
            · rintro ⟨x3, x4⟩ _ gg H55 _
              replace H55 : edit_Comes_j2 x3 x4 = some r := H55
              refine c_tidyF [(3, .int .i64 x3), (4, .int .i64 x4)] [] rfl rfl ?_
              refine c_seq ?_
              refine c_region ?_
              refine l_val rfl rfl rfl (r_move (v := .int .i64 x3) rfl) ?_
              refine l_val rfl rfl rfl (r_move (v := .int .i64 x4) rfl) ?_
              refine l_val rfl rfl rfl (r_assign (v := .int .i64 x3) rfl) ?_
              refine l_val rfl rfl rfl (r_assign (v := .int .i64 x4) rfl) ?_
              refine l_val rfl rfl rfl (r_assign (v := .int .i64 0) rfl) ?_
              refine l_nil ?_
              refine c_ret ?_
              obtain rfl := Option.some.inj H55
              refine ret3 (v1 := .int .i64 x3) (v2 := .int .i64 x4) (v3 := .int .i64 0) rfl rfl rfl rfl (fin rfl)
theorem k37 {a0 : (List T_edit_Step)} {v0 : Value} {a1 : (Nat → Int)} {r : (Nat → Int) × Int} {w : World} {h : Heap} (hw : Know h w noS) (f0 : FrS h 5 v0 (a0.map e_edit_Step)) (H : edit_Pixel a0 a1 = some r) : Does Tryd.prog 37 (List.toArray [v0, .agg #[.int .u8 (a1 0), .int .u8 (a1 1), .int .u8 (a1 2)]]) w (fun v w' => v = (.tuple #[.agg #[.int .u8 (r.1 0), .int .u8 (r.1 1), .int .u8 (r.1 2)], .int .i64 r.2]) ∧ Grow w w') := by
  refine enter (n := 30) Tryd.func37 rfl rfl rfl noS [] (Sat.nil _ _) ?_
  refine c_seq ?_
  refine c_region ?_
  refine l_box (cs := [.int .u8 (a1 0), .int .u8 (a1 1), .int .u8 (a1 2)]) rfl rfl rfl rfl (fun b3 => ?_)
  refine l_alloc (cs := [.int .u8 0, .int .u8 0, .int .u8 0]) Tryd.zeroValue66 rfl rfl rfl (fun b4 => ?_)
  refine l_val rfl rfl rfl (r_assign (v := .int .i64 0) rfl) ?_
  refine l_nil ?_
  refine c_seq ?_
  refine c_seq ?_
  refine c_region ?_
  refine l_val rfl rfl rfl (r_move (v := v0) rfl) ?_
  obtain ⟨t10, h_t10, H16⟩ := bnd_some H; clear H
  refine l_callG (fun w hF hS => k73 (know_all w) (f0.mono (hw.now hF)) h_t10) Tryd.call73 rfl rfl rfl ?_
  refine l_val rfl rfl rfl (r_assign (v := .int .i64 t10) rfl) ?_
  refine l_nil ?_
  refine c_seq ?_
  refine c_region ?_
  refine l_val rfl rfl rfl (r_move (v := .int .i64 t10) rfl) ?_
  refine l_val rfl rfl rfl (r_neq rfl rfl) ?_
  refine l_nil ?_
  refine c_if (b := (decide (t10 ≠ 0))) rfl (fun hb => ?_) (fun hb => ?_)
  · have H17 := cnd_t hb H16; clear H16
    refine c_seq ?_
    refine c_region ?_
    refine l_val rfl rfl rfl (r_buildA (ps := []) (cells := #[.int .u8 0, .int .u8 0, .int .u8 0]) Tryd.zeroValue66 Tryd.runUnderlying66 Tryd.sizeOf5 rfl rfl) ?_
    refine l_val rfl rfl rfl (r_move (v := .int .i64 t10) rfl) ?_
    refine l_store (i := 1) (vs := [.int .u8 0, .int .u8 0, .int .u8 0]) (cs' := [.int .u8 0, .int .u8 0, .int .u8 0]) Tryd.sizeOf66 rfl rfl rfl rfl rfl rfl rfl rfl rfl ?_
    refine l_val rfl rfl rfl (r_assign (v := .int .i64 t10) rfl) ?_
    refine l_nil ?_
    refine c_ret ?_
    obtain rfl := Option.some.inj H17
    refine retCt (i := 1) (vs := [.int .u8 0, .int .u8 0, .int .u8 0]) (v2 := .int .i64 t10) Tryd.isAgg66 Tryd.sizeOf66 rfl rfl rfl rfl rfl (fin rfl)
  · have H18 := cnd_f hb H16; clear H16
    refine c_skip ?_
    refine c_meet (r := r) (σ := (Nat → Int)) (τ := Unit) (fun s => edit_Pixel_j1 s) (fun s t => [(3, .pointer (some ⟨b3, 0, none⟩)), (4, .pointer (some ⟨b4, 0, none⟩))]) (fun s t => [cellsC b3 [.int .u8 (s 0), .int .u8 (s 1), .int .u8 (s 2)] 66, cellsC b4 [.int .u8 0, .int .u8 0, .int .u8 0] 66]) (fun s t => True) ?_ ?_
    · refine c_seq ?_
      refine c_region ?_
      refine l_val rfl rfl rfl (r_move (v := v0) rfl) ?_
      refine l_val rfl rfl rfl (r_lenF Tryd.underlying22 rfl f0 rfl) ?_
      refine l_val rfl rfl rfl (r_move (v := .int .i64 0) rfl) ?_
      refine l_nil ?_
      refine c_block ?_
      refine c_fix (σ := Int × (Nat → Int)) (τ := Unit) (fun next2 s => edit_Pixel_l2 a0 next2 s.1 s.2) (fun s t => [(3, .pointer (some ⟨b3, 0, none⟩)), (4, .pointer (some ⟨b4, 0, none⟩)), (15, v0), (16, .int .i64 (a0.length : Int)), (17, .int .i64 s.1)]) (fun s t => [cellsC b3 [.int .u8 (s.2 0), .int .u8 (s.2 1), .int .u8 (s.2 2)] 66, cellsC b4 [.int .u8 0, .int .u8 0, .int .u8 0] 66]) (fun s t => True) (0, a1) () [0, 1] H18 (by exact trivial) (by exact ⟨rfl, rfl, rfl, rfl, rfl, trivial⟩) (by decide) rfl ?_
      rintro ⟨x17_2, m_3⟩ _ m2 gg H20 _
      clear H18
      replace H20 : edit_Pixel_l2 a0 (it (fun next2 s => edit_Pixel_l2 a0 next2 s.1 s.2) m2) x17_2 m_3 = some r := H20
      generalize hn2 : it (fun next2 s => edit_Pixel_l2 a0 next2 s.1 s.2) m2 = next2 at H20
      refine c_tidyF [(3, .pointer (some ⟨b3, 0, none⟩)), (4, .pointer (some ⟨b4, 0, none⟩)), (15, v0), (16, .int .i64 (a0.length : Int)), (17, .int .i64 x17_2)] [cellsC b3 [.int .u8 (m_3 0), .int .u8 (m_3 1), .int .u8 (m_3 2)] 66, cellsC b4 [.int .u8 0, .int .u8 0, .int .u8 0] 66] rfl rfl ?_
      refine c_seq ?_
      refine c_region ?_
      refine l_val rfl rfl rfl (r_lss rfl rfl) ?_
      refine l_nil ?_
      refine c_seq ?_
      refine c_if (b := (decide (x17_2 < (a0.length : Int)))) rfl (fun hb => ?_) (fun hb => ?_)
      · have H21 := cnd_t hb H20; clear H20
        refine c_skip ?_
        refine c_seq ?_
        refine c_block ?_
        refine c_seq ?_
        refine c_region ?_
        obtain ⟨t19, h_t19, H22⟩ := bnd_some H21; clear H21
        refine l_val rfl rfl rfl (r_indexF Tryd.underlying22 Tryd.sizeOf35 rfl rfl f0 h_t19) ?_
        refine l_read (fun w hF hS => run_loadGN (f := e_edit_Step) (i := x17_2) (sz := 5) (j := 0) (vs := [.int .i64 t19.Kind, .int .i64 t19.A, .int .i64 t19.B, .int .i64 t19.C, .int .i64 t19.D]) Tryd.isAgg35 Tryd.sizeOf35 rfl rfl (f0.row (hw.now hF)) h_t19 rfl) rfl rfl rfl ?_
        refine l_alloc (cs := [.int .i64 0, .int .i64 0, .int .i64 0, .int .i64 0, .int .i64 0]) Tryd.zeroValue35 rfl rfl rfl (fun b5 => ?_)
        refine l_store (i := 2) (vs := [.int .i64 t19.Kind, .int .i64 t19.A, .int .i64 t19.B, .int .i64 t19.C, .int .i64 t19.D]) (cs' := [.int .i64 t19.Kind, .int .i64 t19.A, .int .i64 t19.B, .int .i64 t19.C, .int .i64 t19.D]) Tryd.sizeOf35 rfl rfl rfl rfl rfl rfl rfl rfl rfl ?_
        refine l_nil ?_
        refine c_seq ?_
        refine c_seq ?_
        refine c_region ?_
        refine l_loadN (i := 2) (vs := [.int .i64 t19.Kind, .int .i64 t19.A, .int .i64 t19.B, .int .i64 t19.C, .int .i64 t19.D]) Tryd.isAgg35 Tryd.sizeOf35 rfl rfl rfl rfl rfl ?_
        obtain ⟨t22, h_t22, H23⟩ := bnd_some H22; clear H22
        refine l_call (k31 h_t22) Tryd.call31 rfl rfl rfl ?_
        refine l_nil ?_
        refine c_if (b := t22) rfl (fun hb => ?_) (fun hb => ?_)
        · have H24 := cnd_t hb H23; clear H23
          refine c_seq ?_
          refine c_region ?_
          refine l_val rfl rfl rfl (r_buildA (ps := []) (cells := #[.int .u8 0, .int .u8 0, .int .u8 0]) Tryd.zeroValue66 Tryd.runUnderlying66 Tryd.sizeOf5 rfl rfl) ?_
          refine l_store (i := 1) (vs := [.int .u8 0, .int .u8 0, .int .u8 0]) (cs' := [.int .u8 0, .int .u8 0, .int .u8 0]) Tryd.sizeOf66 rfl rfl rfl rfl rfl rfl rfl rfl rfl ?_
          refine l_val rfl rfl rfl (r_assign (v := .int .i64 10) rfl) ?_
          refine l_nil ?_
          refine c_ret ?_
          obtain rfl := Option.some.inj H24
          refine retCt (i := 1) (vs := [.int .u8 0, .int .u8 0, .int .u8 0]) (v2 := .int .i64 10) Tryd.isAgg66 Tryd.sizeOf66 rfl rfl rfl rfl rfl (fin rfl)
        · have H25 := cnd_f hb H23; clear H23
          refine c_skip ?_
          exact c_regionD (Kd.d [2] _ :: Kd.fv _ :: Kd.d [0] _ :: Kd.d [] _ :: Kd.st 3 0 [_, _, _] 66 :: []) 0 mixed (by
            refine d_loadN (i := 2) (vs := [.int .i64 t19.Kind, .int .i64 t19.A, .int .i64 t19.B, .int .i64 t19.C, .int .i64 t19.D]) Tryd.isAgg35 Tryd.sizeOf35 rfl rfl rfl rfl ?_
            have h_t25 := bnd_val H25
            have H26 := bnd_rest H25
            refine d_callF (k84 h_t25) Tryd.call84 rfl rfl (fun fv hf => ?_)
            refine d_loadN (i := 0) (vs := [.int .u8 (m_3 0), .int .u8 (m_3 1), .int .u8 (m_3 2)]) Tryd.isAgg66 Tryd.sizeOf66 rfl rfl rfl rfl ?_
            have h_g27 := bnd_val H26
            have H27 := bnd_rest H26
            have h_t27 := bnd_val H27
            have H28 := bnd_rest H27
            refine d_callV (R := fnR_func_3_uint8_3_uint8 (val (gFn (val (edit_Step_byPixel t19))))) (r := .agg #[.int .u8 ((val ((val (gFn (val (edit_Step_byPixel t19)))) m_3)) 0), .int .u8 ((val ((val (gFn (val (edit_Step_byPixel t19)))) m_3)) 1), .int .u8 ((val ((val (gFn (val (edit_Step_byPixel t19)))) m_3)) 2)]) (v := fv) (fun w L' hF hS hi => ⟨(hf.fn (gFn_some h_g27) _), ⟨m_3, _, rfl, h_t27, rfl⟩⟩) rfl rfl rfl ?_
            refine d_store (i := 0) (vs := [.int .u8 ((val ((val (gFn (val (edit_Step_byPixel t19)))) m_3)) 0), .int .u8 ((val ((val (gFn (val (edit_Step_byPixel t19)))) m_3)) 1), .int .u8 ((val ((val (gFn (val (edit_Step_byPixel t19)))) m_3)) 2)]) (cs' := [.int .u8 ((val ((val (gFn (val (edit_Step_byPixel t19)))) m_3)) 0), .int .u8 ((val ((val (gFn (val (edit_Step_byPixel t19)))) m_3)) 1), .int .u8 ((val ((val (gFn (val (edit_Step_byPixel t19)))) m_3)) 2)]) Tryd.sizeOf66 rfl rfl rfl rfl rfl rfl rfl rfl rfl ?_
            refine d_nil ?_
            refine c_region ?_
            obtain ⟨t28, h_t28, H29⟩ := bnd_some H28; clear H28
            refine l_val rfl rfl rfl (r_addG rfl rfl h_t28) ?_
            refine l_val rfl rfl rfl (r_move (v := .int .i64 t28) rfl) ?_
            refine l_nil ?_
            refine c_close (t28, (val ((val (gFn (val (edit_Step_byPixel t19)))) m_3))) () m2 [0, 1] (by exact ⟨rfl, rfl, rfl, rfl, rfl, trivial⟩) (by decide) rfl (by exact ⟨(by subst hn2; exact H29), trivial⟩) (Nat.lt_succ_self _)
            ) (by kernel_rfl)
      · have H30 := cnd_f hb H20; clear H20
        refine c_exit ?_
        refine c_close m_3 () 0 [0, 1] (by exact ⟨rfl, rfl, trivial⟩) (by decide) rfl (by exact ⟨H30, trivial⟩) (Nat.lt_succ_self _)
    · rintro m _ gg H19 _
      replace H19 : edit_Pixel_j1 m = some r := H19
      refine c_tidyF [(3, .pointer (some ⟨b3, 0, none⟩)), (4, .pointer (some ⟨b4, 0, none⟩))] [cellsC b3 [.int .u8 (m 0), .int .u8 (m 1), .int .u8 (m 2)] 66, cellsC b4 [.int .u8 0, .int .u8 0, .int .u8 0] 66] rfl rfl ?_
      refine c_seq ?_
      refine c_region ?_
      refine l_loadN (i := 0) (vs := [.int .u8 (m 0), .int .u8 (m 1), .int .u8 (m 2)]) Tryd.isAgg66 Tryd.sizeOf66 rfl rfl rfl rfl rfl ?_
      refine l_store (i := 1) (vs := [.int .u8 (m 0), .int .u8 (m 1), .int .u8 (m 2)]) (cs' := [.int .u8 (m 0), .int .u8 (m 1), .int .u8 (m 2)]) Tryd.sizeOf66 rfl rfl rfl rfl rfl rfl rfl rfl rfl ?_
      refine l_val rfl rfl rfl (r_assign (v := .int .i64 0) rfl) ?_
      refine l_nil ?_
      refine c_ret ?_
      obtain rfl := Option.some.inj H19
      refine retCt (i := 1) (vs := [.int .u8 (m 0), .int .u8 (m 1), .int .u8 (m 2)]) (v2 := .int .i64 0) Tryd.isAgg66 Tryd.sizeOf66 rfl rfl rfl rfl rfl (fin rfl)
theorem k7 {a0 : T_api_Image} {v0_2 : Value} {a1 : (List T_edit_Step)} {v1 : Value} {r : Bool} {w : World} {h : Heap} (hw : Know h w noS) (f0_2 : FrS h 1 v0_2 (a0.Pixels.map e_u8)) (f1 : FrS h 5 v1 (a1.map e_edit_Step)) (H : Keep_EditComes a0 a1 = some r) : Does Tryd.prog 7 (List.toArray [.agg #[.int .i64 a0.W, .int .i64 a0.H, v0_2], v1]) w (fun v w' => v = (.bool r) ∧ Grow w w') := by
  refine enter (n := 146) Tryd.func7 rfl rfl rfl noS [] (Sat.nil _ _) ?_
  refine c_seq ?_
  refine c_region ?_
  refine l_box (cs := [.int .i64 a0.W, .int .i64 a0.H, v0_2]) rfl rfl rfl rfl (fun b3 => ?_)
  refine l_val rfl rfl rfl (r_assign (v := .bool false) rfl) ?_
  refine l_nil ?_
  refine c_seq ?_
  refine c_seq ?_
  refine c_region ?_
  obtain ⟨t18, h_t18, H54⟩ := bnd_some H; clear H
  refine l_call (k25 h_t18) Tryd.call25 rfl rfl rfl ?_
  refine l_val rfl rfl rfl (r_not rfl) ?_
  refine l_nil ?_
  refine c_if (b := (!t18)) rfl (fun hb => ?_) (fun hb => ?_)
  · have H55 := cnd_t hb H54; clear H54
    refine c_seq ?_
    refine c_region ?_
    refine l_val rfl rfl rfl (r_assign (v := .bool false) rfl) ?_
    refine l_nil ?_
    refine c_ret ?_
    obtain rfl := Option.some.inj H55
    refine ret1 (v := .bool false) rfl rfl (fin rfl)
  · have H56 := cnd_f hb H54; clear H54
    refine c_skip ?_
    refine c_seq ?_
    refine c_region ?_
    refine l_loadN (i := 0) (vs := [.int .i64 a0.W, .int .i64 a0.H, v0_2]) Tryd.isAgg52 Tryd.sizeOf52 rfl rfl rfl rfl rfl ?_
    refine l_val rfl rfl rfl (r_move (v := v1) rfl) ?_
    obtain ⟨t23, h_t23, H57⟩ := bnd_some H56; clear H56
    refine l_make (makes_call (rds := []) (G := fun x : (Option Addr × Nat) => .tuple #[.agg #[.int .i64 t23.1.W, .int .i64 t23.1.H, .slice x.1 t23.1.Pixels.length x.2], .int .i64 t23.2]) (C := fun x : (Option Addr × Nat) => rowV 5 1 (.slice x.1 t23.1.Pixels.length x.2) t23.1.Pixels.length (t23.1.Pixels.map e_u8)) (fun w L' hF hS hi => k28 (know_all w) (f0_2.mono (hw.now hF)) (f1.mono (hw.now hF)) h_t23) Tryd.call28 rfl) rfl rfl rfl (fun p => ?_)
    refine l_val rfl rfl rfl (r_move (v := .tuple #[.agg #[.int .i64 t23.1.W, .int .i64 t23.1.H, .slice p.1 t23.1.Pixels.length p.2], .int .i64 t23.2]) rfl) ?_
    refine l_val rfl rfl rfl (r_extract (v := .agg #[.int .i64 t23.1.W, .int .i64 t23.1.H, .slice p.1 t23.1.Pixels.length p.2]) rfl rfl) ?_
    refine l_val rfl rfl rfl (r_extract (v := .int .i64 t23.2) rfl rfl) ?_
    refine l_alloc (cs := [.int .i64 0, .int .i64 0, .slice none 0 0]) Tryd.zeroValue52 rfl rfl rfl (fun b4 => ?_)
    refine l_store (i := 2) (vs := [.int .i64 t23.1.W, .int .i64 t23.1.H, .slice p.1 t23.1.Pixels.length p.2]) (cs' := [.int .i64 t23.1.W, .int .i64 t23.1.H, .slice p.1 t23.1.Pixels.length p.2]) Tryd.sizeOf52 rfl rfl rfl rfl rfl rfl rfl rfl rfl ?_
    refine l_val rfl rfl rfl (r_assign (v := .int .i64 t23.2) rfl) ?_
    refine l_nil ?_
    refine c_seq ?_
    refine c_seq ?_
    refine c_region ?_
    refine l_val rfl rfl rfl (r_move (v := .int .i64 t23.2) rfl) ?_
    refine l_val rfl rfl rfl (r_neq rfl rfl) ?_
    refine l_val rfl rfl rfl (r_move (v := .bool (decide (t23.2 ≠ 0))) rfl) ?_
    refine split (fun hb => ?_) (fun hb => ?_)
    · have H58 := cnd_t hb H57; clear H57
      refine l_passed rfl rfl rfl ?_
      refine l_passed rfl rfl rfl ?_
      refine l_val rfl rfl rfl (r_pickT (v := .bool true) rfl rfl) ?_
      refine l_nil ?_
      refine c_true rfl ?_
      refine c_seq ?_
      refine c_region ?_
      refine l_val rfl rfl rfl (r_assign (v := .bool true) rfl) ?_
      refine l_nil ?_
      refine c_ret ?_
      obtain rfl := Option.some.inj H58
      refine ret1 (v := .bool true) rfl rfl (fin rfl)
    · have H59 := cnd_f hb H57; clear H57
      refine l_val rfl rfl rfl (r_move (v := v1) rfl) ?_
      obtain ⟨t30, h_t30, H60⟩ := bnd_some H59; clear H59
      refine l_callG (fun w hF hS => k33 (know_all w) (f1.mono (hw.now hF)) (FnH.mk ⟨34, #[], #[], rfl, Tryd.call34, fun args2 post2 w2 hk2 hR2 => by obtain ⟨a0_, r_, rfl, H_, rfl⟩ := hR2; exact k34 H_ w2⟩) h_t30) Tryd.call33 rfl rfl rfl ?_
      refine l_val rfl rfl rfl (r_pickF (v := .bool t30) rfl rfl) ?_
      refine l_nil ?_
      refine c_if (b := t30) rfl (fun hb => ?_) (fun hb => ?_)
      · have H61 := cnd_t hb H60; clear H60
        refine c_seq ?_
        refine c_region ?_
        refine l_val rfl rfl rfl (r_assign (v := .bool true) rfl) ?_
        refine l_nil ?_
        refine c_ret ?_
        obtain rfl := Option.some.inj H61
        refine ret1 (v := .bool true) rfl rfl (fin rfl)
      · have H62 := cnd_f hb H60; clear H60
        refine c_skip ?_
        refine c_seq ?_
        refine c_region ?_
        refine l_val rfl rfl rfl (r_move (v := v1) rfl) ?_
        refine l_val rfl rfl rfl (r_field Tryd.runUnderlying52 rfl Tryd.sizeOf3 rfl rfl) ?_
        refine l_load1 (i := 0) (v := .int .i64 a0.W) Tryd.isAgg3 rfl rfl rfl rfl rfl ?_
        refine l_val rfl rfl rfl (r_field Tryd.runUnderlying52 rfl Tryd.sizeOf3 rfl rfl) ?_
        refine l_load1 (i := 0) (v := .int .i64 a0.H) Tryd.isAgg3 rfl rfl rfl rfl rfl ?_
        obtain ⟨t38, h_t38, H63⟩ := bnd_some H62; clear H62
        refine l_callG (fun w hF hS => k35 (know_all w) (f1.mono (hw.now hF)) h_t38) Tryd.call35 rfl rfl rfl ?_
        refine l_val rfl rfl rfl (r_move (v := .tuple #[.int .i64 t38.1, .int .i64 t38.2.1, .int .i64 t38.2.2]) rfl) ?_
        refine l_val rfl rfl rfl (r_extract (v := .int .i64 t38.1) rfl rfl) ?_
        refine l_val rfl rfl rfl (r_extract (v := .int .i64 t38.2.1) rfl rfl) ?_
        refine l_val rfl rfl rfl (r_extract (v := .int .i64 t38.2.2) rfl rfl) ?_
        refine l_val rfl rfl rfl (r_assign (v := .int .i64 t38.1) rfl) ?_
        refine l_val rfl rfl rfl (r_assign (v := .int .i64 t38.2.1) rfl) ?_
        refine l_val rfl rfl rfl (r_assign (v := .int .i64 t38.2.2) rfl) ?_
        refine l_nil ?_
        refine c_seq ?_
        refine c_region ?_
        refine l_val rfl rfl rfl (r_move (v := v1) rfl) ?_
        obtain ⟨t44, h_t44, H64⟩ := bnd_some H63; clear H63
        refine l_make (makes_call (rds := []) (G := fun x : (Option Addr × Nat) × (Option Addr × Nat) => .tuple #[.slice x.1.1 t44.1.length x.1.2, .slice x.2.1 t44.2.1.length x.2.2, .int .i64 t44.2.2]) (C := fun x : (Option Addr × Nat) × (Option Addr × Nat) => bothC (roV 5 (.slice x.1.1 t44.1.length x.1.2) t44.1.length (t44.1.map e_edit_Step)) (roV 5 (.slice x.2.1 t44.2.1.length x.2.2) t44.2.1.length (t44.2.1.map e_edit_Step))) (fun w L' hF hS hi => k32 (know_all w) (f1.mono (hw.now hF)) h_t44) Tryd.call32 rfl) rfl rfl rfl (fun ⟨p_2, p_3⟩ => ?_)
        refine c_split 3 rfl ?_
        refine l_val rfl rfl rfl (r_move (v := .tuple #[.slice p_2.1 t44.1.length p_2.2, .slice p_3.1 t44.2.1.length p_3.2, .int .i64 t44.2.2]) rfl) ?_
        refine l_val rfl rfl rfl (r_extract (v := .slice p_2.1 t44.1.length p_2.2) rfl rfl) ?_
        refine l_val rfl rfl rfl (r_extract (v := .slice p_3.1 t44.2.1.length p_3.2) rfl rfl) ?_
        refine l_val rfl rfl rfl (r_extract (v := .int .i64 t44.2.2) rfl rfl) ?_
        refine l_val rfl rfl rfl (r_assign (v := .slice p_2.1 t44.1.length p_2.2) rfl) ?_
        refine l_val rfl rfl rfl (r_assign (v := .slice p_3.1 t44.2.1.length p_3.2) rfl) ?_
        refine l_val rfl rfl rfl (r_assign (v := .int .i64 t44.2.2) rfl) ?_
        refine l_nil ?_
        refine c_seq ?_
        refine c_seq ?_
        refine c_region ?_
        refine l_val rfl rfl rfl (r_move (v := .int .i64 t38.2.2) rfl) ?_
        refine l_val rfl rfl rfl (r_neq rfl rfl) ?_
        refine l_val rfl rfl rfl (r_move (v := .bool (decide (t38.2.2 ≠ 0))) rfl) ?_
        refine split (fun hb => ?_) (fun hb => ?_)
        · have H65 := cnd_t hb H64; clear H64
          refine l_passed rfl rfl rfl ?_
          refine l_passed rfl rfl rfl ?_
          refine l_val rfl rfl rfl (r_pickT (v := .bool true) rfl rfl) ?_
          refine l_val rfl rfl rfl (r_move (v := .bool true) rfl) ?_
          refine l_passed rfl rfl rfl ?_
          refine l_passed rfl rfl rfl ?_
          refine l_passed rfl rfl rfl ?_
          refine l_passed rfl rfl rfl ?_
          refine l_val rfl rfl rfl (r_pickT (v := .bool true) rfl rfl) ?_
          refine l_val rfl rfl rfl (r_move (v := .bool true) rfl) ?_
          refine l_passed rfl rfl rfl ?_
          refine l_passed rfl rfl rfl ?_
          refine l_passed rfl rfl rfl ?_
          refine l_passed rfl rfl rfl ?_
          refine l_val rfl rfl rfl (r_pickT (v := .bool true) rfl rfl) ?_
          refine l_nil ?_
          refine c_true rfl ?_
          refine c_seq ?_
          refine c_region ?_
          refine l_val rfl rfl rfl (r_assign (v := .bool false) rfl) ?_
          refine l_nil ?_
          refine c_ret ?_
          obtain rfl := Option.some.inj H65
          refine ret1 (v := .bool false) rfl rfl (fin rfl)
        · have H66 := cnd_f hb H64; clear H64
          refine l_val rfl rfl rfl (r_move (v := .int .i64 t44.2.2) rfl) ?_
          refine l_val rfl rfl rfl (r_neq rfl rfl) ?_
          refine l_val rfl rfl rfl (r_pickF (v := .bool (decide (t44.2.2 ≠ 0))) rfl rfl) ?_
          refine l_val rfl rfl rfl (r_move (v := .bool (decide (t44.2.2 ≠ 0))) rfl) ?_
          refine split (fun hb => ?_) (fun hb => ?_)
          · have H67 := cnd_t hb H66; clear H66
            refine l_passed rfl rfl rfl ?_
            refine l_passed rfl rfl rfl ?_
            refine l_passed rfl rfl rfl ?_
            refine l_passed rfl rfl rfl ?_
            refine l_val rfl rfl rfl (r_pickT (v := .bool true) rfl rfl) ?_
            refine l_val rfl rfl rfl (r_move (v := .bool true) rfl) ?_
            refine l_passed rfl rfl rfl ?_
            refine l_passed rfl rfl rfl ?_
            refine l_passed rfl rfl rfl ?_
            refine l_passed rfl rfl rfl ?_
            refine l_val rfl rfl rfl (r_pickT (v := .bool true) rfl rfl) ?_
            refine l_nil ?_
            refine c_true rfl ?_
            refine c_seq ?_
            refine c_region ?_
            refine l_val rfl rfl rfl (r_assign (v := .bool false) rfl) ?_
            refine l_nil ?_
            refine c_ret ?_
            obtain rfl := Option.some.inj H67
            refine ret1 (v := .bool false) rfl rfl (fin rfl)
          · have H68 := cnd_f hb H66; clear H66
            refine l_val rfl rfl rfl (r_move (v := .int .i64 t38.1) rfl) ?_
            refine l_val rfl rfl rfl (r_field Tryd.runUnderlying52 rfl Tryd.sizeOf3 rfl rfl) ?_
            refine l_load1 (i := 2) (v := .int .i64 t23.1.W) Tryd.isAgg3 rfl rfl rfl rfl rfl ?_
            refine l_val rfl rfl rfl (r_neq rfl rfl) ?_
            refine l_val rfl rfl rfl (r_pickF (v := .bool (decide (t38.1 ≠ t23.1.W))) rfl rfl) ?_
            refine l_val rfl rfl rfl (r_move (v := .bool (decide (t38.1 ≠ t23.1.W))) rfl) ?_
            refine split (fun hb => ?_) (fun hb => ?_)
            · have H69 := cnd_t hb H68; clear H68
              refine l_passed rfl rfl rfl ?_
              refine l_passed rfl rfl rfl ?_
              refine l_passed rfl rfl rfl ?_
              refine l_passed rfl rfl rfl ?_
              refine l_val rfl rfl rfl (r_pickT (v := .bool true) rfl rfl) ?_
              refine l_nil ?_
              refine c_true rfl ?_
              refine c_seq ?_
              refine c_region ?_
              refine l_val rfl rfl rfl (r_assign (v := .bool false) rfl) ?_
              refine l_nil ?_
              refine c_ret ?_
              obtain rfl := Option.some.inj H69
              refine ret1 (v := .bool false) rfl rfl (fin rfl)
            · have H70 := cnd_f hb H68; clear H68
              refine l_val rfl rfl rfl (r_move (v := .int .i64 t38.2.1) rfl) ?_
              refine l_val rfl rfl rfl (r_field Tryd.runUnderlying52 rfl Tryd.sizeOf3 rfl rfl) ?_
              refine l_load1 (i := 2) (v := .int .i64 t23.1.H) Tryd.isAgg3 rfl rfl rfl rfl rfl ?_
              refine l_val rfl rfl rfl (r_neq rfl rfl) ?_
              refine l_val rfl rfl rfl (r_pickF (v := .bool (decide (t38.2.1 ≠ t23.1.H))) rfl rfl) ?_
              refine l_nil ?_
              refine c_if (b := (decide (t38.2.1 ≠ t23.1.H))) rfl (fun hb => ?_) (fun hb => ?_)
              · have H71 := cnd_t hb H70; clear H70
                refine c_seq ?_
                refine c_region ?_
                refine l_val rfl rfl rfl (r_assign (v := .bool false) rfl) ?_
                refine l_nil ?_
                refine c_ret ?_
                obtain rfl := Option.some.inj H71
                refine ret1 (v := .bool false) rfl rfl (fin rfl)
              · have H72 := cnd_f hb H70; clear H70
                refine c_skip ?_
                refine c_seq ?_
                refine c_seq ?_
                refine c_region ?_
                refine l_val rfl rfl rfl (r_move (v := .int .i64 t38.1) rfl) ?_
                refine l_val rfl rfl rfl (r_move (v := .int .i64 t38.2.1) rfl) ?_
                obtain ⟨t68, h_t68, H73⟩ := bnd_some H72; clear H72
                refine l_val rfl rfl rfl (r_mulG rfl rfl h_t68) ?_
                refine l_val rfl rfl rfl (r_move (v := .int .i64 0) rfl) ?_
                refine l_nil ?_
                refine c_block ?_
                refine c_sel [0, 1, 2, 4] [cellsC b3 [.int .i64 a0.W, .int .i64 a0.H, v0_2] 52, rowV 5 1 (.slice p.1 t23.1.Pixels.length p.2) t23.1.Pixels.length (t23.1.Pixels.map e_u8), cellsC b4 [.int .i64 t23.1.W, .int .i64 t23.1.H, .slice p.1 t23.1.Pixels.length p.2] 52, roV 5 (.slice p_3.1 t44.2.1.length p_3.2) t44.2.1.length (t44.2.1.map e_edit_Step)] rfl (by decide) ?_
                refine c_fix (σ := Int) (τ := Unit) (fun next1 s => Keep_EditComes_l1 a0 a1 t23 t38 t44 t68 next1 s) (fun s t => [(1, v1), (2, .pointer (some ⟨b3, 0, none⟩)), (5, .pointer (some ⟨b4, 0, none⟩)), (7, .int .i64 t38.1), (10, .slice p_3.1 t44.2.1.length p_3.2), (68, .int .i64 t68), (69, .int .i64 s)]) (fun s t => [cellsC b3 [.int .i64 a0.W, .int .i64 a0.H, v0_2] 52, rowV 5 1 (.slice p.1 t23.1.Pixels.length p.2) t23.1.Pixels.length (t23.1.Pixels.map e_u8), cellsC b4 [.int .i64 t23.1.W, .int .i64 t23.1.H, .slice p.1 t23.1.Pixels.length p.2] 52, roV 5 (.slice p_3.1 t44.2.1.length p_3.2) t44.2.1.length (t44.2.1.map e_edit_Step)]) (fun s t => True) 0 () [0, 1, 2, 3] H73 (by exact trivial) (by exact ⟨rfl, rfl, rfl, rfl, rfl, rfl, rfl, trivial⟩) (by decide) rfl ?_
                rintro x69_2 _ m1 gg H74 _
                clear H73
                replace H74 : Keep_EditComes_l1 a0 a1 t23 t38 t44 t68 (it (fun next1 s => Keep_EditComes_l1 a0 a1 t23 t38 t44 t68 next1 s) m1) x69_2 = some r := H74
                generalize hn1 : it (fun next1 s => Keep_EditComes_l1 a0 a1 t23 t38 t44 t68 next1 s) m1 = next1 at H74
                refine c_tidyF [(1, v1), (2, .pointer (some ⟨b3, 0, none⟩)), (5, .pointer (some ⟨b4, 0, none⟩)), (7, .int .i64 t38.1), (10, .slice p_3.1 t44.2.1.length p_3.2), (68, .int .i64 t68), (69, .int .i64 x69_2)] [cellsC b3 [.int .i64 a0.W, .int .i64 a0.H, v0_2] 52, rowV 5 1 (.slice p.1 t23.1.Pixels.length p.2) t23.1.Pixels.length (t23.1.Pixels.map e_u8), cellsC b4 [.int .i64 t23.1.W, .int .i64 t23.1.H, .slice p.1 t23.1.Pixels.length p.2] 52, roV 5 (.slice p_3.1 t44.2.1.length p_3.2) t44.2.1.length (t44.2.1.map e_edit_Step)] rfl rfl ?_
                refine c_seq ?_
                refine c_region ?_
                refine l_val rfl rfl rfl (r_lss rfl rfl) ?_
                refine l_nil ?_
                refine c_seq ?_
                refine c_if (b := (decide (x69_2 < t68))) rfl (fun hb => ?_) (fun hb => ?_)
                · have H75 := cnd_t hb H74; clear H74
                  refine c_skip ?_
                  refine c_seq ?_
                  refine c_block ?_
                  refine c_seq ?_
                  refine c_region ?_
                  refine l_val rfl rfl rfl (r_move (v := .int .i64 x69_2) rfl) ?_
                  refine l_val rfl rfl rfl (r_assign (v := .int .i64 x69_2) rfl) ?_
                  refine l_nil ?_
                  refine c_seq ?_
                  exact c_regionD (Kd.p :: Kd.p :: Kd.d [0] _ :: Kd.p :: Kd.d [0] _ :: Kd.p :: Kd.p :: Kd.p :: Kd.p :: Kd.p :: Kd.p :: Kd.d [] _ :: Kd.p :: Kd.p :: Kd.p :: Kd.p :: Kd.p :: Kd.p :: Kd.p :: []) 0 mixed (by
                    refine d_val rfl rfl (r_move (v := v1) rfl) ?_
                    refine d_val rfl rfl (r_field Tryd.runUnderlying52 rfl Tryd.sizeOf3 rfl rfl) ?_
                    refine d_load1 (i := 0) (v := .int .i64 a0.W) Tryd.isAgg3 rfl rfl rfl rfl ?_
                    refine d_val rfl rfl (r_field Tryd.runUnderlying52 rfl Tryd.sizeOf3 rfl rfl) ?_
                    refine d_load1 (i := 0) (v := .int .i64 a0.H) Tryd.isAgg3 rfl rfl rfl rfl ?_
                    refine d_val rfl rfl (r_move (v := .int .i64 x69_2) rfl) ?_
                    refine d_val rfl rfl (r_move (v := .int .i64 t38.1) rfl) ?_
                    have h_t80 := bnd_val H75
                    have H76 := bnd_rest H75
                    refine d_val rfl rfl (r_remG rfl rfl h_t80) ?_
                    refine d_val rfl rfl (r_move (v := .int .i64 x69_2) rfl) ?_
                    refine d_val rfl rfl (r_move (v := .int .i64 t38.1) rfl) ?_
                    have h_t83 := bnd_val H76
                    have H77 := bnd_rest H76
                    refine d_val rfl rfl (r_quoG rfl rfl h_t83) ?_
                    have h_t84 := bnd_val H77
                    have H78 := bnd_rest H77
                    refine d_callD (fun w L' hF hS hi => k36 (know_all w) (f1.mono (hw.now hF)) h_t84) Tryd.call36 rfl rfl ?_
                    refine d_val rfl rfl (r_move (v := .tuple #[.int .i64 (val (edit_Comes a1 a0.W a0.H (val (gRem x69_2 t38.1)) (val (gQuo x69_2 t38.1)))).1, .int .i64 (val (edit_Comes a1 a0.W a0.H (val (gRem x69_2 t38.1)) (val (gQuo x69_2 t38.1)))).2.1, .int .i64 (val (edit_Comes a1 a0.W a0.H (val (gRem x69_2 t38.1)) (val (gQuo x69_2 t38.1)))).2.2]) rfl) ?_
                    refine d_val rfl rfl (r_extract (v := .int .i64 (val (edit_Comes a1 a0.W a0.H (val (gRem x69_2 t38.1)) (val (gQuo x69_2 t38.1)))).1) rfl rfl) ?_
                    refine d_val rfl rfl (r_extract (v := .int .i64 (val (edit_Comes a1 a0.W a0.H (val (gRem x69_2 t38.1)) (val (gQuo x69_2 t38.1)))).2.1) rfl rfl) ?_
                    refine d_val rfl rfl (r_extract (v := .int .i64 (val (edit_Comes a1 a0.W a0.H (val (gRem x69_2 t38.1)) (val (gQuo x69_2 t38.1)))).2.2) rfl rfl) ?_
                    refine d_val rfl rfl (r_assign (v := .int .i64 (val (edit_Comes a1 a0.W a0.H (val (gRem x69_2 t38.1)) (val (gQuo x69_2 t38.1)))).1) rfl) ?_
                    refine d_val rfl rfl (r_assign (v := .int .i64 (val (edit_Comes a1 a0.W a0.H (val (gRem x69_2 t38.1)) (val (gQuo x69_2 t38.1)))).2.1) rfl) ?_
                    refine d_val rfl rfl (r_assign (v := .int .i64 (val (edit_Comes a1 a0.W a0.H (val (gRem x69_2 t38.1)) (val (gQuo x69_2 t38.1)))).2.2) rfl) ?_
                    refine d_nil ?_
                    refine c_seq ?_
                    refine c_seq ?_
                    refine c_region ?_
                    refine l_val rfl rfl rfl (r_move (v := .int .i64 (val (edit_Comes a1 a0.W a0.H (val (gRem x69_2 t38.1)) (val (gQuo x69_2 t38.1)))).2.2) rfl) ?_
                    refine l_val rfl rfl rfl (r_neq rfl rfl) ?_
                    refine l_val rfl rfl rfl (r_move (v := .bool (decide ((val (edit_Comes a1 a0.W a0.H (val (gRem x69_2 t38.1)) (val (gQuo x69_2 t38.1)))).2.2 ≠ 0))) rfl) ?_
                    refine split (fun hb => ?_) (fun hb => ?_)
                    · have H79 := cnd_t hb H78; clear H78
                      refine l_passed rfl rfl rfl ?_
                      refine l_passed rfl rfl rfl ?_
                      refine l_val rfl rfl rfl (r_pickT (v := .bool true) rfl rfl) ?_
                      refine l_val rfl rfl rfl (r_move (v := .bool true) rfl) ?_
                      refine l_passed rfl rfl rfl ?_
                      refine l_passed rfl rfl rfl ?_
                      refine l_passed rfl rfl rfl ?_
                      refine l_passed rfl rfl rfl ?_
                      refine l_val rfl rfl rfl (r_pickT (v := .bool true) rfl rfl) ?_
                      refine l_val rfl rfl rfl (r_move (v := .bool true) rfl) ?_
                      refine l_passed rfl rfl rfl ?_
                      refine l_passed rfl rfl rfl ?_
                      refine l_val rfl rfl rfl (r_pickT (v := .bool true) rfl rfl) ?_
                      refine l_val rfl rfl rfl (r_move (v := .bool true) rfl) ?_
                      refine l_passed rfl rfl rfl ?_
                      refine l_passed rfl rfl rfl ?_
                      refine l_passed rfl rfl rfl ?_
                      refine l_passed rfl rfl rfl ?_
                      refine l_val rfl rfl rfl (r_pickT (v := .bool true) rfl rfl) ?_
                      refine l_nil ?_
                      refine c_true rfl ?_
                      refine c_seq ?_
                      refine c_region ?_
                      refine l_val rfl rfl rfl (r_assign (v := .bool false) rfl) ?_
                      refine l_nil ?_
                      refine c_ret ?_
                      obtain rfl := Option.some.inj H79
                      refine ret1 (v := .bool false) rfl rfl (fin rfl)
                    · have H80 := cnd_f hb H78; clear H78
                      refine l_val rfl rfl rfl (r_move (v := .int .i64 (val (edit_Comes a1 a0.W a0.H (val (gRem x69_2 t38.1)) (val (gQuo x69_2 t38.1)))).1) rfl) ?_
                      refine l_val rfl rfl rfl (r_lss rfl rfl) ?_
                      refine l_val rfl rfl rfl (r_pickF (v := .bool (decide ((val (edit_Comes a1 a0.W a0.H (val (gRem x69_2 t38.1)) (val (gQuo x69_2 t38.1)))).1 < 0))) rfl rfl) ?_
                      refine l_val rfl rfl rfl (r_move (v := .bool (decide ((val (edit_Comes a1 a0.W a0.H (val (gRem x69_2 t38.1)) (val (gQuo x69_2 t38.1)))).1 < 0))) rfl) ?_
                      refine split (fun hb => ?_) (fun hb => ?_)
                      · have H81 := cnd_t hb H80; clear H80
                        refine l_passed rfl rfl rfl ?_
                        refine l_passed rfl rfl rfl ?_
                        refine l_passed rfl rfl rfl ?_
                        refine l_passed rfl rfl rfl ?_
                        refine l_val rfl rfl rfl (r_pickT (v := .bool true) rfl rfl) ?_
                        refine l_val rfl rfl rfl (r_move (v := .bool true) rfl) ?_
                        refine l_passed rfl rfl rfl ?_
                        refine l_passed rfl rfl rfl ?_
                        refine l_val rfl rfl rfl (r_pickT (v := .bool true) rfl rfl) ?_
                        refine l_val rfl rfl rfl (r_move (v := .bool true) rfl) ?_
                        refine l_passed rfl rfl rfl ?_
                        refine l_passed rfl rfl rfl ?_
                        refine l_passed rfl rfl rfl ?_
                        refine l_passed rfl rfl rfl ?_
                        refine l_val rfl rfl rfl (r_pickT (v := .bool true) rfl rfl) ?_
                        refine l_nil ?_
                        refine c_true rfl ?_
                        refine c_seq ?_
                        refine c_region ?_
                        refine l_val rfl rfl rfl (r_assign (v := .bool false) rfl) ?_
                        refine l_nil ?_
                        refine c_ret ?_
                        obtain rfl := Option.some.inj H81
                        refine ret1 (v := .bool false) rfl rfl (fin rfl)
                      · have H82 := cnd_f hb H80; clear H80
                        refine l_val rfl rfl rfl (r_move (v := .int .i64 (val (edit_Comes a1 a0.W a0.H (val (gRem x69_2 t38.1)) (val (gQuo x69_2 t38.1)))).1) rfl) ?_
                        refine l_val rfl rfl rfl (r_field Tryd.runUnderlying52 rfl Tryd.sizeOf3 rfl rfl) ?_
                        refine l_load1 (i := 0) (v := .int .i64 a0.W) Tryd.isAgg3 rfl rfl rfl rfl rfl ?_
                        refine l_val rfl rfl rfl (r_geq rfl rfl) ?_
                        refine l_val rfl rfl rfl (r_pickF (v := .bool (decide (a0.W ≤ (val (edit_Comes a1 a0.W a0.H (val (gRem x69_2 t38.1)) (val (gQuo x69_2 t38.1)))).1))) rfl rfl) ?_
                        refine l_val rfl rfl rfl (r_move (v := .bool (decide (a0.W ≤ (val (edit_Comes a1 a0.W a0.H (val (gRem x69_2 t38.1)) (val (gQuo x69_2 t38.1)))).1))) rfl) ?_
                        refine split (fun hb => ?_) (fun hb => ?_)
                        · have H83 := cnd_t hb H82; clear H82
                          refine l_passed rfl rfl rfl ?_
                          refine l_passed rfl rfl rfl ?_
                          refine l_val rfl rfl rfl (r_pickT (v := .bool true) rfl rfl) ?_
                          refine l_val rfl rfl rfl (r_move (v := .bool true) rfl) ?_
                          refine l_passed rfl rfl rfl ?_
                          refine l_passed rfl rfl rfl ?_
                          refine l_passed rfl rfl rfl ?_
                          refine l_passed rfl rfl rfl ?_
                          refine l_val rfl rfl rfl (r_pickT (v := .bool true) rfl rfl) ?_
                          refine l_nil ?_
                          refine c_true rfl ?_
                          refine c_seq ?_
                          refine c_region ?_
                          refine l_val rfl rfl rfl (r_assign (v := .bool false) rfl) ?_
                          refine l_nil ?_
                          refine c_ret ?_
                          obtain rfl := Option.some.inj H83
                          refine ret1 (v := .bool false) rfl rfl (fin rfl)
                        · have H84 := cnd_f hb H82; clear H82
                          refine l_val rfl rfl rfl (r_move (v := .int .i64 (val (edit_Comes a1 a0.W a0.H (val (gRem x69_2 t38.1)) (val (gQuo x69_2 t38.1)))).2.1) rfl) ?_
                          refine l_val rfl rfl rfl (r_lss rfl rfl) ?_
                          refine l_val rfl rfl rfl (r_pickF (v := .bool (decide ((val (edit_Comes a1 a0.W a0.H (val (gRem x69_2 t38.1)) (val (gQuo x69_2 t38.1)))).2.1 < 0))) rfl rfl) ?_
                          refine l_val rfl rfl rfl (r_move (v := .bool (decide ((val (edit_Comes a1 a0.W a0.H (val (gRem x69_2 t38.1)) (val (gQuo x69_2 t38.1)))).2.1 < 0))) rfl) ?_
                          refine split (fun hb => ?_) (fun hb => ?_)
                          · have H85 := cnd_t hb H84; clear H84
                            refine l_passed rfl rfl rfl ?_
                            refine l_passed rfl rfl rfl ?_
                            refine l_passed rfl rfl rfl ?_
                            refine l_passed rfl rfl rfl ?_
                            refine l_val rfl rfl rfl (r_pickT (v := .bool true) rfl rfl) ?_
                            refine l_nil ?_
                            refine c_true rfl ?_
                            refine c_seq ?_
                            refine c_region ?_
                            refine l_val rfl rfl rfl (r_assign (v := .bool false) rfl) ?_
                            refine l_nil ?_
                            refine c_ret ?_
                            obtain rfl := Option.some.inj H85
                            refine ret1 (v := .bool false) rfl rfl (fin rfl)
                          · have H86 := cnd_f hb H84; clear H84
                            refine l_val rfl rfl rfl (r_move (v := .int .i64 (val (edit_Comes a1 a0.W a0.H (val (gRem x69_2 t38.1)) (val (gQuo x69_2 t38.1)))).2.1) rfl) ?_
                            refine l_val rfl rfl rfl (r_field Tryd.runUnderlying52 rfl Tryd.sizeOf3 rfl rfl) ?_
                            refine l_load1 (i := 0) (v := .int .i64 a0.H) Tryd.isAgg3 rfl rfl rfl rfl rfl ?_
                            refine l_val rfl rfl rfl (r_geq rfl rfl) ?_
                            refine l_val rfl rfl rfl (r_pickF (v := .bool (decide (a0.H ≤ (val (edit_Comes a1 a0.W a0.H (val (gRem x69_2 t38.1)) (val (gQuo x69_2 t38.1)))).2.1))) rfl rfl) ?_
                            refine l_nil ?_
                            refine c_if (b := (decide (a0.H ≤ (val (edit_Comes a1 a0.W a0.H (val (gRem x69_2 t38.1)) (val (gQuo x69_2 t38.1)))).2.1))) rfl (fun hb => ?_) (fun hb => ?_)
                            · have H87 := cnd_t hb H86; clear H86
                              refine c_seq ?_
                              refine c_region ?_
                              refine l_val rfl rfl rfl (r_assign (v := .bool false) rfl) ?_
                              refine l_nil ?_
                              refine c_ret ?_
                              obtain rfl := Option.some.inj H87
                              refine ret1 (v := .bool false) rfl rfl (fin rfl)
                            · have H88 := cnd_f hb H86; clear H86
                              refine c_skip ?_
                              refine c_seq ?_
                              refine c_region ?_
                              refine l_val rfl rfl rfl (r_move (v := .int .i64 (val (edit_Comes a1 a0.W a0.H (val (gRem x69_2 t38.1)) (val (gQuo x69_2 t38.1)))).2.1) rfl) ?_
                              refine l_val rfl rfl rfl (r_field Tryd.runUnderlying52 rfl Tryd.sizeOf3 rfl rfl) ?_
                              refine l_load1 (i := 0) (v := .int .i64 a0.W) Tryd.isAgg3 rfl rfl rfl rfl rfl ?_
                              obtain ⟨t113, h_t113, H89⟩ := bnd_some H88; clear H88
                              refine l_val rfl rfl rfl (r_mulG rfl rfl h_t113) ?_
                              refine l_val rfl rfl rfl (r_move (v := .int .i64 (val (edit_Comes a1 a0.W a0.H (val (gRem x69_2 t38.1)) (val (gQuo x69_2 t38.1)))).1) rfl) ?_
                              obtain ⟨t115, h_t115, H90⟩ := bnd_some H89; clear H89
                              refine l_val rfl rfl rfl (r_addG rfl rfl h_t115) ?_
                              obtain ⟨t116, h_t116, H91⟩ := bnd_some H90; clear H90
                              refine l_val rfl rfl rfl (r_mulG rfl rfl h_t116) ?_
                              refine l_val rfl rfl rfl (r_assign (v := .int .i64 t116) rfl) ?_
                              refine l_nil ?_
                              refine c_seq ?_
                              refine c_region ?_
                              refine l_val rfl rfl rfl (r_move (v := .slice p_3.1 t44.2.1.length p_3.2) rfl) ?_
                              refine l_val rfl rfl rfl (r_field Tryd.runUnderlying52 rfl Tryd.sizeOf50 rfl rfl) ?_
                              refine l_load1 (i := 0) (v := v0_2) Tryd.isAgg50 rfl rfl rfl rfl rfl ?_
                              refine l_val rfl rfl rfl (r_move (v := .int .i64 t116) rfl) ?_
                              refine l_val rfl rfl rfl (r_move (v := .int .i64 t116) rfl) ?_
                              obtain ⟨t123, h_t123, H92⟩ := bnd_some H91; clear H91
                              refine l_val rfl rfl rfl (r_addG rfl rfl h_t123) ?_
                              obtain ⟨t124, h_t124, H93⟩ := bnd_some H92; clear H92
                              refine l_val rfl rfl rfl (r_sliceLHF Tryd.underlying50 Tryd.sizeOf5 rfl rfl rfl f0_2 h_t124) ?_
                              obtain ⟨u125, h_u125, H94⟩ := bnd_some H93; clear H93
                              refine l_val rfl rfl rfl (r_sap Tryd.runUnderlying66 (Eq.trans rfl (f0_2.cut h_t124).eq) (by simpa using gIf_some h_u125)) ?_
                              refine l_read (fun w hF hS => run_loadSA (n := 3) (f := e_u8) (xs := t124) (vs := [.int .u8 ((ofL t124) 0), .int .u8 ((ofL t124) 1), .int .u8 ((ofL t124) 2)]) Tryd.isAgg66 Tryd.sizeOf66 rfl ((f0_2.cut h_t124).row (hw.now hF)) (gIf_some h_u125) rfl rfl (fun _ => rfl) rfl) rfl rfl rfl ?_
                              obtain ⟨t127, h_t127, H95⟩ := bnd_some H94; clear H94
                              refine l_callG (fun w hF hS => k37 (know_all w) (frs_rd (i := 3) hS rfl) h_t127) Tryd.call37 rfl rfl rfl ?_
                              refine l_val rfl rfl rfl (r_move (v := .tuple #[.agg #[.int .u8 (t127.1 0), .int .u8 (t127.1 1), .int .u8 (t127.1 2)], .int .i64 t127.2]) rfl) ?_
                              refine l_val rfl rfl rfl (r_extract (v := .agg #[.int .u8 (t127.1 0), .int .u8 (t127.1 1), .int .u8 (t127.1 2)]) rfl rfl) ?_
                              refine l_val rfl rfl rfl (r_extract (v := .int .i64 t127.2) rfl rfl) ?_
                              refine l_alloc (cs := [.int .u8 0, .int .u8 0, .int .u8 0]) Tryd.zeroValue66 rfl rfl rfl (fun b5 => ?_)
                              refine l_store (i := 4) (vs := [.int .u8 (t127.1 0), .int .u8 (t127.1 1), .int .u8 (t127.1 2)]) (cs' := [.int .u8 (t127.1 0), .int .u8 (t127.1 1), .int .u8 (t127.1 2)]) Tryd.sizeOf66 rfl rfl rfl rfl rfl rfl rfl rfl rfl ?_
                              refine l_val rfl rfl rfl (r_assign (v := .int .i64 t127.2) rfl) ?_
                              refine l_nil ?_
                              refine c_seq ?_
                              exact c_regionD (Kd.p :: Kd.p :: Kd.p :: Kd.p :: Kd.p :: Kd.d [2] _ :: Kd.p :: Kd.p :: Kd.p :: Kd.p :: Kd.p :: Kd.d [1] _ :: Kd.d [4, 1] _ :: Kd.p :: Kd.p :: []) 0 mixed (by
                                refine d_val rfl rfl (r_move (v := .int .i64 t127.2) rfl) ?_
                                refine d_val rfl rfl (r_neq rfl rfl) ?_
                                refine d_val rfl rfl (r_move (v := .bool (decide (t127.2 ≠ 0))) rfl) ?_
                                refine splitS (fun hb => ?_) (fun hb => ?_)
                                · have H96 := cnd_t hb H95
                                  refine d_pass rfl rfl ?_
                                  refine d_pass rfl rfl ?_
                                  refine d_pass rfl rfl ?_
                                  refine d_pass rfl rfl ?_
                                  refine d_pass rfl rfl ?_
                                  refine d_pass rfl rfl ?_
                                  refine d_pass rfl rfl ?_
                                  refine d_pass rfl rfl ?_
                                  refine d_pass rfl rfl ?_
                                  refine d_pass rfl rfl ?_
                                  refine d_pass rfl rfl ?_
                                  refine d_val rfl rfl (r_pickT (v := .bool true) rfl rfl) ?_
                                  refine d_nil ?_
                                  refine c_true rfl ?_
                                  refine c_seq ?_
                                  refine c_region ?_
                                  refine l_val rfl rfl rfl (r_assign (v := .bool false) rfl) ?_
                                  refine l_nil ?_
                                  refine c_ret ?_
                                  obtain rfl := Option.some.inj H96
                                  refine ret1 (v := .bool false) rfl rfl (fin rfl)
                                · have H97 := cnd_f hb H95
                                  refine d_val rfl rfl (r_sliceArrAll Tryd.underlying66 Tryd.sizeOf5 rfl) ?_
                                  refine d_val rfl rfl (r_field Tryd.runUnderlying52 rfl Tryd.sizeOf50 rfl rfl) ?_
                                  refine d_load1 (i := 2) (v := .slice p.1 t23.1.Pixels.length p.2) Tryd.isAgg50 rfl rfl rfl rfl ?_
                                  refine d_val rfl rfl (r_move (v := .int .i64 x69_2) rfl) ?_
                                  have h_t137 := bnd_val H97
                                  have H98 := bnd_rest H97
                                  refine d_val rfl rfl (r_mulG rfl rfl h_t137) ?_
                                  refine d_val rfl rfl (r_move (v := .int .i64 x69_2) rfl) ?_
                                  have h_t139 := bnd_val H98
                                  have H99 := bnd_rest H98
                                  refine d_val rfl rfl (r_mulG rfl rfl h_t139) ?_
                                  have h_t140 := bnd_val H99
                                  have H100 := bnd_rest H99
                                  refine d_val rfl rfl (r_addG rfl rfl h_t140) ?_
                                  have h_t141 := bnd_val H100
                                  have H101 := bnd_rest H100
                                  refine d_readD (v := .slice (cutA p.1 (Int.toNat (val (gI (3 * x69_2)))) p.2 1) (val (gCut t23.1.Pixels (val (gI (3 * x69_2))) (val (gI ((val (gI (3 * x69_2))) + 3))))).length (p.2 - Int.toNat (val (gI (3 * x69_2))))) (fun w L' hF hS hi => run_sliceLHO (xs := t23.1.Pixels) Tryd.underlying50 Tryd.sizeOf5 rfl rfl rfl rfl (capOf (i := 1) hS ((hi 1 (by simp)).trans rfl)) h_t141) rfl rfl ?_
                                  have h_t142 := bnd_val H101
                                  have H102 := bnd_rest H101
                                  refine d_callD (fun w L' hF hS hi => k38 (know_all w) (frs_arr (f := e_u8) (i := 4) hS ((hi 4 (by simp)).trans rfl) rfl (fun _ => rfl) (gCutA_ok (n := 3) (f := t127.1) (q := 3) (by decide)) rfl) (FrS.cutL (frs_own (i := 1) rfl hS ((hi 1 (by simp)).trans rfl)) h_t141) h_t142) Tryd.call38 rfl rfl ?_
                                  refine d_val rfl rfl (r_not rfl) ?_
                                  refine d_val rfl rfl (r_pickF (v := .bool (!(val (bytes_Equal ((List.range 3).map t127.1) (val (gCut t23.1.Pixels (val (gI (3 * x69_2))) (val (gI ((val (gI (3 * x69_2))) + 3))))))))) rfl rfl) ?_
                                  refine d_nil ?_
                                  refine c_if (b := (!(val (bytes_Equal ((List.range 3).map t127.1) (val (gCut t23.1.Pixels (val (gI (3 * x69_2))) (val (gI ((val (gI (3 * x69_2))) + 3))))))))) rfl (fun hb => ?_) (fun hb => ?_)
                                  · have H103 := cnd_t hb H102; clear H102
                                    refine c_seq ?_
                                    refine c_region ?_
                                    refine l_val rfl rfl rfl (r_assign (v := .bool false) rfl) ?_
                                    refine l_nil ?_
                                    refine c_ret ?_
                                    obtain rfl := Option.some.inj H103
                                    refine ret1 (v := .bool false) rfl rfl (fin rfl)
                                  · have H104 := cnd_f hb H102; clear H102
                                    refine c_skip ?_
                                    refine c_region ?_
                                    obtain ⟨t145, h_t145, H105⟩ := bnd_some H104; clear H104
                                    refine l_val rfl rfl rfl (r_addG rfl rfl h_t145) ?_
                                    refine l_val rfl rfl rfl (r_move (v := .int .i64 t145) rfl) ?_
                                    refine l_nil ?_
                                    refine c_close t145 () m1 [0, 1, 2, 3] (by exact ⟨rfl, rfl, rfl, rfl, rfl, rfl, rfl, trivial⟩) (by decide) rfl (by exact ⟨(by subst hn1; exact H105), trivial⟩) (Nat.lt_succ_self _)
                                ) (by kernel_rfl)
                    ) (by kernel_rfl)
                · have H106 := cnd_f hb H74; clear H74
                  refine c_exit ?_
                  refine c_seq ?_
                  refine c_region ?_
                  refine l_val rfl rfl rfl (r_assign (v := .bool true) rfl) ?_
                  refine l_nil ?_
                  refine c_ret ?_
                  obtain rfl := Option.some.inj H106
                  refine ret1 (v := .bool true) rfl rfl (fin rfl)
end Go.Proofs.YtinpjnlocahjjaaDoor
