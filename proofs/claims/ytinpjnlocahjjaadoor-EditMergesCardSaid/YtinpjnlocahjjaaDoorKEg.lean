/- EditMerges: the walks, printed by our generator; each follows its model. Conditions: the model yields a value. -/
import Derived.Test.YtinpjnlocahjjaaDoorKEp
namespace Go.Proofs.YtinpjnlocahjjaaDoor
open Go Go.Vc Go.Md Go.M Go.Lx
set_option maxRecDepth 100000
set_option maxHeartbeats 4000000
set_option linter.unusedVariables false

theorem k19 {a0 : (List T_edit_Step)} {v0 : Value} {a1 : (List T_edit_Step)} {v1 : Value} {r : Int} {w : World} {h : Heap} (hw : Know h w noS) (f0 : FrS h 5 v0 (a0.map e_edit_Step)) (f1 : FrS h 5 v1 (a1.map e_edit_Step)) (H : edit_Common a0 a1 = some r) : Does Tryd.prog 19 (List.toArray [v0, v1]) w (fun v w' => v = (.int .i64 r) ∧ Grow w w') := by
  refine enter (n := 30) Tryd.func19 rfl rfl rfl noS [] (Sat.nil _ _) ?_
  refine c_seq ?_
  refine c_region ?_
  refine l_val rfl rfl rfl (r_assign (v := .int .i64 0) rfl) ?_
  refine l_nil ?_
  refine c_seq ?_
  refine c_region ?_
  refine l_val rfl rfl rfl (r_assign (v := .int .i64 0) rfl) ?_
  refine l_nil ?_
  refine c_seq ?_
  refine c_block ?_
  refine c_fix (σ := Int) (τ := Unit) (fun next1 s => edit_Common_l1 a0 a1 next1 s) (fun s t => [(0, v0), (1, v1), (5, .int .i64 s)]) (fun s t => []) (fun s t => True) 0 () [] H (by exact trivial) (by exact ⟨rfl, rfl, rfl, trivial⟩) (by decide) rfl ?_
  rintro x5_2 _ m1 gg H11 _
  clear H
  replace H11 : edit_Common_l1 a0 a1 (it (fun next1 s => edit_Common_l1 a0 a1 next1 s) m1) x5_2 = some r := H11
  generalize hn1 : it (fun next1 s => edit_Common_l1 a0 a1 next1 s) m1 = next1 at H11
  refine c_tidyF [(0, v0), (1, v1), (5, .int .i64 x5_2)] [] rfl rfl ?_
  refine c_seq ?_
  refine c_seq ?_
  exact c_regionD (Kd.p :: Kd.p :: Kd.p :: Kd.p :: Kd.p :: Kd.p :: Kd.p :: Kd.p :: Kd.p :: Kd.p :: Kd.p :: Kd.p :: Kd.p :: Kd.p :: Kd.d [] _ :: Kd.p :: Kd.p :: Kd.p :: Kd.d [] _ :: Kd.p :: Kd.p :: []) 0 mixed (by
    refine d_val rfl rfl (r_move (v := .int .i64 x5_2) rfl) ?_
    refine d_val rfl rfl (r_move (v := v0) rfl) ?_
    refine d_val rfl rfl (r_lenF Tryd.underlying22 rfl f0 rfl) ?_
    refine d_val rfl rfl (r_lss rfl rfl) ?_
    refine d_val rfl rfl (r_move (v := .bool (decide (x5_2 < (a0.length : Int)))) rfl) ?_
    refine splitS (fun hb => ?_) (fun hb => ?_)
    · have H12 := cnd_t hb H11
      refine d_val rfl rfl (r_move (v := .int .i64 x5_2) rfl) ?_
      refine d_val rfl rfl (r_move (v := v1) rfl) ?_
      refine d_val rfl rfl (r_lenF Tryd.underlying22 rfl f1 rfl) ?_
      refine d_val rfl rfl (r_lss rfl rfl) ?_
      refine d_val rfl rfl (r_pickT (v := .bool (decide (x5_2 < (a1.length : Int)))) rfl rfl) ?_
      refine d_val rfl rfl (r_move (v := .bool (decide (x5_2 < (a1.length : Int)))) rfl) ?_
      refine splitS (fun hb => ?_) (fun hb => ?_)
      · have H13 := cnd_t hb H12
        refine d_val rfl rfl (r_move (v := v0) rfl) ?_
        refine d_val rfl rfl (r_move (v := .int .i64 x5_2) rfl) ?_
        have h_t19 := bnd_val H13
        have H14 := bnd_rest H13
        refine d_val rfl rfl (r_indexF Tryd.underlying22 Tryd.sizeOf35 rfl rfl f0 h_t19) ?_
        refine d_read (fun w hF => run_loadGN (f := e_edit_Step) (i := x5_2) (sz := 5) (j := 0) (vs := [.int .i64 (val (gAt a0 x5_2)).Kind, .int .i64 (val (gAt a0 x5_2)).A, .int .i64 (val (gAt a0 x5_2)).B, .int .i64 (val (gAt a0 x5_2)).C, .int .i64 (val (gAt a0 x5_2)).D]) Tryd.isAgg35 Tryd.sizeOf35 rfl rfl (f0.row (hw.now hF)) h_t19 rfl) rfl rfl ?_
        refine d_val rfl rfl (r_move (v := v1) rfl) ?_
        refine d_val rfl rfl (r_move (v := .int .i64 x5_2) rfl) ?_
        have h_t23 := bnd_val H14
        have H15 := bnd_rest H14
        refine d_val rfl rfl (r_indexF Tryd.underlying22 Tryd.sizeOf35 rfl rfl f1 h_t23) ?_
        refine d_read (fun w hF => run_loadGN (f := e_edit_Step) (i := x5_2) (sz := 5) (j := 0) (vs := [.int .i64 (val (gAt a1 x5_2)).Kind, .int .i64 (val (gAt a1 x5_2)).A, .int .i64 (val (gAt a1 x5_2)).B, .int .i64 (val (gAt a1 x5_2)).C, .int .i64 (val (gAt a1 x5_2)).D]) Tryd.isAgg35 Tryd.sizeOf35 rfl rfl (f1.row (hw.now hF)) h_t23 rfl) rfl rfl ?_
        refine d_val rfl rfl (r_eqlA (xs := #[.int .i64 (val (gAt a0 x5_2)).Kind, .int .i64 (val (gAt a0 x5_2)).A, .int .i64 (val (gAt a0 x5_2)).B, .int .i64 (val (gAt a0 x5_2)).C, .int .i64 (val (gAt a0 x5_2)).D]) (ys := #[.int .i64 (val (gAt a1 x5_2)).Kind, .int .i64 (val (gAt a1 x5_2)).A, .int .i64 (val (gAt a1 x5_2)).B, .int .i64 (val (gAt a1 x5_2)).C, .int .i64 (val (gAt a1 x5_2)).D]) Tryd.eqGuardType35 (fun w => run_eq_edit_Step w (val (gAt a0 x5_2)) (val (gAt a1 x5_2))) rfl rfl) ?_
        refine d_val rfl rfl (r_pickT (v := .bool (eq_edit_Step (val (gAt a0 x5_2)) (val (gAt a1 x5_2)))) rfl rfl) ?_
        refine d_nil ?_
        refine c_if (b := (eq_edit_Step (val (gAt a0 x5_2)) (val (gAt a1 x5_2)))) rfl (fun hb => ?_) (fun hb => ?_)
        · have H16 := cnd_t hb H15; clear H15
          refine c_skip ?_
          refine c_block ?_
          refine c_region ?_
          refine l_val rfl rfl rfl (r_move (v := .int .i64 x5_2) rfl) ?_
          obtain ⟨t28, h_t28, H17⟩ := bnd_some H16; clear H16
          refine l_val rfl rfl rfl (r_addG rfl rfl h_t28) ?_
          refine l_val rfl rfl rfl (r_assign (v := .int .i64 t28) rfl) ?_
          refine l_nil ?_
          refine c_close t28 () m1 [] (by exact ⟨rfl, rfl, rfl, trivial⟩) (by decide) rfl (by exact ⟨(by subst hn1; exact H17), trivial⟩) (Nat.lt_succ_self _)
        · have H18 := cnd_f hb H15; clear H15
          refine c_exit ?_
          refine c_seq ?_
          refine c_region ?_
          refine l_val rfl rfl rfl (r_move (v := .int .i64 x5_2) rfl) ?_
          refine l_val rfl rfl rfl (r_assign (v := .int .i64 x5_2) rfl) ?_
          refine l_nil ?_
          refine c_ret ?_
          obtain rfl := Option.some.inj H18
          refine ret1 (v := .int .i64 x5_2) rfl rfl (fin rfl)
      · have H19 := cnd_f hb H12
        refine d_pass rfl rfl ?_
        refine d_pass rfl rfl ?_
        refine d_pass rfl rfl ?_
        refine d_pass rfl rfl ?_
        refine d_pass rfl rfl ?_
        refine d_pass rfl rfl ?_
        refine d_pass rfl rfl ?_
        refine d_pass rfl rfl ?_
        refine d_pass rfl rfl ?_
        refine d_val rfl rfl (r_pickF (v := .bool false) rfl rfl) ?_
        refine d_nil ?_
        refine c_false rfl ?_
        refine c_exit ?_
        refine c_seq ?_
        refine c_region ?_
        refine l_val rfl rfl rfl (r_move (v := .int .i64 x5_2) rfl) ?_
        refine l_val rfl rfl rfl (r_assign (v := .int .i64 x5_2) rfl) ?_
        refine l_nil ?_
        refine c_ret ?_
        obtain rfl := Option.some.inj H19
        refine ret1 (v := .int .i64 x5_2) rfl rfl (fin rfl)
    · have H20 := cnd_f hb H11
      refine d_pass rfl rfl ?_
      refine d_pass rfl rfl ?_
      refine d_pass rfl rfl ?_
      refine d_pass rfl rfl ?_
      refine d_val rfl rfl (r_pickF (v := .bool false) rfl rfl) ?_
      refine d_val rfl rfl (r_move (v := .bool false) rfl) ?_
      refine d_pass rfl rfl ?_
      refine d_pass rfl rfl ?_
      refine d_pass rfl rfl ?_
      refine d_pass rfl rfl ?_
      refine d_pass rfl rfl ?_
      refine d_pass rfl rfl ?_
      refine d_pass rfl rfl ?_
      refine d_pass rfl rfl ?_
      refine d_pass rfl rfl ?_
      refine d_val rfl rfl (r_pickF (v := .bool false) rfl rfl) ?_
      refine d_nil ?_
      refine c_false rfl ?_
      refine c_exit ?_
      refine c_seq ?_
      refine c_region ?_
      refine l_val rfl rfl rfl (r_move (v := .int .i64 x5_2) rfl) ?_
      refine l_val rfl rfl rfl (r_assign (v := .int .i64 x5_2) rfl) ?_
      refine l_nil ?_
      refine c_ret ?_
      obtain rfl := Option.some.inj H20
      refine ret1 (v := .int .i64 x5_2) rfl rfl (fin rfl)
    ) (by kernel_rfl)
theorem k66 {a0 : (List T_edit_Step)} {v0 : Value} {a1 : (List T_edit_Step)} {v1 : Value} {r : Bool} {w : World} {h : Heap} (hw : Know h w noS) (f0 : FrS h 5 v0 (a0.map e_edit_Step)) (f1 : FrS h 5 v1 (a1.map e_edit_Step)) (H : slices_Equal_edit_Step a0 a1 = some r) : Does Tryd.prog 66 (List.toArray [v0, v1]) w (fun v w' => v = (.bool r) ∧ Grow w w') := by
  refine enter (n := 26) Tryd.func66 rfl rfl rfl noS [] (Sat.nil _ _) ?_
  refine c_seq ?_
  refine c_region ?_
  refine l_val rfl rfl rfl (r_assign (v := .bool false) rfl) ?_
  refine l_nil ?_
  refine c_seq ?_
  refine c_seq ?_
  refine c_region ?_
  refine l_val rfl rfl rfl (r_move (v := v0) rfl) ?_
  refine l_val rfl rfl rfl (r_lenF Tryd.underlying22 rfl f0 rfl) ?_
  refine l_val rfl rfl rfl (r_move (v := v1) rfl) ?_
  refine l_val rfl rfl rfl (r_lenF Tryd.underlying22 rfl f1 rfl) ?_
  refine l_val rfl rfl rfl (r_neq rfl rfl) ?_
  refine l_nil ?_
  refine c_if (b := (decide ((a0.length : Int) ≠ (a1.length : Int)))) rfl (fun hb => ?_) (fun hb => ?_)
  · have H11 := cnd_t hb H; clear H
    refine c_seq ?_
    refine c_region ?_
    refine l_val rfl rfl rfl (r_assign (v := .bool false) rfl) ?_
    refine l_nil ?_
    refine c_ret ?_
    obtain rfl := Option.some.inj H11
    refine ret1 (v := .bool false) rfl rfl (fin rfl)
  · have H12 := cnd_f hb H; clear H
    refine c_skip ?_
    refine c_seq ?_
    refine c_seq ?_
    refine c_region ?_
    refine l_val rfl rfl rfl (r_move (v := v0) rfl) ?_
    refine l_val rfl rfl rfl (r_lenF Tryd.underlying22 rfl f0 rfl) ?_
    refine l_val rfl rfl rfl (r_move (v := .int .i64 0) rfl) ?_
    refine l_nil ?_
    refine c_block ?_
    refine c_fix (σ := Int) (τ := Unit) (fun next1 s => slices_Equal_edit_Step_l1 a0 a1 next1 s) (fun s t => [(0, v0), (1, v1), (12, .int .i64 (a0.length : Int)), (13, .int .i64 s)]) (fun s t => []) (fun s t => True) 0 () [] H12 (by exact trivial) (by exact ⟨rfl, rfl, rfl, rfl, trivial⟩) (by decide) rfl ?_
    rintro x13_2 _ m1 gg H13 _
    clear H12
    replace H13 : slices_Equal_edit_Step_l1 a0 a1 (it (fun next1 s => slices_Equal_edit_Step_l1 a0 a1 next1 s) m1) x13_2 = some r := H13
    generalize hn1 : it (fun next1 s => slices_Equal_edit_Step_l1 a0 a1 next1 s) m1 = next1 at H13
    refine c_tidyF [(0, v0), (1, v1), (12, .int .i64 (a0.length : Int)), (13, .int .i64 x13_2)] [] rfl rfl ?_
    refine c_seq ?_
    refine c_region ?_
    refine l_val rfl rfl rfl (r_lss rfl rfl) ?_
    refine l_nil ?_
    refine c_seq ?_
    refine c_if (b := (decide (x13_2 < (a0.length : Int)))) rfl (fun hb => ?_) (fun hb => ?_)
    · have H14 := cnd_t hb H13; clear H13
      refine c_skip ?_
      refine c_seq ?_
      refine c_block ?_
      refine c_seq ?_
      refine c_region ?_
      refine l_val rfl rfl rfl (r_move (v := .int .i64 x13_2) rfl) ?_
      refine l_val rfl rfl rfl (r_assign (v := .int .i64 x13_2) rfl) ?_
      refine l_nil ?_
      refine c_seq ?_
      exact c_regionD (Kd.p :: Kd.p :: Kd.p :: Kd.d [] _ :: Kd.p :: Kd.p :: Kd.p :: Kd.d [] _ :: Kd.p :: []) 0 mixed (by
        refine d_val rfl rfl (r_move (v := v0) rfl) ?_
        refine d_val rfl rfl (r_move (v := .int .i64 x13_2) rfl) ?_
        have h_t18 := bnd_val H14
        have H15 := bnd_rest H14
        refine d_val rfl rfl (r_indexF Tryd.underlying22 Tryd.sizeOf35 rfl rfl f0 h_t18) ?_
        refine d_read (fun w hF => run_loadGN (f := e_edit_Step) (i := x13_2) (sz := 5) (j := 0) (vs := [.int .i64 (val (gAt a0 x13_2)).Kind, .int .i64 (val (gAt a0 x13_2)).A, .int .i64 (val (gAt a0 x13_2)).B, .int .i64 (val (gAt a0 x13_2)).C, .int .i64 (val (gAt a0 x13_2)).D]) Tryd.isAgg35 Tryd.sizeOf35 rfl rfl (f0.row (hw.now hF)) h_t18 rfl) rfl rfl ?_
        refine d_val rfl rfl (r_move (v := v1) rfl) ?_
        refine d_val rfl rfl (r_move (v := .int .i64 x13_2) rfl) ?_
        have h_t22 := bnd_val H15
        have H16 := bnd_rest H15
        refine d_val rfl rfl (r_indexF Tryd.underlying22 Tryd.sizeOf35 rfl rfl f1 h_t22) ?_
        refine d_read (fun w hF => run_loadGN (f := e_edit_Step) (i := x13_2) (sz := 5) (j := 0) (vs := [.int .i64 (val (gAt a1 x13_2)).Kind, .int .i64 (val (gAt a1 x13_2)).A, .int .i64 (val (gAt a1 x13_2)).B, .int .i64 (val (gAt a1 x13_2)).C, .int .i64 (val (gAt a1 x13_2)).D]) Tryd.isAgg35 Tryd.sizeOf35 rfl rfl (f1.row (hw.now hF)) h_t22 rfl) rfl rfl ?_
        refine d_val rfl rfl (r_neqA (xs := #[.int .i64 (val (gAt a0 x13_2)).Kind, .int .i64 (val (gAt a0 x13_2)).A, .int .i64 (val (gAt a0 x13_2)).B, .int .i64 (val (gAt a0 x13_2)).C, .int .i64 (val (gAt a0 x13_2)).D]) (ys := #[.int .i64 (val (gAt a1 x13_2)).Kind, .int .i64 (val (gAt a1 x13_2)).A, .int .i64 (val (gAt a1 x13_2)).B, .int .i64 (val (gAt a1 x13_2)).C, .int .i64 (val (gAt a1 x13_2)).D]) Tryd.eqGuardType35 (fun w => run_eq_edit_Step w (val (gAt a0 x13_2)) (val (gAt a1 x13_2))) rfl rfl) ?_
        refine d_nil ?_
        refine c_if (b := (!(eq_edit_Step (val (gAt a0 x13_2)) (val (gAt a1 x13_2))))) rfl (fun hb => ?_) (fun hb => ?_)
        · have H17 := cnd_t hb H16; clear H16
          refine c_seq ?_
          refine c_region ?_
          refine l_val rfl rfl rfl (r_assign (v := .bool false) rfl) ?_
          refine l_nil ?_
          refine c_ret ?_
          obtain rfl := Option.some.inj H17
          refine ret1 (v := .bool false) rfl rfl (fin rfl)
        · have H18 := cnd_f hb H16; clear H16
          refine c_skip ?_
          refine c_region ?_
          obtain ⟨t25, h_t25, H19⟩ := bnd_some H18; clear H18
          refine l_val rfl rfl rfl (r_addG rfl rfl h_t25) ?_
          refine l_val rfl rfl rfl (r_move (v := .int .i64 t25) rfl) ?_
          refine l_nil ?_
          refine c_close t25 () m1 [] (by exact ⟨rfl, rfl, rfl, rfl, trivial⟩) (by decide) rfl (by exact ⟨(by subst hn1; exact H19), trivial⟩) (Nat.lt_succ_self _)
        ) (by kernel_rfl)
    · have H20 := cnd_f hb H13; clear H13
      refine c_exit ?_
      refine c_seq ?_
      refine c_region ?_
      refine l_val rfl rfl rfl (r_assign (v := .bool true) rfl) ?_
      refine l_nil ?_
      refine c_ret ?_
      obtain rfl := Option.some.inj H20
      refine ret1 (v := .bool true) rfl rfl (fin rfl)
theorem k26 {a0 : (List T_edit_Step)} {v0 : Value} {a1 : (List T_edit_Step)} {v1 : Value} {r : Bool} {w : World} {h : Heap} (hw : Know h w noS) (f0 : FrS h 5 v0 (a0.map e_edit_Step)) (f1 : FrS h 5 v1 (a1.map e_edit_Step)) (H : edit_Same a0 a1 = some r) : Does Tryd.prog 26 (List.toArray [v0, v1]) w (fun v w' => v = (.bool r) ∧ Grow w w') := by
  refine enter (n := 8) Tryd.func26 rfl rfl rfl noS [] (Sat.nil _ _) ?_
  refine c_seq ?_
  refine c_region ?_
  refine l_val rfl rfl rfl (r_assign (v := .bool false) rfl) ?_
  refine l_nil ?_
  refine c_seq ?_
  refine c_region ?_
  refine l_val rfl rfl rfl (r_move (v := v0) rfl) ?_
  refine l_val rfl rfl rfl (r_move (v := v1) rfl) ?_
  obtain ⟨t7, h_t7, H2⟩ := bnd_some H; clear H
  refine l_callG (fun w hF hS => k66 (know_all w) (f0.mono (hw.now hF)) (f1.mono (hw.now hF)) h_t7) Tryd.call66 rfl rfl rfl ?_
  refine l_val rfl rfl rfl (r_assign (v := .bool t7) rfl) ?_
  refine l_nil ?_
  refine c_ret ?_
  obtain rfl := Option.some.inj H2
  refine ret1 (v := .bool t7) rfl rfl (fin rfl)
theorem k58 {a0 : (List (List T_edit_Step))} {v0 : Value} {r : Int} {w : World} {h : Heap} (hw : Know h w noS) (f0 : FrN h 1 v0 gs_edit_Step a0) (H : edit_checkAll a0 = some r) : Does Tryd.prog 58 (List.toArray [v0]) w (fun v w' => v = (.int .i64 r) ∧ Grow w w') := by
  refine enter (n := 18) Tryd.func58 rfl rfl rfl noS [] (Sat.nil _ _) ?_
  refine c_seq ?_
  refine c_region ?_
  refine l_val rfl rfl rfl (r_assign (v := .int .i64 0) rfl) ?_
  refine l_nil ?_
  refine c_seq ?_
  refine c_seq ?_
  refine c_region ?_
  refine l_val rfl rfl rfl (r_move (v := v0) rfl) ?_
  refine l_val rfl rfl rfl (r_lenFN Tryd.underlying48 rfl f0) ?_
  refine l_val rfl rfl rfl (r_move (v := .int .i64 0) rfl) ?_
  refine l_nil ?_
  refine c_block ?_
  refine c_fix (σ := Int) (τ := Unit) (fun next1 s => edit_checkAll_l1 a0 next1 s) (fun s t => [(6, v0), (7, .int .i64 (a0.length : Int)), (8, .int .i64 s)]) (fun s t => []) (fun s t => True) 0 () [] H (by exact trivial) (by exact ⟨rfl, rfl, rfl, trivial⟩) (by decide) rfl ?_
  rintro x8_2 _ m1 gg H9 _
  clear H
  replace H9 : edit_checkAll_l1 a0 (it (fun next1 s => edit_checkAll_l1 a0 next1 s) m1) x8_2 = some r := H9
  generalize hn1 : it (fun next1 s => edit_checkAll_l1 a0 next1 s) m1 = next1 at H9
  refine c_tidyF [(6, v0), (7, .int .i64 (a0.length : Int)), (8, .int .i64 x8_2)] [] rfl rfl ?_
  refine c_seq ?_
  refine c_region ?_
  refine l_val rfl rfl rfl (r_lss rfl rfl) ?_
  refine l_nil ?_
  refine c_seq ?_
  refine c_if (b := (decide (x8_2 < (a0.length : Int)))) rfl (fun hb => ?_) (fun hb => ?_)
  · have H10 := cnd_t hb H9; clear H9
    refine c_skip ?_
    refine c_seq ?_
    refine c_block ?_
    refine c_seq ?_
    refine c_region ?_
    obtain ⟨t10, h_t10, H11⟩ := bnd_some H10; clear H10
    refine l_val rfl rfl rfl (r_indexF Tryd.underlying48 Tryd.sizeOf22 rfl rfl f0.frs (f0.ix h_t10)) ?_
    refine l_read (fun w hF hS => run_loadG1 (f := (elC h v0 1)) (i := x8_2) (sz := 1) (j := 0) (v := (elH h v0 1 (Int.toNat x8_2) 0)) Tryd.isAgg22 rfl rfl (f0.frs.row (hw.now hF)) (f0.ix h_t10) (rg_of (cgs_edit_Step (f0.at h_t10)) rfl)) rfl rfl rfl ?_
    refine l_val rfl rfl rfl (r_assign (v := (elH h v0 1 (Int.toNat x8_2) 0)) rfl) ?_
    refine l_nil ?_
    refine c_seq ?_
    refine c_region ?_
    refine l_val rfl rfl rfl (r_move (v := (elH h v0 1 (Int.toNat x8_2) 0)) rfl) ?_
    obtain ⟨t13, h_t13, H12⟩ := bnd_some H11; clear H11
    refine l_callG (fun w hF hS => k73 (know_all w) ((show FrS h 5 (elH h v0 1 (Int.toNat x8_2) 0) (t10.map e_edit_Step) from (f0.at h_t10)).mono (hw.now hF)) h_t13) Tryd.call73 rfl rfl rfl ?_
    refine l_val rfl rfl rfl (r_assign (v := .int .i64 t13) rfl) ?_
    refine l_nil ?_
    refine c_seq ?_
    refine c_region ?_
    refine l_val rfl rfl rfl (r_move (v := .int .i64 t13) rfl) ?_
    refine l_val rfl rfl rfl (r_neq rfl rfl) ?_
    refine l_nil ?_
    refine c_if (b := (decide (t13 ≠ 0))) rfl (fun hb => ?_) (fun hb => ?_)
    · have H13 := cnd_t hb H12; clear H12
      refine c_seq ?_
      refine c_region ?_
      refine l_val rfl rfl rfl (r_move (v := .int .i64 t13) rfl) ?_
      refine l_val rfl rfl rfl (r_assign (v := .int .i64 t13) rfl) ?_
      refine l_nil ?_
      refine c_ret ?_
      obtain rfl := Option.some.inj H13
      refine ret1 (v := .int .i64 t13) rfl rfl (fin rfl)
    · have H14 := cnd_f hb H12; clear H12
      refine c_skip ?_
      refine c_region ?_
      obtain ⟨t17, h_t17, H15⟩ := bnd_some H14; clear H14
      refine l_val rfl rfl rfl (r_addG rfl rfl h_t17) ?_
      refine l_val rfl rfl rfl (r_move (v := .int .i64 t17) rfl) ?_
      refine l_nil ?_
      refine c_close t17 () m1 [] (by exact ⟨rfl, rfl, rfl, trivial⟩) (by decide) rfl (by exact ⟨(by subst hn1; exact H15), trivial⟩) (Nat.lt_succ_self _)
  · have H16 := cnd_f hb H9; clear H9
    refine c_exit ?_
    refine c_seq ?_
    refine c_region ?_
    refine l_val rfl rfl rfl (r_assign (v := .int .i64 0) rfl) ?_
    refine l_nil ?_
    refine c_ret ?_
    obtain rfl := Option.some.inj H16
    refine ret1 (v := .int .i64 0) rfl rfl (fin rfl)
theorem k68 {a0 : (List T_edit_Step)} {v0 : Value} {r : (List T_edit_Step)} {w : World} {h : Heap} (hw : Know h w noS) (f0 : FrS h 5 v0 (a0.map e_edit_Step)) (H : slices_Clone_edit_Step a0 = some r) : Does Tryd.prog 68 (List.toArray [v0]) w (fun v w' => ∃ x : (Option Addr × Nat), v = (.slice x.1 r.length x.2) ∧ Turn w w' noS (rowV 35 5 (.slice x.1 r.length x.2) r.length (r.map e_edit_Step))) := by
  refine enter (n := 8) Tryd.func68 rfl rfl rfl noS [] (Sat.nil _ _) ?_
  refine c_seq ?_
  refine c_region ?_
  refine l_val rfl rfl rfl (r_assign (v := .slice none 0 0) rfl) ?_
  refine l_nil ?_
  refine c_seq ?_
  refine c_seq ?_
  refine c_region ?_
  refine l_val rfl rfl rfl (r_move (v := v0) rfl) ?_
  refine l_val rfl rfl rfl (r_eqlNilS Tryd.underlying22 f0 rfl rfl) ?_
  refine l_nil ?_
  refine c_if (b := isNilV v0) rfl (fun hb => ?_) (fun hb => ?_)
  · have hn_ : a0 = [] := f0.nilV hb
    have H3 : some ([] : List T_edit_Step) = some r := by have h_ := H; rw [hn_] at h_; exact h_
    refine c_seq ?_
    refine c_region ?_
    refine l_val rfl rfl rfl (r_assign (v := .slice none 0 0) rfl) ?_
    refine l_nil ?_
    refine c_ret ?_
    refine c_nilRow 35 5 ?_
    obtain rfl := Option.some.inj H3
    refine ret1 (v := .slice ((none, 0) : Option Addr × Nat).1 ([] : List T_edit_Step).length ((none, 0) : Option Addr × Nat).2) rfl rfl (finX ((none, 0) : Option Addr × Nat) (i := 0) rfl rfl (Imp.refl _))
  · skip
    refine c_skip ?_
    refine c_seq ?_
    refine c_region ?_
    refine l_buildSlice (vs := []) (cs := []) Tryd.underlying22 Tryd.sizeOf35 Tryd.zeroValue35 rfl rfl rfl rfl rfl rfl rfl (fun b1 => ?_)
    refine l_val rfl rfl rfl (r_move (v := v0) rfl) ?_
    refine c_imp 0 rfl (imp_box (m := 0) (E := 35) (sz := 5) (xs := (([] : List T_edit_Step)).map e_edit_Step) rfl rfl rfl ⟨rfl, by decide⟩) ?_
    obtain ⟨l7, h_l7, H4⟩ := bnd_some H; clear H
    refine l_turn (turns_appG (i := 0) (hn := rfl) (rds := []) (p := ((some ⟨b1, 0, none⟩, 0) : Option Addr × Nat)) (sz := 5) (by_ := 40) (f := e_edit_Step) (ys := ([] : List T_edit_Step)) (ls := a0) (V := v0) Tryd.underlying22 (info_of Tryd.typeInfo35) rfl rfl rfl rfl rfl rfl rfl rfl f0.eq (List.length_map _) (fun w L' hF hS hi => (f0).row (hw.now hF)) (fun _ => rfl) (fun _ => rfl) h_l7) rfl rfl rfl (fun p => ?_)
    refine l_val rfl rfl rfl (r_assign (v := .slice p.1 l7.length p.2) rfl) ?_
    refine l_nil ?_
    refine c_ret ?_
    obtain rfl := Option.some.inj H4
    refine ret1 (v := .slice p.1 l7.length p.2) rfl rfl (finX p (i := 0) rfl rfl (Imp.refl _))
theorem k23 {a0 : (List T_edit_Step)} {v0 : Value} {a1 : (List T_edit_Step)} {v1 : Value} {a2 : (List T_edit_Step)} {v2 : Value} {r : (List T_edit_Step) × Bool × Int} {w : World} {h : Heap} (hw : Know h w noS) (f0 : FrS h 5 v0 (a0.map e_edit_Step)) (f1 : FrS h 5 v1 (a1.map e_edit_Step)) (f2 : FrS h 5 v2 (a2.map e_edit_Step)) (H : edit_Merge a0 a1 a2 = some r) : Does Tryd.prog 23 (List.toArray [v0, v1, v2]) w (fun v w' => ∃ x : (Option Addr × Nat), v = (.tuple #[.slice x.1 r.1.length x.2, .bool r.2.1, .int .i64 r.2.2]) ∧ Turn w w' noS (roV 5 (.slice x.1 r.1.length x.2) r.1.length (r.1.map e_edit_Step))) := by
  refine enter (n := 82) Tryd.func23 rfl rfl rfl noS [] (Sat.nil _ _) ?_
  refine c_seq ?_
  refine c_region ?_
  refine l_val rfl rfl rfl (r_assign (v := .slice none 0 0) rfl) ?_
  refine l_val rfl rfl rfl (r_assign (v := .bool false) rfl) ?_
  refine l_val rfl rfl rfl (r_assign (v := .int .i64 0) rfl) ?_
  refine l_nil ?_
  refine c_seq ?_
  refine c_seq ?_
  refine c_region ?_
  refine l_val rfl rfl rfl (r_move (v := v0) rfl) ?_
  refine l_val rfl rfl rfl (r_move (v := v1) rfl) ?_
  refine l_val rfl rfl rfl (r_move (v := v2) rfl) ?_
  refine l_buildSlice (vs := [v0, v1, v2]) (cs := [v0, v1, v2]) Tryd.underlying48 Tryd.sizeOf22 Tryd.zeroValue22 rfl rfl rfl rfl (by simp only [List.all_cons, List.all_nil, cells_sz f0.cells, cells_sz f1.cells, cells_sz f2.cells] <;> rfl) rfl (by simp only [List.flatMap_cons, List.flatMap_nil, f0.cells, f1.cells, f2.cells] <;> rfl) (fun b6 => ?_)
  obtain ⟨t20, h_t20, H59⟩ := bnd_some H; clear H
  refine l_callG (fun w hF hS => k58 (know_all w) (frn_box (G := gs_edit_Step) (sz := 1) (xs := ([a0, a1, a2] : List (List T_edit_Step))) (i := 0) hS rfl rfl rfl rfl ⟨(f0.mono (hw.now hF)), (f1.mono (hw.now hF)), (f2.mono (hw.now hF)), rfl⟩) h_t20) Tryd.call58 rfl rfl rfl ?_
  refine l_val rfl rfl rfl (r_assign (v := .int .i64 t20) rfl) ?_
  refine l_nil ?_
  refine c_seq ?_
  refine c_region ?_
  refine l_val rfl rfl rfl (r_move (v := .int .i64 t20) rfl) ?_
  refine l_val rfl rfl rfl (r_neq rfl rfl) ?_
  refine l_nil ?_
  refine c_if (b := (decide (t20 ≠ 0))) rfl (fun hb => ?_) (fun hb => ?_)
  · have H60 := cnd_t hb H59; clear H59
    refine c_seq ?_
    refine c_region ?_
    refine l_val rfl rfl rfl (r_move (v := .int .i64 t20) rfl) ?_
    refine l_val rfl rfl rfl (r_assign (v := .slice none 0 0) rfl) ?_
    refine l_val rfl rfl rfl (r_assign (v := .bool false) rfl) ?_
    refine l_val rfl rfl rfl (r_assign (v := .int .i64 t20) rfl) ?_
    refine l_nil ?_
    refine c_ret ?_
    refine c_nilRow 35 5 ?_
    obtain rfl := Option.some.inj H60
    refine c_imp 1 rfl (row_ro _ _ _ _ _) ?_
    refine ret3 (v1 := .slice ((none, 0) : Option Addr × Nat).1 ([] : List T_edit_Step).length ((none, 0) : Option Addr × Nat).2) (v2 := .bool false) (v3 := .int .i64 t20) rfl rfl rfl rfl (finX ((none, 0) : Option Addr × Nat) (i := 1) rfl rfl (Imp.refl _))
  · have H61 := cnd_f hb H59; clear H59
    refine c_skip ?_
    refine c_seq ?_
    refine c_region ?_
    refine l_val rfl rfl rfl (r_move (v := v0) rfl) ?_
    refine l_val rfl rfl rfl (r_move (v := v1) rfl) ?_
    obtain ⟨t26, h_t26, H62⟩ := bnd_some H61; clear H61
    refine l_callG (fun w hF hS => k19 (know_all w) (f0.mono (hw.now hF)) (f1.mono (hw.now hF)) h_t26) Tryd.call19 rfl rfl rfl ?_
    refine l_val rfl rfl rfl (r_move (v := v0) rfl) ?_
    refine l_val rfl rfl rfl (r_move (v := v2) rfl) ?_
    obtain ⟨t29, h_t29, H63⟩ := bnd_some H62; clear H62
    refine l_callG (fun w hF hS => k19 (know_all w) (f0.mono (hw.now hF)) (f2.mono (hw.now hF)) h_t29) Tryd.call19 rfl rfl rfl ?_
    refine l_val rfl rfl rfl (r_min rfl rfl) ?_
    refine l_val rfl rfl rfl (r_assign (v := .int .i64 (min t26 t29)) rfl) ?_
    refine l_nil ?_
    refine c_seq ?_
    exact c_regionD (Kd.p :: Kd.p :: Kd.p :: Kd.p :: Kd.p :: Kd.p :: Kd.p :: Kd.p :: Kd.p :: Kd.p :: Kd.p :: Kd.p :: []) 0 mixed (by
      refine d_val rfl rfl (r_move (v := v1) rfl) ?_
      refine d_val rfl rfl (r_move (v := .int .i64 (min t26 t29)) rfl) ?_
      have h_t33 := bnd_val H63
      have H64 := bnd_rest H63
      refine d_val rfl rfl (r_sliceLF Tryd.underlying22 Tryd.sizeOf35 rfl rfl f1 h_t33) ?_
      refine d_val rfl rfl (r_move (v := v2) rfl) ?_
      refine d_val rfl rfl (r_move (v := .int .i64 (min t26 t29)) rfl) ?_
      have h_t36 := bnd_val H64
      have H65 := bnd_rest H64
      refine d_val rfl rfl (r_sliceLF Tryd.underlying22 Tryd.sizeOf35 rfl rfl f2 h_t36) ?_
      refine d_val rfl rfl (r_move (v := v0) rfl) ?_
      refine d_val rfl rfl (r_move (v := .int .i64 (min t26 t29)) rfl) ?_
      have h_t39 := bnd_val H65
      have H66 := bnd_rest H65
      refine d_val rfl rfl (r_sliceLF Tryd.underlying22 Tryd.sizeOf35 rfl rfl f0 h_t39) ?_
      refine d_val rfl rfl (r_assign (v := (cutV 5 v1 (min t26 t29) a1.length)) rfl) ?_
      refine d_val rfl rfl (r_assign (v := (cutV 5 v2 (min t26 t29) a2.length)) rfl) ?_
      refine d_val rfl rfl (r_assign (v := (cutV 5 v0 (min t26 t29) a0.length)) rfl) ?_
      refine d_nil ?_
      refine c_seq ?_
      refine c_region ?_
      refine l_val rfl rfl rfl (r_assign (v := .slice none 0 0) rfl) ?_
      refine l_nil ?_
      refine c_seq ?_
      refine c_region ?_
      refine l_val rfl rfl rfl (r_assign (v := .bool false) rfl) ?_
      refine l_nil ?_
      refine c_meet (r := r) (σ := Bool × (List T_edit_Step)) (τ := (Option Addr × Nat)) (fun s => edit_Merge_j1 s.1 s.2) (fun s t => [(14, .slice t.1 s.2.length t.2), (15, .bool s.1)]) (fun s t => [roH h 5 (.slice t.1 s.2.length t.2) s.2.length (s.2.map e_edit_Step)]) (fun s t => True) ?_ ?_
      · refine c_block ?_
        refine c_seq ?_
        refine c_region ?_
        refine l_val rfl rfl rfl (r_move (v := (cutV 5 v1 (min t26 t29) a1.length)) rfl) ?_
        refine l_val rfl rfl rfl (r_move (v := (cutV 5 v0 (min t26 t29) a0.length)) rfl) ?_
        obtain ⟨t44, h_t44, H71⟩ := bnd_some H66; clear H66
        refine l_callG (fun w hF hS => k26 (know_all w) ((f1.cut h_t33).mono (hw.now hF)) ((f0.cut h_t39).mono (hw.now hF)) h_t44) Tryd.call26 rfl rfl rfl ?_
        refine l_val rfl rfl rfl (r_assign (v := .bool t44) rfl) ?_
        refine l_nil ?_
        refine c_if (b := t44) rfl (fun hb => ?_) (fun hb => ?_)
        · have H72 := cnd_t hb H71; clear H71
          refine c_region ?_
          refine l_val rfl rfl rfl (r_move (v := v2) rfl) ?_
          refine l_val rfl rfl rfl (r_assign (v := v2) rfl) ?_
          refine l_nil ?_
          obtain ⟨p_3, hp_⟩ := (f2).form; subst hp_
          refine c_frz f2 ?_
          refine c_close (false, a2) p_3 0 [1] (by exact ⟨rfl, rfl, trivial⟩) (by decide) rfl (by exact ⟨H72, trivial⟩) (Nat.lt_succ_self _)
        · have H73 := cnd_f hb H71; clear H71
          refine c_seq ?_
          refine c_region ?_
          refine l_val rfl rfl rfl (r_move (v := (cutV 5 v2 (min t26 t29) a2.length)) rfl) ?_
          refine l_val rfl rfl rfl (r_move (v := (cutV 5 v0 (min t26 t29) a0.length)) rfl) ?_
          obtain ⟨t49, h_t49, H74⟩ := bnd_some H73; clear H73
          refine l_callG (fun w hF hS => k26 (know_all w) ((f2.cut h_t36).mono (hw.now hF)) ((f0.cut h_t39).mono (hw.now hF)) h_t49) Tryd.call26 rfl rfl rfl ?_
          refine l_val rfl rfl rfl (r_move (v := .bool t49) rfl) ?_
          refine split (fun hb => ?_) (fun hb => ?_)
          · have H75 := cnd_t hb H74; clear H74
            refine l_passed rfl rfl rfl ?_
            refine l_passed rfl rfl rfl ?_
            refine l_passed rfl rfl rfl ?_
            refine l_val rfl rfl rfl (r_pickT (v := .bool true) rfl rfl) ?_
            refine l_val rfl rfl rfl (r_assign (v := .bool true) rfl) ?_
            refine l_nil ?_
            refine c_true rfl ?_
            refine c_region ?_
            refine l_val rfl rfl rfl (r_move (v := v1) rfl) ?_
            refine l_val rfl rfl rfl (r_assign (v := v1) rfl) ?_
            refine l_nil ?_
            obtain ⟨p_4, hp_⟩ := (f1).form; subst hp_
            refine c_frz f1 ?_
            refine c_close (false, a1) p_4 0 [1] (by exact ⟨rfl, rfl, trivial⟩) (by decide) rfl (by exact ⟨H75, trivial⟩) (Nat.lt_succ_self _)
          · have H76 := cnd_f hb H74; clear H74
            refine l_val rfl rfl rfl (r_move (v := (cutV 5 v1 (min t26 t29) a1.length)) rfl) ?_
            refine l_val rfl rfl rfl (r_move (v := (cutV 5 v2 (min t26 t29) a2.length)) rfl) ?_
            obtain ⟨t53, h_t53, H77⟩ := bnd_some H76; clear H76
            refine l_callG (fun w hF hS => k26 (know_all w) ((f1.cut h_t33).mono (hw.now hF)) ((f2.cut h_t36).mono (hw.now hF)) h_t53) Tryd.call26 rfl rfl rfl ?_
            refine l_val rfl rfl rfl (r_pickF (v := .bool t53) rfl rfl) ?_
            refine l_val rfl rfl rfl (r_assign (v := .bool t53) rfl) ?_
            refine l_nil ?_
            refine c_if (b := t53) rfl (fun hb => ?_) (fun hb => ?_)
            · have H78 := cnd_t hb H77; clear H77
              refine c_region ?_
              refine l_val rfl rfl rfl (r_move (v := v1) rfl) ?_
              refine l_val rfl rfl rfl (r_assign (v := v1) rfl) ?_
              refine l_nil ?_
              obtain ⟨p_5, hp_⟩ := (f1).form; subst hp_
              refine c_frz f1 ?_
              refine c_close (false, a1) p_5 0 [1] (by exact ⟨rfl, rfl, trivial⟩) (by decide) rfl (by exact ⟨H78, trivial⟩) (Nat.lt_succ_self _)
            · have H79 := cnd_f hb H77; clear H77
              refine c_seq ?_
              refine c_region ?_
              refine l_val rfl rfl rfl (r_move (v := (cutV 5 v0 (min t26 t29) a0.length)) rfl) ?_
              refine l_val rfl rfl rfl (r_lenF Tryd.underlying22 rfl (f0.cut h_t39) rfl) ?_
              refine l_val rfl rfl rfl (r_eql rfl rfl) ?_
              refine l_val rfl rfl rfl (r_move (v := .bool (decide (((val (gCut a0 (min t26 t29) a0.length)).length : Int) = 0))) rfl) ?_
              refine split (fun hb => ?_) (fun hb => ?_)
              · have H80 := cnd_t hb H79; clear H79
                refine l_val rfl rfl rfl (r_move (v := (cutV 5 v1 (min t26 t29) a1.length)) rfl) ?_
                refine l_val rfl rfl rfl (r_move (v := (cutV 5 v2 (min t26 t29) a2.length)) rfl) ?_
                refine l_buildSlice (vs := [(cutV 5 v1 (min t26 t29) a1.length), (cutV 5 v2 (min t26 t29) a2.length)]) (cs := [(cutV 5 v1 (min t26 t29) a1.length), (cutV 5 v2 (min t26 t29) a2.length)]) Tryd.underlying48 Tryd.sizeOf22 Tryd.zeroValue22 rfl rfl rfl rfl (by simp only [List.all_cons, List.all_nil, cells_sz (f1.cut h_t33).cells, cells_sz (f2.cut h_t36).cells] <;> rfl) rfl (by simp only [List.flatMap_cons, List.flatMap_nil, (f1.cut h_t33).cells, (f2.cut h_t36).cells] <;> rfl) (fun b7 => ?_)
                obtain ⟨t64, h_t64, H81⟩ := bnd_some H80; clear H80
                refine l_make (makes_call (rds := [1]) (G := fun x : (Option Addr × Nat) => .slice x.1 t64.length x.2) (C := fun x : (Option Addr × Nat) => rowV 35 5 (.slice x.1 t64.length x.2) t64.length (t64.map e_edit_Step)) (fun w L' hF hS hi => k16 (know_all w) (frn_box (G := gs_edit_Step) (sz := 1) (xs := ([(val (gCut a1 (min t26 t29) a1.length)), (val (gCut a2 (min t26 t29) a2.length))] : List (List T_edit_Step))) (i := 1) hS ((hi 1 (by simp)).trans rfl) rfl rfl rfl ⟨((f1.cut h_t33).mono (hw.now hF)), ((f2.cut h_t36).mono (hw.now hF)), rfl⟩) h_t64) Tryd.call16 rfl) rfl rfl rfl (fun p_6 => ?_)
                obtain ⟨t65, h_t65, H82⟩ := bnd_some H81; clear H81
                refine l_callG (fun w hF hS => k33 (know_all w) (frs_own (i := 2) rfl hS rfl) (FnH.mk ⟨31, #[], #[], rfl, Tryd.call31, fun args2 post2 w2 hk2 hR2 => by obtain ⟨a0_, r_, rfl, H_, rfl⟩ := hR2; exact k31 H_ w2⟩) h_t65) Tryd.call33 rfl rfl rfl ?_
                refine l_val rfl rfl rfl (r_not rfl) ?_
                refine l_val rfl rfl rfl (r_pickT (v := .bool (!t65)) rfl rfl) ?_
                refine l_val rfl rfl rfl (r_assign (v := .bool (!t65)) rfl) ?_
                refine l_nil ?_
                refine c_if (b := (!t65)) rfl (fun hb => ?_) (fun hb => ?_)
                · have H83 := cnd_t hb H82; clear H82
                  refine c_region ?_
                  refine l_val rfl rfl rfl (r_move (v := v0) rfl) ?_
                  refine l_val rfl rfl rfl (r_move (v := .int .i64 (min t26 t29)) rfl) ?_
                  obtain ⟨t70, h_t70, H84⟩ := bnd_some H83; clear H83
                  refine l_val rfl rfl rfl (r_sliceHF Tryd.underlying22 Tryd.sizeOf35 rfl rfl f0 h_t70) ?_
                  refine l_val rfl rfl rfl (r_move (v := (cutV 5 v1 (min t26 t29) a1.length)) rfl) ?_
                  refine l_val rfl rfl rfl (r_move (v := (cutV 5 v2 (min t26 t29) a2.length)) rfl) ?_
                  refine l_buildSlice (vs := [(cutV 5 v0 0 (min t26 t29)), (cutV 5 v1 (min t26 t29) a1.length), (cutV 5 v2 (min t26 t29) a2.length)]) (cs := [(cutV 5 v0 0 (min t26 t29)), (cutV 5 v1 (min t26 t29) a1.length), (cutV 5 v2 (min t26 t29) a2.length)]) Tryd.underlying48 Tryd.sizeOf22 Tryd.zeroValue22 rfl rfl rfl rfl (by simp only [List.all_cons, List.all_nil, cells_sz (f0.cut h_t70).cells, cells_sz (f1.cut h_t33).cells, cells_sz (f2.cut h_t36).cells] <;> rfl) rfl (by simp only [List.flatMap_cons, List.flatMap_nil, (f0.cut h_t70).cells, (f1.cut h_t33).cells, (f2.cut h_t36).cells] <;> rfl) (fun b8 => ?_)
                  obtain ⟨t74, h_t74, H85⟩ := bnd_some H84; clear H84
                  refine l_make (makes_call (rds := [3]) (G := fun x : (Option Addr × Nat) => .slice x.1 t74.length x.2) (C := fun x : (Option Addr × Nat) => rowV 35 5 (.slice x.1 t74.length x.2) t74.length (t74.map e_edit_Step)) (fun w L' hF hS hi => k16 (know_all w) (frn_box (G := gs_edit_Step) (sz := 1) (xs := ([t70, (val (gCut a1 (min t26 t29) a1.length)), (val (gCut a2 (min t26 t29) a2.length))] : List (List T_edit_Step))) (i := 3) hS ((hi 3 (by simp)).trans rfl) rfl rfl rfl ⟨((f0.cut h_t70).mono (hw.now hF)), ((f1.cut h_t33).mono (hw.now hF)), ((f2.cut h_t36).mono (hw.now hF)), rfl⟩) h_t74) Tryd.call16 rfl) rfl rfl rfl (fun p_7 => ?_)
                  refine l_val rfl rfl rfl (r_assign (v := .slice p_7.1 t74.length p_7.2) rfl) ?_
                  refine l_nil ?_
                  refine c_imp 4 rfl (imp_rowH h _ _ _ _ _) ?_
                  refine c_close (false, t74) p_7 0 [4] (by exact ⟨rfl, rfl, trivial⟩) (by decide) rfl (by exact ⟨H85, trivial⟩) (Nat.lt_succ_self _)
                · have H86 := cnd_f hb H82; clear H82
                  refine c_region ?_
                  refine l_val rfl rfl rfl (r_move (v := v1) rfl) ?_
                  refine l_val rfl rfl rfl (r_assign (v := v1) rfl) ?_
                  refine l_val rfl rfl rfl (r_assign (v := .bool true) rfl) ?_
                  refine l_nil ?_
                  obtain ⟨p_8, hp_⟩ := (f1).form; subst hp_
                  refine c_frz f1 ?_
                  refine c_close (true, a1) p_8 0 [3] (by exact ⟨rfl, rfl, trivial⟩) (by decide) rfl (by exact ⟨H86, trivial⟩) (Nat.lt_succ_self _)
              · have H87 := cnd_f hb H79; clear H79
                refine l_passed rfl rfl rfl ?_
                refine l_passed rfl rfl rfl ?_
                refine l_passed rfl rfl rfl ?_
                refine l_passed rfl rfl rfl ?_
                refine l_passed rfl rfl rfl ?_
                refine l_passed rfl rfl rfl ?_
                refine l_val rfl rfl rfl (r_pickF (v := .bool false) rfl rfl) ?_
                refine l_val rfl rfl rfl (r_assign (v := .bool false) rfl) ?_
                refine l_nil ?_
                refine c_false rfl ?_
                refine c_region ?_
                refine l_val rfl rfl rfl (r_move (v := v1) rfl) ?_
                refine l_val rfl rfl rfl (r_assign (v := v1) rfl) ?_
                refine l_val rfl rfl rfl (r_assign (v := .bool true) rfl) ?_
                refine l_nil ?_
                obtain ⟨p_9, hp_⟩ := (f1).form; subst hp_
                refine c_frz f1 ?_
                refine c_close (true, a1) p_9 0 [1] (by exact ⟨rfl, rfl, trivial⟩) (by decide) rfl (by exact ⟨H87, trivial⟩) (Nat.lt_succ_self _)
      · rintro ⟨x15, l⟩ p gg H67 _
        replace H67 : edit_Merge_j1 x15 l = some r := H67
        refine c_tidyF [(14, .slice p.1 l.length p.2), (15, .bool x15)] [roH h 5 (.slice p.1 l.length p.2) l.length (l.map e_edit_Step)] rfl rfl ?_
        refine c_seq ?_
        refine c_seq ?_
        refine c_region ?_
        refine l_val rfl rfl rfl (r_move (v := .slice p.1 l.length p.2) rfl) ?_
        refine l_val rfl rfl rfl (r_len Tryd.underlying22 rfl) ?_
        refine l_val rfl rfl rfl (r_gtr rfl rfl) ?_
        refine l_nil ?_
        refine c_if (b := (decide (50 < (l.length : Int)))) rfl (fun hb => ?_) (fun hb => ?_)
        · have H68 := cnd_t hb H67; clear H67
          refine c_seq ?_
          refine c_region ?_
          refine l_val rfl rfl rfl (r_assign (v := .slice none 0 0) rfl) ?_
          refine l_val rfl rfl rfl (r_assign (v := .bool false) rfl) ?_
          refine l_val rfl rfl rfl (r_assign (v := .int .i64 4) rfl) ?_
          refine l_nil ?_
          refine c_ret ?_
          refine c_nilRow 35 5 ?_
          obtain rfl := Option.some.inj H68
          refine c_imp 1 rfl (row_ro _ _ _ _ _) ?_
          refine ret3 (v1 := .slice ((none, 0) : Option Addr × Nat).1 ([] : List T_edit_Step).length ((none, 0) : Option Addr × Nat).2) (v2 := .bool false) (v3 := .int .i64 4) rfl rfl rfl rfl (finX ((none, 0) : Option Addr × Nat) (i := 1) rfl rfl (Imp.refl _))
        · have H69 := cnd_f hb H67; clear H67
          refine c_skip ?_
          refine c_seq ?_
          refine c_region ?_
          refine l_val rfl rfl rfl (r_move (v := .slice p.1 l.length p.2) rfl) ?_
          obtain ⟨t79, h_t79, H70⟩ := bnd_some H69; clear H69
          refine l_make (makes_call (rds := [0]) (G := fun x : (Option Addr × Nat) => .slice x.1 t79.length x.2) (C := fun x : (Option Addr × Nat) => rowV 35 5 (.slice x.1 t79.length x.2) t79.length (t79.map e_edit_Step)) (fun w L' hF hS hi => k68 (know_all w) (frs_roh (i := 0) hS ((hi 0 (by simp)).trans rfl) (hw.now hF)) h_t79) Tryd.call68 rfl) rfl rfl rfl (fun p_2 => ?_)
          refine l_callG (fun w hF hS => k60 (capOf (i := 1) hS rfl) w) Tryd.call60 rfl rfl rfl ?_
          refine l_val rfl rfl rfl (r_move (v := .bool x15) rfl) ?_
          refine l_val rfl rfl rfl (r_assign (v := .slice (cutA p_2.1 0 t79.length 5) t79.length t79.length) rfl) ?_
          refine l_val rfl rfl rfl (r_assign (v := .bool x15) rfl) ?_
          refine l_val rfl rfl rfl (r_assign (v := .int .i64 0) rfl) ?_
          refine l_nil ?_
          refine c_ret ?_
          obtain rfl := Option.some.inj H70
          refine c_imp 1 rfl (imp_clipO _ _ _ _ _ _) ?_
          refine ret3 (v1 := .slice (cutA p_2.1 0 t79.length 5) t79.length t79.length) (v2 := .bool x15) (v3 := .int .i64 0) rfl rfl rfl rfl (finX (cutA p_2.1 0 t79.length 5, t79.length) (i := 1) rfl rfl (Imp.refl _))
      ) (by kernel_rfl)
theorem k72 {a0 : (List T_edit_Step)} {v0 : Value} {a1 : T_edit_Step} {r : Int} {w : World} {h : Heap} (hw : Know h w noS) (f0 : FrS h 5 v0 (a0.map e_edit_Step)) (H : slices_Index_edit_Step a0 a1 = some r) : Does Tryd.prog 72 (List.toArray [v0, .agg #[.int .i64 a1.Kind, .int .i64 a1.A, .int .i64 a1.B, .int .i64 a1.C, .int .i64 a1.D]]) w (fun v w' => v = (.int .i64 r) ∧ Grow w w') := by
  refine enter (n := 19) Tryd.func72 rfl rfl rfl noS [] (Sat.nil _ _) ?_
  refine c_seq ?_
  refine c_region ?_
  refine l_box (cs := [.int .i64 a1.Kind, .int .i64 a1.A, .int .i64 a1.B, .int .i64 a1.C, .int .i64 a1.D]) rfl rfl rfl rfl (fun b1 => ?_)
  refine l_val rfl rfl rfl (r_assign (v := .int .i64 0) rfl) ?_
  refine l_nil ?_
  refine c_seq ?_
  refine c_seq ?_
  refine c_region ?_
  refine l_val rfl rfl rfl (r_move (v := v0) rfl) ?_
  refine l_val rfl rfl rfl (r_lenF Tryd.underlying22 rfl f0 rfl) ?_
  refine l_val rfl rfl rfl (r_move (v := .int .i64 0) rfl) ?_
  refine l_nil ?_
  refine c_block ?_
  refine c_fix (σ := Int) (τ := Unit) (fun next1 s => slices_Index_edit_Step_l1 a0 a1 next1 s) (fun s t => [(0, v0), (3, .pointer (some ⟨b1, 0, none⟩)), (7, .int .i64 (a0.length : Int)), (8, .int .i64 s)]) (fun s t => [cellsC b1 [.int .i64 a1.Kind, .int .i64 a1.A, .int .i64 a1.B, .int .i64 a1.C, .int .i64 a1.D] 35]) (fun s t => True) 0 () [0] H (by exact trivial) (by exact ⟨rfl, rfl, rfl, rfl, trivial⟩) (by decide) rfl ?_
  rintro x8_2 _ m1 gg H8 _
  clear H
  replace H8 : slices_Index_edit_Step_l1 a0 a1 (it (fun next1 s => slices_Index_edit_Step_l1 a0 a1 next1 s) m1) x8_2 = some r := H8
  generalize hn1 : it (fun next1 s => slices_Index_edit_Step_l1 a0 a1 next1 s) m1 = next1 at H8
  refine c_tidyF [(0, v0), (3, .pointer (some ⟨b1, 0, none⟩)), (7, .int .i64 (a0.length : Int)), (8, .int .i64 x8_2)] [cellsC b1 [.int .i64 a1.Kind, .int .i64 a1.A, .int .i64 a1.B, .int .i64 a1.C, .int .i64 a1.D] 35] rfl rfl ?_
  refine c_seq ?_
  refine c_region ?_
  refine l_val rfl rfl rfl (r_lss rfl rfl) ?_
  refine l_nil ?_
  refine c_seq ?_
  refine c_if (b := (decide (x8_2 < (a0.length : Int)))) rfl (fun hb => ?_) (fun hb => ?_)
  · have H9 := cnd_t hb H8; clear H8
    refine c_skip ?_
    refine c_seq ?_
    refine c_block ?_
    refine c_seq ?_
    refine c_region ?_
    refine l_val rfl rfl rfl (r_move (v := .int .i64 x8_2) rfl) ?_
    refine l_val rfl rfl rfl (r_assign (v := .int .i64 x8_2) rfl) ?_
    refine l_nil ?_
    refine c_seq ?_
    exact c_regionD (Kd.d [0] _ :: Kd.p :: Kd.p :: Kd.p :: Kd.d [] _ :: Kd.p :: []) 0 mixed (by
      refine d_loadN (i := 0) (vs := [.int .i64 a1.Kind, .int .i64 a1.A, .int .i64 a1.B, .int .i64 a1.C, .int .i64 a1.D]) Tryd.isAgg35 Tryd.sizeOf35 rfl rfl rfl rfl ?_
      refine d_val rfl rfl (r_move (v := v0) rfl) ?_
      refine d_val rfl rfl (r_move (v := .int .i64 x8_2) rfl) ?_
      have h_t14 := bnd_val H9
      have H10 := bnd_rest H9
      refine d_val rfl rfl (r_indexF Tryd.underlying22 Tryd.sizeOf35 rfl rfl f0 h_t14) ?_
      refine d_read (fun w hF => run_loadGN (f := e_edit_Step) (i := x8_2) (sz := 5) (j := 0) (vs := [.int .i64 (val (gAt a0 x8_2)).Kind, .int .i64 (val (gAt a0 x8_2)).A, .int .i64 (val (gAt a0 x8_2)).B, .int .i64 (val (gAt a0 x8_2)).C, .int .i64 (val (gAt a0 x8_2)).D]) Tryd.isAgg35 Tryd.sizeOf35 rfl rfl (f0.row (hw.now hF)) h_t14 rfl) rfl rfl ?_
      refine d_val rfl rfl (r_eqlA (xs := #[.int .i64 a1.Kind, .int .i64 a1.A, .int .i64 a1.B, .int .i64 a1.C, .int .i64 a1.D]) (ys := #[.int .i64 (val (gAt a0 x8_2)).Kind, .int .i64 (val (gAt a0 x8_2)).A, .int .i64 (val (gAt a0 x8_2)).B, .int .i64 (val (gAt a0 x8_2)).C, .int .i64 (val (gAt a0 x8_2)).D]) Tryd.eqGuardType35 (fun w => run_eq_edit_Step w a1 (val (gAt a0 x8_2))) rfl rfl) ?_
      refine d_nil ?_
      refine c_if (b := (eq_edit_Step a1 (val (gAt a0 x8_2)))) rfl (fun hb => ?_) (fun hb => ?_)
      · have H11 := cnd_t hb H10; clear H10
        refine c_seq ?_
        refine c_region ?_
        refine l_val rfl rfl rfl (r_move (v := .int .i64 x8_2) rfl) ?_
        refine l_val rfl rfl rfl (r_assign (v := .int .i64 x8_2) rfl) ?_
        refine l_nil ?_
        refine c_ret ?_
        obtain rfl := Option.some.inj H11
        refine ret1 (v := .int .i64 x8_2) rfl rfl (fin rfl)
      · have H12 := cnd_f hb H10; clear H10
        refine c_skip ?_
        refine c_region ?_
        obtain ⟨t18, h_t18, H13⟩ := bnd_some H12; clear H12
        refine l_val rfl rfl rfl (r_addG rfl rfl h_t18) ?_
        refine l_val rfl rfl rfl (r_move (v := .int .i64 t18) rfl) ?_
        refine l_nil ?_
        refine c_close t18 () m1 [0] (by exact ⟨rfl, rfl, rfl, rfl, trivial⟩) (by decide) rfl (by exact ⟨(by subst hn1; exact H13), trivial⟩) (Nat.lt_succ_self _)
      ) (by kernel_rfl)
  · have H14 := cnd_f hb H8; clear H8
    refine c_exit ?_
    refine c_seq ?_
    refine c_region ?_
    refine l_val rfl rfl rfl (r_assign (v := .int .i64 (-1)) rfl) ?_
    refine l_nil ?_
    refine c_ret ?_
    obtain rfl := Option.some.inj H14
    refine ret1 (v := .int .i64 (-1)) rfl rfl (fin rfl)
theorem k27 {a0 : (List T_edit_Step)} {v0 : Value} {a1 : T_edit_Step} {r : Bool} {w : World} {h : Heap} (hw : Know h w noS) (f0 : FrS h 5 v0 (a0.map e_edit_Step)) (H : slices_Contains_edit_Step a0 a1 = some r) : Does Tryd.prog 27 (List.toArray [v0, .agg #[.int .i64 a1.Kind, .int .i64 a1.A, .int .i64 a1.B, .int .i64 a1.C, .int .i64 a1.D]]) w (fun v w' => v = (.bool r) ∧ Grow w w') := by
  refine enter (n := 9) Tryd.func27 rfl rfl rfl noS [] (Sat.nil _ _) ?_
  refine c_seq ?_
  refine c_region ?_
  refine l_box (cs := [.int .i64 a1.Kind, .int .i64 a1.A, .int .i64 a1.B, .int .i64 a1.C, .int .i64 a1.D]) rfl rfl rfl rfl (fun b1 => ?_)
  refine l_val rfl rfl rfl (r_assign (v := .bool false) rfl) ?_
  refine l_nil ?_
  refine c_seq ?_
  refine c_region ?_
  refine l_val rfl rfl rfl (r_move (v := v0) rfl) ?_
  refine l_loadN (i := 0) (vs := [.int .i64 a1.Kind, .int .i64 a1.A, .int .i64 a1.B, .int .i64 a1.C, .int .i64 a1.D]) Tryd.isAgg35 Tryd.sizeOf35 rfl rfl rfl rfl rfl ?_
  obtain ⟨t7, h_t7, H2⟩ := bnd_some H; clear H
  refine l_callG (fun w hF hS => k72 (know_all w) (f0.mono (hw.now hF)) h_t7) Tryd.call72 rfl rfl rfl ?_
  refine l_val rfl rfl rfl (r_geq rfl rfl) ?_
  refine l_val rfl rfl rfl (r_assign (v := .bool (decide (0 ≤ t7))) rfl) ?_
  refine l_nil ?_
  refine c_ret ?_
  obtain rfl := Option.some.inj H2
  refine ret1 (v := .bool (decide (0 ≤ t7))) rfl rfl (fin rfl)
theorem k4 {a0 : (List T_edit_Step)} {v0 : Value} {a1 : (List T_edit_Step)} {v1 : Value} {a2 : (List T_edit_Step)} {v2 : Value} {r : Bool} {w : World} {h : Heap} (hw : Know h w noS) (f0 : FrS h 5 v0 (a0.map e_edit_Step)) (f1 : FrS h 5 v1 (a1.map e_edit_Step)) (f2 : FrS h 5 v2 (a2.map e_edit_Step)) (H : Keep_EditMerges a0 a1 a2 = some r) : Does Tryd.prog 4 (List.toArray [v0, v1, v2]) w (fun v w' => v = (.bool r) ∧ Grow w w') := by
  refine enter (n := 107) Tryd.func4 rfl rfl rfl noS [] (Sat.nil _ _) ?_
  refine c_seq ?_
  refine c_region ?_
  refine l_val rfl rfl rfl (r_assign (v := .bool false) rfl) ?_
  refine l_nil ?_
  refine c_seq ?_
  refine c_seq ?_
  refine c_region ?_
  obtain ⟨t21, h_t21, H46⟩ := bnd_some H; clear H
  refine l_call (k25 h_t21) Tryd.call25 rfl rfl rfl ?_
  refine l_val rfl rfl rfl (r_not rfl) ?_
  refine l_nil ?_
  refine c_if (b := (!t21)) rfl (fun hb => ?_) (fun hb => ?_)
  · have H47 := cnd_t hb H46; clear H46
    refine c_seq ?_
    refine c_region ?_
    refine l_val rfl rfl rfl (r_assign (v := .bool false) rfl) ?_
    refine l_nil ?_
    refine c_ret ?_
    obtain rfl := Option.some.inj H47
    refine ret1 (v := .bool false) rfl rfl (fin rfl)
  · have H48 := cnd_f hb H46; clear H46
    refine c_skip ?_
    refine c_seq ?_
    refine c_region ?_
    refine l_val rfl rfl rfl (r_move (v := v0) rfl) ?_
    refine l_val rfl rfl rfl (r_move (v := v1) rfl) ?_
    refine l_val rfl rfl rfl (r_move (v := v2) rfl) ?_
    obtain ⟨t27, h_t27, H49⟩ := bnd_some H48; clear H48
    refine l_make (makes_call (rds := []) (G := fun x : (Option Addr × Nat) => .tuple #[.slice x.1 t27.1.length x.2, .bool t27.2.1, .int .i64 t27.2.2]) (C := fun x : (Option Addr × Nat) => roV 5 (.slice x.1 t27.1.length x.2) t27.1.length (t27.1.map e_edit_Step)) (fun w L' hF hS hi => k23 (know_all w) (f0.mono (hw.now hF)) (f1.mono (hw.now hF)) (f2.mono (hw.now hF)) h_t27) Tryd.call23 rfl) rfl rfl rfl (fun p => ?_)
    refine l_val rfl rfl rfl (r_move (v := .tuple #[.slice p.1 t27.1.length p.2, .bool t27.2.1, .int .i64 t27.2.2]) rfl) ?_
    refine l_val rfl rfl rfl (r_extract (v := .slice p.1 t27.1.length p.2) rfl rfl) ?_
    refine l_val rfl rfl rfl (r_extract (v := .bool t27.2.1) rfl rfl) ?_
    refine l_val rfl rfl rfl (r_extract (v := .int .i64 t27.2.2) rfl rfl) ?_
    refine l_val rfl rfl rfl (r_assign (v := .slice p.1 t27.1.length p.2) rfl) ?_
    refine l_val rfl rfl rfl (r_assign (v := .bool t27.2.1) rfl) ?_
    refine l_val rfl rfl rfl (r_assign (v := .int .i64 t27.2.2) rfl) ?_
    refine l_nil ?_
    refine c_seq ?_
    refine c_seq ?_
    refine c_region ?_
    refine l_val rfl rfl rfl (r_move (v := .int .i64 t27.2.2) rfl) ?_
    refine l_val rfl rfl rfl (r_neq rfl rfl) ?_
    refine l_nil ?_
    refine c_if (b := (decide (t27.2.2 ≠ 0))) rfl (fun hb => ?_) (fun hb => ?_)
    · have H50 := cnd_t hb H49; clear H49
      refine c_seq ?_
      refine c_region ?_
      refine l_val rfl rfl rfl (r_assign (v := .bool true) rfl) ?_
      refine l_nil ?_
      refine c_ret ?_
      obtain rfl := Option.some.inj H50
      refine ret1 (v := .bool true) rfl rfl (fin rfl)
    · have H51 := cnd_f hb H49; clear H49
      refine c_skip ?_
      refine c_seq ?_
      refine c_seq ?_
      refine c_region ?_
      refine l_val rfl rfl rfl (r_move (v := v0) rfl) ?_
      refine l_val rfl rfl rfl (r_move (v := v1) rfl) ?_
      refine l_val rfl rfl rfl (r_move (v := v0) rfl) ?_
      obtain ⟨t37, h_t37, H52⟩ := bnd_some H51; clear H51
      refine l_make (makes_call (rds := []) (G := fun x : (Option Addr × Nat) => .tuple #[.slice x.1 t37.1.length x.2, .bool t37.2.1, .int .i64 t37.2.2]) (C := fun x : (Option Addr × Nat) => roV 5 (.slice x.1 t37.1.length x.2) t37.1.length (t37.1.map e_edit_Step)) (fun w L' hF hS hi => k23 (know_all w) (f0.mono (hw.now hF)) (f1.mono (hw.now hF)) (f0.mono (hw.now hF)) h_t37) Tryd.call23 rfl) rfl rfl rfl (fun p_2 => ?_)
      refine l_val rfl rfl rfl (r_move (v := .tuple #[.slice p_2.1 t37.1.length p_2.2, .bool t37.2.1, .int .i64 t37.2.2]) rfl) ?_
      refine l_val rfl rfl rfl (r_extract (v := .slice p_2.1 t37.1.length p_2.2) rfl rfl) ?_
      refine l_val rfl rfl rfl (r_extract (v := .bool t37.2.1) rfl rfl) ?_
      refine l_val rfl rfl rfl (r_extract (v := .int .i64 t37.2.2) rfl rfl) ?_
      refine l_val rfl rfl rfl (r_assign (v := .slice p_2.1 t37.1.length p_2.2) rfl) ?_
      refine l_val rfl rfl rfl (r_assign (v := .bool t37.2.1) rfl) ?_
      refine l_val rfl rfl rfl (r_assign (v := .int .i64 t37.2.2) rfl) ?_
      refine l_nil ?_
      refine c_seq ?_
      refine c_region ?_
      refine l_val rfl rfl rfl (r_move (v := .int .i64 t37.2.2) rfl) ?_
      refine l_val rfl rfl rfl (r_neq rfl rfl) ?_
      refine l_val rfl rfl rfl (r_move (v := .bool (decide (t37.2.2 ≠ 0))) rfl) ?_
      refine split (fun hb => ?_) (fun hb => ?_)
      · have H53 := cnd_t hb H52; clear H52
        refine l_passed rfl rfl rfl ?_
        refine l_val rfl rfl rfl (r_pickT (v := .bool true) rfl rfl) ?_
        refine l_val rfl rfl rfl (r_move (v := .bool true) rfl) ?_
        refine l_passed rfl rfl rfl ?_
        refine l_passed rfl rfl rfl ?_
        refine l_passed rfl rfl rfl ?_
        refine l_passed rfl rfl rfl ?_
        refine l_val rfl rfl rfl (r_pickT (v := .bool true) rfl rfl) ?_
        refine l_nil ?_
        refine c_true rfl ?_
        refine c_seq ?_
        refine c_region ?_
        refine l_val rfl rfl rfl (r_assign (v := .bool false) rfl) ?_
        refine l_nil ?_
        refine c_ret ?_
        obtain rfl := Option.some.inj H53
        refine ret1 (v := .bool false) rfl rfl (fin rfl)
      · have H54 := cnd_f hb H52; clear H52
        refine l_val rfl rfl rfl (r_move (v := .bool t37.2.1) rfl) ?_
        refine l_val rfl rfl rfl (r_pickF (v := .bool t37.2.1) rfl rfl) ?_
        refine l_val rfl rfl rfl (r_move (v := .bool t37.2.1) rfl) ?_
        refine split (fun hb => ?_) (fun hb => ?_)
        · have H55 := cnd_t hb H54; clear H54
          refine l_passed rfl rfl rfl ?_
          refine l_passed rfl rfl rfl ?_
          refine l_passed rfl rfl rfl ?_
          refine l_passed rfl rfl rfl ?_
          refine l_val rfl rfl rfl (r_pickT (v := .bool true) rfl rfl) ?_
          refine l_nil ?_
          refine c_true rfl ?_
          refine c_seq ?_
          refine c_region ?_
          refine l_val rfl rfl rfl (r_assign (v := .bool false) rfl) ?_
          refine l_nil ?_
          refine c_ret ?_
          obtain rfl := Option.some.inj H55
          refine ret1 (v := .bool false) rfl rfl (fin rfl)
        · have H56 := cnd_f hb H54; clear H54
          refine l_val rfl rfl rfl (r_move (v := .slice p_2.1 t37.1.length p_2.2) rfl) ?_
          refine l_val rfl rfl rfl (r_move (v := v1) rfl) ?_
          obtain ⟨t49, h_t49, H57⟩ := bnd_some H56; clear H56
          refine l_callG (fun w hF hS => k26 (know_all w) (frs_rd (i := 1) hS rfl) (f1.mono (hw.now hF)) h_t49) Tryd.call26 rfl rfl rfl ?_
          refine l_val rfl rfl rfl (r_not rfl) ?_
          refine l_val rfl rfl rfl (r_pickF (v := .bool (!t49)) rfl rfl) ?_
          refine l_nil ?_
          refine c_if (b := (!t49)) rfl (fun hb => ?_) (fun hb => ?_)
          · have H58 := cnd_t hb H57; clear H57
            refine c_seq ?_
            refine c_region ?_
            refine l_val rfl rfl rfl (r_assign (v := .bool false) rfl) ?_
            refine l_nil ?_
            refine c_ret ?_
            obtain rfl := Option.some.inj H58
            refine ret1 (v := .bool false) rfl rfl (fin rfl)
          · have H59 := cnd_f hb H57; clear H57
            refine c_skip ?_
            refine c_seq ?_
            refine c_seq ?_
            refine c_region ?_
            refine l_val rfl rfl rfl (r_move (v := v0) rfl) ?_
            refine l_val rfl rfl rfl (r_move (v := v0) rfl) ?_
            refine l_val rfl rfl rfl (r_move (v := v2) rfl) ?_
            obtain ⟨t56, h_t56, H60⟩ := bnd_some H59; clear H59
            refine l_make (makes_call (rds := []) (G := fun x : (Option Addr × Nat) => .tuple #[.slice x.1 t56.1.length x.2, .bool t56.2.1, .int .i64 t56.2.2]) (C := fun x : (Option Addr × Nat) => roV 5 (.slice x.1 t56.1.length x.2) t56.1.length (t56.1.map e_edit_Step)) (fun w L' hF hS hi => k23 (know_all w) (f0.mono (hw.now hF)) (f0.mono (hw.now hF)) (f2.mono (hw.now hF)) h_t56) Tryd.call23 rfl) rfl rfl rfl (fun p_3 => ?_)
            refine l_val rfl rfl rfl (r_move (v := .tuple #[.slice p_3.1 t56.1.length p_3.2, .bool t56.2.1, .int .i64 t56.2.2]) rfl) ?_
            refine l_val rfl rfl rfl (r_extract (v := .slice p_3.1 t56.1.length p_3.2) rfl rfl) ?_
            refine l_val rfl rfl rfl (r_extract (v := .bool t56.2.1) rfl rfl) ?_
            refine l_val rfl rfl rfl (r_extract (v := .int .i64 t56.2.2) rfl rfl) ?_
            refine l_val rfl rfl rfl (r_assign (v := .slice p_3.1 t56.1.length p_3.2) rfl) ?_
            refine l_val rfl rfl rfl (r_assign (v := .bool t56.2.1) rfl) ?_
            refine l_val rfl rfl rfl (r_assign (v := .int .i64 t56.2.2) rfl) ?_
            refine l_nil ?_
            refine c_seq ?_
            refine c_region ?_
            refine l_val rfl rfl rfl (r_move (v := .int .i64 t56.2.2) rfl) ?_
            refine l_val rfl rfl rfl (r_neq rfl rfl) ?_
            refine l_val rfl rfl rfl (r_move (v := .bool (decide (t56.2.2 ≠ 0))) rfl) ?_
            refine split (fun hb => ?_) (fun hb => ?_)
            · have H61 := cnd_t hb H60; clear H60
              refine l_passed rfl rfl rfl ?_
              refine l_val rfl rfl rfl (r_pickT (v := .bool true) rfl rfl) ?_
              refine l_val rfl rfl rfl (r_move (v := .bool true) rfl) ?_
              refine l_passed rfl rfl rfl ?_
              refine l_passed rfl rfl rfl ?_
              refine l_passed rfl rfl rfl ?_
              refine l_passed rfl rfl rfl ?_
              refine l_val rfl rfl rfl (r_pickT (v := .bool true) rfl rfl) ?_
              refine l_nil ?_
              refine c_true rfl ?_
              refine c_seq ?_
              refine c_region ?_
              refine l_val rfl rfl rfl (r_assign (v := .bool false) rfl) ?_
              refine l_nil ?_
              refine c_ret ?_
              obtain rfl := Option.some.inj H61
              refine ret1 (v := .bool false) rfl rfl (fin rfl)
            · have H62 := cnd_f hb H60; clear H60
              refine l_val rfl rfl rfl (r_move (v := .bool t56.2.1) rfl) ?_
              refine l_val rfl rfl rfl (r_pickF (v := .bool t56.2.1) rfl rfl) ?_
              refine l_val rfl rfl rfl (r_move (v := .bool t56.2.1) rfl) ?_
              refine split (fun hb => ?_) (fun hb => ?_)
              · have H63 := cnd_t hb H62; clear H62
                refine l_passed rfl rfl rfl ?_
                refine l_passed rfl rfl rfl ?_
                refine l_passed rfl rfl rfl ?_
                refine l_passed rfl rfl rfl ?_
                refine l_val rfl rfl rfl (r_pickT (v := .bool true) rfl rfl) ?_
                refine l_nil ?_
                refine c_true rfl ?_
                refine c_seq ?_
                refine c_region ?_
                refine l_val rfl rfl rfl (r_assign (v := .bool false) rfl) ?_
                refine l_nil ?_
                refine c_ret ?_
                obtain rfl := Option.some.inj H63
                refine ret1 (v := .bool false) rfl rfl (fin rfl)
              · have H64 := cnd_f hb H62; clear H62
                refine l_val rfl rfl rfl (r_move (v := .slice p_3.1 t56.1.length p_3.2) rfl) ?_
                refine l_val rfl rfl rfl (r_move (v := v2) rfl) ?_
                obtain ⟨t68, h_t68, H65⟩ := bnd_some H64; clear H64
                refine l_callG (fun w hF hS => k26 (know_all w) (frs_rd (i := 2) hS rfl) (f2.mono (hw.now hF)) h_t68) Tryd.call26 rfl rfl rfl ?_
                refine l_val rfl rfl rfl (r_not rfl) ?_
                refine l_val rfl rfl rfl (r_pickF (v := .bool (!t68)) rfl rfl) ?_
                refine l_nil ?_
                refine c_if (b := (!t68)) rfl (fun hb => ?_) (fun hb => ?_)
                · have H66 := cnd_t hb H65; clear H65
                  refine c_seq ?_
                  refine c_region ?_
                  refine l_val rfl rfl rfl (r_assign (v := .bool false) rfl) ?_
                  refine l_nil ?_
                  refine c_ret ?_
                  obtain rfl := Option.some.inj H66
                  refine ret1 (v := .bool false) rfl rfl (fin rfl)
                · have H67 := cnd_f hb H65; clear H65
                  refine c_skip ?_
                  refine c_meet (r := r) (σ := Unit) (τ := Unit) (fun s => Keep_EditMerges_j1 a1 t27) (fun s t => [(1, v1), (7, .slice p.1 t27.1.length p.2), (8, .bool t27.2.1)]) (fun s t => [roV 5 (.slice p.1 t27.1.length p.2) t27.1.length (t27.1.map e_edit_Step)]) (fun s t => True) ?_ ?_
                  · refine c_seq ?_
                    refine c_region ?_
                    refine l_val rfl rfl rfl (r_move (v := v1) rfl) ?_
                    refine l_val rfl rfl rfl (r_move (v := v2) rfl) ?_
                    refine l_buildSlice (vs := [v1, v2]) (cs := [v1, v2]) Tryd.underlying48 Tryd.sizeOf22 Tryd.zeroValue22 rfl rfl rfl rfl (by simp only [List.all_cons, List.all_nil, cells_sz f1.cells, cells_sz f2.cells] <;> rfl) rfl (by simp only [List.flatMap_cons, List.flatMap_nil, f1.cells, f2.cells] <;> rfl) (fun b2 => ?_)
                    refine l_val rfl rfl rfl (r_len Tryd.underlying48 rfl) ?_
                    refine l_val rfl rfl rfl (r_move (v := .int .i64 0) rfl) ?_
                    refine l_nil ?_
                    refine c_block ?_
                    refine c_sel [0, 3] [roV 5 (.slice p.1 t27.1.length p.2) t27.1.length (t27.1.map e_edit_Step), cellsC b2 [v1, v2] 22] rfl (by decide) ?_
                    refine c_fix (σ := Int) (τ := Unit) (fun next2 s => Keep_EditMerges_l2 a0 a1 a2 t27 next2 s) (fun s t => [(0, v0), (1, v1), (7, .slice p.1 t27.1.length p.2), (8, .bool t27.2.1), (73, .slice (some ⟨b2, 0, none⟩) 2 2), (74, .int .i64 2), (75, .int .i64 s)]) (fun s t => [roV 5 (.slice p.1 t27.1.length p.2) t27.1.length (t27.1.map e_edit_Step), cellsC b2 [v1, v2] 22]) (fun s t => True) 0 () [0, 1] H67 (by exact trivial) (by exact ⟨rfl, rfl, rfl, rfl, rfl, rfl, rfl, trivial⟩) (by decide) rfl ?_
                    rintro x75_2 _ m2 gg H72 _
                    clear H67
                    replace H72 : Keep_EditMerges_l2 a0 a1 a2 t27 (it (fun next2 s => Keep_EditMerges_l2 a0 a1 a2 t27 next2 s) m2) x75_2 = some r := H72
                    generalize hn2 : it (fun next2 s => Keep_EditMerges_l2 a0 a1 a2 t27 next2 s) m2 = next2 at H72
                    refine c_tidyF [(0, v0), (1, v1), (7, .slice p.1 t27.1.length p.2), (8, .bool t27.2.1), (73, .slice (some ⟨b2, 0, none⟩) 2 2), (74, .int .i64 2), (75, .int .i64 x75_2)] [roV 5 (.slice p.1 t27.1.length p.2) t27.1.length (t27.1.map e_edit_Step), cellsC b2 [v1, v2] 22] rfl rfl ?_
                    refine c_seq ?_
                    refine c_region ?_
                    refine l_val rfl rfl rfl (r_lss rfl rfl) ?_
                    refine l_nil ?_
                    refine c_seq ?_
                    refine c_if (b := (decide (x75_2 < 2))) rfl (fun hb => ?_) (fun hb => ?_)
                    · have H73 := cnd_t hb H72; clear H72
                      refine c_skip ?_
                      refine c_meet (r := r) (σ := Unit) (τ := Unit) (fun s => Keep_EditMerges_j3 x75_2 next2) (fun s t => [(0, v0), (1, v1), (7, .slice p.1 t27.1.length p.2), (8, .bool t27.2.1), (73, .slice (some ⟨b2, 0, none⟩) 2 2), (74, .int .i64 2), (75, .int .i64 x75_2)]) (fun s t => [roV 5 (.slice p.1 t27.1.length p.2) t27.1.length (t27.1.map e_edit_Step), cellsC b2 [v1, v2] 22]) (fun s t => True) ?_ ?_
                      · refine c_block ?_
                        refine c_seq ?_
                        refine c_region ?_
                        obtain ⟨t77, h_t77, H76⟩ := bnd_some H73; clear H73
                        refine l_val rfl rfl rfl (r_indexS Tryd.underlying48 Tryd.sizeOf22 rfl rfl h_t77 rfl) ?_
                        refine l_read (fun w hF hS => run_loadG1 (f := (litC [v1, v2] 1)) (i := x75_2) (sz := 1) (j := 0) (v := (List.getD (List.take 1 (List.drop ((Int.toNat x75_2) * 1) [v1, v2])) 0 undef)) Tryd.isAgg22 rfl rfl (row_box (sz := 1) (xs := (List.range 2).map (litC [v1, v2] 1)) (i := 1) hS rfl rfl rfl) (gAt_range h_t77) (rg_of (cgs_edit_Step (AllG.el (G := gs_edit_Step) (h := h) (sz := 1) (cs := [v1, v2]) (xs := ([a1, a2] : List (List T_edit_Step))) ⟨f1, f2, rfl⟩ _ _ (gAt_some h_t77).2.2)) rfl)) rfl rfl rfl ?_
                        refine l_val rfl rfl rfl (r_assign (v := (List.getD (List.take 1 (List.drop ((Int.toNat x75_2) * 1) [v1, v2])) 0 undef)) rfl) ?_
                        refine l_nil ?_
                        refine c_seq ?_
                        refine c_region ?_
                        refine l_val rfl rfl rfl (r_move (v := (List.getD (List.take 1 (List.drop ((Int.toNat x75_2) * 1) [v1, v2])) 0 undef)) rfl) ?_
                        refine l_val rfl rfl rfl (r_move (v := v0) rfl) ?_
                        obtain ⟨t81, h_t81, H77⟩ := bnd_some H76; clear H76
                        refine l_callG (fun w hF hS => k19 (know_all w) ((show FrS h 5 (List.getD (List.take 1 (List.drop ((Int.toNat x75_2) * 1) [v1, v2])) 0 undef) (t77.map e_edit_Step) from (AllG.el (G := gs_edit_Step) (h := h) (sz := 1) (cs := [v1, v2]) (xs := ([a1, a2] : List (List T_edit_Step))) ⟨f1, f2, rfl⟩ _ _ (gAt_some h_t77).2.2)).mono (hw.now hF)) (f0.mono (hw.now hF)) h_t81) Tryd.call19 rfl rfl rfl ?_
                        refine l_val rfl rfl rfl (r_assign (v := .int .i64 t81) rfl) ?_
                        refine l_nil ?_
                        refine c_seq ?_
                        refine c_region ?_
                        refine l_val rfl rfl rfl (r_move (v := (List.getD (List.take 1 (List.drop ((Int.toNat x75_2) * 1) [v1, v2])) 0 undef)) rfl) ?_
                        refine l_val rfl rfl rfl (r_move (v := .int .i64 t81) rfl) ?_
                        obtain ⟨t84, h_t84, H78⟩ := bnd_some H77; clear H77
                        refine l_val rfl rfl rfl (r_sliceLF Tryd.underlying22 Tryd.sizeOf35 rfl rfl (show FrS h 5 (List.getD (List.take 1 (List.drop ((Int.toNat x75_2) * 1) [v1, v2])) 0 undef) (t77.map e_edit_Step) from (AllG.el (G := gs_edit_Step) (h := h) (sz := 1) (cs := [v1, v2]) (xs := ([a1, a2] : List (List T_edit_Step))) ⟨f1, f2, rfl⟩ _ _ (gAt_some h_t77).2.2)) h_t84) ?_
                        refine l_val rfl rfl rfl (r_lenF Tryd.underlying22 rfl ((show FrS h 5 (List.getD (List.take 1 (List.drop ((Int.toNat x75_2) * 1) [v1, v2])) 0 undef) (t77.map e_edit_Step) from (AllG.el (G := gs_edit_Step) (h := h) (sz := 1) (cs := [v1, v2]) (xs := ([a1, a2] : List (List T_edit_Step))) ⟨f1, f2, rfl⟩ _ _ (gAt_some h_t77).2.2)).cut h_t84) rfl) ?_
                        refine l_val rfl rfl rfl (r_move (v := .int .i64 0) rfl) ?_
                        refine l_nil ?_
                        refine c_block ?_
                        refine c_fix (σ := Int) (τ := Unit) (fun next4 s => Keep_EditMerges_l4 t27 x75_2 next2 t84 next4 s) (fun s t => [(0, v0), (1, v1), (7, .slice p.1 t27.1.length p.2), (8, .bool t27.2.1), (73, .slice (some ⟨b2, 0, none⟩) 2 2), (74, .int .i64 2), (75, .int .i64 x75_2), (84, (cutV 5 (List.getD (List.take 1 (List.drop ((Int.toNat x75_2) * 1) [v1, v2])) 0 undef) t81 t77.length)), (85, .int .i64 (t84.length : Int)), (86, .int .i64 s)]) (fun s t => [roV 5 (.slice p.1 t27.1.length p.2) t27.1.length (t27.1.map e_edit_Step), cellsC b2 [v1, v2] 22]) (fun s t => True) 0 () [0, 1] H78 (by exact trivial) (by exact ⟨rfl, rfl, rfl, rfl, rfl, rfl, rfl, rfl, rfl, rfl, trivial⟩) (by decide) rfl ?_
                        rintro x86_2 _ m4 gg H79 _
                        clear H78
                        replace H79 : Keep_EditMerges_l4 t27 x75_2 next2 t84 (it (fun next4 s => Keep_EditMerges_l4 t27 x75_2 next2 t84 next4 s) m4) x86_2 = some r := H79
                        generalize hn4 : it (fun next4 s => Keep_EditMerges_l4 t27 x75_2 next2 t84 next4 s) m4 = next4 at H79
                        refine c_tidyF [(0, v0), (1, v1), (7, .slice p.1 t27.1.length p.2), (8, .bool t27.2.1), (73, .slice (some ⟨b2, 0, none⟩) 2 2), (74, .int .i64 2), (75, .int .i64 x75_2), (84, (cutV 5 (List.getD (List.take 1 (List.drop ((Int.toNat x75_2) * 1) [v1, v2])) 0 undef) t81 t77.length)), (85, .int .i64 (t84.length : Int)), (86, .int .i64 x86_2)] [roV 5 (.slice p.1 t27.1.length p.2) t27.1.length (t27.1.map e_edit_Step), cellsC b2 [v1, v2] 22] rfl rfl ?_
                        refine c_seq ?_
                        refine c_region ?_
                        refine l_val rfl rfl rfl (r_lss rfl rfl) ?_
                        refine l_nil ?_
                        refine c_seq ?_
                        refine c_if (b := (decide (x86_2 < (t84.length : Int)))) rfl (fun hb => ?_) (fun hb => ?_)
                        · have H80 := cnd_t hb H79; clear H79
                          refine c_skip ?_
                          refine c_meet (r := r) (σ := Unit) (τ := Unit) (fun s => Keep_EditMerges_j5 x86_2 next4) (fun s t => [(0, v0), (1, v1), (7, .slice p.1 t27.1.length p.2), (8, .bool t27.2.1), (73, .slice (some ⟨b2, 0, none⟩) 2 2), (74, .int .i64 2), (75, .int .i64 x75_2), (84, (cutV 5 (List.getD (List.take 1 (List.drop ((Int.toNat x75_2) * 1) [v1, v2])) 0 undef) t81 t77.length)), (85, .int .i64 (t84.length : Int)), (86, .int .i64 x86_2)]) (fun s t => [roV 5 (.slice p.1 t27.1.length p.2) t27.1.length (t27.1.map e_edit_Step), cellsC b2 [v1, v2] 22]) (fun s t => True) ?_ ?_
                          · refine c_block ?_
                            refine c_seq ?_
                            refine c_region ?_
                            obtain ⟨t88, h_t88, H83⟩ := bnd_some H80; clear H80
                            refine l_val rfl rfl rfl (r_indexF Tryd.underlying22 Tryd.sizeOf35 rfl rfl ((show FrS h 5 (List.getD (List.take 1 (List.drop ((Int.toNat x75_2) * 1) [v1, v2])) 0 undef) (t77.map e_edit_Step) from (AllG.el (G := gs_edit_Step) (h := h) (sz := 1) (cs := [v1, v2]) (xs := ([a1, a2] : List (List T_edit_Step))) ⟨f1, f2, rfl⟩ _ _ (gAt_some h_t77).2.2)).cut h_t84) h_t88) ?_
                            refine l_read (fun w hF hS => run_loadGN (f := e_edit_Step) (i := x86_2) (sz := 5) (j := 0) (vs := [.int .i64 t88.Kind, .int .i64 t88.A, .int .i64 t88.B, .int .i64 t88.C, .int .i64 t88.D]) Tryd.isAgg35 Tryd.sizeOf35 rfl rfl (((show FrS h 5 (List.getD (List.take 1 (List.drop ((Int.toNat x75_2) * 1) [v1, v2])) 0 undef) (t77.map e_edit_Step) from (AllG.el (G := gs_edit_Step) (h := h) (sz := 1) (cs := [v1, v2]) (xs := ([a1, a2] : List (List T_edit_Step))) ⟨f1, f2, rfl⟩ _ _ (gAt_some h_t77).2.2)).cut h_t84).row (hw.now hF)) h_t88 rfl) rfl rfl rfl ?_
                            refine l_alloc (cs := [.int .i64 0, .int .i64 0, .int .i64 0, .int .i64 0, .int .i64 0]) Tryd.zeroValue35 rfl rfl rfl (fun b3 => ?_)
                            refine l_store (i := 2) (vs := [.int .i64 t88.Kind, .int .i64 t88.A, .int .i64 t88.B, .int .i64 t88.C, .int .i64 t88.D]) (cs' := [.int .i64 t88.Kind, .int .i64 t88.A, .int .i64 t88.B, .int .i64 t88.C, .int .i64 t88.D]) Tryd.sizeOf35 rfl rfl rfl rfl rfl rfl rfl rfl rfl ?_
                            refine l_nil ?_
                            refine c_seq ?_
                            refine c_region ?_
                            refine l_val rfl rfl rfl (r_move (v := .bool t27.2.1) rfl) ?_
                            refine l_val rfl rfl rfl (r_not rfl) ?_
                            refine l_val rfl rfl rfl (r_move (v := .bool (!t27.2.1)) rfl) ?_
                            refine split (fun hb => ?_) (fun hb => ?_)
                            · have H84 := cnd_t hb H83; clear H83
                              refine l_val rfl rfl rfl (r_move (v := .slice p.1 t27.1.length p.2) rfl) ?_
                              refine l_loadN (i := 2) (vs := [.int .i64 t88.Kind, .int .i64 t88.A, .int .i64 t88.B, .int .i64 t88.C, .int .i64 t88.D]) Tryd.isAgg35 Tryd.sizeOf35 rfl rfl rfl rfl rfl ?_
                              obtain ⟨t95, h_t95, H85⟩ := bnd_some H84; clear H84
                              refine l_callG (fun w hF hS => k27 (know_all w) (frs_rd (i := 0) hS rfl) h_t95) Tryd.call27 rfl rfl rfl ?_
                              refine l_val rfl rfl rfl (r_not rfl) ?_
                              refine l_val rfl rfl rfl (r_pickT (v := .bool (!t95)) rfl rfl) ?_
                              refine l_nil ?_
                              refine c_if (b := (!t95)) rfl (fun hb => ?_) (fun hb => ?_)
                              · have H86 := cnd_t hb H85; clear H85
                                refine c_seq ?_
                                refine c_region ?_
                                refine l_val rfl rfl rfl (r_assign (v := .bool false) rfl) ?_
                                refine l_nil ?_
                                refine c_ret ?_
                                obtain rfl := Option.some.inj H86
                                refine ret1 (v := .bool false) rfl rfl (fin rfl)
                              · have H87 := cnd_f hb H85; clear H85
                                refine c_skip ?_
                                refine c_close () () 0 [0, 1] (by exact ⟨rfl, rfl, rfl, rfl, rfl, rfl, rfl, rfl, rfl, rfl, trivial⟩) (by decide) rfl (by exact ⟨H87, trivial⟩) (Nat.lt_succ_self _)
                            · have H88 := cnd_f hb H83; clear H83
                              refine l_passed rfl rfl rfl ?_
                              refine l_passed rfl rfl rfl ?_
                              refine l_passed rfl rfl rfl ?_
                              refine l_passed rfl rfl rfl ?_
                              refine l_val rfl rfl rfl (r_pickF (v := .bool false) rfl rfl) ?_
                              refine l_nil ?_
                              refine c_false rfl ?_
                              refine c_skip ?_
                              refine c_close () () 0 [0, 1] (by exact ⟨rfl, rfl, rfl, rfl, rfl, rfl, rfl, rfl, rfl, rfl, trivial⟩) (by decide) rfl (by exact ⟨H88, trivial⟩) (Nat.lt_succ_self _)
                          · rintro _ _ gg H81 _
                            replace H81 : Keep_EditMerges_j5 x86_2 next4 = some r := H81
                            refine c_tidyF [(0, v0), (1, v1), (7, .slice p.1 t27.1.length p.2), (8, .bool t27.2.1), (73, .slice (some ⟨b2, 0, none⟩) 2 2), (74, .int .i64 2), (75, .int .i64 x75_2), (84, (cutV 5 (List.getD (List.take 1 (List.drop ((Int.toNat x75_2) * 1) [v1, v2])) 0 undef) t81 t77.length)), (85, .int .i64 (t84.length : Int)), (86, .int .i64 x86_2)] [roV 5 (.slice p.1 t27.1.length p.2) t27.1.length (t27.1.map e_edit_Step), cellsC b2 [v1, v2] 22] rfl rfl ?_
                            refine c_region ?_
                            obtain ⟨t98, h_t98, H82⟩ := bnd_some H81; clear H81
                            refine l_val rfl rfl rfl (r_addG rfl rfl h_t98) ?_
                            refine l_val rfl rfl rfl (r_move (v := .int .i64 t98) rfl) ?_
                            refine l_nil ?_
                            refine c_close t98 () m4 [0, 1] (by exact ⟨rfl, rfl, rfl, rfl, rfl, rfl, rfl, rfl, rfl, rfl, trivial⟩) (by decide) rfl (by exact ⟨(by subst hn4; exact H82), trivial⟩) (Nat.lt_succ_self _)
                        · have H89 := cnd_f hb H79; clear H79
                          refine c_exit ?_
                          refine c_close () () 0 [0, 1] (by exact ⟨rfl, rfl, rfl, rfl, rfl, rfl, rfl, trivial⟩) (by decide) rfl (by exact ⟨H89, trivial⟩) (Nat.lt_succ_self _)
                      · rintro _ _ gg H74 _
                        replace H74 : Keep_EditMerges_j3 x75_2 next2 = some r := H74
                        refine c_tidyF [(0, v0), (1, v1), (7, .slice p.1 t27.1.length p.2), (8, .bool t27.2.1), (73, .slice (some ⟨b2, 0, none⟩) 2 2), (74, .int .i64 2), (75, .int .i64 x75_2)] [roV 5 (.slice p.1 t27.1.length p.2) t27.1.length (t27.1.map e_edit_Step), cellsC b2 [v1, v2] 22] rfl rfl ?_
                        refine c_region ?_
                        obtain ⟨t99, h_t99, H75⟩ := bnd_some H74; clear H74
                        refine l_val rfl rfl rfl (r_addG rfl rfl h_t99) ?_
                        refine l_val rfl rfl rfl (r_move (v := .int .i64 t99) rfl) ?_
                        refine l_nil ?_
                        refine c_close t99 () m2 [0, 1] (by exact ⟨rfl, rfl, rfl, rfl, rfl, rfl, rfl, trivial⟩) (by decide) rfl (by exact ⟨(by subst hn2; exact H75), trivial⟩) (Nat.lt_succ_self _)
                    · have H90 := cnd_f hb H72; clear H72
                      refine c_exit ?_
                      refine c_close () () 0 [0] (by exact ⟨rfl, rfl, rfl, trivial⟩) (by decide) rfl (by exact ⟨H90, trivial⟩) (Nat.lt_succ_self _)
                  · rintro _ _ gg H68 _
                    replace H68 : Keep_EditMerges_j1 a1 t27 = some r := H68
                    refine c_tidyF [(1, v1), (7, .slice p.1 t27.1.length p.2), (8, .bool t27.2.1)] [roV 5 (.slice p.1 t27.1.length p.2) t27.1.length (t27.1.map e_edit_Step)] rfl rfl ?_
                    refine c_seq ?_
                    refine c_region ?_
                    refine l_val rfl rfl rfl (r_move (v := .bool t27.2.1) rfl) ?_
                    refine l_val rfl rfl rfl (r_not rfl) ?_
                    refine l_val rfl rfl rfl (r_move (v := .bool (!t27.2.1)) rfl) ?_
                    refine split (fun hb => ?_) (fun hb => ?_)
                    · have H69 := cnd_t hb H68; clear H68
                      refine l_passed rfl rfl rfl ?_
                      refine l_passed rfl rfl rfl ?_
                      refine l_passed rfl rfl rfl ?_
                      refine l_val rfl rfl rfl (r_pickT (v := .bool true) rfl rfl) ?_
                      refine l_val rfl rfl rfl (r_assign (v := .bool true) rfl) ?_
                      refine l_nil ?_
                      refine c_ret ?_
                      obtain rfl := Option.some.inj H69
                      refine ret1 (v := .bool true) rfl rfl (fin rfl)
                    · have H70 := cnd_f hb H68; clear H68
                      refine l_val rfl rfl rfl (r_move (v := .slice p.1 t27.1.length p.2) rfl) ?_
                      refine l_val rfl rfl rfl (r_move (v := v1) rfl) ?_
                      obtain ⟨t105, h_t105, H71⟩ := bnd_some H70; clear H70
                      refine l_callG (fun w hF hS => k26 (know_all w) (frs_rd (i := 0) hS rfl) (f1.mono (hw.now hF)) h_t105) Tryd.call26 rfl rfl rfl ?_
                      refine l_val rfl rfl rfl (r_pickF (v := .bool t105) rfl rfl) ?_
                      refine l_val rfl rfl rfl (r_assign (v := .bool t105) rfl) ?_
                      refine l_nil ?_
                      refine c_ret ?_
                      obtain rfl := Option.some.inj H71
                      refine ret1 (v := .bool t105) rfl rfl (fin rfl)
end Go.Proofs.YtinpjnlocahjjaaDoor
