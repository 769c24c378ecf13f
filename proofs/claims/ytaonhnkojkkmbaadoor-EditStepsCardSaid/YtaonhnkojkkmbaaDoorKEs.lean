/- EditSteps: the walks, printed by our generator; each follows its model. Conditions: the model yields a value. -/
import Derived.Test.YtaonhnkojkkmbaaDoorKEc
namespace Go.Proofs.YtaonhnkojkkmbaaDoor
open Go Go.Vc Go.Md Go.M Go.Lx
set_option maxRecDepth 100000
set_option maxHeartbeats 4000000
set_option linter.unusedVariables false

theorem k8 {a0 : T_edit_Step} {r : Bool} (H : edit_Shape a0 = some r) : Ret Tryd.prog 8 [.agg #[.int .i64 a0.Kind, .int .i64 a0.A, .int .i64 a0.B, .int .i64 a0.C, .int .i64 a0.D]] (.bool r) := by
  refine enterRet (n := 7) Tryd.func8 rfl rfl rfl (fun wd => ?_)
  refine c_seq ?_
  refine c_region ?_
  refine l_box (cs := [.int .i64 a0.Kind, .int .i64 a0.A, .int .i64 a0.B, .int .i64 a0.C, .int .i64 a0.D]) rfl rfl rfl rfl (fun b1 => ?_)
  refine l_val rfl rfl rfl (r_assign (v := .bool false) rfl) ?_
  refine l_nil ?_
  refine c_seq ?_
  refine c_region ?_
  refine l_val rfl rfl rfl (r_field Tryd.runUnderlying24 rfl Tryd.sizeOf3 rfl rfl) ?_
  refine l_load1 (i := 0) (v := .int .i64 a0.Kind) Tryd.isAgg3 rfl rfl rfl rfl rfl ?_
  obtain ⟨t5, h_t5, H2⟩ := bnd_some H; clear H
  refine l_call (k35 h_t5) Tryd.call35 rfl rfl rfl ?_
  refine l_val rfl rfl rfl (r_not rfl) ?_
  refine l_val rfl rfl rfl (r_assign (v := .bool (!t5)) rfl) ?_
  refine l_nil ?_
  refine c_ret ?_
  obtain rfl := Option.some.inj H2
  refine ret1 (v := .bool (!t5)) rfl rfl (fin rfl)
theorem k9 {a0 : T_edit_Step} {r : Bool} (H : R_Shaped a0 = some r) : Ret Tryd.prog 9 [.agg #[.int .i64 a0.Kind, .int .i64 a0.A, .int .i64 a0.B, .int .i64 a0.C, .int .i64 a0.D]] (.bool r) := by
  refine enterRet (n := 11) Tryd.func9 rfl rfl rfl (fun wd => ?_)
  refine c_seq ?_
  refine c_region ?_
  refine l_box (cs := [.int .i64 a0.Kind, .int .i64 a0.A, .int .i64 a0.B, .int .i64 a0.C, .int .i64 a0.D]) rfl rfl rfl rfl (fun b1 => ?_)
  refine l_val rfl rfl rfl (r_assign (v := .bool false) rfl) ?_
  refine l_nil ?_
  refine c_seq ?_
  refine c_region ?_
  refine l_val rfl rfl rfl (r_field Tryd.runUnderlying24 rfl Tryd.sizeOf3 rfl rfl) ?_
  refine l_load1 (i := 0) (v := .int .i64 a0.Kind) Tryd.isAgg3 rfl rfl rfl rfl rfl ?_
  refine l_val rfl rfl rfl (r_geq rfl rfl) ?_
  refine l_val rfl rfl rfl (r_move (v := .bool (decide (1 ≤ a0.Kind))) rfl) ?_
  refine split (fun hb => ?_) (fun hb => ?_)
  · have H3 := cnd_t hb H; clear H
    refine l_val rfl rfl rfl (r_field Tryd.runUnderlying24 rfl Tryd.sizeOf3 rfl rfl) ?_
    refine l_load1 (i := 0) (v := .int .i64 a0.Kind) Tryd.isAgg3 rfl rfl rfl rfl rfl ?_
    refine l_val rfl rfl rfl (r_leq rfl rfl) ?_
    refine l_val rfl rfl rfl (r_pickT (v := .bool (decide (a0.Kind ≤ 3))) rfl rfl) ?_
    refine l_val rfl rfl rfl (r_assign (v := .bool (decide (a0.Kind ≤ 3))) rfl) ?_
    refine l_nil ?_
    refine c_ret ?_
    obtain rfl := Option.some.inj H3
    refine ret1 (v := .bool (decide (a0.Kind ≤ 3))) rfl rfl (fin rfl)
  · have H4 := cnd_f hb H; clear H
    refine l_passed rfl rfl rfl ?_
    refine l_passed rfl rfl rfl ?_
    refine l_passed rfl rfl rfl ?_
    refine l_val rfl rfl rfl (r_pickF (v := .bool false) rfl rfl) ?_
    refine l_val rfl rfl rfl (r_assign (v := .bool false) rfl) ?_
    refine l_nil ?_
    refine c_ret ?_
    obtain rfl := Option.some.inj H4
    refine ret1 (v := .bool false) rfl rfl (fin rfl)
theorem k14 {a0 : (List UInt8)} {a1 : Int} {a2 : (List UInt8)} {a3 : Int} {r : Bool} (H : Law_told_string a0 a1 a2 a3 = some r) : Ret Tryd.prog 14 [str a0, .int .i64 a1, str a2, .int .i64 a3] (.bool r) := by
  refine enterRet (n := 21) Tryd.func14 rfl rfl rfl (fun wd => ?_)
  refine c_seq ?_
  refine c_region ?_
  refine l_val rfl rfl rfl (r_assign (v := .bool false) rfl) ?_
  refine l_nil ?_
  refine c_seq ?_
  refine c_region ?_
  refine l_val rfl rfl rfl (r_assign (v := str []) rfl) ?_
  refine l_nil ?_
  refine c_meet (r := r) (σ := (List UInt8)) (τ := Unit) (fun s => Law_told_string_j1 a0 a1 a3 s) (fun s t => [(0, str a0), (1, .int .i64 a1), (2, str s), (3, .int .i64 a3)]) (fun s t => []) (fun s t => True) ?_ ?_
  · refine c_seq ?_
    refine c_region ?_
    refine l_val rfl rfl rfl (r_move (v := .int .i64 a3) rfl) ?_
    refine l_val rfl rfl rfl (r_neq rfl rfl) ?_
    refine l_nil ?_
    refine c_if (b := (decide (a3 ≠ 0))) rfl (fun hb => ?_) (fun hb => ?_)
    · have H9 := cnd_t hb H; clear H
      refine c_region ?_
      refine l_val rfl rfl rfl (r_move (v := str []) rfl) ?_
      refine l_val rfl rfl rfl (r_assign (v := str []) rfl) ?_
      refine l_nil ?_
      refine c_close [] () 0 [] (by exact ⟨rfl, rfl, rfl, rfl, trivial⟩) (by decide) rfl (by exact ⟨H9, trivial⟩) (Nat.lt_succ_self _)
    · have H10 := cnd_f hb H; clear H
      refine c_skip ?_
      refine c_close a2 () 0 [] (by exact ⟨rfl, rfl, rfl, rfl, trivial⟩) (by decide) rfl (by exact ⟨H10, trivial⟩) (Nat.lt_succ_self _)
  · rintro x2 _ gg H6 _
    replace H6 : Law_told_string_j1 a0 a1 a3 x2 = some r := H6
    refine c_tidyF [(0, str a0), (1, .int .i64 a1), (2, str x2), (3, .int .i64 a3)] [] rfl rfl ?_
    refine c_seq ?_
    refine c_region ?_
    refine l_val rfl rfl rfl (r_move (v := str a0) rfl) ?_
    refine l_val rfl rfl rfl (r_move (v := str x2) rfl) ?_
    refine l_val rfl rfl rfl (r_eqlT rfl rfl) ?_
    refine l_val rfl rfl rfl (r_move (v := .bool (decide (a0 = x2))) rfl) ?_
    refine split (fun hb => ?_) (fun hb => ?_)
    · have H7 := cnd_t hb H6; clear H6
      refine l_val rfl rfl rfl (r_move (v := .int .i64 a1) rfl) ?_
      refine l_val rfl rfl rfl (r_move (v := .int .i64 a3) rfl) ?_
      refine l_val rfl rfl rfl (r_eql rfl rfl) ?_
      refine l_val rfl rfl rfl (r_pickT (v := .bool (decide (a1 = a3))) rfl rfl) ?_
      refine l_val rfl rfl rfl (r_assign (v := .bool (decide (a1 = a3))) rfl) ?_
      refine l_nil ?_
      refine c_ret ?_
      obtain rfl := Option.some.inj H7
      refine ret1 (v := .bool (decide (a1 = a3))) rfl rfl (fin rfl)
    · have H8 := cnd_f hb H6; clear H6
      refine l_passed rfl rfl rfl ?_
      refine l_passed rfl rfl rfl ?_
      refine l_passed rfl rfl rfl ?_
      refine l_val rfl rfl rfl (r_pickF (v := .bool false) rfl rfl) ?_
      refine l_val rfl rfl rfl (r_assign (v := .bool false) rfl) ?_
      refine l_nil ?_
      refine c_ret ?_
      obtain rfl := Option.some.inj H8
      refine ret1 (v := .bool false) rfl rfl (fin rfl)
theorem k16 {a0 : (List T_edit_Step)} {v0 : Value} {a1 : (List T_edit_Step)} {v1 : Value} {r : Bool} {w : World} {h : Heap} (hw : Know h w noS) (f0 : FrS h 5 v0 (a0.map e_edit_Step)) (f1 : FrS h 5 v1 (a1.map e_edit_Step)) (H : slices_Equal_edit_Step a0 a1 = some r) : Does Tryd.prog 16 (List.toArray [v0, v1]) w (fun v w' => v = (.bool r) ∧ Grow w w') := by
  refine enter (n := 26) Tryd.func16 rfl rfl rfl noS [] (Sat.nil _ _) ?_
  refine c_seq ?_
  refine c_region ?_
  refine l_val rfl rfl rfl (r_assign (v := .bool false) rfl) ?_
  refine l_nil ?_
  refine c_seq ?_
  refine c_seq ?_
  refine c_region ?_
  refine l_val rfl rfl rfl (r_move (v := v0) rfl) ?_
  refine l_val rfl rfl rfl (r_lenF Tryd.underlying22 rfl f0 rfl) ?_
  refine l_val rfl rfl rfl (r_move (v := v1) rfl) ?_
  refine l_val rfl rfl rfl (r_lenF Tryd.underlying22 rfl f1 rfl) ?_
  refine l_val rfl rfl rfl (r_neq rfl rfl) ?_
  refine l_nil ?_
  refine c_if (b := (decide ((a0.length : Int) ≠ (a1.length : Int)))) rfl (fun hb => ?_) (fun hb => ?_)
  · have H11 := cnd_t hb H; clear H
    refine c_seq ?_
    refine c_region ?_
    refine l_val rfl rfl rfl (r_assign (v := .bool false) rfl) ?_
    refine l_nil ?_
    refine c_ret ?_
    obtain rfl := Option.some.inj H11
    refine ret1 (v := .bool false) rfl rfl (fin rfl)
  · have H12 := cnd_f hb H; clear H
    refine c_skip ?_
    refine c_seq ?_
    refine c_seq ?_
    refine c_region ?_
    refine l_val rfl rfl rfl (r_move (v := v0) rfl) ?_
    refine l_val rfl rfl rfl (r_lenF Tryd.underlying22 rfl f0 rfl) ?_
    refine l_val rfl rfl rfl (r_move (v := .int .i64 0) rfl) ?_
    refine l_nil ?_
    refine c_block ?_
    refine c_fix (σ := Int) (τ := Unit) (fun next1 s => slices_Equal_edit_Step_l1 a0 a1 next1 s) (fun s t => [(0, v0), (1, v1), (12, .int .i64 (a0.length : Int)), (13, .int .i64 s)]) (fun s t => []) (fun s t => True) 0 () [] H12 (by exact trivial) (by exact ⟨rfl, rfl, rfl, rfl, trivial⟩) (by decide) rfl ?_
    rintro x13_2 _ m1 gg H13 _
    clear H12
    replace H13 : slices_Equal_edit_Step_l1 a0 a1 (it (fun next1 s => slices_Equal_edit_Step_l1 a0 a1 next1 s) m1) x13_2 = some r := H13
    generalize hn1 : it (fun next1 s => slices_Equal_edit_Step_l1 a0 a1 next1 s) m1 = next1 at H13
    refine c_tidyF [(0, v0), (1, v1), (12, .int .i64 (a0.length : Int)), (13, .int .i64 x13_2)] [] rfl rfl ?_
    refine c_seq ?_
    refine c_region ?_
    refine l_val rfl rfl rfl (r_lss rfl rfl) ?_
    refine l_nil ?_
    refine c_seq ?_
    refine c_if (b := (decide (x13_2 < (a0.length : Int)))) rfl (fun hb => ?_) (fun hb => ?_)
    · have H14 := cnd_t hb H13; clear H13
      refine c_skip ?_
      refine c_seq ?_
      refine c_block ?_
      refine c_seq ?_
      refine c_region ?_
      refine l_val rfl rfl rfl (r_move (v := .int .i64 x13_2) rfl) ?_
      refine l_val rfl rfl rfl (r_assign (v := .int .i64 x13_2) rfl) ?_
      refine l_nil ?_
      refine c_seq ?_
      exact c_regionD (Kd.p :: Kd.p :: Kd.p :: Kd.d [] _ :: Kd.p :: Kd.p :: Kd.p :: Kd.d [] _ :: Kd.p :: []) 0 mixed (by
        refine d_val rfl rfl (r_move (v := v0) rfl) ?_
        refine d_val rfl rfl (r_move (v := .int .i64 x13_2) rfl) ?_
        have h_t18 := bnd_val H14
        have H15 := bnd_rest H14
        refine d_val rfl rfl (r_indexF Tryd.underlying22 Tryd.sizeOf24 rfl rfl f0 h_t18) ?_
        refine d_read (fun w hF => run_loadGN (f := e_edit_Step) (i := x13_2) (sz := 5) (j := 0) (vs := [.int .i64 (val (gAt a0 x13_2)).Kind, .int .i64 (val (gAt a0 x13_2)).A, .int .i64 (val (gAt a0 x13_2)).B, .int .i64 (val (gAt a0 x13_2)).C, .int .i64 (val (gAt a0 x13_2)).D]) Tryd.isAgg24 Tryd.sizeOf24 rfl rfl (f0.row (hw.now hF)) h_t18 rfl) rfl rfl ?_
        refine d_val rfl rfl (r_move (v := v1) rfl) ?_
        refine d_val rfl rfl (r_move (v := .int .i64 x13_2) rfl) ?_
        have h_t22 := bnd_val H15
        have H16 := bnd_rest H15
        refine d_val rfl rfl (r_indexF Tryd.underlying22 Tryd.sizeOf24 rfl rfl f1 h_t22) ?_
        refine d_read (fun w hF => run_loadGN (f := e_edit_Step) (i := x13_2) (sz := 5) (j := 0) (vs := [.int .i64 (val (gAt a1 x13_2)).Kind, .int .i64 (val (gAt a1 x13_2)).A, .int .i64 (val (gAt a1 x13_2)).B, .int .i64 (val (gAt a1 x13_2)).C, .int .i64 (val (gAt a1 x13_2)).D]) Tryd.isAgg24 Tryd.sizeOf24 rfl rfl (f1.row (hw.now hF)) h_t22 rfl) rfl rfl ?_
        refine d_val rfl rfl (r_neqA (xs := #[.int .i64 (val (gAt a0 x13_2)).Kind, .int .i64 (val (gAt a0 x13_2)).A, .int .i64 (val (gAt a0 x13_2)).B, .int .i64 (val (gAt a0 x13_2)).C, .int .i64 (val (gAt a0 x13_2)).D]) (ys := #[.int .i64 (val (gAt a1 x13_2)).Kind, .int .i64 (val (gAt a1 x13_2)).A, .int .i64 (val (gAt a1 x13_2)).B, .int .i64 (val (gAt a1 x13_2)).C, .int .i64 (val (gAt a1 x13_2)).D]) Tryd.eqGuardType24 (fun w => run_eq_edit_Step w (val (gAt a0 x13_2)) (val (gAt a1 x13_2))) rfl rfl) ?_
        refine d_nil ?_
        refine c_if (b := (!(eq_edit_Step (val (gAt a0 x13_2)) (val (gAt a1 x13_2))))) rfl (fun hb => ?_) (fun hb => ?_)
        · have H17 := cnd_t hb H16; clear H16
          refine c_seq ?_
          refine c_region ?_
          refine l_val rfl rfl rfl (r_assign (v := .bool false) rfl) ?_
          refine l_nil ?_
          refine c_ret ?_
          obtain rfl := Option.some.inj H17
          refine ret1 (v := .bool false) rfl rfl (fin rfl)
        · have H18 := cnd_f hb H16; clear H16
          refine c_skip ?_
          refine c_region ?_
          obtain ⟨t25, h_t25, H19⟩ := bnd_some H18; clear H18
          refine l_val rfl rfl rfl (r_addG rfl rfl h_t25) ?_
          refine l_val rfl rfl rfl (r_move (v := .int .i64 t25) rfl) ?_
          refine l_nil ?_
          refine c_close t25 () m1 [] (by exact ⟨rfl, rfl, rfl, rfl, trivial⟩) (by decide) rfl (by exact ⟨(by subst hn1; exact H19), trivial⟩) (Nat.lt_succ_self _)
        ) (by kernel_rfl)
    · have H20 := cnd_f hb H13; clear H13
      refine c_exit ?_
      refine c_seq ?_
      refine c_region ?_
      refine l_val rfl rfl rfl (r_assign (v := .bool true) rfl) ?_
      refine l_nil ?_
      refine c_ret ?_
      obtain rfl := Option.some.inj H20
      refine ret1 (v := .bool true) rfl rfl (fin rfl)
theorem k15 {a0 : (List T_edit_Step)} {v0 : Value} {a1 : (List T_edit_Step)} {v1 : Value} {r : Bool} {w : World} {h : Heap} (hw : Know h w noS) (f0 : FrS h 5 v0 (a0.map e_edit_Step)) (f1 : FrS h 5 v1 (a1.map e_edit_Step)) (H : edit_Same a0 a1 = some r) : Does Tryd.prog 15 (List.toArray [v0, v1]) w (fun v w' => v = (.bool r) ∧ Grow w w') := by
  refine enter (n := 8) Tryd.func15 rfl rfl rfl noS [] (Sat.nil _ _) ?_
  refine c_seq ?_
  refine c_region ?_
  refine l_val rfl rfl rfl (r_assign (v := .bool false) rfl) ?_
  refine l_nil ?_
  refine c_seq ?_
  refine c_region ?_
  refine l_val rfl rfl rfl (r_move (v := v0) rfl) ?_
  refine l_val rfl rfl rfl (r_move (v := v1) rfl) ?_
  obtain ⟨t7, h_t7, H2⟩ := bnd_some H; clear H
  refine l_callG (fun w hF hS => k16 (know_all w) (f0.mono (hw.now hF)) (f1.mono (hw.now hF)) h_t7) Tryd.call16 rfl rfl rfl ?_
  refine l_val rfl rfl rfl (r_assign (v := .bool t7) rfl) ?_
  refine l_nil ?_
  refine c_ret ?_
  obtain rfl := Option.some.inj H2
  refine ret1 (v := .bool t7) rfl rfl (fin rfl)
theorem k19 {a0 : (List T_edit_Step)} {v0 : Value} {a1 : Int} {a2 : (List T_edit_Step)} {v2 : Value} {a3 : Int} {r : Bool} {w : World} {h : Heap} (hw : Know h w noS) (f0 : FrS h 5 v0 (a0.map e_edit_Step)) (f2 : FrS h 5 v2 (a2.map e_edit_Step)) (H : Law_listed_edit_Step a0 a1 a2 a3 = some r) : Does Tryd.prog 19 (List.toArray [v0, .int .i64 a1, v2, .int .i64 a3]) w (fun v w' => v = (.bool r) ∧ Grow w w') := by
  refine enter (n := 19) Tryd.func19 rfl rfl rfl noS [] (Sat.nil _ _) ?_
  refine c_seq ?_
  refine c_region ?_
  refine l_val rfl rfl rfl (r_assign (v := .bool false) rfl) ?_
  refine l_nil ?_
  refine c_meet (r := r) (σ := (List T_edit_Step)) (τ := Value) (fun s => Law_listed_edit_Step_j1 a0 a1 a3 s) (fun s t => [(0, v0), (1, .int .i64 a1), (2, t), (3, .int .i64 a3)]) (fun s t => []) (fun s t => FrS h 5 t (s.map e_edit_Step)) ?_ ?_
  · refine c_seq ?_
    refine c_region ?_
    refine l_val rfl rfl rfl (r_move (v := .int .i64 a3) rfl) ?_
    refine l_val rfl rfl rfl (r_neq rfl rfl) ?_
    refine l_nil ?_
    refine c_if (b := (decide (a3 ≠ 0))) rfl (fun hb => ?_) (fun hb => ?_)
    · have H11 := cnd_t hb H; clear H
      refine c_region ?_
      refine l_val rfl rfl rfl (r_assign (v := .slice none 0 0) rfl) ?_
      refine l_nil ?_
      refine c_close ([] : (List T_edit_Step)) (.slice none 0 0) 0 [] (by exact ⟨rfl, rfl, rfl, rfl, trivial⟩) (by decide) rfl (by exact ⟨H11, (FrS.nil _ _)⟩) (Nat.lt_succ_self _)
    · have H12 := cnd_f hb H; clear H
      refine c_skip ?_
      refine c_close a2 v2 0 [] (by exact ⟨rfl, rfl, rfl, rfl, trivial⟩) (by decide) rfl (by exact ⟨H12, f2⟩) (Nat.lt_succ_self _)
  · rintro x2 gv gg H7 gf
    replace H7 : Law_listed_edit_Step_j1 a0 a1 a3 x2 = some r := H7
    refine c_tidyF [(0, v0), (1, .int .i64 a1), (2, gv), (3, .int .i64 a3)] [] rfl rfl ?_
    refine c_seq ?_
    refine c_region ?_
    refine l_val rfl rfl rfl (r_move (v := v0) rfl) ?_
    refine l_val rfl rfl rfl (r_move (v := gv) rfl) ?_
    obtain ⟨t13, h_t13, H8⟩ := bnd_some H7; clear H7
    refine l_callG (fun w hF hS => k16 (know_all w) (f0.mono (hw.now hF)) (gf.mono (hw.now hF)) h_t13) Tryd.call16 rfl rfl rfl ?_
    refine l_val rfl rfl rfl (r_move (v := .bool t13) rfl) ?_
    refine split (fun hb => ?_) (fun hb => ?_)
    · have H9 := cnd_t hb H8; clear H8
      refine l_val rfl rfl rfl (r_move (v := .int .i64 a1) rfl) ?_
      refine l_val rfl rfl rfl (r_move (v := .int .i64 a3) rfl) ?_
      refine l_val rfl rfl rfl (r_eql rfl rfl) ?_
      refine l_val rfl rfl rfl (r_pickT (v := .bool (decide (a1 = a3))) rfl rfl) ?_
      refine l_val rfl rfl rfl (r_assign (v := .bool (decide (a1 = a3))) rfl) ?_
      refine l_nil ?_
      refine c_ret ?_
      obtain rfl := Option.some.inj H9
      refine ret1 (v := .bool (decide (a1 = a3))) rfl rfl (fin rfl)
    · have H10 := cnd_f hb H8; clear H8
      refine l_passed rfl rfl rfl ?_
      refine l_passed rfl rfl rfl ?_
      refine l_passed rfl rfl rfl ?_
      refine l_val rfl rfl rfl (r_pickF (v := .bool false) rfl rfl) ?_
      refine l_val rfl rfl rfl (r_assign (v := .bool false) rfl) ?_
      refine l_nil ?_
      refine c_ret ?_
      obtain rfl := Option.some.inj H10
      refine ret1 (v := .bool false) rfl rfl (fin rfl)
theorem k3 {a0 : (List T_edit_Step)} {v0 : Value} {a1 : (List T_edit_Step)} {v1 : Value} {a2 : (List UInt8)} {r : Bool} {w : World} {h : Heap} (hw : Know h w noS) (f0 : FrS h 5 v0 (a0.map e_edit_Step)) (f1 : FrS h 5 v1 (a1.map e_edit_Step)) (tb_pow10 : TabH Tryd.prog h "internal/strconv.uint64pow10" .u64 Lib.pow10Tab) (H : Law_EditSteps a0 a1 a2 = some r) : Does Tryd.prog 3 (List.toArray [v0, v1, str a2]) w (fun v w' => v = (.bool r) ∧ Grow w w') := by
  refine enter (n := 110) Tryd.func3 rfl rfl rfl noS [] (Sat.nil _ _) ?_
  refine c_seq ?_
  refine c_region ?_
  refine l_val rfl rfl rfl (r_assign (v := .bool false) rfl) ?_
  refine l_nil ?_
  refine c_meet (r := r) (σ := Unit) (τ := Unit) (fun s => Law_EditSteps_j1 a0 a1 a2) (fun s t => [(0, v0), (1, v1), (2, str a2)]) (fun s t => []) (fun s t => True) ?_ ?_
  · refine c_seq ?_
    refine c_region ?_
    refine l_val rfl rfl rfl (r_move (v := v0) rfl) ?_
    refine l_val rfl rfl rfl (r_lenF Tryd.underlying22 rfl f0 rfl) ?_
    refine l_val rfl rfl rfl (r_move (v := .int .i64 0) rfl) ?_
    refine l_nil ?_
    refine c_block ?_
    refine c_fix (σ := Int) (τ := Unit) (fun next4 s => Law_EditSteps_l4 a0 a1 a2 next4 s) (fun s t => [(0, v0), (1, v1), (2, str a2), (21, v0), (22, .int .i64 (a0.length : Int)), (23, .int .i64 s)]) (fun s t => []) (fun s t => True) 0 () [] H (by exact trivial) (by exact ⟨rfl, rfl, rfl, rfl, rfl, rfl, trivial⟩) (by decide) rfl ?_
    rintro x23_2 _ m4 gg H78 _
    clear H
    replace H78 : Law_EditSteps_l4 a0 a1 a2 (it (fun next4 s => Law_EditSteps_l4 a0 a1 a2 next4 s) m4) x23_2 = some r := H78
    generalize hn4 : it (fun next4 s => Law_EditSteps_l4 a0 a1 a2 next4 s) m4 = next4 at H78
    refine c_tidyF [(0, v0), (1, v1), (2, str a2), (21, v0), (22, .int .i64 (a0.length : Int)), (23, .int .i64 x23_2)] [] rfl rfl ?_
    refine c_seq ?_
    refine c_region ?_
    refine l_val rfl rfl rfl (r_lss rfl rfl) ?_
    refine l_nil ?_
    refine c_seq ?_
    refine c_if (b := (decide (x23_2 < (a0.length : Int)))) rfl (fun hb => ?_) (fun hb => ?_)
    · have H79 := cnd_t hb H78; clear H78
      refine c_skip ?_
      refine c_seq ?_
      refine c_block ?_
      refine c_seq ?_
      refine c_region ?_
      obtain ⟨t25, h_t25, H80⟩ := bnd_some H79; clear H79
      refine l_val rfl rfl rfl (r_indexF Tryd.underlying22 Tryd.sizeOf24 rfl rfl f0 h_t25) ?_
      refine l_read (fun w hF hS => run_loadGN (f := e_edit_Step) (i := x23_2) (sz := 5) (j := 0) (vs := [.int .i64 t25.Kind, .int .i64 t25.A, .int .i64 t25.B, .int .i64 t25.C, .int .i64 t25.D]) Tryd.isAgg24 Tryd.sizeOf24 rfl rfl (f0.row (hw.now hF)) h_t25 rfl) rfl rfl rfl ?_
      refine l_alloc (cs := [.int .i64 0, .int .i64 0, .int .i64 0, .int .i64 0, .int .i64 0]) Tryd.zeroValue24 rfl rfl rfl (fun b3 => ?_)
      refine l_store (i := 0) (vs := [.int .i64 t25.Kind, .int .i64 t25.A, .int .i64 t25.B, .int .i64 t25.C, .int .i64 t25.D]) (cs' := [.int .i64 t25.Kind, .int .i64 t25.A, .int .i64 t25.B, .int .i64 t25.C, .int .i64 t25.D]) Tryd.sizeOf24 rfl rfl rfl rfl rfl rfl rfl rfl rfl ?_
      refine l_nil ?_
      refine c_seq ?_
      exact c_regionD (Kd.d [0] _ :: Kd.d [] _ :: Kd.d [0] _ :: Kd.d [] _ :: Kd.p :: Kd.p :: Kd.d [0] _ :: Kd.d [] _ :: Kd.d [0] _ :: Kd.d [] _ :: Kd.p :: Kd.p :: []) 0 mixed (by
        refine d_loadN (i := 0) (vs := [.int .i64 t25.Kind, .int .i64 t25.A, .int .i64 t25.B, .int .i64 t25.C, .int .i64 t25.D]) Tryd.isAgg24 Tryd.sizeOf24 rfl rfl rfl rfl ?_
        have h_t28 := bnd_val H80
        have H81 := bnd_rest H80
        refine d_call (k6 h_t28) Tryd.call6 rfl rfl ?_
        refine d_loadN (i := 0) (vs := [.int .i64 t25.Kind, .int .i64 t25.A, .int .i64 t25.B, .int .i64 t25.C, .int .i64 t25.D]) Tryd.isAgg24 Tryd.sizeOf24 rfl rfl rfl rfl ?_
        have h_t30 := bnd_val H81
        have H82 := bnd_rest H81
        refine d_call (k7 h_t30) Tryd.call7 rfl rfl ?_
        refine d_val rfl rfl (r_neq rfl rfl) ?_
        refine d_val rfl rfl (r_move (v := .bool (decide ((val (edit_CheckStep t25)) ≠ (val (R_StepFault t25))))) rfl) ?_
        refine splitS (fun hb => ?_) (fun hb => ?_)
        · have H83 := cnd_t hb H82
          refine d_pass rfl rfl ?_
          refine d_pass rfl rfl ?_
          refine d_pass rfl rfl ?_
          refine d_pass rfl rfl ?_
          refine d_pass rfl rfl ?_
          refine d_val rfl rfl (r_pickT (v := .bool true) rfl rfl) ?_
          refine d_nil ?_
          refine c_true rfl ?_
          refine c_seq ?_
          refine c_region ?_
          refine l_val rfl rfl rfl (r_assign (v := .bool false) rfl) ?_
          refine l_nil ?_
          refine c_ret ?_
          obtain rfl := Option.some.inj H83
          refine ret1 (v := .bool false) rfl rfl (fin rfl)
        · have H84 := cnd_f hb H82
          refine d_loadN (i := 0) (vs := [.int .i64 t25.Kind, .int .i64 t25.A, .int .i64 t25.B, .int .i64 t25.C, .int .i64 t25.D]) Tryd.isAgg24 Tryd.sizeOf24 rfl rfl rfl rfl ?_
          have h_t34 := bnd_val H84
          have H85 := bnd_rest H84
          refine d_call (k8 h_t34) Tryd.call8 rfl rfl ?_
          refine d_loadN (i := 0) (vs := [.int .i64 t25.Kind, .int .i64 t25.A, .int .i64 t25.B, .int .i64 t25.C, .int .i64 t25.D]) Tryd.isAgg24 Tryd.sizeOf24 rfl rfl rfl rfl ?_
          have h_t36 := bnd_val H85
          have H86 := bnd_rest H85
          refine d_call (k9 h_t36) Tryd.call9 rfl rfl ?_
          refine d_val rfl rfl (r_neqB Tryd.underlying4 rfl rfl) ?_
          refine d_val rfl rfl (r_pickF (v := .bool (decide ((val (edit_Shape t25)) ≠ (val (R_Shaped t25))))) rfl rfl) ?_
          refine d_nil ?_
          refine c_if (b := (decide ((val (edit_Shape t25)) ≠ (val (R_Shaped t25))))) rfl (fun hb => ?_) (fun hb => ?_)
          · have H87 := cnd_t hb H86; clear H86
            refine c_seq ?_
            refine c_region ?_
            refine l_val rfl rfl rfl (r_assign (v := .bool false) rfl) ?_
            refine l_nil ?_
            refine c_ret ?_
            obtain rfl := Option.some.inj H87
            refine ret1 (v := .bool false) rfl rfl (fin rfl)
          · have H88 := cnd_f hb H86; clear H86
            refine c_skip ?_
            refine c_region ?_
            obtain ⟨t39, h_t39, H89⟩ := bnd_some H88; clear H88
            refine l_val rfl rfl rfl (r_addG rfl rfl h_t39) ?_
            refine l_val rfl rfl rfl (r_move (v := .int .i64 t39) rfl) ?_
            refine l_nil ?_
            refine c_close t39 () m4 [] (by exact ⟨rfl, rfl, rfl, rfl, rfl, rfl, trivial⟩) (by decide) rfl (by exact ⟨(by subst hn4; exact H89), trivial⟩) (Nat.lt_succ_self _)
        ) (by kernel_rfl)
    · have H90 := cnd_f hb H78; clear H78
      refine c_exit ?_
      refine c_close () () 0 [] (by exact ⟨rfl, rfl, rfl, trivial⟩) (by decide) rfl (by exact ⟨H90, trivial⟩) (Nat.lt_succ_self _)
  · rintro _ _ gg H46 _
    replace H46 : Law_EditSteps_j1 a0 a1 a2 = some r := H46
    refine c_tidyF [(0, v0), (1, v1), (2, str a2)] [] rfl rfl ?_
    refine c_seq ?_
    refine c_region ?_
    refine l_val rfl rfl rfl (r_move (v := v0) rfl) ?_
    obtain ⟨t41, h_t41, H47⟩ := bnd_some H46; clear H46
    refine l_callG (fun w hF hS => k10 (know_all w) (f0.mono (hw.now hF)) h_t41) Tryd.call10 rfl rfl rfl ?_
    refine l_val rfl rfl rfl (r_assign (v := .int .i64 t41) rfl) ?_
    refine l_nil ?_
    refine c_seq ?_
    refine c_region ?_
    refine l_val rfl rfl rfl (r_assign (v := str []) rfl) ?_
    refine l_nil ?_
    refine c_meet (r := r) (σ := (List UInt8)) (τ := Unit) (fun s => Law_EditSteps_j2 a0 a1 a2 t41 s) (fun s t => [(0, v0), (1, v1), (2, str a2), (9, .int .i64 t41), (10, str s)]) (fun s t => []) (fun s t => True) ?_ ?_
    · refine c_seq ?_
      refine c_region ?_
      refine l_val rfl rfl rfl (r_move (v := .int .i64 t41) rfl) ?_
      refine l_val rfl rfl rfl (r_eql rfl rfl) ?_
      refine l_nil ?_
      refine c_if (b := (decide (t41 = 0))) rfl (fun hb => ?_) (fun hb => ?_)
      · have H75 := cnd_t hb H47; clear H47
        refine c_region ?_
        refine l_val rfl rfl rfl (r_move (v := v0) rfl) ?_
        obtain ⟨t45, h_t45, H76⟩ := bnd_some H75; clear H75
        refine l_callG (fun w hF hS => k11 (know_all w) (f0.mono (hw.now hF)) (tb_pow10.mono (hw.now hF)) h_t45) Tryd.call11 rfl rfl rfl ?_
        refine l_val rfl rfl rfl (r_assign (v := str t45) rfl) ?_
        refine l_nil ?_
        refine c_close t45 () 0 [] (by exact ⟨rfl, rfl, rfl, rfl, rfl, trivial⟩) (by decide) rfl (by exact ⟨H76, trivial⟩) (Nat.lt_succ_self _)
      · have H77 := cnd_f hb H47; clear H47
        refine c_skip ?_
        refine c_close [] () 0 [] (by exact ⟨rfl, rfl, rfl, rfl, rfl, trivial⟩) (by decide) rfl (by exact ⟨H77, trivial⟩) (Nat.lt_succ_self _)
    · rintro x10 _ gg H48 _
      replace H48 : Law_EditSteps_j2 a0 a1 a2 t41 x10 = some r := H48
      refine c_tidyF [(0, v0), (1, v1), (2, str a2), (9, .int .i64 t41), (10, str x10)] [] rfl rfl ?_
      refine c_seq ?_
      refine c_region ?_
      refine l_val rfl rfl rfl (r_move (v := v0) rfl) ?_
      obtain ⟨t48, h_t48, H49⟩ := bnd_some H48; clear H48
      refine l_callG (fun w hF hS => k12 (know_all w) (f0.mono (hw.now hF)) (tb_pow10.mono (hw.now hF)) h_t48) Tryd.call12 rfl rfl rfl ?_
      refine l_val rfl rfl rfl (r_move (v := .tuple #[str t48.1, .int .i64 t48.2]) rfl) ?_
      refine l_val rfl rfl rfl (r_extract (v := str t48.1) rfl rfl) ?_
      refine l_val rfl rfl rfl (r_extract (v := .int .i64 t48.2) rfl rfl) ?_
      refine l_val rfl rfl rfl (r_assign (v := str t48.1) rfl) ?_
      refine l_val rfl rfl rfl (r_assign (v := .int .i64 t48.2) rfl) ?_
      refine l_nil ?_
      refine c_seq ?_
      refine c_seq ?_
      refine c_region ?_
      refine l_val rfl rfl rfl (r_move (v := v0) rfl) ?_
      obtain ⟨t52, h_t52, H50⟩ := bnd_some H49; clear H49
      refine l_callG (fun w hF hS => k13 (know_all w) (f0.mono (hw.now hF)) h_t52) Tryd.call13 rfl rfl rfl ?_
      refine l_val rfl rfl rfl (r_move (v := .int .i64 t41) rfl) ?_
      refine l_val rfl rfl rfl (r_neq rfl rfl) ?_
      refine l_val rfl rfl rfl (r_move (v := .bool (decide (t52 ≠ t41))) rfl) ?_
      refine split (fun hb => ?_) (fun hb => ?_)
      · have H51 := cnd_t hb H50; clear H50
        refine l_passed rfl rfl rfl ?_
        refine l_passed rfl rfl rfl ?_
        refine l_passed rfl rfl rfl ?_
        refine l_passed rfl rfl rfl ?_
        refine l_passed rfl rfl rfl ?_
        refine l_passed rfl rfl rfl ?_
        refine l_val rfl rfl rfl (r_pickT (v := .bool true) rfl rfl) ?_
        refine l_val rfl rfl rfl (r_move (v := .bool true) rfl) ?_
        refine l_passed rfl rfl rfl ?_
        refine l_passed rfl rfl rfl ?_
        refine l_passed rfl rfl rfl ?_
        refine l_passed rfl rfl rfl ?_
        refine l_passed rfl rfl rfl ?_
        refine l_passed rfl rfl rfl ?_
        refine l_passed rfl rfl rfl ?_
        refine l_val rfl rfl rfl (r_pickT (v := .bool true) rfl rfl) ?_
        refine l_val rfl rfl rfl (r_move (v := .bool true) rfl) ?_
        refine l_passed rfl rfl rfl ?_
        refine l_passed rfl rfl rfl ?_
        refine l_passed rfl rfl rfl ?_
        refine l_passed rfl rfl rfl ?_
        refine l_val rfl rfl rfl (r_pickT (v := .bool true) rfl rfl) ?_
        refine l_nil ?_
        refine c_true rfl ?_
        refine c_seq ?_
        refine c_region ?_
        refine l_val rfl rfl rfl (r_assign (v := .bool false) rfl) ?_
        refine l_nil ?_
        refine c_ret ?_
        obtain rfl := Option.some.inj H51
        refine ret1 (v := .bool false) rfl rfl (fin rfl)
      · have H52 := cnd_f hb H50; clear H50
        refine l_val rfl rfl rfl (r_move (v := str t48.1) rfl) ?_
        refine l_val rfl rfl rfl (r_move (v := .int .i64 t48.2) rfl) ?_
        refine l_val rfl rfl rfl (r_move (v := str x10) rfl) ?_
        refine l_val rfl rfl rfl (r_move (v := .int .i64 t41) rfl) ?_
        obtain ⟨t60, h_t60, H53⟩ := bnd_some H52; clear H52
        refine l_call (k14 h_t60) Tryd.call14 rfl rfl rfl ?_
        refine l_val rfl rfl rfl (r_not rfl) ?_
        refine l_val rfl rfl rfl (r_pickF (v := .bool (!t60)) rfl rfl) ?_
        refine l_val rfl rfl rfl (r_move (v := .bool (!t60)) rfl) ?_
        refine split (fun hb => ?_) (fun hb => ?_)
        · have H54 := cnd_t hb H53; clear H53
          refine l_passed rfl rfl rfl ?_
          refine l_passed rfl rfl rfl ?_
          refine l_passed rfl rfl rfl ?_
          refine l_passed rfl rfl rfl ?_
          refine l_passed rfl rfl rfl ?_
          refine l_passed rfl rfl rfl ?_
          refine l_passed rfl rfl rfl ?_
          refine l_val rfl rfl rfl (r_pickT (v := .bool true) rfl rfl) ?_
          refine l_val rfl rfl rfl (r_move (v := .bool true) rfl) ?_
          refine l_passed rfl rfl rfl ?_
          refine l_passed rfl rfl rfl ?_
          refine l_passed rfl rfl rfl ?_
          refine l_passed rfl rfl rfl ?_
          refine l_val rfl rfl rfl (r_pickT (v := .bool true) rfl rfl) ?_
          refine l_nil ?_
          refine c_true rfl ?_
          refine c_seq ?_
          refine c_region ?_
          refine l_val rfl rfl rfl (r_assign (v := .bool false) rfl) ?_
          refine l_nil ?_
          refine c_ret ?_
          obtain rfl := Option.some.inj H54
          refine ret1 (v := .bool false) rfl rfl (fin rfl)
        · have H55 := cnd_f hb H53; clear H53
          refine l_val rfl rfl rfl (r_move (v := v0) rfl) ?_
          refine l_val rfl rfl rfl (r_move (v := v1) rfl) ?_
          obtain ⟨t66, h_t66, H56⟩ := bnd_some H55; clear H55
          refine l_callG (fun w hF hS => k15 (know_all w) (f0.mono (hw.now hF)) (f1.mono (hw.now hF)) h_t66) Tryd.call15 rfl rfl rfl ?_
          refine l_val rfl rfl rfl (r_move (v := v0) rfl) ?_
          refine l_val rfl rfl rfl (r_move (v := v1) rfl) ?_
          obtain ⟨t69, h_t69, H57⟩ := bnd_some H56; clear H56
          refine l_callG (fun w hF hS => k16 (know_all w) (f0.mono (hw.now hF)) (f1.mono (hw.now hF)) h_t69) Tryd.call16 rfl rfl rfl ?_
          refine l_val rfl rfl rfl (r_neqB Tryd.underlying4 rfl rfl) ?_
          refine l_val rfl rfl rfl (r_pickF (v := .bool (decide (t66 ≠ t69))) rfl rfl) ?_
          refine l_val rfl rfl rfl (r_move (v := .bool (decide (t66 ≠ t69))) rfl) ?_
          refine split (fun hb => ?_) (fun hb => ?_)
          · have H58 := cnd_t hb H57; clear H57
            refine l_passed rfl rfl rfl ?_
            refine l_passed rfl rfl rfl ?_
            refine l_passed rfl rfl rfl ?_
            refine l_passed rfl rfl rfl ?_
            refine l_val rfl rfl rfl (r_pickT (v := .bool true) rfl rfl) ?_
            refine l_nil ?_
            refine c_true rfl ?_
            refine c_seq ?_
            refine c_region ?_
            refine l_val rfl rfl rfl (r_assign (v := .bool false) rfl) ?_
            refine l_nil ?_
            refine c_ret ?_
            obtain rfl := Option.some.inj H58
            refine ret1 (v := .bool false) rfl rfl (fin rfl)
          · have H59 := cnd_f hb H57; clear H57
            refine l_val rfl rfl rfl (r_move (v := v0) rfl) ?_
            refine l_val rfl rfl rfl (r_move (v := v0) rfl) ?_
            obtain ⟨t75, h_t75, H60⟩ := bnd_some H59; clear H59
            refine l_callG (fun w hF hS => k15 (know_all w) (f0.mono (hw.now hF)) (f0.mono (hw.now hF)) h_t75) Tryd.call15 rfl rfl rfl ?_
            refine l_val rfl rfl rfl (r_not rfl) ?_
            refine l_val rfl rfl rfl (r_pickF (v := .bool (!t75)) rfl rfl) ?_
            refine l_nil ?_
            refine c_if (b := (!t75)) rfl (fun hb => ?_) (fun hb => ?_)
            · have H61 := cnd_t hb H60; clear H60
              refine c_seq ?_
              refine c_region ?_
              refine l_val rfl rfl rfl (r_assign (v := .bool false) rfl) ?_
              refine l_nil ?_
              refine c_ret ?_
              obtain rfl := Option.some.inj H61
              refine ret1 (v := .bool false) rfl rfl (fin rfl)
            · have H62 := cnd_f hb H60; clear H60
              refine c_skip ?_
              refine c_seq ?_
              refine c_seq ?_
              refine c_region ?_
              refine l_val rfl rfl rfl (r_move (v := str a2) rfl) ?_
              refine l_val rfl rfl rfl (r_move (v := str x10) rfl) ?_
              refine l_buildSlice (vs := [str a2, str x10]) (cs := [str a2, str x10]) Tryd.underlying34 Tryd.sizeOf9 Tryd.zeroValue9 rfl rfl rfl rfl rfl rfl rfl (fun b2 => ?_)
              refine l_val rfl rfl rfl (r_len Tryd.underlying34 rfl) ?_
              refine l_val rfl rfl rfl (r_move (v := .int .i64 0) rfl) ?_
              refine l_nil ?_
              refine c_block ?_
              refine c_fix (σ := Int) (τ := Unit) (fun next3 s => Law_EditSteps_l3 a2 x10 next3 s) (fun s t => [(80, .slice (some ⟨b2, 0, none⟩) 2 2), (81, .int .i64 2), (82, .int .i64 s)]) (fun s t => [cellsC b2 [str a2, str x10] 9]) (fun s t => True) 0 () [0] H62 (by exact trivial) (by exact ⟨rfl, rfl, rfl, trivial⟩) (by decide) rfl ?_
              rintro x82_2 _ m3 gg H63 _
              clear H62
              replace H63 : Law_EditSteps_l3 a2 x10 (it (fun next3 s => Law_EditSteps_l3 a2 x10 next3 s) m3) x82_2 = some r := H63
              generalize hn3 : it (fun next3 s => Law_EditSteps_l3 a2 x10 next3 s) m3 = next3 at H63
              refine c_tidyF [(80, .slice (some ⟨b2, 0, none⟩) 2 2), (81, .int .i64 2), (82, .int .i64 x82_2)] [cellsC b2 [str a2, str x10] 9] rfl rfl ?_
              refine c_seq ?_
              refine c_region ?_
              refine l_val rfl rfl rfl (r_lss rfl rfl) ?_
              refine l_nil ?_
              refine c_seq ?_
              refine c_if (b := (decide (x82_2 < 2))) rfl (fun hb => ?_) (fun hb => ?_)
              · have H64 := cnd_t hb H63; clear H63
                refine c_skip ?_
                refine c_seq ?_
                refine c_block ?_
                refine c_seq ?_
                refine c_region ?_
                obtain ⟨t84, h_t84, H65⟩ := bnd_some H64; clear H64
                refine l_val rfl rfl rfl (r_indexS Tryd.underlying34 Tryd.sizeOf9 rfl rfl h_t84 rfl) ?_
                refine l_read (fun w hF hS => run_loadG1 (f := e_string) (i := x82_2) (sz := 1) (j := 0) (v := str t84) Tryd.isAgg9 rfl rfl (row_box (sz := 1) (xs := ([a2, x10] : List (List UInt8)).map e_string) (i := 0) hS rfl rfl rfl) h_t84 rfl) rfl rfl rfl ?_
                refine l_val rfl rfl rfl (r_assign (v := str t84) rfl) ?_
                refine l_nil ?_
                refine c_seq ?_
                refine c_region ?_
                refine l_val rfl rfl rfl (r_move (v := str t84) rfl) ?_
                obtain ⟨t88, h_t88, H66⟩ := bnd_some H65; clear H65
                refine l_make (makes_call (rds := []) (G := fun x : (Option Addr × Nat) => .tuple #[.slice x.1 t88.1.length x.2, .int .i64 t88.2.1, .int .i64 t88.2.2]) (C := fun x : (Option Addr × Nat) => roV 5 (.slice x.1 t88.1.length x.2) t88.1.length (t88.1.map e_edit_Step)) (fun w L' hF hS hi => k17 (know_all w) (tb_pow10.mono (hw.now hF)) h_t88) Tryd.call17 rfl) rfl rfl rfl (fun p => ?_)
                refine l_val rfl rfl rfl (r_move (v := .tuple #[.slice p.1 t88.1.length p.2, .int .i64 t88.2.1, .int .i64 t88.2.2]) rfl) ?_
                refine l_val rfl rfl rfl (r_extract (v := .slice p.1 t88.1.length p.2) rfl rfl) ?_
                refine l_val rfl rfl rfl (r_extract (v := .int .i64 t88.2.1) rfl rfl) ?_
                refine l_val rfl rfl rfl (r_extract (v := .int .i64 t88.2.2) rfl rfl) ?_
                refine l_val rfl rfl rfl (r_assign (v := .slice p.1 t88.1.length p.2) rfl) ?_
                refine l_val rfl rfl rfl (r_assign (v := .int .i64 t88.2.1) rfl) ?_
                refine l_val rfl rfl rfl (r_assign (v := .int .i64 t88.2.2) rfl) ?_
                refine l_nil ?_
                refine c_seq ?_
                refine c_region ?_
                refine l_val rfl rfl rfl (r_move (v := str t84) rfl) ?_
                obtain ⟨t94, h_t94, H67⟩ := bnd_some H66; clear H66
                refine l_make (makes_call (rds := []) (G := fun x : (Option Addr × Nat) => .tuple #[.slice x.1 t94.1.length x.2, .int .i64 t94.2.1, .int .i64 t94.2.2]) (C := fun x : (Option Addr × Nat) => rowV 24 5 (.slice x.1 t94.1.length x.2) t94.1.length (t94.1.map e_edit_Step)) (fun w L' hF hS hi => k18 (know_all w)  h_t94) Tryd.call18 rfl) rfl rfl rfl (fun p_2 => ?_)
                refine l_val rfl rfl rfl (r_move (v := .tuple #[.slice p_2.1 t94.1.length p_2.2, .int .i64 t94.2.1, .int .i64 t94.2.2]) rfl) ?_
                refine l_val rfl rfl rfl (r_extract (v := .slice p_2.1 t94.1.length p_2.2) rfl rfl) ?_
                refine l_val rfl rfl rfl (r_extract (v := .int .i64 t94.2.1) rfl rfl) ?_
                refine l_val rfl rfl rfl (r_extract (v := .int .i64 t94.2.2) rfl rfl) ?_
                refine l_val rfl rfl rfl (r_assign (v := .slice p_2.1 t94.1.length p_2.2) rfl) ?_
                refine l_val rfl rfl rfl (r_assign (v := .int .i64 t94.2.1) rfl) ?_
                refine l_val rfl rfl rfl (r_assign (v := .int .i64 t94.2.2) rfl) ?_
                refine l_nil ?_
                refine c_seq ?_
                refine c_region ?_
                refine l_val rfl rfl rfl (r_move (v := .int .i64 t88.2.1) rfl) ?_
                refine l_val rfl rfl rfl (r_move (v := .int .i64 t94.2.1) rfl) ?_
                refine l_val rfl rfl rfl (r_neq rfl rfl) ?_
                refine l_val rfl rfl rfl (r_move (v := .bool (decide (t88.2.1 ≠ t94.2.1))) rfl) ?_
                refine split (fun hb => ?_) (fun hb => ?_)
                · have H68 := cnd_t hb H67; clear H67
                  refine l_passed rfl rfl rfl ?_
                  refine l_passed rfl rfl rfl ?_
                  refine l_passed rfl rfl rfl ?_
                  refine l_passed rfl rfl rfl ?_
                  refine l_passed rfl rfl rfl ?_
                  refine l_passed rfl rfl rfl ?_
                  refine l_val rfl rfl rfl (r_pickT (v := .bool true) rfl rfl) ?_
                  refine l_nil ?_
                  refine c_true rfl ?_
                  refine c_seq ?_
                  refine c_region ?_
                  refine l_val rfl rfl rfl (r_assign (v := .bool false) rfl) ?_
                  refine l_nil ?_
                  refine c_ret ?_
                  obtain rfl := Option.some.inj H68
                  refine ret1 (v := .bool false) rfl rfl (fin rfl)
                · have H69 := cnd_f hb H67; clear H67
                  refine l_val rfl rfl rfl (r_move (v := .slice p.1 t88.1.length p.2) rfl) ?_
                  refine l_val rfl rfl rfl (r_move (v := .int .i64 t88.2.2) rfl) ?_
                  refine l_val rfl rfl rfl (r_move (v := .slice p_2.1 t94.1.length p_2.2) rfl) ?_
                  refine l_val rfl rfl rfl (r_move (v := .int .i64 t94.2.2) rfl) ?_
                  obtain ⟨t106, h_t106, H70⟩ := bnd_some H69; clear H69
                  refine l_callG (fun w hF hS => k19 (know_all w) (frs_rd (i := 1) hS rfl) (frs_own (i := 2) rfl hS rfl) h_t106) Tryd.call19 rfl rfl rfl ?_
                  refine l_val rfl rfl rfl (r_not rfl) ?_
                  refine l_val rfl rfl rfl (r_pickF (v := .bool (!t106)) rfl rfl) ?_
                  refine l_nil ?_
                  refine c_if (b := (!t106)) rfl (fun hb => ?_) (fun hb => ?_)
                  · have H71 := cnd_t hb H70; clear H70
                    refine c_seq ?_
                    refine c_region ?_
                    refine l_val rfl rfl rfl (r_assign (v := .bool false) rfl) ?_
                    refine l_nil ?_
                    refine c_ret ?_
                    obtain rfl := Option.some.inj H71
                    refine ret1 (v := .bool false) rfl rfl (fin rfl)
                  · have H72 := cnd_f hb H70; clear H70
                    refine c_skip ?_
                    refine c_region ?_
                    obtain ⟨t109, h_t109, H73⟩ := bnd_some H72; clear H72
                    refine l_val rfl rfl rfl (r_addG rfl rfl h_t109) ?_
                    refine l_val rfl rfl rfl (r_move (v := .int .i64 t109) rfl) ?_
                    refine l_nil ?_
                    refine c_close t109 () m3 [0] (by exact ⟨rfl, rfl, rfl, trivial⟩) (by decide) rfl (by exact ⟨(by subst hn3; exact H73), trivial⟩) (Nat.lt_succ_self _)
              · have H74 := cnd_f hb H63; clear H63
                refine c_exit ?_
                refine c_seq ?_
                refine c_region ?_
                refine l_val rfl rfl rfl (r_assign (v := .bool true) rfl) ?_
                refine l_nil ?_
                refine c_ret ?_
                obtain rfl := Option.some.inj H74
                refine ret1 (v := .bool true) rfl rfl (fin rfl)
end Go.Proofs.YtaonhnkojkkmbaaDoor
