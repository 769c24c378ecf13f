/- WhereAround: the walks, printed by our generator; each follows its model. Conditions: the model yields a value. -/
import Derived.Test.YtfgehlmdcllclaaDoorKAw
namespace Go.Proofs.YtfgehlmdcllclaaDoor
open Go Go.Vc Go.Md Go.M Go.Lx
set_option maxRecDepth 100000
set_option maxHeartbeats 4000000
set_option linter.unusedVariables false

theorem k45 {a0 : (List T_api_Place)} {v0 : Value} {r : Int} {w : World} {h : Heap} (hw : Know h w noS) (f0 : FrS h 2 v0 (a0.map e_api_Place)) (H : where_checkPlaces a0 = some r) : Does Tryd.prog 45 (List.toArray [v0]) w (fun v w' => v = (.int .i64 r) ∧ Grow w w') := by
  refine enter (n := 18) Tryd.func45 rfl rfl rfl noS [] (Sat.nil _ _) ?_
  refine c_seq ?_
  refine c_region ?_
  refine l_val rfl rfl rfl (r_assign (v := .int .i64 0) rfl) ?_
  refine l_nil ?_
  refine c_seq ?_
  refine c_seq ?_
  refine c_region ?_
  refine l_val rfl rfl rfl (r_move (v := v0) rfl) ?_
  refine l_val rfl rfl rfl (r_lenF Tryd.underlying22 rfl f0 rfl) ?_
  refine l_val rfl rfl rfl (r_move (v := .int .i64 0) rfl) ?_
  refine l_nil ?_
  refine c_block ?_
  refine c_fix (σ := Int) (τ := Unit) (fun next1 s => where_checkPlaces_l1 a0 next1 s) (fun s t => [(6, v0), (7, .int .i64 (a0.length : Int)), (8, .int .i64 s)]) (fun s t => []) (fun s t => True) 0 () [] H (by exact trivial) (by exact ⟨rfl, rfl, rfl, trivial⟩) (by decide) rfl ?_
  rintro x8_2 _ m1 gg H9 _
  clear H
  replace H9 : where_checkPlaces_l1 a0 (it (fun next1 s => where_checkPlaces_l1 a0 next1 s) m1) x8_2 = some r := H9
  generalize hn1 : it (fun next1 s => where_checkPlaces_l1 a0 next1 s) m1 = next1 at H9
  refine c_tidyF [(6, v0), (7, .int .i64 (a0.length : Int)), (8, .int .i64 x8_2)] [] rfl rfl ?_
  refine c_seq ?_
  refine c_region ?_
  refine l_val rfl rfl rfl (r_lss rfl rfl) ?_
  refine l_nil ?_
  refine c_seq ?_
  refine c_if (b := (decide (x8_2 < (a0.length : Int)))) rfl (fun hb => ?_) (fun hb => ?_)
  · have H10 := cnd_t hb H9; clear H9
    refine c_skip ?_
    refine c_seq ?_
    refine c_block ?_
    refine c_seq ?_
    refine c_region ?_
    obtain ⟨t10, h_t10, H11⟩ := bnd_some H10; clear H10
    refine l_val rfl rfl rfl (r_indexF Tryd.underlying22 Tryd.sizeOf34 rfl rfl f0 h_t10) ?_
    refine l_read (fun w hF hS => run_loadGN (j := 0) (vs := [.int .i64 t10.Lat, .int .i64 t10.Lon]) Tryd.isAgg34 Tryd.sizeOf34 rfl rfl (f0.row (hw.now hF)) h_t10 rfl) rfl rfl rfl ?_
    refine l_alloc (cs := [.int .i64 0, .int .i64 0]) Tryd.zeroValue34 rfl rfl rfl (fun b1 => ?_)
    refine l_store (i := 0) (vs := [.int .i64 t10.Lat, .int .i64 t10.Lon]) (cs' := [.int .i64 t10.Lat, .int .i64 t10.Lon]) Tryd.sizeOf34 rfl rfl rfl rfl rfl rfl rfl rfl rfl ?_
    refine l_nil ?_
    refine c_seq ?_
    refine c_region ?_
    refine l_loadN (i := 0) (vs := [.int .i64 t10.Lat, .int .i64 t10.Lon]) Tryd.isAgg34 Tryd.sizeOf34 rfl rfl rfl rfl rfl ?_
    obtain ⟨t13, h_t13, H12⟩ := bnd_some H11; clear H11
    refine l_call (k37 h_t13) Tryd.call37 rfl rfl rfl ?_
    refine l_val rfl rfl rfl (r_assign (v := .int .i64 t13) rfl) ?_
    refine l_nil ?_
    refine c_seq ?_
    refine c_region ?_
    refine l_val rfl rfl rfl (r_move (v := .int .i64 t13) rfl) ?_
    refine l_val rfl rfl rfl (r_neq rfl rfl) ?_
    refine l_nil ?_
    refine c_if (b := (decide (t13 ≠ 0))) rfl (fun hb => ?_) (fun hb => ?_)
    · have H13 := cnd_t hb H12; clear H12
      refine c_seq ?_
      refine c_region ?_
      refine l_val rfl rfl rfl (r_move (v := .int .i64 t13) rfl) ?_
      refine l_val rfl rfl rfl (r_assign (v := .int .i64 t13) rfl) ?_
      refine l_nil ?_
      refine c_ret ?_
      obtain rfl := Option.some.inj H13
      refine ret1 (v := .int .i64 t13) rfl rfl (fin rfl)
    · have H14 := cnd_f hb H12; clear H12
      refine c_skip ?_
      refine c_region ?_
      obtain ⟨t17, h_t17, H15⟩ := bnd_some H14; clear H14
      refine l_val rfl rfl rfl (r_addG rfl rfl h_t17) ?_
      refine l_val rfl rfl rfl (r_move (v := .int .i64 t17) rfl) ?_
      refine l_nil ?_
      refine c_close t17 () m1 [] (by exact ⟨rfl, rfl, rfl, trivial⟩) (by decide) rfl (by exact ⟨(by subst hn1; exact H15), trivial⟩) (Nat.lt_succ_self _)
  · have H16 := cnd_f hb H9; clear H9
    refine c_exit ?_
    refine c_seq ?_
    refine c_region ?_
    refine l_val rfl rfl rfl (r_assign (v := .int .i64 0) rfl) ?_
    refine l_nil ?_
    refine c_ret ?_
    obtain rfl := Option.some.inj H16
    refine ret1 (v := .int .i64 0) rfl rfl (fin rfl)
theorem k47 {a0 : Int} {r : Int} (H : where_cosine a0 = some r) : Ret Tryd.prog 47 [.int .i64 a0] (.int .i64 r) := by
  refine enterRet (n := 17) Tryd.func47 rfl rfl rfl (fun wd => ?_)
  refine c_seq ?_
  refine c_region ?_
  refine l_val rfl rfl rfl (r_assign (v := .int .i64 0) rfl) ?_
  refine l_nil ?_
  refine c_seq ?_
  refine c_region ?_
  refine l_val rfl rfl rfl (r_move (v := .int .i64 a0) rfl) ?_
  obtain ⟨t5, h_t5, H9⟩ := bnd_some H; clear H
  refine l_val rfl rfl rfl (r_quoG rfl rfl h_t5) ?_
  refine l_val rfl rfl rfl (r_assign (v := .int .i64 t5) rfl) ?_
  refine l_nil ?_
  refine c_seq ?_
  refine c_region ?_
  refine l_val rfl rfl rfl (r_move (v := .int .i64 t5) rfl) ?_
  obtain ⟨t7, h_t7, H10⟩ := bnd_some H9; clear H9
  refine l_val rfl rfl rfl (r_mulG rfl rfl h_t7) ?_
  refine l_val rfl rfl rfl (r_move (v := .int .i64 t5) rfl) ?_
  obtain ⟨t9, h_t9, H11⟩ := bnd_some H10; clear H10
  refine l_val rfl rfl rfl (r_mulG rfl rfl h_t9) ?_
  obtain ⟨t10, h_t10, H12⟩ := bnd_some H11; clear H11
  refine l_val rfl rfl rfl (r_subG rfl rfl h_t10) ?_
  obtain ⟨t11, h_t11, H13⟩ := bnd_some H12; clear H12
  refine l_val rfl rfl rfl (r_mulG rfl rfl h_t11) ?_
  refine l_val rfl rfl rfl (r_move (v := .int .i64 t5) rfl) ?_
  refine l_val rfl rfl rfl (r_move (v := .int .i64 t5) rfl) ?_
  obtain ⟨t14, h_t14, H14⟩ := bnd_some H13; clear H13
  refine l_val rfl rfl rfl (r_mulG rfl rfl h_t14) ?_
  obtain ⟨t15, h_t15, H15⟩ := bnd_some H14; clear H14
  refine l_val rfl rfl rfl (r_addG rfl rfl h_t15) ?_
  obtain ⟨t16, h_t16, H16⟩ := bnd_some H15; clear H15
  refine l_val rfl rfl rfl (r_quoG rfl rfl h_t16) ?_
  refine l_val rfl rfl rfl (r_assign (v := .int .i64 t16) rfl) ?_
  refine l_nil ?_
  refine c_ret ?_
  obtain rfl := Option.some.inj H16
  refine ret1 (v := .int .i64 t16) rfl rfl (fin rfl)
theorem k66 {a0 : Int} {a1 : Int} {r : Int} (H : where_eastward a0 a1 = some r) : Ret Tryd.prog 66 [.int .i64 a0, .int .i64 a1] (.int .i64 r) := by
  refine enterRet (n := 11) Tryd.func66 rfl rfl rfl (fun wd => ?_)
  refine c_seq ?_
  refine c_region ?_
  refine l_val rfl rfl rfl (r_assign (v := .int .i64 0) rfl) ?_
  refine l_nil ?_
  refine c_seq ?_
  refine c_region ?_
  refine l_val rfl rfl rfl (r_move (v := .int .i64 a1) rfl) ?_
  refine l_val rfl rfl rfl (r_move (v := .int .i64 a0) rfl) ?_
  obtain ⟨t7, h_t7, H5⟩ := bnd_some H; clear H
  refine l_val rfl rfl rfl (r_subG rfl rfl h_t7) ?_
  obtain ⟨t8, h_t8, H6⟩ := bnd_some H5; clear H5
  refine l_val rfl rfl rfl (r_remG rfl rfl h_t8) ?_
  obtain ⟨t9, h_t9, H7⟩ := bnd_some H6; clear H6
  refine l_val rfl rfl rfl (r_addG rfl rfl h_t9) ?_
  obtain ⟨t10, h_t10, H8⟩ := bnd_some H7; clear H7
  refine l_val rfl rfl rfl (r_remG rfl rfl h_t10) ?_
  refine l_val rfl rfl rfl (r_assign (v := .int .i64 t10) rfl) ?_
  refine l_nil ?_
  refine c_ret ?_
  obtain rfl := Option.some.inj H8
  refine ret1 (v := .int .i64 t10) rfl rfl (fin rfl)
theorem k63 {a0 : Int} {a1 : Int} {r : Int} (H : where_short a0 a1 = some r) : Ret Tryd.prog 63 [.int .i64 a0, .int .i64 a1] (.int .i64 r) := by
  refine enterRet (n := 14) Tryd.func63 rfl rfl rfl (fun wd => ?_)
  refine c_seq ?_
  refine c_region ?_
  refine l_val rfl rfl rfl (r_assign (v := .int .i64 0) rfl) ?_
  refine l_nil ?_
  refine c_seq ?_
  refine c_region ?_
  refine l_val rfl rfl rfl (r_move (v := .int .i64 a0) rfl) ?_
  refine l_val rfl rfl rfl (r_move (v := .int .i64 a1) rfl) ?_
  obtain ⟨t8, h_t8, H5⟩ := bnd_some H; clear H
  refine l_call (k66 h_t8) Tryd.call66 rfl rfl rfl ?_
  refine l_val rfl rfl rfl (r_assign (v := .int .i64 t8) rfl) ?_
  refine l_nil ?_
  refine c_seq ?_
  refine c_seq ?_
  refine c_region ?_
  refine l_val rfl rfl rfl (r_move (v := .int .i64 t8) rfl) ?_
  refine l_val rfl rfl rfl (r_geq rfl rfl) ?_
  refine l_nil ?_
  refine c_if (b := (decide (180000000 ≤ t8))) rfl (fun hb => ?_) (fun hb => ?_)
  · have H6 := cnd_t hb H5; clear H5
    refine c_region ?_
    refine l_val rfl rfl rfl (r_move (v := .int .i64 t8) rfl) ?_
    obtain ⟨t12, h_t12, H7⟩ := bnd_some H6; clear H6
    refine l_val rfl rfl rfl (r_subG rfl rfl h_t12) ?_
    refine l_val rfl rfl rfl (r_assign (v := .int .i64 t12) rfl) ?_
    refine l_nil ?_
    refine c_seq ?_
    refine c_region ?_
    refine l_val rfl rfl rfl (r_move (v := .int .i64 t12) rfl) ?_
    refine l_val rfl rfl rfl (r_assign (v := .int .i64 t12) rfl) ?_
    refine l_nil ?_
    refine c_ret ?_
    obtain rfl := Option.some.inj H7
    refine ret1 (v := .int .i64 t12) rfl rfl (fin rfl)
  · have H8 := cnd_f hb H5; clear H5
    refine c_skip ?_
    refine c_seq ?_
    refine c_region ?_
    refine l_val rfl rfl rfl (r_move (v := .int .i64 t8) rfl) ?_
    refine l_val rfl rfl rfl (r_assign (v := .int .i64 t8) rfl) ?_
    refine l_nil ?_
    refine c_ret ?_
    obtain rfl := Option.some.inj H8
    refine ret1 (v := .int .i64 t8) rfl rfl (fin rfl)
theorem k64 {a0 : Int} {a1 : Int} {r : Int} (H : where_floor a0 a1 = some r) : Ret Tryd.prog 64 [.int .i64 a0, .int .i64 a1] (.int .i64 r) := by
  refine enterRet (n := 16) Tryd.func64 rfl rfl rfl (fun wd => ?_)
  refine c_seq ?_
  refine c_region ?_
  refine l_val rfl rfl rfl (r_assign (v := .int .i64 0) rfl) ?_
  refine l_nil ?_
  refine c_seq ?_
  refine c_region ?_
  refine l_val rfl rfl rfl (r_move (v := .int .i64 a0) rfl) ?_
  refine l_val rfl rfl rfl (r_move (v := .int .i64 a1) rfl) ?_
  obtain ⟨t8, h_t8, H6⟩ := bnd_some H; clear H
  refine l_val rfl rfl rfl (r_quoG rfl rfl h_t8) ?_
  refine l_val rfl rfl rfl (r_assign (v := .int .i64 t8) rfl) ?_
  refine l_nil ?_
  refine c_seq ?_
  refine c_seq ?_
  refine c_region ?_
  refine l_val rfl rfl rfl (r_move (v := .int .i64 a0) rfl) ?_
  refine l_val rfl rfl rfl (r_move (v := .int .i64 a1) rfl) ?_
  obtain ⟨t11, h_t11, H7⟩ := bnd_some H6; clear H6
  refine l_val rfl rfl rfl (r_remG rfl rfl h_t11) ?_
  refine l_val rfl rfl rfl (r_lss rfl rfl) ?_
  refine l_nil ?_
  refine c_if (b := (decide (t11 < 0))) rfl (fun hb => ?_) (fun hb => ?_)
  · have H8 := cnd_t hb H7; clear H7
    refine c_region ?_
    refine l_val rfl rfl rfl (r_move (v := .int .i64 t8) rfl) ?_
    obtain ⟨t14, h_t14, H9⟩ := bnd_some H8; clear H8
    refine l_val rfl rfl rfl (r_subG rfl rfl h_t14) ?_
    refine l_val rfl rfl rfl (r_assign (v := .int .i64 t14) rfl) ?_
    refine l_nil ?_
    refine c_seq ?_
    refine c_region ?_
    refine l_val rfl rfl rfl (r_move (v := .int .i64 t14) rfl) ?_
    refine l_val rfl rfl rfl (r_assign (v := .int .i64 t14) rfl) ?_
    refine l_nil ?_
    refine c_ret ?_
    obtain rfl := Option.some.inj H9
    refine ret1 (v := .int .i64 t14) rfl rfl (fin rfl)
  · have H10 := cnd_f hb H7; clear H7
    refine c_skip ?_
    refine c_seq ?_
    refine c_region ?_
    refine l_val rfl rfl rfl (r_move (v := .int .i64 t8) rfl) ?_
    refine l_val rfl rfl rfl (r_assign (v := .int .i64 t8) rfl) ?_
    refine l_nil ?_
    refine c_ret ?_
    obtain rfl := Option.some.inj H10
    refine ret1 (v := .int .i64 t8) rfl rfl (fin rfl)
theorem ext88 (b q : Nat) (h : gSqrt b = some q) (w : World) : (callFunc 88 (List.toArray [.float .f64 b])).run Tryd.prog w = .ok (.value (.float .f64 q)) w := by
  have h0 : (callFunc 88 #[.float .f64 b]).run Tryd.prog w = (do pure (.value (← Extern.MathSqrt.sqrt #[.float .f64 b])) : Sem Next).run Tryd.prog w := by kernel_rfl
  rw [h0]
  simp only [Sem.run_bind, Go.Lx.run_sqrt h, Result.andThen_ok, Sem.run_pure]

theorem k76 {a0 : Nat} {r : Nat} (H : math_Sqrt a0 = some r) : Ret Tryd.prog 76 [.float .f64 a0] (.float .f64 r) := by
  refine enterRet (n := 5) Tryd.func76 rfl rfl rfl (fun wd => ?_)
  refine c_seq ?_
  refine c_region ?_
  refine l_val rfl rfl rfl (r_assign (v := .float .f64 0) rfl) ?_
  refine l_nil ?_
  refine c_seq ?_
  refine c_region ?_
  refine l_val rfl rfl rfl (r_move (v := .float .f64 a0) rfl) ?_
  obtain ⟨t4, h_t4, H2⟩ := bnd_some H; clear H
  refine l_val rfl rfl rfl (r_ext (args := [.float .f64 a0]) (ext88 _ _ h_t4) rfl) ?_
  refine l_val rfl rfl rfl (r_assign (v := .float .f64 t4) rfl) ?_
  refine l_nil ?_
  refine c_ret ?_
  obtain rfl := Option.some.inj H2
  refine ret1 (v := .float .f64 t4) rfl rfl (fin rfl)
theorem k65 {a0 : Int} {r : Int} (H : where_root a0 = some r) : Ret Tryd.prog 65 [.int .i64 a0] (.int .i64 r) := by
  refine enterRet (n := 25) Tryd.func65 rfl rfl rfl (fun wd => ?_)
  refine c_seq ?_
  refine c_region ?_
  refine l_val rfl rfl rfl (r_assign (v := .int .i64 0) rfl) ?_
  refine l_nil ?_
  refine c_seq ?_
  refine c_region ?_
  refine l_val rfl rfl rfl (r_move (v := .int .i64 a0) rfl) ?_
  obtain ⟨t5, h_t5, H17⟩ := bnd_some H; clear H
  refine l_val rfl rfl rfl (r_convIFG Tryd.runUnderlying3 Tryd.runUnderlying108 rfl h_t5) ?_
  obtain ⟨t6, h_t6, H18⟩ := bnd_some H17; clear H17
  refine l_call (k76 h_t6) Tryd.call76 rfl rfl rfl ?_
  obtain ⟨t7, h_t7, H19⟩ := bnd_some H18; clear H18
  refine l_val rfl rfl rfl (r_convFIG Tryd.runUnderlying108 Tryd.runUnderlying3 rfl h_t7) ?_
  refine l_val rfl rfl rfl (r_assign (v := .int .i64 t7) rfl) ?_
  refine l_nil ?_
  refine c_meet (r := r) (σ := Int) (τ := Unit) (fun s => where_root_j1 a0 s) (fun s t => [(0, .int .i64 a0), (3, .int .i64 s)]) (fun s t => []) (fun s t => True) ?_ ?_
  · refine c_block ?_
    refine c_fix (σ := Int) (τ := Unit) (fun next3 s => where_root_l3 a0 next3 s) (fun s t => [(0, .int .i64 a0), (3, .int .i64 s)]) (fun s t => []) (fun s t => True) t7 () [] H19 (by exact trivial) (by exact ⟨rfl, rfl, trivial⟩) (by decide) rfl ?_
    rintro x3_5 _ m3 gg H28 _
    clear H19
    replace H28 : where_root_l3 a0 (it (fun next3 s => where_root_l3 a0 next3 s) m3) x3_5 = some r := H28
    generalize hn3 : it (fun next3 s => where_root_l3 a0 next3 s) m3 = next3 at H28
    refine c_tidyF [(0, .int .i64 a0), (3, .int .i64 x3_5)] [] rfl rfl ?_
    refine c_seq ?_
    refine c_seq ?_
    refine c_region ?_
    refine l_val rfl rfl rfl (r_move (v := .int .i64 x3_5) rfl) ?_
    refine l_val rfl rfl rfl (r_move (v := .int .i64 x3_5) rfl) ?_
    obtain ⟨t10, h_t10, H29⟩ := bnd_some H28; clear H28
    refine l_val rfl rfl rfl (r_mulG rfl rfl h_t10) ?_
    refine l_val rfl rfl rfl (r_move (v := .int .i64 a0) rfl) ?_
    refine l_val rfl rfl rfl (r_gtr rfl rfl) ?_
    refine l_nil ?_
    refine c_if (b := (decide (a0 < t10))) rfl (fun hb => ?_) (fun hb => ?_)
    · have H30 := cnd_t hb H29; clear H29
      refine c_skip ?_
      refine c_block ?_
      refine c_region ?_
      refine l_val rfl rfl rfl (r_move (v := .int .i64 x3_5) rfl) ?_
      obtain ⟨t14, h_t14, H31⟩ := bnd_some H30; clear H30
      refine l_val rfl rfl rfl (r_subG rfl rfl h_t14) ?_
      refine l_val rfl rfl rfl (r_assign (v := .int .i64 t14) rfl) ?_
      refine l_nil ?_
      refine c_close t14 () m3 [] (by exact ⟨rfl, rfl, trivial⟩) (by decide) rfl (by exact ⟨(by subst hn3; exact H31), trivial⟩) (Nat.lt_succ_self _)
    · have H32 := cnd_f hb H29; clear H29
      refine c_exit ?_
      refine c_close x3_5 () 0 [] (by exact ⟨rfl, rfl, trivial⟩) (by decide) rfl (by exact ⟨H32, trivial⟩) (Nat.lt_succ_self _)
  · rintro x3 _ gg H20 _
    replace H20 : where_root_j1 a0 x3 = some r := H20
    refine c_tidyF [(0, .int .i64 a0), (3, .int .i64 x3)] [] rfl rfl ?_
    refine c_seq ?_
    refine c_block ?_
    refine c_fix (σ := Int) (τ := Unit) (fun next2 s => where_root_l2 a0 next2 s) (fun s t => [(0, .int .i64 a0), (3, .int .i64 s)]) (fun s t => []) (fun s t => True) x3 () [] H20 (by exact trivial) (by exact ⟨rfl, rfl, trivial⟩) (by decide) rfl ?_
    rintro x3_3 _ m2 gg H21 _
    clear H20
    replace H21 : where_root_l2 a0 (it (fun next2 s => where_root_l2 a0 next2 s) m2) x3_3 = some r := H21
    generalize hn2 : it (fun next2 s => where_root_l2 a0 next2 s) m2 = next2 at H21
    refine c_tidyF [(0, .int .i64 a0), (3, .int .i64 x3_3)] [] rfl rfl ?_
    refine c_seq ?_
    refine c_seq ?_
    refine c_region ?_
    refine l_val rfl rfl rfl (r_move (v := .int .i64 x3_3) rfl) ?_
    obtain ⟨t16, h_t16, H22⟩ := bnd_some H21; clear H21
    refine l_val rfl rfl rfl (r_addG rfl rfl h_t16) ?_
    refine l_val rfl rfl rfl (r_move (v := .int .i64 x3_3) rfl) ?_
    obtain ⟨t18, h_t18, H23⟩ := bnd_some H22; clear H22
    refine l_val rfl rfl rfl (r_addG rfl rfl h_t18) ?_
    obtain ⟨t19, h_t19, H24⟩ := bnd_some H23; clear H23
    refine l_val rfl rfl rfl (r_mulG rfl rfl h_t19) ?_
    refine l_val rfl rfl rfl (r_move (v := .int .i64 a0) rfl) ?_
    refine l_val rfl rfl rfl (r_leq rfl rfl) ?_
    refine l_nil ?_
    refine c_if (b := (decide (t19 ≤ a0))) rfl (fun hb => ?_) (fun hb => ?_)
    · have H25 := cnd_t hb H24; clear H24
      refine c_skip ?_
      refine c_block ?_
      refine c_region ?_
      refine l_val rfl rfl rfl (r_move (v := .int .i64 x3_3) rfl) ?_
      obtain ⟨t23, h_t23, H26⟩ := bnd_some H25; clear H25
      refine l_val rfl rfl rfl (r_addG rfl rfl h_t23) ?_
      refine l_val rfl rfl rfl (r_assign (v := .int .i64 t23) rfl) ?_
      refine l_nil ?_
      refine c_close t23 () m2 [] (by exact ⟨rfl, rfl, trivial⟩) (by decide) rfl (by exact ⟨(by subst hn2; exact H26), trivial⟩) (Nat.lt_succ_self _)
    · have H27 := cnd_f hb H24; clear H24
      refine c_exit ?_
      refine c_seq ?_
      refine c_region ?_
      refine l_val rfl rfl rfl (r_move (v := .int .i64 x3_3) rfl) ?_
      refine l_val rfl rfl rfl (r_assign (v := .int .i64 x3_3) rfl) ?_
      refine l_nil ?_
      refine c_ret ?_
      obtain rfl := Option.some.inj H27
      refine ret1 (v := .int .i64 x3_3) rfl rfl (fin rfl)
theorem k46 {a0 : T_api_Place} {a1 : T_api_Place} {r : Int} (H : where_distance a0 a1 = some r) : Ret Tryd.prog 46 [.agg #[.int .i64 a0.Lat, .int .i64 a0.Lon], .agg #[.int .i64 a1.Lat, .int .i64 a1.Lon]] (.int .i64 r) := by
  refine enterRet (n := 36) Tryd.func46 rfl rfl rfl (fun wd => ?_)
  refine c_seq ?_
  refine c_region ?_
  refine l_box (cs := [.int .i64 a0.Lat, .int .i64 a0.Lon]) rfl rfl rfl rfl (fun b2 => ?_)
  refine l_box (cs := [.int .i64 a1.Lat, .int .i64 a1.Lon]) rfl rfl rfl rfl (fun b3 => ?_)
  refine l_val rfl rfl rfl (r_assign (v := .int .i64 0) rfl) ?_
  refine l_nil ?_
  refine c_seq ?_
  refine c_region ?_
  refine l_val rfl rfl rfl (r_field Tryd.runUnderlying34 rfl Tryd.sizeOf3 rfl rfl) ?_
  refine l_load1 (i := 1) (v := .int .i64 a1.Lat) Tryd.isAgg3 rfl rfl rfl rfl rfl ?_
  refine l_val rfl rfl rfl (r_field Tryd.runUnderlying34 rfl Tryd.sizeOf3 rfl rfl) ?_
  refine l_load1 (i := 0) (v := .int .i64 a0.Lat) Tryd.isAgg3 rfl rfl rfl rfl rfl ?_
  obtain ⟨t11, h_t11, H14⟩ := bnd_some H; clear H
  refine l_val rfl rfl rfl (r_subG rfl rfl h_t11) ?_
  refine l_val rfl rfl rfl (r_assign (v := .int .i64 t11) rfl) ?_
  refine l_nil ?_
  refine c_seq ?_
  exact c_regionD (Kd.p :: Kd.d [0] _ :: Kd.p :: Kd.d [1] _ :: Kd.d [] _ :: Kd.p :: Kd.d [0] _ :: Kd.p :: Kd.d [1] _ :: Kd.p :: Kd.d [] _ :: Kd.d [] _ :: Kd.p :: Kd.p :: Kd.p :: []) 0 mixed (by
    refine d_val rfl rfl (r_field Tryd.runUnderlying34 rfl Tryd.sizeOf3 rfl rfl) ?_
    refine d_load1 (i := 0) (v := .int .i64 a0.Lon) Tryd.isAgg3 rfl rfl rfl rfl ?_
    refine d_val rfl rfl (r_field Tryd.runUnderlying34 rfl Tryd.sizeOf3 rfl rfl) ?_
    refine d_load1 (i := 1) (v := .int .i64 a1.Lon) Tryd.isAgg3 rfl rfl rfl rfl ?_
    have h_t16 := bnd_val H14
    have H15 := bnd_rest H14
    refine d_call (k63 h_t16) Tryd.call63 rfl rfl ?_
    refine d_val rfl rfl (r_field Tryd.runUnderlying34 rfl Tryd.sizeOf3 rfl rfl) ?_
    refine d_load1 (i := 0) (v := .int .i64 a0.Lat) Tryd.isAgg3 rfl rfl rfl rfl ?_
    refine d_val rfl rfl (r_field Tryd.runUnderlying34 rfl Tryd.sizeOf3 rfl rfl) ?_
    refine d_load1 (i := 1) (v := .int .i64 a1.Lat) Tryd.isAgg3 rfl rfl rfl rfl ?_
    have h_t21 := bnd_val H15
    have H16 := bnd_rest H15
    refine d_val rfl rfl (r_addG rfl rfl h_t21) ?_
    have h_t22 := bnd_val H16
    have H17 := bnd_rest H16
    refine d_call (k64 h_t22) Tryd.call64 rfl rfl ?_
    have h_t23 := bnd_val H17
    have H18 := bnd_rest H17
    refine d_call (k47 h_t23) Tryd.call47 rfl rfl ?_
    have h_t24 := bnd_val H18
    have H19 := bnd_rest H18
    refine d_val rfl rfl (r_mulG rfl rfl h_t24) ?_
    have h_t25 := bnd_val H19
    have H20 := bnd_rest H19
    refine d_val rfl rfl (r_quoG rfl rfl h_t25) ?_
    refine d_val rfl rfl (r_assign (v := .int .i64 (val (gQuo (val (gI ((val (where_short a0.Lon a1.Lon)) * (val (where_cosine (val (where_floor (val (gI (a0.Lat + a1.Lat))) 2))))))) 1000000))) rfl) ?_
    refine d_nil ?_
    refine c_seq ?_
    refine c_region ?_
    refine l_val rfl rfl rfl (r_move (v := .int .i64 t11) rfl) ?_
    refine l_val rfl rfl rfl (r_move (v := .int .i64 t11) rfl) ?_
    obtain ⟨t28, h_t28, H21⟩ := bnd_some H20; clear H20
    refine l_val rfl rfl rfl (r_mulG rfl rfl h_t28) ?_
    refine l_val rfl rfl rfl (r_move (v := .int .i64 (val (gQuo (val (gI ((val (where_short a0.Lon a1.Lon)) * (val (where_cosine (val (where_floor (val (gI (a0.Lat + a1.Lat))) 2))))))) 1000000))) rfl) ?_
    refine l_val rfl rfl rfl (r_move (v := .int .i64 (val (gQuo (val (gI ((val (where_short a0.Lon a1.Lon)) * (val (where_cosine (val (where_floor (val (gI (a0.Lat + a1.Lat))) 2))))))) 1000000))) rfl) ?_
    obtain ⟨t31, h_t31, H22⟩ := bnd_some H21; clear H21
    refine l_val rfl rfl rfl (r_mulG rfl rfl h_t31) ?_
    obtain ⟨t32, h_t32, H23⟩ := bnd_some H22; clear H22
    refine l_val rfl rfl rfl (r_addG rfl rfl h_t32) ?_
    obtain ⟨t33, h_t33, H24⟩ := bnd_some H23; clear H23
    refine l_call (k65 h_t33) Tryd.call65 rfl rfl rfl ?_
    obtain ⟨t34, h_t34, H25⟩ := bnd_some H24; clear H24
    refine l_val rfl rfl rfl (r_mulG rfl rfl h_t34) ?_
    obtain ⟨t35, h_t35, H26⟩ := bnd_some H25; clear H25
    refine l_val rfl rfl rfl (r_quoG rfl rfl h_t35) ?_
    refine l_val rfl rfl rfl (r_assign (v := .int .i64 t35) rfl) ?_
    refine l_nil ?_
    refine c_ret ?_
    obtain rfl := Option.some.inj H26
    refine ret1 (v := .int .i64 t35) rfl rfl (fin rfl)
    ) (by kernel_rfl)
theorem k27 {a0 : T_api_Place} {a1 : T_api_Place} {r : Int × Int} (H : where_Distance a0 a1 = some r) : Ret Tryd.prog 27 [.agg #[.int .i64 a0.Lat, .int .i64 a0.Lon], .agg #[.int .i64 a1.Lat, .int .i64 a1.Lon]] (.tuple #[.int .i64 r.1, .int .i64 r.2]) := by
  refine enterRet (n := 17) Tryd.func27 rfl rfl rfl (fun wd => ?_)
  refine c_seq ?_
  refine c_region ?_
  refine l_box (cs := [.int .i64 a0.Lat, .int .i64 a0.Lon]) rfl rfl rfl rfl (fun b3 => ?_)
  refine l_box (cs := [.int .i64 a1.Lat, .int .i64 a1.Lon]) rfl rfl rfl rfl (fun b4 => ?_)
  refine l_val rfl rfl rfl (r_assign (v := .int .i64 0) rfl) ?_
  refine l_val rfl rfl rfl (r_assign (v := .int .i64 0) rfl) ?_
  refine l_nil ?_
  refine c_seq ?_
  refine c_seq ?_
  refine c_region ?_
  refine l_loadN (i := 0) (vs := [.int .i64 a0.Lat, .int .i64 a0.Lon]) Tryd.isAgg34 Tryd.sizeOf34 rfl rfl rfl rfl rfl ?_
  refine l_loadN (i := 1) (vs := [.int .i64 a1.Lat, .int .i64 a1.Lon]) Tryd.isAgg34 Tryd.sizeOf34 rfl rfl rfl rfl rfl ?_
  refine l_buildSlice (vs := [.agg #[.int .i64 a0.Lat, .int .i64 a0.Lon], .agg #[.int .i64 a1.Lat, .int .i64 a1.Lon]]) (cs := [.int .i64 a0.Lat, .int .i64 a0.Lon, .int .i64 a1.Lat, .int .i64 a1.Lon]) Tryd.underlying22 Tryd.sizeOf34 Tryd.zeroValue34 rfl rfl rfl rfl rfl rfl rfl (fun b5 => ?_)
  obtain ⟨t10, h_t10, H5⟩ := bnd_some H; clear H
  refine l_callG (fun w hF hS => k45 (know_all w) (frs_box (i := 2) (xs := ([a0, a1] : List T_api_Place)) (f := e_api_Place) hS rfl rfl rfl rfl rfl) h_t10) Tryd.call45 rfl rfl rfl ?_
  refine l_val rfl rfl rfl (r_assign (v := .int .i64 t10) rfl) ?_
  refine l_nil ?_
  refine c_seq ?_
  refine c_region ?_
  refine l_val rfl rfl rfl (r_move (v := .int .i64 t10) rfl) ?_
  refine l_val rfl rfl rfl (r_neq rfl rfl) ?_
  refine l_nil ?_
  refine c_if (b := (decide (t10 ≠ 0))) rfl (fun hb => ?_) (fun hb => ?_)
  · have H6 := cnd_t hb H5; clear H5
    refine c_seq ?_
    refine c_region ?_
    refine l_val rfl rfl rfl (r_move (v := .int .i64 t10) rfl) ?_
    refine l_val rfl rfl rfl (r_assign (v := .int .i64 0) rfl) ?_
    refine l_val rfl rfl rfl (r_assign (v := .int .i64 t10) rfl) ?_
    refine l_nil ?_
    refine c_ret ?_
    obtain rfl := Option.some.inj H6
    refine ret2 (v1 := .int .i64 0) (v2 := .int .i64 t10) rfl rfl rfl (fin rfl)
  · have H7 := cnd_f hb H5; clear H5
    refine c_skip ?_
    refine c_seq ?_
    refine c_region ?_
    refine l_loadN (i := 0) (vs := [.int .i64 a0.Lat, .int .i64 a0.Lon]) Tryd.isAgg34 Tryd.sizeOf34 rfl rfl rfl rfl rfl ?_
    refine l_loadN (i := 1) (vs := [.int .i64 a1.Lat, .int .i64 a1.Lon]) Tryd.isAgg34 Tryd.sizeOf34 rfl rfl rfl rfl rfl ?_
    obtain ⟨t16, h_t16, H8⟩ := bnd_some H7; clear H7
    refine l_call (k46 h_t16) Tryd.call46 rfl rfl rfl ?_
    refine l_val rfl rfl rfl (r_assign (v := .int .i64 t16) rfl) ?_
    refine l_val rfl rfl rfl (r_assign (v := .int .i64 0) rfl) ?_
    refine l_nil ?_
    refine c_ret ?_
    obtain rfl := Option.some.inj H8
    refine ret2 (v1 := .int .i64 t16) (v2 := .int .i64 0) rfl rfl rfl (fin rfl)
theorem k48 {a0 : Int} {r : Int} (H : where_wrap a0 = some r) : Ret Tryd.prog 48 [.int .i64 a0] (.int .i64 r) := by
  refine enterRet (n := 6) Tryd.func48 rfl rfl rfl (fun wd => ?_)
  refine c_seq ?_
  refine c_region ?_
  refine l_val rfl rfl rfl (r_assign (v := .int .i64 0) rfl) ?_
  refine l_nil ?_
  refine c_seq ?_
  refine c_region ?_
  refine l_val rfl rfl rfl (r_move (v := .int .i64 a0) rfl) ?_
  obtain ⟨t4, h_t4, H3⟩ := bnd_some H; clear H
  refine l_call (k66 h_t4) Tryd.call66 rfl rfl rfl ?_
  obtain ⟨t5, h_t5, H4⟩ := bnd_some H3; clear H3
  refine l_val rfl rfl rfl (r_subG rfl rfl h_t5) ?_
  refine l_val rfl rfl rfl (r_assign (v := .int .i64 t5) rfl) ?_
  refine l_nil ?_
  refine c_ret ?_
  obtain rfl := Option.some.inj H4
  refine ret1 (v := .int .i64 t5) rfl rfl (fin rfl)
theorem k28 {a0 : T_api_Place} {a1 : Int} {r : T_where_Box × Int} (H : where_Around a0 a1 = some r) : Ret Tryd.prog 28 [.agg #[.int .i64 a0.Lat, .int .i64 a0.Lon], .int .i64 a1] (.tuple #[.agg #[.int .i64 r.1.South, .int .i64 r.1.West, .int .i64 r.1.North, .int .i64 r.1.East], .int .i64 r.2]) := by
  refine enterRet (n := 66) Tryd.func28 rfl rfl rfl (fun wd => ?_)
  refine c_seq ?_
  refine c_region ?_
  refine l_box (cs := [.int .i64 a0.Lat, .int .i64 a0.Lon]) rfl rfl rfl rfl (fun b3 => ?_)
  refine l_alloc (cs := [.int .i64 0, .int .i64 0, .int .i64 0, .int .i64 0]) Tryd.zeroValue42 rfl rfl rfl (fun b4 => ?_)
  refine l_val rfl rfl rfl (r_assign (v := .int .i64 0) rfl) ?_
  refine l_nil ?_
  refine c_seq ?_
  refine c_seq ?_
  refine c_region ?_
  refine l_loadN (i := 0) (vs := [.int .i64 a0.Lat, .int .i64 a0.Lon]) Tryd.isAgg34 Tryd.sizeOf34 rfl rfl rfl rfl rfl ?_
  obtain ⟨t12, h_t12, H27⟩ := bnd_some H; clear H
  refine l_call (k37 h_t12) Tryd.call37 rfl rfl rfl ?_
  refine l_val rfl rfl rfl (r_assign (v := .int .i64 t12) rfl) ?_
  refine l_nil ?_
  refine c_seq ?_
  refine c_region ?_
  refine l_val rfl rfl rfl (r_move (v := .int .i64 t12) rfl) ?_
  refine l_val rfl rfl rfl (r_neq rfl rfl) ?_
  refine l_nil ?_
  refine c_if (b := (decide (t12 ≠ 0))) rfl (fun hb => ?_) (fun hb => ?_)
  · have H28 := cnd_t hb H27; clear H27
    refine c_seq ?_
    refine c_region ?_
    refine l_val rfl rfl rfl (r_build (pl := #[(0, 1), (1, 1), (2, 1), (3, 1)]) (ps := []) (cells := #[.int .i64 0, .int .i64 0, .int .i64 0, .int .i64 0]) Tryd.zeroValue42 Tryd.runUnderlying42 (fun w => by kernel_rfl) rfl rfl) ?_
    refine l_val rfl rfl rfl (r_move (v := .int .i64 t12) rfl) ?_
    refine l_store (i := 1) (vs := [.int .i64 0, .int .i64 0, .int .i64 0, .int .i64 0]) (cs' := [.int .i64 0, .int .i64 0, .int .i64 0, .int .i64 0]) Tryd.sizeOf42 rfl rfl rfl rfl rfl rfl rfl rfl rfl ?_
    refine l_val rfl rfl rfl (r_assign (v := .int .i64 t12) rfl) ?_
    refine l_nil ?_
    refine c_ret ?_
    obtain rfl := Option.some.inj H28
    refine retCt (i := 1) (vs := [.int .i64 0, .int .i64 0, .int .i64 0, .int .i64 0]) (v2 := .int .i64 t12) Tryd.isAgg42 Tryd.sizeOf42 rfl rfl rfl rfl rfl (fin rfl)
  · have H29 := cnd_f hb H27; clear H27
    refine c_skip ?_
    refine c_seq ?_
    refine c_seq ?_
    refine c_region ?_
    refine l_val rfl rfl rfl (r_move (v := .int .i64 a1) rfl) ?_
    obtain ⟨t18, h_t18, H30⟩ := bnd_some H29; clear H29
    refine l_call (k38 h_t18) Tryd.call38 rfl rfl rfl ?_
    refine l_nil ?_
    refine c_if (b := t18) rfl (fun hb => ?_) (fun hb => ?_)
    · have H31 := cnd_t hb H30; clear H30
      refine c_seq ?_
      refine c_region ?_
      refine l_val rfl rfl rfl (r_build (pl := #[(0, 1), (1, 1), (2, 1), (3, 1)]) (ps := []) (cells := #[.int .i64 0, .int .i64 0, .int .i64 0, .int .i64 0]) Tryd.zeroValue42 Tryd.runUnderlying42 (fun w => by kernel_rfl) rfl rfl) ?_
      refine l_store (i := 1) (vs := [.int .i64 0, .int .i64 0, .int .i64 0, .int .i64 0]) (cs' := [.int .i64 0, .int .i64 0, .int .i64 0, .int .i64 0]) Tryd.sizeOf42 rfl rfl rfl rfl rfl rfl rfl rfl rfl ?_
      refine l_val rfl rfl rfl (r_assign (v := .int .i64 2) rfl) ?_
      refine l_nil ?_
      refine c_ret ?_
      obtain rfl := Option.some.inj H31
      refine retCt (i := 1) (vs := [.int .i64 0, .int .i64 0, .int .i64 0, .int .i64 0]) (v2 := .int .i64 2) Tryd.isAgg42 Tryd.sizeOf42 rfl rfl rfl rfl rfl (fin rfl)
    · have H32 := cnd_f hb H30; clear H30
      refine c_skip ?_
      refine c_seq ?_
      refine c_region ?_
      refine l_val rfl rfl rfl (r_move (v := .int .i64 a1) rfl) ?_
      obtain ⟨t21, h_t21, H33⟩ := bnd_some H32; clear H32
      refine l_val rfl rfl rfl (r_addG rfl rfl h_t21) ?_
      obtain ⟨t22, h_t22, H34⟩ := bnd_some H33; clear H33
      refine l_val rfl rfl rfl (r_mulG rfl rfl h_t22) ?_
      obtain ⟨t23, h_t23, H35⟩ := bnd_some H34; clear H34
      refine l_val rfl rfl rfl (r_quoG rfl rfl h_t23) ?_
      obtain ⟨t24, h_t24, H36⟩ := bnd_some H35; clear H35
      refine l_val rfl rfl rfl (r_addG rfl rfl h_t24) ?_
      refine l_val rfl rfl rfl (r_assign (v := .int .i64 t24) rfl) ?_
      refine l_nil ?_
      refine c_seq ?_
      refine c_region ?_
      refine l_val rfl rfl rfl (r_field Tryd.runUnderlying34 rfl Tryd.sizeOf3 rfl rfl) ?_
      refine l_load1 (i := 0) (v := .int .i64 a0.Lat) Tryd.isAgg3 rfl rfl rfl rfl rfl ?_
      refine l_val rfl rfl rfl (r_move (v := .int .i64 t24) rfl) ?_
      obtain ⟨t28, h_t28, H37⟩ := bnd_some H36; clear H36
      refine l_val rfl rfl rfl (r_subG rfl rfl h_t28) ?_
      refine l_val rfl rfl rfl (r_max rfl rfl) ?_
      refine l_val rfl rfl rfl (r_field Tryd.runUnderlying34 rfl Tryd.sizeOf3 rfl rfl) ?_
      refine l_load1 (i := 0) (v := .int .i64 a0.Lat) Tryd.isAgg3 rfl rfl rfl rfl rfl ?_
      refine l_val rfl rfl rfl (r_move (v := .int .i64 t24) rfl) ?_
      obtain ⟨t33, h_t33, H38⟩ := bnd_some H37; clear H37
      refine l_val rfl rfl rfl (r_addG rfl rfl h_t33) ?_
      refine l_val rfl rfl rfl (r_min rfl rfl) ?_
      refine l_val rfl rfl rfl (r_build (pl := #[(0, 1), (1, 1), (2, 1), (3, 1)]) (ps := [(0, .int .i64 (max t28 (-90000000))), (2, .int .i64 (min t33 90000000)), (1, .int .i64 (-180000000)), (3, .int .i64 179999999)]) (cells := #[.int .i64 (max t28 (-90000000)), .int .i64 (-180000000), .int .i64 (min t33 90000000), .int .i64 179999999]) Tryd.zeroValue42 Tryd.runUnderlying42 (fun w => by kernel_rfl) rfl rfl) ?_
      refine l_alloc (cs := [.int .i64 0, .int .i64 0, .int .i64 0, .int .i64 0]) Tryd.zeroValue42 rfl rfl rfl (fun b5 => ?_)
      refine l_store (i := 2) (vs := [.int .i64 (max t28 (-90000000)), .int .i64 (-180000000), .int .i64 (min t33 90000000), .int .i64 179999999]) (cs' := [.int .i64 (max t28 (-90000000)), .int .i64 (-180000000), .int .i64 (min t33 90000000), .int .i64 179999999]) Tryd.sizeOf42 rfl rfl rfl rfl rfl rfl rfl rfl rfl ?_
      refine l_nil ?_
      refine c_seq ?_
      exact c_regionD (Kd.p :: Kd.d [2] _ :: Kd.d [] _ :: Kd.p :: Kd.d [2] _ :: Kd.d [] _ :: Kd.p :: Kd.p :: []) 0 mixed (by
        refine d_val rfl rfl (r_field Tryd.runUnderlying42 rfl Tryd.sizeOf3 rfl rfl) ?_
        refine d_load1 (i := 2) (v := .int .i64 (max t28 (-90000000))) Tryd.isAgg3 rfl rfl rfl rfl ?_
        have h_t38 := bnd_val H38
        have H39 := bnd_rest H38
        refine d_call (k47 h_t38) Tryd.call47 rfl rfl ?_
        refine d_val rfl rfl (r_field Tryd.runUnderlying42 rfl Tryd.sizeOf3 rfl rfl) ?_
        refine d_load1 (i := 2) (v := .int .i64 (min t33 90000000)) Tryd.isAgg3 rfl rfl rfl rfl ?_
        have h_t41 := bnd_val H39
        have H40 := bnd_rest H39
        refine d_call (k47 h_t41) Tryd.call47 rfl rfl ?_
        refine d_val rfl rfl (r_min rfl rfl) ?_
        refine d_val rfl rfl (r_assign (v := .int .i64 (min (val (where_cosine (max t28 (-90000000)))) (val (where_cosine (min t33 90000000))))) rfl) ?_
        refine d_nil ?_
        refine c_seq ?_
        refine c_seq ?_
        refine c_region ?_
        refine l_val rfl rfl rfl (r_move (v := .int .i64 (min (val (where_cosine (max t28 (-90000000)))) (val (where_cosine (min t33 90000000))))) rfl) ?_
        refine l_val rfl rfl rfl (r_eql rfl rfl) ?_
        refine l_nil ?_
        refine c_if (b := (decide ((min (val (where_cosine (max t28 (-90000000)))) (val (where_cosine (min t33 90000000)))) = 0))) rfl (fun hb => ?_) (fun hb => ?_)
        · have H41 := cnd_t hb H40; clear H40
          refine c_seq ?_
          refine c_region ?_
          refine l_loadN (i := 2) (vs := [.int .i64 (max t28 (-90000000)), .int .i64 (-180000000), .int .i64 (min t33 90000000), .int .i64 179999999]) Tryd.isAgg42 Tryd.sizeOf42 rfl rfl rfl rfl rfl ?_
          refine l_store (i := 1) (vs := [.int .i64 (max t28 (-90000000)), .int .i64 (-180000000), .int .i64 (min t33 90000000), .int .i64 179999999]) (cs' := [.int .i64 (max t28 (-90000000)), .int .i64 (-180000000), .int .i64 (min t33 90000000), .int .i64 179999999]) Tryd.sizeOf42 rfl rfl rfl rfl rfl rfl rfl rfl rfl ?_
          refine l_val rfl rfl rfl (r_assign (v := .int .i64 0) rfl) ?_
          refine l_nil ?_
          refine c_ret ?_
          obtain rfl := Option.some.inj H41
          refine retCt (i := 1) (vs := [.int .i64 (max t28 (-90000000)), .int .i64 (-180000000), .int .i64 (min t33 90000000), .int .i64 179999999]) (v2 := .int .i64 0) Tryd.isAgg42 Tryd.sizeOf42 rfl rfl rfl rfl rfl (fin rfl)
        · have H42 := cnd_f hb H40; clear H40
          refine c_skip ?_
          refine c_meet (r := r) (σ := Int × Int) (τ := Unit) (fun s => where_Around_j1 t28 t33 s.1 s.2) (fun s t => [(4, .pointer (some ⟨b4, 0, none⟩)), (8, .pointer (some ⟨b5, 0, none⟩))]) (fun s t => [cellsC b4 [.int .i64 0, .int .i64 0, .int .i64 0, .int .i64 0] 42, cellsC b5 [.int .i64 (max t28 (-90000000)), .int .i64 s.1, .int .i64 (min t33 90000000), .int .i64 s.2] 42]) (fun s t => True) ?_ ?_
          · refine c_seq ?_
            refine c_region ?_
            refine l_val rfl rfl rfl (r_move (v := .int .i64 t24) rfl) ?_
            obtain ⟨t47, h_t47, H44⟩ := bnd_some H42; clear H42
            refine l_val rfl rfl rfl (r_mulG rfl rfl h_t47) ?_
            refine l_val rfl rfl rfl (r_move (v := .int .i64 (min (val (where_cosine (max t28 (-90000000)))) (val (where_cosine (min t33 90000000))))) rfl) ?_
            obtain ⟨t49, h_t49, H45⟩ := bnd_some H44; clear H44
            refine l_val rfl rfl rfl (r_quoG rfl rfl h_t49) ?_
            obtain ⟨t50, h_t50, H46⟩ := bnd_some H45; clear H45
            refine l_val rfl rfl rfl (r_addG rfl rfl h_t50) ?_
            refine l_val rfl rfl rfl (r_assign (v := .int .i64 t50) rfl) ?_
            refine l_nil ?_
            refine c_seq ?_
            refine c_region ?_
            refine l_val rfl rfl rfl (r_move (v := .int .i64 t50) rfl) ?_
            refine l_val rfl rfl rfl (r_lss rfl rfl) ?_
            refine l_nil ?_
            refine c_if (b := (decide (t50 < 180000000))) rfl (fun hb => ?_) (fun hb => ?_)
            · have H47 := cnd_t hb H46; clear H46
              exact c_regionD (Kd.p :: Kd.d [0] _ :: Kd.p :: Kd.p :: Kd.d [] _ :: Kd.p :: Kd.d [0] _ :: Kd.p :: Kd.p :: Kd.d [] _ :: Kd.p :: Kd.st 63 2 [_, _, _, _] 42 :: Kd.p :: Kd.st 64 2 [_, _, _, _] 42 :: []) 0 mixed (by
                refine d_val rfl rfl (r_field Tryd.runUnderlying34 rfl Tryd.sizeOf3 rfl rfl) ?_
                refine d_load1 (i := 0) (v := .int .i64 a0.Lon) Tryd.isAgg3 rfl rfl rfl rfl ?_
                refine d_val rfl rfl (r_move (v := .int .i64 t50) rfl) ?_
                have h_t56 := bnd_val H47
                have H48 := bnd_rest H47
                refine d_val rfl rfl (r_subG rfl rfl h_t56) ?_
                have h_t57 := bnd_val H48
                have H49 := bnd_rest H48
                refine d_call (k48 h_t57) Tryd.call48 rfl rfl ?_
                refine d_val rfl rfl (r_field Tryd.runUnderlying34 rfl Tryd.sizeOf3 rfl rfl) ?_
                refine d_load1 (i := 0) (v := .int .i64 a0.Lon) Tryd.isAgg3 rfl rfl rfl rfl ?_
                refine d_val rfl rfl (r_move (v := .int .i64 t50) rfl) ?_
                have h_t61 := bnd_val H49
                have H50 := bnd_rest H49
                refine d_val rfl rfl (r_addG rfl rfl h_t61) ?_
                have h_t62 := bnd_val H50
                have H51 := bnd_rest H50
                refine d_call (k48 h_t62) Tryd.call48 rfl rfl ?_
                refine d_val rfl rfl (r_field Tryd.runUnderlying42 rfl Tryd.sizeOf3 rfl rfl) ?_
                refine d_store (i := 2) (vs := [.int .i64 (val (where_wrap (val (gI (a0.Lon - t50)))))]) (cs' := [.int .i64 (max t28 (-90000000)), .int .i64 (val (where_wrap (val (gI (a0.Lon - t50))))), .int .i64 (min t33 90000000), .int .i64 179999999]) Tryd.sizeOf3 rfl rfl rfl rfl rfl rfl rfl rfl rfl ?_
                refine d_val rfl rfl (r_field Tryd.runUnderlying42 rfl Tryd.sizeOf3 rfl rfl) ?_
                refine d_store (i := 2) (vs := [.int .i64 (val (where_wrap (val (gI (a0.Lon + t50)))))]) (cs' := [.int .i64 (max t28 (-90000000)), .int .i64 (val (where_wrap (val (gI (a0.Lon - t50))))), .int .i64 (min t33 90000000), .int .i64 (val (where_wrap (val (gI (a0.Lon + t50)))))]) Tryd.sizeOf3 rfl rfl rfl rfl rfl rfl rfl rfl rfl ?_
                refine d_nil ?_
                refine c_close ((val (where_wrap (val (gI (a0.Lon - t50))))), (val (where_wrap (val (gI (a0.Lon + t50)))))) () 0 [1, 2] (by exact ⟨rfl, rfl, trivial⟩) (by decide) rfl (by exact ⟨H51, trivial⟩) (Nat.lt_succ_self _)
                ) (by kernel_rfl)
            · have H52 := cnd_f hb H46; clear H46
              refine c_skip ?_
              refine c_close ((-180000000), 179999999) () 0 [1, 2] (by exact ⟨rfl, rfl, trivial⟩) (by decide) rfl (by exact ⟨H52, trivial⟩) (Nat.lt_succ_self _)
          · rintro ⟨m, m_2⟩ _ gg H43 _
            replace H43 : where_Around_j1 t28 t33 m m_2 = some r := H43
            refine c_tidyF [(4, .pointer (some ⟨b4, 0, none⟩)), (8, .pointer (some ⟨b5, 0, none⟩))] [cellsC b4 [.int .i64 0, .int .i64 0, .int .i64 0, .int .i64 0] 42, cellsC b5 [.int .i64 (max t28 (-90000000)), .int .i64 m, .int .i64 (min t33 90000000), .int .i64 m_2] 42] rfl rfl ?_
            refine c_seq ?_
            refine c_region ?_
            refine l_loadN (i := 1) (vs := [.int .i64 (max t28 (-90000000)), .int .i64 m, .int .i64 (min t33 90000000), .int .i64 m_2]) Tryd.isAgg42 Tryd.sizeOf42 rfl rfl rfl rfl rfl ?_
            refine l_store (i := 0) (vs := [.int .i64 (max t28 (-90000000)), .int .i64 m, .int .i64 (min t33 90000000), .int .i64 m_2]) (cs' := [.int .i64 (max t28 (-90000000)), .int .i64 m, .int .i64 (min t33 90000000), .int .i64 m_2]) Tryd.sizeOf42 rfl rfl rfl rfl rfl rfl rfl rfl rfl ?_
            refine l_val rfl rfl rfl (r_assign (v := .int .i64 0) rfl) ?_
            refine l_nil ?_
            refine c_ret ?_
            obtain rfl := Option.some.inj H43
            refine retCt (i := 0) (vs := [.int .i64 (max t28 (-90000000)), .int .i64 m, .int .i64 (min t33 90000000), .int .i64 m_2]) (v2 := .int .i64 0) Tryd.isAgg42 Tryd.sizeOf42 rfl rfl rfl rfl rfl (fin rfl)
        ) (by kernel_rfl)
theorem k49 {a0 : T_where_Box} {r : Int} (H : where_CheckBox a0 = some r) : Ret Tryd.prog 49 [.agg #[.int .i64 a0.South, .int .i64 a0.West, .int .i64 a0.North, .int .i64 a0.East]] (.int .i64 r) := by
  refine enterRet (n := 32) Tryd.func49 rfl rfl rfl (fun wd => ?_)
  refine c_seq ?_
  refine c_region ?_
  refine l_box (cs := [.int .i64 a0.South, .int .i64 a0.West, .int .i64 a0.North, .int .i64 a0.East]) rfl rfl rfl rfl (fun b1 => ?_)
  refine l_val rfl rfl rfl (r_assign (v := .int .i64 0) rfl) ?_
  refine l_nil ?_
  refine c_seq ?_
  refine c_block ?_
  refine c_seq ?_
  refine c_region ?_
  refine l_val rfl rfl rfl (r_field Tryd.runUnderlying42 rfl Tryd.sizeOf3 rfl rfl) ?_
  refine l_load1 (i := 0) (v := .int .i64 a0.South) Tryd.isAgg3 rfl rfl rfl rfl rfl ?_
  obtain ⟨t6, h_t6, H15⟩ := bnd_some H; clear H
  refine l_call (k53 h_t6) Tryd.call53 rfl rfl rfl ?_
  refine l_val rfl rfl rfl (r_not rfl) ?_
  refine l_val rfl rfl rfl (r_move (v := .bool (!t6)) rfl) ?_
  refine split (fun hb => ?_) (fun hb => ?_)
  · have H16 := cnd_t hb H15; clear H15
    refine l_passed rfl rfl rfl ?_
    refine l_passed rfl rfl rfl ?_
    refine l_passed rfl rfl rfl ?_
    refine l_passed rfl rfl rfl ?_
    refine l_val rfl rfl rfl (r_pickT (v := .bool true) rfl rfl) ?_
    refine l_val rfl rfl rfl (r_move (v := .bool true) rfl) ?_
    refine l_passed rfl rfl rfl ?_
    refine l_passed rfl rfl rfl ?_
    refine l_passed rfl rfl rfl ?_
    refine l_passed rfl rfl rfl ?_
    refine l_val rfl rfl rfl (r_pickT (v := .bool true) rfl rfl) ?_
    refine l_val rfl rfl rfl (r_move (v := .bool true) rfl) ?_
    refine l_passed rfl rfl rfl ?_
    refine l_passed rfl rfl rfl ?_
    refine l_passed rfl rfl rfl ?_
    refine l_passed rfl rfl rfl ?_
    refine l_val rfl rfl rfl (r_pickT (v := .bool true) rfl rfl) ?_
    refine l_val rfl rfl rfl (r_assign (v := .bool true) rfl) ?_
    refine l_nil ?_
    refine c_true rfl ?_
    refine c_seq ?_
    refine c_region ?_
    refine l_val rfl rfl rfl (r_assign (v := .int .i64 2) rfl) ?_
    refine l_nil ?_
    refine c_ret ?_
    obtain rfl := Option.some.inj H16
    refine ret1 (v := .int .i64 2) rfl rfl (fin rfl)
  · have H17 := cnd_f hb H15; clear H15
    refine l_val rfl rfl rfl (r_field Tryd.runUnderlying42 rfl Tryd.sizeOf3 rfl rfl) ?_
    refine l_load1 (i := 0) (v := .int .i64 a0.North) Tryd.isAgg3 rfl rfl rfl rfl rfl ?_
    obtain ⟨t11, h_t11, H18⟩ := bnd_some H17; clear H17
    refine l_call (k53 h_t11) Tryd.call53 rfl rfl rfl ?_
    refine l_val rfl rfl rfl (r_not rfl) ?_
    refine l_val rfl rfl rfl (r_pickF (v := .bool (!t11)) rfl rfl) ?_
    refine l_val rfl rfl rfl (r_move (v := .bool (!t11)) rfl) ?_
    refine split (fun hb => ?_) (fun hb => ?_)
    · have H19 := cnd_t hb H18; clear H18
      refine l_passed rfl rfl rfl ?_
      refine l_passed rfl rfl rfl ?_
      refine l_passed rfl rfl rfl ?_
      refine l_passed rfl rfl rfl ?_
      refine l_val rfl rfl rfl (r_pickT (v := .bool true) rfl rfl) ?_
      refine l_val rfl rfl rfl (r_move (v := .bool true) rfl) ?_
      refine l_passed rfl rfl rfl ?_
      refine l_passed rfl rfl rfl ?_
      refine l_passed rfl rfl rfl ?_
      refine l_passed rfl rfl rfl ?_
      refine l_val rfl rfl rfl (r_pickT (v := .bool true) rfl rfl) ?_
      refine l_val rfl rfl rfl (r_assign (v := .bool true) rfl) ?_
      refine l_nil ?_
      refine c_true rfl ?_
      refine c_seq ?_
      refine c_region ?_
      refine l_val rfl rfl rfl (r_assign (v := .int .i64 2) rfl) ?_
      refine l_nil ?_
      refine c_ret ?_
      obtain rfl := Option.some.inj H19
      refine ret1 (v := .int .i64 2) rfl rfl (fin rfl)
    · have H20 := cnd_f hb H18; clear H18
      refine l_val rfl rfl rfl (r_field Tryd.runUnderlying42 rfl Tryd.sizeOf3 rfl rfl) ?_
      refine l_load1 (i := 0) (v := .int .i64 a0.West) Tryd.isAgg3 rfl rfl rfl rfl rfl ?_
      obtain ⟨t17, h_t17, H21⟩ := bnd_some H20; clear H20
      refine l_call (k54 h_t17) Tryd.call54 rfl rfl rfl ?_
      refine l_val rfl rfl rfl (r_not rfl) ?_
      refine l_val rfl rfl rfl (r_pickF (v := .bool (!t17)) rfl rfl) ?_
      refine l_val rfl rfl rfl (r_move (v := .bool (!t17)) rfl) ?_
      refine split (fun hb => ?_) (fun hb => ?_)
      · have H22 := cnd_t hb H21; clear H21
        refine l_passed rfl rfl rfl ?_
        refine l_passed rfl rfl rfl ?_
        refine l_passed rfl rfl rfl ?_
        refine l_passed rfl rfl rfl ?_
        refine l_val rfl rfl rfl (r_pickT (v := .bool true) rfl rfl) ?_
        refine l_val rfl rfl rfl (r_assign (v := .bool true) rfl) ?_
        refine l_nil ?_
        refine c_true rfl ?_
        refine c_seq ?_
        refine c_region ?_
        refine l_val rfl rfl rfl (r_assign (v := .int .i64 2) rfl) ?_
        refine l_nil ?_
        refine c_ret ?_
        obtain rfl := Option.some.inj H22
        refine ret1 (v := .int .i64 2) rfl rfl (fin rfl)
      · have H23 := cnd_f hb H21; clear H21
        refine l_val rfl rfl rfl (r_field Tryd.runUnderlying42 rfl Tryd.sizeOf3 rfl rfl) ?_
        refine l_load1 (i := 0) (v := .int .i64 a0.East) Tryd.isAgg3 rfl rfl rfl rfl rfl ?_
        obtain ⟨t23, h_t23, H24⟩ := bnd_some H23; clear H23
        refine l_call (k54 h_t23) Tryd.call54 rfl rfl rfl ?_
        refine l_val rfl rfl rfl (r_not rfl) ?_
        refine l_val rfl rfl rfl (r_pickF (v := .bool (!t23)) rfl rfl) ?_
        refine l_val rfl rfl rfl (r_assign (v := .bool (!t23)) rfl) ?_
        refine l_nil ?_
        refine c_if (b := (!t23)) rfl (fun hb => ?_) (fun hb => ?_)
        · have H25 := cnd_t hb H24; clear H24
          refine c_seq ?_
          refine c_region ?_
          refine l_val rfl rfl rfl (r_assign (v := .int .i64 2) rfl) ?_
          refine l_nil ?_
          refine c_ret ?_
          obtain rfl := Option.some.inj H25
          refine ret1 (v := .int .i64 2) rfl rfl (fin rfl)
        · have H26 := cnd_f hb H24; clear H24
          refine c_seq ?_
          refine c_region ?_
          refine l_val rfl rfl rfl (r_field Tryd.runUnderlying42 rfl Tryd.sizeOf3 rfl rfl) ?_
          refine l_load1 (i := 0) (v := .int .i64 a0.North) Tryd.isAgg3 rfl rfl rfl rfl rfl ?_
          refine l_val rfl rfl rfl (r_field Tryd.runUnderlying42 rfl Tryd.sizeOf3 rfl rfl) ?_
          refine l_load1 (i := 0) (v := .int .i64 a0.South) Tryd.isAgg3 rfl rfl rfl rfl rfl ?_
          refine l_val rfl rfl rfl (r_lss rfl rfl) ?_
          refine l_val rfl rfl rfl (r_assign (v := .bool (decide (a0.North < a0.South))) rfl) ?_
          refine l_nil ?_
          refine c_if (b := (decide (a0.North < a0.South))) rfl (fun hb => ?_) (fun hb => ?_)
          · have H27 := cnd_t hb H26; clear H26
            refine c_seq ?_
            refine c_region ?_
            refine l_val rfl rfl rfl (r_assign (v := .int .i64 5) rfl) ?_
            refine l_nil ?_
            refine c_ret ?_
            obtain rfl := Option.some.inj H27
            refine ret1 (v := .int .i64 5) rfl rfl (fin rfl)
          · have H28 := cnd_f hb H26; clear H26
            refine c_skip ?_
            refine c_seq ?_
            refine c_region ?_
            refine l_val rfl rfl rfl (r_assign (v := .int .i64 0) rfl) ?_
            refine l_nil ?_
            refine c_ret ?_
            obtain rfl := Option.some.inj H28
            refine ret1 (v := .int .i64 0) rfl rfl (fin rfl)
theorem k50 {a0 : T_where_Box} {a1 : Int} {r : Bool} (H : where_Box_spans a0 a1 = some r) : Ret Tryd.prog 50 [.agg #[.int .i64 a0.South, .int .i64 a0.West, .int .i64 a0.North, .int .i64 a0.East], .int .i64 a1] (.bool r) := by
  refine enterRet (n := 15) Tryd.func50 rfl rfl rfl (fun wd => ?_)
  refine c_seq ?_
  refine c_region ?_
  refine l_box (cs := [.int .i64 a0.South, .int .i64 a0.West, .int .i64 a0.North, .int .i64 a0.East]) rfl rfl rfl rfl (fun b1 => ?_)
  refine l_val rfl rfl rfl (r_assign (v := .bool false) rfl) ?_
  refine l_nil ?_
  refine c_seq ?_
  exact c_regionD (Kd.p :: Kd.d [0] _ :: Kd.p :: Kd.d [] _ :: Kd.p :: Kd.d [0] _ :: Kd.p :: Kd.d [0] _ :: Kd.d [] _ :: Kd.p :: Kd.p :: []) 0 mixed (by
    refine d_val rfl rfl (r_field Tryd.runUnderlying42 rfl Tryd.sizeOf3 rfl rfl) ?_
    refine d_load1 (i := 0) (v := .int .i64 a0.West) Tryd.isAgg3 rfl rfl rfl rfl ?_
    refine d_val rfl rfl (r_move (v := .int .i64 a1) rfl) ?_
    have h_t8 := bnd_val H
    have H3 := bnd_rest H
    refine d_call (k66 h_t8) Tryd.call66 rfl rfl ?_
    refine d_val rfl rfl (r_field Tryd.runUnderlying42 rfl Tryd.sizeOf3 rfl rfl) ?_
    refine d_load1 (i := 0) (v := .int .i64 a0.West) Tryd.isAgg3 rfl rfl rfl rfl ?_
    refine d_val rfl rfl (r_field Tryd.runUnderlying42 rfl Tryd.sizeOf3 rfl rfl) ?_
    refine d_load1 (i := 0) (v := .int .i64 a0.East) Tryd.isAgg3 rfl rfl rfl rfl ?_
    have h_t13 := bnd_val H3
    have H4 := bnd_rest H3
    refine d_call (k66 h_t13) Tryd.call66 rfl rfl ?_
    refine d_val rfl rfl (r_leq rfl rfl) ?_
    refine d_val rfl rfl (r_assign (v := .bool (decide ((val (where_eastward a0.West a1)) ≤ (val (where_eastward a0.West a0.East))))) rfl) ?_
    refine d_nil ?_
    refine c_ret ?_
    obtain rfl := Option.some.inj H4
    refine ret1 (v := .bool (decide ((val (where_eastward a0.West a1)) ≤ (val (where_eastward a0.West a0.East))))) rfl rfl (fin rfl)
    ) (by kernel_rfl)
theorem k29 {a0 : T_where_Box} {a1 : T_api_Place} {r : Bool × Int} (H : where_In a0 a1 = some r) : Ret Tryd.prog 29 [.agg #[.int .i64 a0.South, .int .i64 a0.West, .int .i64 a0.North, .int .i64 a0.East], .agg #[.int .i64 a1.Lat, .int .i64 a1.Lon]] (.tuple #[.bool r.1, .int .i64 r.2]) := by
  refine enterRet (n := 32) Tryd.func29 rfl rfl rfl (fun wd => ?_)
  refine c_seq ?_
  refine c_region ?_
  refine l_box (cs := [.int .i64 a0.South, .int .i64 a0.West, .int .i64 a0.North, .int .i64 a0.East]) rfl rfl rfl rfl (fun b2 => ?_)
  refine l_box (cs := [.int .i64 a1.Lat, .int .i64 a1.Lon]) rfl rfl rfl rfl (fun b3 => ?_)
  refine l_val rfl rfl rfl (r_assign (v := .bool false) rfl) ?_
  refine l_val rfl rfl rfl (r_assign (v := .int .i64 0) rfl) ?_
  refine l_nil ?_
  refine c_seq ?_
  refine c_seq ?_
  refine c_region ?_
  refine l_loadN (i := 0) (vs := [.int .i64 a0.South, .int .i64 a0.West, .int .i64 a0.North, .int .i64 a0.East]) Tryd.isAgg42 Tryd.sizeOf42 rfl rfl rfl rfl rfl ?_
  obtain ⟨t9, h_t9, H11⟩ := bnd_some H; clear H
  refine l_call (k49 h_t9) Tryd.call49 rfl rfl rfl ?_
  refine l_val rfl rfl rfl (r_assign (v := .int .i64 t9) rfl) ?_
  refine l_nil ?_
  refine c_seq ?_
  refine c_region ?_
  refine l_val rfl rfl rfl (r_move (v := .int .i64 t9) rfl) ?_
  refine l_val rfl rfl rfl (r_neq rfl rfl) ?_
  refine l_nil ?_
  refine c_if (b := (decide (t9 ≠ 0))) rfl (fun hb => ?_) (fun hb => ?_)
  · have H12 := cnd_t hb H11; clear H11
    refine c_seq ?_
    refine c_region ?_
    refine l_val rfl rfl rfl (r_move (v := .int .i64 t9) rfl) ?_
    refine l_val rfl rfl rfl (r_assign (v := .bool false) rfl) ?_
    refine l_val rfl rfl rfl (r_assign (v := .int .i64 t9) rfl) ?_
    refine l_nil ?_
    refine c_ret ?_
    obtain rfl := Option.some.inj H12
    refine ret2 (v1 := .bool false) (v2 := .int .i64 t9) rfl rfl rfl (fin rfl)
  · have H13 := cnd_f hb H11; clear H11
    refine c_skip ?_
    refine c_seq ?_
    refine c_seq ?_
    refine c_region ?_
    refine l_loadN (i := 1) (vs := [.int .i64 a1.Lat, .int .i64 a1.Lon]) Tryd.isAgg34 Tryd.sizeOf34 rfl rfl rfl rfl rfl ?_
    obtain ⟨t14, h_t14, H14⟩ := bnd_some H13; clear H13
    refine l_call (k37 h_t14) Tryd.call37 rfl rfl rfl ?_
    refine l_val rfl rfl rfl (r_assign (v := .int .i64 t14) rfl) ?_
    refine l_nil ?_
    refine c_seq ?_
    refine c_region ?_
    refine l_val rfl rfl rfl (r_move (v := .int .i64 t14) rfl) ?_
    refine l_val rfl rfl rfl (r_neq rfl rfl) ?_
    refine l_nil ?_
    refine c_if (b := (decide (t14 ≠ 0))) rfl (fun hb => ?_) (fun hb => ?_)
    · have H15 := cnd_t hb H14; clear H14
      refine c_seq ?_
      refine c_region ?_
      refine l_val rfl rfl rfl (r_move (v := .int .i64 t14) rfl) ?_
      refine l_val rfl rfl rfl (r_assign (v := .bool false) rfl) ?_
      refine l_val rfl rfl rfl (r_assign (v := .int .i64 t14) rfl) ?_
      refine l_nil ?_
      refine c_ret ?_
      obtain rfl := Option.some.inj H15
      refine ret2 (v1 := .bool false) (v2 := .int .i64 t14) rfl rfl rfl (fin rfl)
    · have H16 := cnd_f hb H14; clear H14
      refine c_skip ?_
      refine c_seq ?_
      refine c_region ?_
      refine l_val rfl rfl rfl (r_field Tryd.runUnderlying34 rfl Tryd.sizeOf3 rfl rfl) ?_
      refine l_load1 (i := 1) (v := .int .i64 a1.Lat) Tryd.isAgg3 rfl rfl rfl rfl rfl ?_
      refine l_val rfl rfl rfl (r_field Tryd.runUnderlying42 rfl Tryd.sizeOf3 rfl rfl) ?_
      refine l_load1 (i := 0) (v := .int .i64 a0.South) Tryd.isAgg3 rfl rfl rfl rfl rfl ?_
      refine l_val rfl rfl rfl (r_field Tryd.runUnderlying42 rfl Tryd.sizeOf3 rfl rfl) ?_
      refine l_load1 (i := 0) (v := .int .i64 a0.North) Tryd.isAgg3 rfl rfl rfl rfl rfl ?_
      obtain ⟨t24, h_t24, H17⟩ := bnd_some H16; clear H16
      refine l_call (k38 h_t24) Tryd.call38 rfl rfl rfl ?_
      refine l_val rfl rfl rfl (r_not rfl) ?_
      refine l_val rfl rfl rfl (r_move (v := .bool (!t24)) rfl) ?_
      refine split (fun hb => ?_) (fun hb => ?_)
      · have H18 := cnd_t hb H17; clear H17
        refine l_loadN (i := 0) (vs := [.int .i64 a0.South, .int .i64 a0.West, .int .i64 a0.North, .int .i64 a0.East]) Tryd.isAgg42 Tryd.sizeOf42 rfl rfl rfl rfl rfl ?_
        refine l_val rfl rfl rfl (r_field Tryd.runUnderlying34 rfl Tryd.sizeOf3 rfl rfl) ?_
        refine l_load1 (i := 1) (v := .int .i64 a1.Lon) Tryd.isAgg3 rfl rfl rfl rfl rfl ?_
        obtain ⟨t30, h_t30, H19⟩ := bnd_some H18; clear H18
        refine l_call (k50 h_t30) Tryd.call50 rfl rfl rfl ?_
        refine l_val rfl rfl rfl (r_pickT (v := .bool t30) rfl rfl) ?_
        refine l_val rfl rfl rfl (r_assign (v := .bool t30) rfl) ?_
        refine l_val rfl rfl rfl (r_assign (v := .int .i64 0) rfl) ?_
        refine l_nil ?_
        refine c_ret ?_
        obtain rfl := Option.some.inj H19
        refine ret2 (v1 := .bool t30) (v2 := .int .i64 0) rfl rfl rfl (fin rfl)
      · have H20 := cnd_f hb H17; clear H17
        refine l_passed rfl rfl rfl ?_
        refine l_passed rfl rfl rfl ?_
        refine l_passed rfl rfl rfl ?_
        refine l_passed rfl rfl rfl ?_
        refine l_val rfl rfl rfl (r_pickF (v := .bool false) rfl rfl) ?_
        refine l_val rfl rfl rfl (r_assign (v := .bool false) rfl) ?_
        refine l_val rfl rfl rfl (r_assign (v := .int .i64 0) rfl) ?_
        refine l_nil ?_
        refine c_ret ?_
        obtain rfl := Option.some.inj H20
        refine ret2 (v1 := .bool false) (v2 := .int .i64 0) rfl rfl rfl (fin rfl)
theorem k6 {a0 : T_api_Place} {a1 : T_api_Place} {a2 : Int} {r : Bool} (H : Keep_WhereAround a0 a1 a2 = some r) : Ret Tryd.prog 6 [.agg #[.int .i64 a0.Lat, .int .i64 a0.Lon], .agg #[.int .i64 a1.Lat, .int .i64 a1.Lon], .int .i64 a2] (.bool r) := by
  refine enterRet (n := 64) Tryd.func6 rfl rfl rfl (fun wd => ?_)
  refine c_seq ?_
  refine c_region ?_
  refine l_box (cs := [.int .i64 a0.Lat, .int .i64 a0.Lon]) rfl rfl rfl rfl (fun b4 => ?_)
  refine l_box (cs := [.int .i64 a1.Lat, .int .i64 a1.Lon]) rfl rfl rfl rfl (fun b5 => ?_)
  refine l_val rfl rfl rfl (r_assign (v := .bool false) rfl) ?_
  refine l_nil ?_
  refine c_seq ?_
  refine c_seq ?_
  refine c_region ?_
  obtain ⟨t14, h_t14, H27⟩ := bnd_some H; clear H
  refine l_call (k25 h_t14) Tryd.call25 rfl rfl rfl ?_
  refine l_val rfl rfl rfl (r_not rfl) ?_
  refine l_nil ?_
  refine c_if (b := (!t14)) rfl (fun hb => ?_) (fun hb => ?_)
  · have H28 := cnd_t hb H27; clear H27
    refine c_seq ?_
    refine c_region ?_
    refine l_val rfl rfl rfl (r_assign (v := .bool false) rfl) ?_
    refine l_nil ?_
    refine c_ret ?_
    obtain rfl := Option.some.inj H28
    refine ret1 (v := .bool false) rfl rfl (fin rfl)
  · have H29 := cnd_f hb H27; clear H27
    refine c_skip ?_
    refine c_seq ?_
    refine c_region ?_
    refine l_loadN (i := 0) (vs := [.int .i64 a0.Lat, .int .i64 a0.Lon]) Tryd.isAgg34 Tryd.sizeOf34 rfl rfl rfl rfl rfl ?_
    refine l_loadN (i := 1) (vs := [.int .i64 a1.Lat, .int .i64 a1.Lon]) Tryd.isAgg34 Tryd.sizeOf34 rfl rfl rfl rfl rfl ?_
    obtain ⟨t19, h_t19, H30⟩ := bnd_some H29; clear H29
    refine l_call (k27 h_t19) Tryd.call27 rfl rfl rfl ?_
    refine l_val rfl rfl rfl (r_move (v := .tuple #[.int .i64 t19.1, .int .i64 t19.2]) rfl) ?_
    refine l_val rfl rfl rfl (r_extract (v := .int .i64 t19.1) rfl rfl) ?_
    refine l_val rfl rfl rfl (r_extract (v := .int .i64 t19.2) rfl rfl) ?_
    refine l_val rfl rfl rfl (r_assign (v := .int .i64 t19.1) rfl) ?_
    refine l_val rfl rfl rfl (r_assign (v := .int .i64 t19.2) rfl) ?_
    refine l_nil ?_
    refine c_seq ?_
    refine c_seq ?_
    refine c_region ?_
    refine l_val rfl rfl rfl (r_move (v := .int .i64 t19.2) rfl) ?_
    refine l_val rfl rfl rfl (r_neq rfl rfl) ?_
    refine l_nil ?_
    refine c_if (b := (decide (t19.2 ≠ 0))) rfl (fun hb => ?_) (fun hb => ?_)
    · have H31 := cnd_t hb H30; clear H30
      refine c_seq ?_
      refine c_region ?_
      refine l_val rfl rfl rfl (r_assign (v := .bool true) rfl) ?_
      refine l_nil ?_
      refine c_ret ?_
      obtain rfl := Option.some.inj H31
      refine ret1 (v := .bool true) rfl rfl (fin rfl)
    · have H32 := cnd_f hb H30; clear H30
      refine c_skip ?_
      refine c_seq ?_
      refine c_seq ?_
      refine c_region ?_
      refine l_val rfl rfl rfl (r_move (v := .int .i64 a2) rfl) ?_
      refine l_val rfl rfl rfl (r_move (v := .int .i64 t19.1) rfl) ?_
      refine l_buildSlice (vs := [.int .i64 a2, .int .i64 t19.1]) (cs := [.int .i64 a2, .int .i64 t19.1]) Tryd.underlying57 Tryd.sizeOf3 Tryd.zeroValue3 rfl rfl rfl rfl rfl rfl rfl (fun b6 => ?_)
      refine l_val rfl rfl rfl (r_len Tryd.underlying57 rfl) ?_
      refine l_val rfl rfl rfl (r_move (v := .int .i64 0) rfl) ?_
      refine l_nil ?_
      refine c_block ?_
      refine c_fix (σ := Int) (τ := Unit) (fun next1 s => Keep_WhereAround_l1 a0 a1 a2 t19 next1 s) (fun s t => [(3, .pointer (some ⟨b4, 0, none⟩)), (4, .pointer (some ⟨b5, 0, none⟩)), (7, .int .i64 t19.1), (26, .slice (some ⟨b6, 0, none⟩) 2 2), (27, .int .i64 2), (28, .int .i64 s)]) (fun s t => [cellsC b4 [.int .i64 a0.Lat, .int .i64 a0.Lon] 34, cellsC b5 [.int .i64 a1.Lat, .int .i64 a1.Lon] 34, cellsC b6 [.int .i64 a2, .int .i64 t19.1] 3]) (fun s t => True) 0 () [0, 1, 2] H32 (by exact trivial) (by exact ⟨rfl, rfl, rfl, rfl, rfl, rfl, trivial⟩) (by decide) rfl ?_
      rintro x28_2 _ m1 gg H33 _
      clear H32
      replace H33 : Keep_WhereAround_l1 a0 a1 a2 t19 (it (fun next1 s => Keep_WhereAround_l1 a0 a1 a2 t19 next1 s) m1) x28_2 = some r := H33
      generalize hn1 : it (fun next1 s => Keep_WhereAround_l1 a0 a1 a2 t19 next1 s) m1 = next1 at H33
      refine c_tidyF [(3, .pointer (some ⟨b4, 0, none⟩)), (4, .pointer (some ⟨b5, 0, none⟩)), (7, .int .i64 t19.1), (26, .slice (some ⟨b6, 0, none⟩) 2 2), (27, .int .i64 2), (28, .int .i64 x28_2)] [cellsC b4 [.int .i64 a0.Lat, .int .i64 a0.Lon] 34, cellsC b5 [.int .i64 a1.Lat, .int .i64 a1.Lon] 34, cellsC b6 [.int .i64 a2, .int .i64 t19.1] 3] rfl rfl ?_
      refine c_seq ?_
      refine c_region ?_
      refine l_val rfl rfl rfl (r_lss rfl rfl) ?_
      refine l_nil ?_
      refine c_seq ?_
      refine c_if (b := (decide (x28_2 < 2))) rfl (fun hb => ?_) (fun hb => ?_)
      · have H34 := cnd_t hb H33; clear H33
        refine c_skip ?_
        refine c_meet (r := r) (σ := Unit) (τ := Unit) (fun s => Keep_WhereAround_j2 x28_2 next1) (fun s t => [(3, .pointer (some ⟨b4, 0, none⟩)), (4, .pointer (some ⟨b5, 0, none⟩)), (7, .int .i64 t19.1), (26, .slice (some ⟨b6, 0, none⟩) 2 2), (27, .int .i64 2), (28, .int .i64 x28_2)]) (fun s t => [cellsC b4 [.int .i64 a0.Lat, .int .i64 a0.Lon] 34, cellsC b5 [.int .i64 a1.Lat, .int .i64 a1.Lon] 34, cellsC b6 [.int .i64 a2, .int .i64 t19.1] 3]) (fun s t => True) ?_ ?_
        · refine c_block ?_
          refine c_seq ?_
          refine c_region ?_
          obtain ⟨t30, h_t30, H37⟩ := bnd_some H34; clear H34
          refine l_val rfl rfl rfl (r_indexS Tryd.underlying57 Tryd.sizeOf3 rfl rfl h_t30 rfl) ?_
          refine l_read (fun w hF hS => run_loadG1 (j := 0) (v := .int .i64 t30) Tryd.isAgg3 rfl rfl (row_box (sz := 1) (xs := ([a2, t19.1] : List Int).map e_i64) (i := 2) hS rfl rfl rfl) h_t30 rfl) rfl rfl rfl ?_
          refine l_val rfl rfl rfl (r_assign (v := .int .i64 t30) rfl) ?_
          refine l_nil ?_
          refine c_seq ?_
          refine c_region ?_
          refine l_loadN (i := 0) (vs := [.int .i64 a0.Lat, .int .i64 a0.Lon]) Tryd.isAgg34 Tryd.sizeOf34 rfl rfl rfl rfl rfl ?_
          refine l_val rfl rfl rfl (r_move (v := .int .i64 t30) rfl) ?_
          obtain ⟨t35, h_t35, H38⟩ := bnd_some H37; clear H37
          refine l_call (k28 h_t35) Tryd.call28 rfl rfl rfl ?_
          refine l_val rfl rfl rfl (r_move (v := .tuple #[.agg #[.int .i64 t35.1.South, .int .i64 t35.1.West, .int .i64 t35.1.North, .int .i64 t35.1.East], .int .i64 t35.2]) rfl) ?_
          refine l_val rfl rfl rfl (r_extract (v := .agg #[.int .i64 t35.1.South, .int .i64 t35.1.West, .int .i64 t35.1.North, .int .i64 t35.1.East]) rfl rfl) ?_
          refine l_val rfl rfl rfl (r_extract (v := .int .i64 t35.2) rfl rfl) ?_
          refine l_alloc (cs := [.int .i64 0, .int .i64 0, .int .i64 0, .int .i64 0]) Tryd.zeroValue42 rfl rfl rfl (fun b7 => ?_)
          refine l_store (i := 3) (vs := [.int .i64 t35.1.South, .int .i64 t35.1.West, .int .i64 t35.1.North, .int .i64 t35.1.East]) (cs' := [.int .i64 t35.1.South, .int .i64 t35.1.West, .int .i64 t35.1.North, .int .i64 t35.1.East]) Tryd.sizeOf42 rfl rfl rfl rfl rfl rfl rfl rfl rfl ?_
          refine l_val rfl rfl rfl (r_assign (v := .int .i64 t35.2) rfl) ?_
          refine l_nil ?_
          refine c_seq ?_
          refine c_seq ?_
          refine c_region ?_
          refine l_val rfl rfl rfl (r_move (v := .int .i64 t35.2) rfl) ?_
          refine l_val rfl rfl rfl (r_neq rfl rfl) ?_
          refine l_nil ?_
          refine c_if (b := (decide (t35.2 ≠ 0))) rfl (fun hb => ?_) (fun hb => ?_)
          · have H39 := cnd_t hb H38; clear H38
            refine c_seq ?_
            refine c_seq ?_
            refine c_region ?_
            refine l_val rfl rfl rfl (r_move (v := .int .i64 t30) rfl) ?_
            refine l_val rfl rfl rfl (r_geq rfl rfl) ?_
            refine l_val rfl rfl rfl (r_move (v := .bool (decide (0 ≤ t30))) rfl) ?_
            refine split (fun hb => ?_) (fun hb => ?_)
            · have H40 := cnd_t hb H39; clear H39
              refine l_val rfl rfl rfl (r_move (v := .int .i64 t30) rfl) ?_
              refine l_val rfl rfl rfl (r_leq rfl rfl) ?_
              refine l_val rfl rfl rfl (r_pickT (v := .bool (decide (t30 ≤ 30000000))) rfl rfl) ?_
              refine l_nil ?_
              refine c_if (b := (decide (t30 ≤ 30000000))) rfl (fun hb => ?_) (fun hb => ?_)
              · have H41 := cnd_t hb H40; clear H40
                refine c_seq ?_
                refine c_region ?_
                refine l_val rfl rfl rfl (r_assign (v := .bool false) rfl) ?_
                refine l_nil ?_
                refine c_ret ?_
                obtain rfl := Option.some.inj H41
                refine ret1 (v := .bool false) rfl rfl (fin rfl)
              · have H42 := cnd_f hb H40; clear H40
                refine c_skip ?_
                refine c_exit ?_
                refine c_close () () 0 [0, 1, 2] (by exact ⟨rfl, rfl, rfl, rfl, rfl, rfl, trivial⟩) (by decide) rfl (by exact ⟨H42, trivial⟩) (Nat.lt_succ_self _)
            · have H43 := cnd_f hb H39; clear H39
              refine l_passed rfl rfl rfl ?_
              refine l_passed rfl rfl rfl ?_
              refine l_val rfl rfl rfl (r_pickF (v := .bool false) rfl rfl) ?_
              refine l_nil ?_
              refine c_false rfl ?_
              refine c_skip ?_
              refine c_exit ?_
              refine c_close () () 0 [0, 1, 2] (by exact ⟨rfl, rfl, rfl, rfl, rfl, rfl, trivial⟩) (by decide) rfl (by exact ⟨H43, trivial⟩) (Nat.lt_succ_self _)
          · have H44 := cnd_f hb H38; clear H38
            refine c_skip ?_
            refine c_seq ?_
            refine c_region ?_
            refine l_loadN (i := 3) (vs := [.int .i64 t35.1.South, .int .i64 t35.1.West, .int .i64 t35.1.North, .int .i64 t35.1.East]) Tryd.isAgg42 Tryd.sizeOf42 rfl rfl rfl rfl rfl ?_
            refine l_loadN (i := 1) (vs := [.int .i64 a1.Lat, .int .i64 a1.Lon]) Tryd.isAgg34 Tryd.sizeOf34 rfl rfl rfl rfl rfl ?_
            obtain ⟨t49, h_t49, H45⟩ := bnd_some H44; clear H44
            refine l_call (k29 h_t49) Tryd.call29 rfl rfl rfl ?_
            refine l_val rfl rfl rfl (r_move (v := .tuple #[.bool t49.1, .int .i64 t49.2]) rfl) ?_
            refine l_val rfl rfl rfl (r_extract (v := .bool t49.1) rfl rfl) ?_
            refine l_val rfl rfl rfl (r_extract (v := .int .i64 t49.2) rfl rfl) ?_
            refine l_val rfl rfl rfl (r_assign (v := .bool t49.1) rfl) ?_
            refine l_val rfl rfl rfl (r_assign (v := .int .i64 t49.2) rfl) ?_
            refine l_nil ?_
            refine c_seq ?_
            refine c_region ?_
            refine l_val rfl rfl rfl (r_move (v := .int .i64 t49.2) rfl) ?_
            refine l_val rfl rfl rfl (r_neq rfl rfl) ?_
            refine l_val rfl rfl rfl (r_move (v := .bool (decide (t49.2 ≠ 0))) rfl) ?_
            refine split (fun hb => ?_) (fun hb => ?_)
            · have H46 := cnd_t hb H45; clear H45
              refine l_passed rfl rfl rfl ?_
              refine l_passed rfl rfl rfl ?_
              refine l_passed rfl rfl rfl ?_
              refine l_passed rfl rfl rfl ?_
              refine l_passed rfl rfl rfl ?_
              refine l_passed rfl rfl rfl ?_
              refine l_passed rfl rfl rfl ?_
              refine l_val rfl rfl rfl (r_pickT (v := .bool true) rfl rfl) ?_
              refine l_nil ?_
              refine c_true rfl ?_
              refine c_seq ?_
              refine c_region ?_
              refine l_val rfl rfl rfl (r_assign (v := .bool false) rfl) ?_
              refine l_nil ?_
              refine c_ret ?_
              obtain rfl := Option.some.inj H46
              refine ret1 (v := .bool false) rfl rfl (fin rfl)
            · have H47 := cnd_f hb H45; clear H45
              refine l_val rfl rfl rfl (r_move (v := .int .i64 t19.1) rfl) ?_
              refine l_val rfl rfl rfl (r_move (v := .int .i64 t30) rfl) ?_
              refine l_val rfl rfl rfl (r_leq rfl rfl) ?_
              refine l_val rfl rfl rfl (r_move (v := .bool (decide (t19.1 ≤ t30))) rfl) ?_
              refine split (fun hb => ?_) (fun hb => ?_)
              · have H48 := cnd_t hb H47; clear H47
                refine l_val rfl rfl rfl (r_move (v := .bool t49.1) rfl) ?_
                refine l_val rfl rfl rfl (r_not rfl) ?_
                refine l_val rfl rfl rfl (r_pickT (v := .bool (!t49.1)) rfl rfl) ?_
                refine l_val rfl rfl rfl (r_pickF (v := .bool (!t49.1)) rfl rfl) ?_
                refine l_nil ?_
                refine c_if (b := (!t49.1)) rfl (fun hb => ?_) (fun hb => ?_)
                · have H49 := cnd_t hb H48; clear H48
                  refine c_seq ?_
                  refine c_region ?_
                  refine l_val rfl rfl rfl (r_assign (v := .bool false) rfl) ?_
                  refine l_nil ?_
                  refine c_ret ?_
                  obtain rfl := Option.some.inj H49
                  refine ret1 (v := .bool false) rfl rfl (fin rfl)
                · have H50 := cnd_f hb H48; clear H48
                  refine c_skip ?_
                  refine c_close () () 0 [0, 1, 2] (by exact ⟨rfl, rfl, rfl, rfl, rfl, rfl, trivial⟩) (by decide) rfl (by exact ⟨H50, trivial⟩) (Nat.lt_succ_self _)
              · have H51 := cnd_f hb H47; clear H47
                refine l_passed rfl rfl rfl ?_
                refine l_passed rfl rfl rfl ?_
                refine l_val rfl rfl rfl (r_pickF (v := .bool false) rfl rfl) ?_
                refine l_val rfl rfl rfl (r_pickF (v := .bool false) rfl rfl) ?_
                refine l_nil ?_
                refine c_false rfl ?_
                refine c_skip ?_
                refine c_close () () 0 [0, 1, 2] (by exact ⟨rfl, rfl, rfl, rfl, rfl, rfl, trivial⟩) (by decide) rfl (by exact ⟨H51, trivial⟩) (Nat.lt_succ_self _)
        · rintro _ _ gg H35 _
          replace H35 : Keep_WhereAround_j2 x28_2 next1 = some r := H35
          refine c_tidyF [(3, .pointer (some ⟨b4, 0, none⟩)), (4, .pointer (some ⟨b5, 0, none⟩)), (7, .int .i64 t19.1), (26, .slice (some ⟨b6, 0, none⟩) 2 2), (27, .int .i64 2), (28, .int .i64 x28_2)] [cellsC b4 [.int .i64 a0.Lat, .int .i64 a0.Lon] 34, cellsC b5 [.int .i64 a1.Lat, .int .i64 a1.Lon] 34, cellsC b6 [.int .i64 a2, .int .i64 t19.1] 3] rfl rfl ?_
          refine c_region ?_
          obtain ⟨t63, h_t63, H36⟩ := bnd_some H35; clear H35
          refine l_val rfl rfl rfl (r_addG rfl rfl h_t63) ?_
          refine l_val rfl rfl rfl (r_move (v := .int .i64 t63) rfl) ?_
          refine l_nil ?_
          refine c_close t63 () m1 [0, 1, 2] (by exact ⟨rfl, rfl, rfl, rfl, rfl, rfl, trivial⟩) (by decide) rfl (by exact ⟨(by subst hn1; exact H36), trivial⟩) (Nat.lt_succ_self _)
      · have H52 := cnd_f hb H33; clear H33
        refine c_exit ?_
        refine c_seq ?_
        refine c_region ?_
        refine l_val rfl rfl rfl (r_assign (v := .bool true) rfl) ?_
        refine l_nil ?_
        refine c_ret ?_
        obtain rfl := Option.some.inj H52
        refine ret1 (v := .bool true) rfl rfl (fin rfl)
end Go.Proofs.YtfgehlmdcllclaaDoor
