/- WhereEnds: the walks, printed by our generator; each follows its model. Conditions: the model yields a value. -/
import Derived.Test.YtamacljplianfaaDoorKWe
namespace Go.Proofs.YtamacljplianfaaDoor
open Go Go.Vc Go.Md Go.M Go.Lx
set_option maxRecDepth 100000
set_option maxHeartbeats 4000000
set_option linter.unusedVariables false

theorem k17 {r : Bool} {w : World} {h : Heap} (hw : Know h w noS) (tb_pow10 : TabH Tryd.prog h "internal/strconv.uint64pow10" .u64 Lib.pow10Tab) (H : Keep_awakeWhere = some r) : Does Tryd.prog 17 (List.toArray []) w (fun v w' => v = (.bool r) ∧ Grow w w') := by
  refine enter (n := 14) Tryd.func17 rfl rfl rfl noS [] (Sat.nil _ _) ?_
  refine c_seq ?_
  refine c_region ?_
  refine l_val rfl rfl rfl (r_assign (v := .bool false) rfl) ?_
  refine l_nil ?_
  refine c_seq ?_
  refine c_region ?_
  refine l_val rfl rfl rfl (r_build (pl := #[(0, 1), (1, 1)]) (ps := []) (cells := #[.int .i64 0, .int .i64 0]) Tryd.zeroValue23 Tryd.runUnderlying23 (fun w => by kernel_rfl) rfl rfl) ?_
  obtain ⟨t5, h_t5, H4⟩ := bnd_some H; clear H
  refine l_callG (fun w hF hS => k6 (know_all w) (tb_pow10.mono (hw.now hF)) h_t5) Tryd.call6 rfl rfl rfl ?_
  refine l_val rfl rfl rfl (r_move (v := .tuple #[str t5.1, .int .i64 t5.2]) rfl) ?_
  refine l_val rfl rfl rfl (r_extract (v := str t5.1) rfl rfl) ?_
  refine l_val rfl rfl rfl (r_extract (v := .int .i64 t5.2) rfl rfl) ?_
  refine l_val rfl rfl rfl (r_assign (v := str t5.1) rfl) ?_
  refine l_val rfl rfl rfl (r_assign (v := .int .i64 t5.2) rfl) ?_
  refine l_nil ?_
  refine c_seq ?_
  refine c_region ?_
  refine l_val rfl rfl rfl (r_move (v := .int .i64 t5.2) rfl) ?_
  refine l_val rfl rfl rfl (r_eql rfl rfl) ?_
  refine l_val rfl rfl rfl (r_move (v := .bool (decide (t5.2 = 0))) rfl) ?_
  refine split (fun hb => ?_) (fun hb => ?_)
  · have H5 := cnd_t hb H4; clear H4
    refine l_val rfl rfl rfl (r_move (v := str t5.1) rfl) ?_
    refine l_val rfl rfl rfl (r_eqlT rfl rfl) ?_
    refine l_val rfl rfl rfl (r_pickT (v := .bool (decide (t5.1 = [48, 46, 48, 48, 48, 48, 48, 48, 32, 48, 46, 48, 48, 48, 48, 48, 48]))) rfl rfl) ?_
    refine l_val rfl rfl rfl (r_assign (v := .bool (decide (t5.1 = [48, 46, 48, 48, 48, 48, 48, 48, 32, 48, 46, 48, 48, 48, 48, 48, 48]))) rfl) ?_
    refine l_nil ?_
    refine c_ret ?_
    obtain rfl := Option.some.inj H5
    refine ret1 (v := .bool (decide (t5.1 = [48, 46, 48, 48, 48, 48, 48, 48, 32, 48, 46, 48, 48, 48, 48, 48, 48]))) rfl rfl (fin rfl)
  · have H6 := cnd_f hb H4; clear H4
    refine l_passed rfl rfl rfl ?_
    refine l_passed rfl rfl rfl ?_
    refine l_val rfl rfl rfl (r_pickF (v := .bool false) rfl rfl) ?_
    refine l_val rfl rfl rfl (r_assign (v := .bool false) rfl) ?_
    refine l_nil ?_
    refine c_ret ?_
    obtain rfl := Option.some.inj H6
    refine ret1 (v := .bool false) rfl rfl (fin rfl)
theorem k31 {a0 : (List T_api_Place)} {v0 : Value} {r : Int} {w : World} {h : Heap} (hw : Know h w noS) (f0 : FrS h 2 v0 (a0.map e_api_Place)) (H : where_checkPlaces a0 = some r) : Does Tryd.prog 31 (List.toArray [v0]) w (fun v w' => v = (.int .i64 r) ∧ Grow w w') := by
  refine enter (n := 18) Tryd.func31 rfl rfl rfl noS [] (Sat.nil _ _) ?_
  refine c_seq ?_
  refine c_region ?_
  refine l_val rfl rfl rfl (r_assign (v := .int .i64 0) rfl) ?_
  refine l_nil ?_
  refine c_seq ?_
  refine c_seq ?_
  refine c_region ?_
  refine l_val rfl rfl rfl (r_move (v := v0) rfl) ?_
  refine l_val rfl rfl rfl (r_lenF Tryd.underlying70 rfl f0 rfl) ?_
  refine l_val rfl rfl rfl (r_move (v := .int .i64 0) rfl) ?_
  refine l_nil ?_
  refine c_block ?_
  refine c_fix (σ := Int) (τ := Unit) (fun next1 s => where_checkPlaces_l1 a0 next1 s) (fun s t => [(6, v0), (7, .int .i64 (a0.length : Int)), (8, .int .i64 s)]) (fun s t => []) (fun s t => True) 0 () [] H (by exact trivial) (by exact ⟨rfl, rfl, rfl, trivial⟩) (by decide) rfl ?_
  rintro x8_2 _ m1 gg H9 _
  clear H
  replace H9 : where_checkPlaces_l1 a0 (it (fun next1 s => where_checkPlaces_l1 a0 next1 s) m1) x8_2 = some r := H9
  generalize hn1 : it (fun next1 s => where_checkPlaces_l1 a0 next1 s) m1 = next1 at H9
  refine c_tidyF [(6, v0), (7, .int .i64 (a0.length : Int)), (8, .int .i64 x8_2)] [] rfl rfl ?_
  refine c_seq ?_
  refine c_region ?_
  refine l_val rfl rfl rfl (r_lss rfl rfl) ?_
  refine l_nil ?_
  refine c_seq ?_
  refine c_if (b := (decide (x8_2 < (a0.length : Int)))) rfl (fun hb => ?_) (fun hb => ?_)
  · have H10 := cnd_t hb H9; clear H9
    refine c_skip ?_
    refine c_seq ?_
    refine c_block ?_
    refine c_seq ?_
    refine c_region ?_
    obtain ⟨t10, h_t10, H11⟩ := bnd_some H10; clear H10
    refine l_val rfl rfl rfl (r_indexF Tryd.underlying70 Tryd.sizeOf23 rfl rfl f0 h_t10) ?_
    refine l_read (fun w hF hS => run_loadGN (f := e_api_Place) (i := x8_2) (sz := 2) (j := 0) (vs := [.int .i64 t10.Lat, .int .i64 t10.Lon]) Tryd.isAgg23 Tryd.sizeOf23 rfl rfl (f0.row (hw.now hF)) h_t10 rfl) rfl rfl rfl ?_
    refine l_alloc (cs := [.int .i64 0, .int .i64 0]) Tryd.zeroValue23 rfl rfl rfl (fun b1 => ?_)
    refine l_store (i := 0) (vs := [.int .i64 t10.Lat, .int .i64 t10.Lon]) (cs' := [.int .i64 t10.Lat, .int .i64 t10.Lon]) Tryd.sizeOf23 rfl rfl rfl rfl rfl rfl rfl rfl rfl ?_
    refine l_nil ?_
    refine c_seq ?_
    refine c_region ?_
    refine l_loadN (i := 0) (vs := [.int .i64 t10.Lat, .int .i64 t10.Lon]) Tryd.isAgg23 Tryd.sizeOf23 rfl rfl rfl rfl rfl ?_
    obtain ⟨t13, h_t13, H12⟩ := bnd_some H11; clear H11
    refine l_call (k13 h_t13) Tryd.call13 rfl rfl rfl ?_
    refine l_val rfl rfl rfl (r_assign (v := .int .i64 t13) rfl) ?_
    refine l_nil ?_
    refine c_seq ?_
    refine c_region ?_
    refine l_val rfl rfl rfl (r_move (v := .int .i64 t13) rfl) ?_
    refine l_val rfl rfl rfl (r_neq rfl rfl) ?_
    refine l_nil ?_
    refine c_if (b := (decide (t13 ≠ 0))) rfl (fun hb => ?_) (fun hb => ?_)
    · have H13 := cnd_t hb H12; clear H12
      refine c_seq ?_
      refine c_region ?_
      refine l_val rfl rfl rfl (r_move (v := .int .i64 t13) rfl) ?_
      refine l_val rfl rfl rfl (r_assign (v := .int .i64 t13) rfl) ?_
      refine l_nil ?_
      refine c_ret ?_
      obtain rfl := Option.some.inj H13
      refine ret1 (v := .int .i64 t13) rfl rfl (fin rfl)
    · have H14 := cnd_f hb H12; clear H12
      refine c_skip ?_
      refine c_region ?_
      obtain ⟨t17, h_t17, H15⟩ := bnd_some H14; clear H14
      refine l_val rfl rfl rfl (r_addG rfl rfl h_t17) ?_
      refine l_val rfl rfl rfl (r_move (v := .int .i64 t17) rfl) ?_
      refine l_nil ?_
      refine c_close t17 () m1 [] (by exact ⟨rfl, rfl, rfl, trivial⟩) (by decide) rfl (by exact ⟨(by subst hn1; exact H15), trivial⟩) (Nat.lt_succ_self _)
  · have H16 := cnd_f hb H9; clear H9
    refine c_exit ?_
    refine c_seq ?_
    refine c_region ?_
    refine l_val rfl rfl rfl (r_assign (v := .int .i64 0) rfl) ?_
    refine l_nil ?_
    refine c_ret ?_
    obtain rfl := Option.some.inj H16
    refine ret1 (v := .int .i64 0) rfl rfl (fin rfl)
theorem k70 {a0 : Int} {a1 : Int} {r : Int} (H : where_eastward a0 a1 = some r) : Ret Tryd.prog 70 [.int .i64 a0, .int .i64 a1] (.int .i64 r) := by
  refine enterRet (n := 11) Tryd.func70 rfl rfl rfl (fun wd => ?_)
  refine c_seq ?_
  refine c_region ?_
  refine l_val rfl rfl rfl (r_assign (v := .int .i64 0) rfl) ?_
  refine l_nil ?_
  refine c_seq ?_
  refine c_region ?_
  refine l_val rfl rfl rfl (r_move (v := .int .i64 a1) rfl) ?_
  refine l_val rfl rfl rfl (r_move (v := .int .i64 a0) rfl) ?_
  obtain ⟨t7, h_t7, H5⟩ := bnd_some H; clear H
  refine l_val rfl rfl rfl (r_subG rfl rfl h_t7) ?_
  obtain ⟨t8, h_t8, H6⟩ := bnd_some H5; clear H5
  refine l_val rfl rfl rfl (r_remG rfl rfl h_t8) ?_
  obtain ⟨t9, h_t9, H7⟩ := bnd_some H6; clear H6
  refine l_val rfl rfl rfl (r_addG rfl rfl h_t9) ?_
  obtain ⟨t10, h_t10, H8⟩ := bnd_some H7; clear H7
  refine l_val rfl rfl rfl (r_remG rfl rfl h_t10) ?_
  refine l_val rfl rfl rfl (r_assign (v := .int .i64 t10) rfl) ?_
  refine l_nil ?_
  refine c_ret ?_
  obtain rfl := Option.some.inj H8
  refine ret1 (v := .int .i64 t10) rfl rfl (fin rfl)
theorem k49 {a0 : Int} {a1 : Int} {r : Int} (H : where_short a0 a1 = some r) : Ret Tryd.prog 49 [.int .i64 a0, .int .i64 a1] (.int .i64 r) := by
  refine enterRet (n := 14) Tryd.func49 rfl rfl rfl (fun wd => ?_)
  refine c_seq ?_
  refine c_region ?_
  refine l_val rfl rfl rfl (r_assign (v := .int .i64 0) rfl) ?_
  refine l_nil ?_
  refine c_seq ?_
  refine c_region ?_
  refine l_val rfl rfl rfl (r_move (v := .int .i64 a0) rfl) ?_
  refine l_val rfl rfl rfl (r_move (v := .int .i64 a1) rfl) ?_
  obtain ⟨t8, h_t8, H5⟩ := bnd_some H; clear H
  refine l_call (k70 h_t8) Tryd.call70 rfl rfl rfl ?_
  refine l_val rfl rfl rfl (r_assign (v := .int .i64 t8) rfl) ?_
  refine l_nil ?_
  refine c_seq ?_
  refine c_seq ?_
  refine c_region ?_
  refine l_val rfl rfl rfl (r_move (v := .int .i64 t8) rfl) ?_
  refine l_val rfl rfl rfl (r_geq rfl rfl) ?_
  refine l_nil ?_
  refine c_if (b := (decide (180000000 ≤ t8))) rfl (fun hb => ?_) (fun hb => ?_)
  · have H6 := cnd_t hb H5; clear H5
    refine c_region ?_
    refine l_val rfl rfl rfl (r_move (v := .int .i64 t8) rfl) ?_
    obtain ⟨t12, h_t12, H7⟩ := bnd_some H6; clear H6
    refine l_val rfl rfl rfl (r_subG rfl rfl h_t12) ?_
    refine l_val rfl rfl rfl (r_assign (v := .int .i64 t12) rfl) ?_
    refine l_nil ?_
    refine c_seq ?_
    refine c_region ?_
    refine l_val rfl rfl rfl (r_move (v := .int .i64 t12) rfl) ?_
    refine l_val rfl rfl rfl (r_assign (v := .int .i64 t12) rfl) ?_
    refine l_nil ?_
    refine c_ret ?_
    obtain rfl := Option.some.inj H7
    refine ret1 (v := .int .i64 t12) rfl rfl (fin rfl)
  · have H8 := cnd_f hb H5; clear H5
    refine c_skip ?_
    refine c_seq ?_
    refine c_region ?_
    refine l_val rfl rfl rfl (r_move (v := .int .i64 t8) rfl) ?_
    refine l_val rfl rfl rfl (r_assign (v := .int .i64 t8) rfl) ?_
    refine l_nil ?_
    refine c_ret ?_
    obtain rfl := Option.some.inj H8
    refine ret1 (v := .int .i64 t8) rfl rfl (fin rfl)
theorem k50 {a0 : Int} {a1 : Int} {r : Int} (H : where_floor a0 a1 = some r) : Ret Tryd.prog 50 [.int .i64 a0, .int .i64 a1] (.int .i64 r) := by
  refine enterRet (n := 16) Tryd.func50 rfl rfl rfl (fun wd => ?_)
  refine c_seq ?_
  refine c_region ?_
  refine l_val rfl rfl rfl (r_assign (v := .int .i64 0) rfl) ?_
  refine l_nil ?_
  refine c_seq ?_
  refine c_region ?_
  refine l_val rfl rfl rfl (r_move (v := .int .i64 a0) rfl) ?_
  refine l_val rfl rfl rfl (r_move (v := .int .i64 a1) rfl) ?_
  obtain ⟨t8, h_t8, H6⟩ := bnd_some H; clear H
  refine l_val rfl rfl rfl (r_quoG rfl rfl h_t8) ?_
  refine l_val rfl rfl rfl (r_assign (v := .int .i64 t8) rfl) ?_
  refine l_nil ?_
  refine c_seq ?_
  refine c_seq ?_
  refine c_region ?_
  refine l_val rfl rfl rfl (r_move (v := .int .i64 a0) rfl) ?_
  refine l_val rfl rfl rfl (r_move (v := .int .i64 a1) rfl) ?_
  obtain ⟨t11, h_t11, H7⟩ := bnd_some H6; clear H6
  refine l_val rfl rfl rfl (r_remG rfl rfl h_t11) ?_
  refine l_val rfl rfl rfl (r_lss rfl rfl) ?_
  refine l_nil ?_
  refine c_if (b := (decide (t11 < 0))) rfl (fun hb => ?_) (fun hb => ?_)
  · have H8 := cnd_t hb H7; clear H7
    refine c_region ?_
    refine l_val rfl rfl rfl (r_move (v := .int .i64 t8) rfl) ?_
    obtain ⟨t14, h_t14, H9⟩ := bnd_some H8; clear H8
    refine l_val rfl rfl rfl (r_subG rfl rfl h_t14) ?_
    refine l_val rfl rfl rfl (r_assign (v := .int .i64 t14) rfl) ?_
    refine l_nil ?_
    refine c_seq ?_
    refine c_region ?_
    refine l_val rfl rfl rfl (r_move (v := .int .i64 t14) rfl) ?_
    refine l_val rfl rfl rfl (r_assign (v := .int .i64 t14) rfl) ?_
    refine l_nil ?_
    refine c_ret ?_
    obtain rfl := Option.some.inj H9
    refine ret1 (v := .int .i64 t14) rfl rfl (fin rfl)
  · have H10 := cnd_f hb H7; clear H7
    refine c_skip ?_
    refine c_seq ?_
    refine c_region ?_
    refine l_val rfl rfl rfl (r_move (v := .int .i64 t8) rfl) ?_
    refine l_val rfl rfl rfl (r_assign (v := .int .i64 t8) rfl) ?_
    refine l_nil ?_
    refine c_ret ?_
    obtain rfl := Option.some.inj H10
    refine ret1 (v := .int .i64 t8) rfl rfl (fin rfl)
theorem ext87 (b q : Nat) (h : gSqrt b = some q) (w : World) : (callFunc 87 (List.toArray [.float .f64 b])).run Tryd.prog w = .ok (.value (.float .f64 q)) w := by
  have h0 : (callFunc 87 #[.float .f64 b]).run Tryd.prog w = (do pure (.value (← Extern.MathSqrt.sqrt #[.float .f64 b])) : Sem Next).run Tryd.prog w := by kernel_rfl
  rw [h0]
  simp only [Sem.run_bind, Go.Lx.run_sqrt h, Result.andThen_ok, Sem.run_pure]

theorem k71 {a0 : Nat} {r : Nat} (H : math_Sqrt a0 = some r) : Ret Tryd.prog 71 [.float .f64 a0] (.float .f64 r) := by
  refine enterRet (n := 5) Tryd.func71 rfl rfl rfl (fun wd => ?_)
  refine c_seq ?_
  refine c_region ?_
  refine l_val rfl rfl rfl (r_assign (v := .float .f64 0) rfl) ?_
  refine l_nil ?_
  refine c_seq ?_
  refine c_region ?_
  refine l_val rfl rfl rfl (r_move (v := .float .f64 a0) rfl) ?_
  obtain ⟨t4, h_t4, H2⟩ := bnd_some H; clear H
  refine l_val rfl rfl rfl (r_ext (args := [.float .f64 a0]) (ext87 _ _ h_t4) rfl) ?_
  refine l_val rfl rfl rfl (r_assign (v := .float .f64 t4) rfl) ?_
  refine l_nil ?_
  refine c_ret ?_
  obtain rfl := Option.some.inj H2
  refine ret1 (v := .float .f64 t4) rfl rfl (fin rfl)
theorem k51 {a0 : Int} {r : Int} (H : where_root a0 = some r) : Ret Tryd.prog 51 [.int .i64 a0] (.int .i64 r) := by
  refine enterRet (n := 25) Tryd.func51 rfl rfl rfl (fun wd => ?_)
  refine c_seq ?_
  refine c_region ?_
  refine l_val rfl rfl rfl (r_assign (v := .int .i64 0) rfl) ?_
  refine l_nil ?_
  refine c_seq ?_
  refine c_region ?_
  refine l_val rfl rfl rfl (r_move (v := .int .i64 a0) rfl) ?_
  obtain ⟨t5, h_t5, H17⟩ := bnd_some H; clear H
  refine l_val rfl rfl rfl (r_convIFG Tryd.runUnderlying3 Tryd.runUnderlying93 rfl h_t5) ?_
  obtain ⟨t6, h_t6, H18⟩ := bnd_some H17; clear H17
  refine l_call (k71 h_t6) Tryd.call71 rfl rfl rfl ?_
  obtain ⟨t7, h_t7, H19⟩ := bnd_some H18; clear H18
  refine l_val rfl rfl rfl (r_convFIG Tryd.runUnderlying93 Tryd.runUnderlying3 rfl h_t7) ?_
  refine l_val rfl rfl rfl (r_assign (v := .int .i64 t7) rfl) ?_
  refine l_nil ?_
  refine c_meet (r := r) (σ := Int) (τ := Unit) (fun s => where_root_j1 a0 s) (fun s t => [(0, .int .i64 a0), (3, .int .i64 s)]) (fun s t => []) (fun s t => True) ?_ ?_
  · refine c_block ?_
    refine c_fix (σ := Int) (τ := Unit) (fun next3 s => where_root_l3 a0 next3 s) (fun s t => [(0, .int .i64 a0), (3, .int .i64 s)]) (fun s t => []) (fun s t => True) t7 () [] H19 (by exact trivial) (by exact ⟨rfl, rfl, trivial⟩) (by decide) rfl ?_
    rintro x3_5 _ m3 gg H28 _
    clear H19
    replace H28 : where_root_l3 a0 (it (fun next3 s => where_root_l3 a0 next3 s) m3) x3_5 = some r := H28
    generalize hn3 : it (fun next3 s => where_root_l3 a0 next3 s) m3 = next3 at H28
    refine c_tidyF [(0, .int .i64 a0), (3, .int .i64 x3_5)] [] rfl rfl ?_
    refine c_seq ?_
    refine c_seq ?_
    refine c_region ?_
    refine l_val rfl rfl rfl (r_move (v := .int .i64 x3_5) rfl) ?_
    refine l_val rfl rfl rfl (r_move (v := .int .i64 x3_5) rfl) ?_
    obtain ⟨t10, h_t10, H29⟩ := bnd_some H28; clear H28
    refine l_val rfl rfl rfl (r_mulG rfl rfl h_t10) ?_
    refine l_val rfl rfl rfl (r_move (v := .int .i64 a0) rfl) ?_
    refine l_val rfl rfl rfl (r_gtr rfl rfl) ?_
    refine l_nil ?_
    refine c_if (b := (decide (a0 < t10))) rfl (fun hb => ?_) (fun hb => ?_)
    · have H30 := cnd_t hb H29; clear H29
      refine c_skip ?_
      refine c_block ?_
      refine c_region ?_
      refine l_val rfl rfl rfl (r_move (v := .int .i64 x3_5) rfl) ?_
      obtain ⟨t14, h_t14, H31⟩ := bnd_some H30; clear H30
      refine l_val rfl rfl rfl (r_subG rfl rfl h_t14) ?_
      refine l_val rfl rfl rfl (r_assign (v := .int .i64 t14) rfl) ?_
      refine l_nil ?_
      refine c_close t14 () m3 [] (by exact ⟨rfl, rfl, trivial⟩) (by decide) rfl (by exact ⟨(by subst hn3; exact H31), trivial⟩) (Nat.lt_succ_self _)
    · have H32 := cnd_f hb H29; clear H29
      refine c_exit ?_
      refine c_close x3_5 () 0 [] (by exact ⟨rfl, rfl, trivial⟩) (by decide) rfl (by exact ⟨H32, trivial⟩) (Nat.lt_succ_self _)
  · rintro x3 _ gg H20 _
    replace H20 : where_root_j1 a0 x3 = some r := H20
    refine c_tidyF [(0, .int .i64 a0), (3, .int .i64 x3)] [] rfl rfl ?_
    refine c_seq ?_
    refine c_block ?_
    refine c_fix (σ := Int) (τ := Unit) (fun next2 s => where_root_l2 a0 next2 s) (fun s t => [(0, .int .i64 a0), (3, .int .i64 s)]) (fun s t => []) (fun s t => True) x3 () [] H20 (by exact trivial) (by exact ⟨rfl, rfl, trivial⟩) (by decide) rfl ?_
    rintro x3_3 _ m2 gg H21 _
    clear H20
    replace H21 : where_root_l2 a0 (it (fun next2 s => where_root_l2 a0 next2 s) m2) x3_3 = some r := H21
    generalize hn2 : it (fun next2 s => where_root_l2 a0 next2 s) m2 = next2 at H21
    refine c_tidyF [(0, .int .i64 a0), (3, .int .i64 x3_3)] [] rfl rfl ?_
    refine c_seq ?_
    refine c_seq ?_
    refine c_region ?_
    refine l_val rfl rfl rfl (r_move (v := .int .i64 x3_3) rfl) ?_
    obtain ⟨t16, h_t16, H22⟩ := bnd_some H21; clear H21
    refine l_val rfl rfl rfl (r_addG rfl rfl h_t16) ?_
    refine l_val rfl rfl rfl (r_move (v := .int .i64 x3_3) rfl) ?_
    obtain ⟨t18, h_t18, H23⟩ := bnd_some H22; clear H22
    refine l_val rfl rfl rfl (r_addG rfl rfl h_t18) ?_
    obtain ⟨t19, h_t19, H24⟩ := bnd_some H23; clear H23
    refine l_val rfl rfl rfl (r_mulG rfl rfl h_t19) ?_
    refine l_val rfl rfl rfl (r_move (v := .int .i64 a0) rfl) ?_
    refine l_val rfl rfl rfl (r_leq rfl rfl) ?_
    refine l_nil ?_
    refine c_if (b := (decide (t19 ≤ a0))) rfl (fun hb => ?_) (fun hb => ?_)
    · have H25 := cnd_t hb H24; clear H24
      refine c_skip ?_
      refine c_block ?_
      refine c_region ?_
      refine l_val rfl rfl rfl (r_move (v := .int .i64 x3_3) rfl) ?_
      obtain ⟨t23, h_t23, H26⟩ := bnd_some H25; clear H25
      refine l_val rfl rfl rfl (r_addG rfl rfl h_t23) ?_
      refine l_val rfl rfl rfl (r_assign (v := .int .i64 t23) rfl) ?_
      refine l_nil ?_
      refine c_close t23 () m2 [] (by exact ⟨rfl, rfl, trivial⟩) (by decide) rfl (by exact ⟨(by subst hn2; exact H26), trivial⟩) (Nat.lt_succ_self _)
    · have H27 := cnd_f hb H24; clear H24
      refine c_exit ?_
      refine c_seq ?_
      refine c_region ?_
      refine l_val rfl rfl rfl (r_move (v := .int .i64 x3_3) rfl) ?_
      refine l_val rfl rfl rfl (r_assign (v := .int .i64 x3_3) rfl) ?_
      refine l_nil ?_
      refine c_ret ?_
      obtain rfl := Option.some.inj H27
      refine ret1 (v := .int .i64 x3_3) rfl rfl (fin rfl)
theorem k32 {a0 : T_api_Place} {a1 : T_api_Place} {r : Int} (H : where_distance a0 a1 = some r) : Ret Tryd.prog 32 [.agg #[.int .i64 a0.Lat, .int .i64 a0.Lon], .agg #[.int .i64 a1.Lat, .int .i64 a1.Lon]] (.int .i64 r) := by
  refine enterRet (n := 36) Tryd.func32 rfl rfl rfl (fun wd => ?_)
  refine c_seq ?_
  refine c_region ?_
  refine l_box (cs := [.int .i64 a0.Lat, .int .i64 a0.Lon]) rfl rfl rfl rfl (fun b2 => ?_)
  refine l_box (cs := [.int .i64 a1.Lat, .int .i64 a1.Lon]) rfl rfl rfl rfl (fun b3 => ?_)
  refine l_val rfl rfl rfl (r_assign (v := .int .i64 0) rfl) ?_
  refine l_nil ?_
  refine c_seq ?_
  refine c_region ?_
  refine l_val rfl rfl rfl (r_field Tryd.runUnderlying23 rfl Tryd.sizeOf3 rfl rfl) ?_
  refine l_load1 (i := 1) (v := .int .i64 a1.Lat) Tryd.isAgg3 rfl rfl rfl rfl rfl ?_
  refine l_val rfl rfl rfl (r_field Tryd.runUnderlying23 rfl Tryd.sizeOf3 rfl rfl) ?_
  refine l_load1 (i := 0) (v := .int .i64 a0.Lat) Tryd.isAgg3 rfl rfl rfl rfl rfl ?_
  obtain ⟨t11, h_t11, H14⟩ := bnd_some H; clear H
  refine l_val rfl rfl rfl (r_subG rfl rfl h_t11) ?_
  refine l_val rfl rfl rfl (r_assign (v := .int .i64 t11) rfl) ?_
  refine l_nil ?_
  refine c_seq ?_
  exact c_regionD (Kd.p :: Kd.d [0] _ :: Kd.p :: Kd.d [1] _ :: Kd.d [] _ :: Kd.p :: Kd.d [0] _ :: Kd.p :: Kd.d [1] _ :: Kd.p :: Kd.d [] _ :: Kd.d [] _ :: Kd.p :: Kd.p :: Kd.p :: []) 0 mixed (by
    refine d_val rfl rfl (r_field Tryd.runUnderlying23 rfl Tryd.sizeOf3 rfl rfl) ?_
    refine d_load1 (i := 0) (v := .int .i64 a0.Lon) Tryd.isAgg3 rfl rfl rfl rfl ?_
    refine d_val rfl rfl (r_field Tryd.runUnderlying23 rfl Tryd.sizeOf3 rfl rfl) ?_
    refine d_load1 (i := 1) (v := .int .i64 a1.Lon) Tryd.isAgg3 rfl rfl rfl rfl ?_
    have h_t16 := bnd_val H14
    have H15 := bnd_rest H14
    refine d_call (k49 h_t16) Tryd.call49 rfl rfl ?_
    refine d_val rfl rfl (r_field Tryd.runUnderlying23 rfl Tryd.sizeOf3 rfl rfl) ?_
    refine d_load1 (i := 0) (v := .int .i64 a0.Lat) Tryd.isAgg3 rfl rfl rfl rfl ?_
    refine d_val rfl rfl (r_field Tryd.runUnderlying23 rfl Tryd.sizeOf3 rfl rfl) ?_
    refine d_load1 (i := 1) (v := .int .i64 a1.Lat) Tryd.isAgg3 rfl rfl rfl rfl ?_
    have h_t21 := bnd_val H15
    have H16 := bnd_rest H15
    refine d_val rfl rfl (r_addG rfl rfl h_t21) ?_
    have h_t22 := bnd_val H16
    have H17 := bnd_rest H16
    refine d_call (k50 h_t22) Tryd.call50 rfl rfl ?_
    have h_t23 := bnd_val H17
    have H18 := bnd_rest H17
    refine d_call (k28 h_t23) Tryd.call28 rfl rfl ?_
    have h_t24 := bnd_val H18
    have H19 := bnd_rest H18
    refine d_val rfl rfl (r_mulG rfl rfl h_t24) ?_
    have h_t25 := bnd_val H19
    have H20 := bnd_rest H19
    refine d_val rfl rfl (r_quoG rfl rfl h_t25) ?_
    refine d_val rfl rfl (r_assign (v := .int .i64 (val (gQuo (val (gI ((val (where_short a0.Lon a1.Lon)) * (val (where_cosine (val (where_floor (val (gI (a0.Lat + a1.Lat))) 2))))))) 1000000))) rfl) ?_
    refine d_nil ?_
    refine c_seq ?_
    refine c_region ?_
    refine l_val rfl rfl rfl (r_move (v := .int .i64 t11) rfl) ?_
    refine l_val rfl rfl rfl (r_move (v := .int .i64 t11) rfl) ?_
    obtain ⟨t28, h_t28, H21⟩ := bnd_some H20; clear H20
    refine l_val rfl rfl rfl (r_mulG rfl rfl h_t28) ?_
    refine l_val rfl rfl rfl (r_move (v := .int .i64 (val (gQuo (val (gI ((val (where_short a0.Lon a1.Lon)) * (val (where_cosine (val (where_floor (val (gI (a0.Lat + a1.Lat))) 2))))))) 1000000))) rfl) ?_
    refine l_val rfl rfl rfl (r_move (v := .int .i64 (val (gQuo (val (gI ((val (where_short a0.Lon a1.Lon)) * (val (where_cosine (val (where_floor (val (gI (a0.Lat + a1.Lat))) 2))))))) 1000000))) rfl) ?_
    obtain ⟨t31, h_t31, H22⟩ := bnd_some H21; clear H21
    refine l_val rfl rfl rfl (r_mulG rfl rfl h_t31) ?_
    obtain ⟨t32, h_t32, H23⟩ := bnd_some H22; clear H22
    refine l_val rfl rfl rfl (r_addG rfl rfl h_t32) ?_
    obtain ⟨t33, h_t33, H24⟩ := bnd_some H23; clear H23
    refine l_call (k51 h_t33) Tryd.call51 rfl rfl rfl ?_
    obtain ⟨t34, h_t34, H25⟩ := bnd_some H24; clear H24
    refine l_val rfl rfl rfl (r_mulG rfl rfl h_t34) ?_
    obtain ⟨t35, h_t35, H26⟩ := bnd_some H25; clear H25
    refine l_val rfl rfl rfl (r_quoG rfl rfl h_t35) ?_
    refine l_val rfl rfl rfl (r_assign (v := .int .i64 t35) rfl) ?_
    refine l_nil ?_
    refine c_ret ?_
    obtain rfl := Option.some.inj H26
    refine ret1 (v := .int .i64 t35) rfl rfl (fin rfl)
    ) (by kernel_rfl)
theorem k18 {a0 : T_api_Place} {a1 : T_api_Place} {r : Int × Int} (H : where_Distance a0 a1 = some r) : Ret Tryd.prog 18 [.agg #[.int .i64 a0.Lat, .int .i64 a0.Lon], .agg #[.int .i64 a1.Lat, .int .i64 a1.Lon]] (.tuple #[.int .i64 r.1, .int .i64 r.2]) := by
  refine enterRet (n := 17) Tryd.func18 rfl rfl rfl (fun wd => ?_)
  refine c_seq ?_
  refine c_region ?_
  refine l_box (cs := [.int .i64 a0.Lat, .int .i64 a0.Lon]) rfl rfl rfl rfl (fun b3 => ?_)
  refine l_box (cs := [.int .i64 a1.Lat, .int .i64 a1.Lon]) rfl rfl rfl rfl (fun b4 => ?_)
  refine l_val rfl rfl rfl (r_assign (v := .int .i64 0) rfl) ?_
  refine l_val rfl rfl rfl (r_assign (v := .int .i64 0) rfl) ?_
  refine l_nil ?_
  refine c_seq ?_
  refine c_seq ?_
  refine c_region ?_
  refine l_loadN (i := 0) (vs := [.int .i64 a0.Lat, .int .i64 a0.Lon]) Tryd.isAgg23 Tryd.sizeOf23 rfl rfl rfl rfl rfl ?_
  refine l_loadN (i := 1) (vs := [.int .i64 a1.Lat, .int .i64 a1.Lon]) Tryd.isAgg23 Tryd.sizeOf23 rfl rfl rfl rfl rfl ?_
  refine l_buildSlice (vs := [.agg #[.int .i64 a0.Lat, .int .i64 a0.Lon], .agg #[.int .i64 a1.Lat, .int .i64 a1.Lon]]) (cs := [.int .i64 a0.Lat, .int .i64 a0.Lon, .int .i64 a1.Lat, .int .i64 a1.Lon]) Tryd.underlying70 Tryd.sizeOf23 Tryd.zeroValue23 rfl rfl rfl rfl rfl rfl rfl (fun b5 => ?_)
  obtain ⟨t10, h_t10, H5⟩ := bnd_some H; clear H
  refine l_callG (fun w hF hS => k31 (know_all w) (frs_box (i := 2) (xs := ([a0, a1] : List T_api_Place)) (f := e_api_Place) hS rfl rfl rfl rfl rfl) h_t10) Tryd.call31 rfl rfl rfl ?_
  refine l_val rfl rfl rfl (r_assign (v := .int .i64 t10) rfl) ?_
  refine l_nil ?_
  refine c_seq ?_
  refine c_region ?_
  refine l_val rfl rfl rfl (r_move (v := .int .i64 t10) rfl) ?_
  refine l_val rfl rfl rfl (r_neq rfl rfl) ?_
  refine l_nil ?_
  refine c_if (b := (decide (t10 ≠ 0))) rfl (fun hb => ?_) (fun hb => ?_)
  · have H6 := cnd_t hb H5; clear H5
    refine c_seq ?_
    refine c_region ?_
    refine l_val rfl rfl rfl (r_move (v := .int .i64 t10) rfl) ?_
    refine l_val rfl rfl rfl (r_assign (v := .int .i64 0) rfl) ?_
    refine l_val rfl rfl rfl (r_assign (v := .int .i64 t10) rfl) ?_
    refine l_nil ?_
    refine c_ret ?_
    obtain rfl := Option.some.inj H6
    refine ret2 (v1 := .int .i64 0) (v2 := .int .i64 t10) rfl rfl rfl (fin rfl)
  · have H7 := cnd_f hb H5; clear H5
    refine c_skip ?_
    refine c_seq ?_
    refine c_region ?_
    refine l_loadN (i := 0) (vs := [.int .i64 a0.Lat, .int .i64 a0.Lon]) Tryd.isAgg23 Tryd.sizeOf23 rfl rfl rfl rfl rfl ?_
    refine l_loadN (i := 1) (vs := [.int .i64 a1.Lat, .int .i64 a1.Lon]) Tryd.isAgg23 Tryd.sizeOf23 rfl rfl rfl rfl rfl ?_
    obtain ⟨t16, h_t16, H8⟩ := bnd_some H7; clear H7
    refine l_call (k32 h_t16) Tryd.call32 rfl rfl rfl ?_
    refine l_val rfl rfl rfl (r_assign (v := .int .i64 t16) rfl) ?_
    refine l_val rfl rfl rfl (r_assign (v := .int .i64 0) rfl) ?_
    refine l_nil ?_
    refine c_ret ?_
    obtain rfl := Option.some.inj H8
    refine ret2 (v1 := .int .i64 t16) (v2 := .int .i64 0) rfl rfl rfl (fin rfl)
theorem k52 {a0 : Int} {r : Int} (H : where_wrap a0 = some r) : Ret Tryd.prog 52 [.int .i64 a0] (.int .i64 r) := by
  refine enterRet (n := 6) Tryd.func52 rfl rfl rfl (fun wd => ?_)
  refine c_seq ?_
  refine c_region ?_
  refine l_val rfl rfl rfl (r_assign (v := .int .i64 0) rfl) ?_
  refine l_nil ?_
  refine c_seq ?_
  refine c_region ?_
  refine l_val rfl rfl rfl (r_move (v := .int .i64 a0) rfl) ?_
  obtain ⟨t4, h_t4, H3⟩ := bnd_some H; clear H
  refine l_call (k70 h_t4) Tryd.call70 rfl rfl rfl ?_
  obtain ⟨t5, h_t5, H4⟩ := bnd_some H3; clear H3
  refine l_val rfl rfl rfl (r_subG rfl rfl h_t5) ?_
  refine l_val rfl rfl rfl (r_assign (v := .int .i64 t5) rfl) ?_
  refine l_nil ?_
  refine c_ret ?_
  obtain rfl := Option.some.inj H4
  refine ret1 (v := .int .i64 t5) rfl rfl (fin rfl)
theorem k34 {a0 : T_api_Place} {a1 : T_api_Place} {a2 : Int} {a3 : Int} {r : T_api_Place} (H : where_between a0 a1 a2 a3 = some r) : Ret Tryd.prog 34 [.agg #[.int .i64 a0.Lat, .int .i64 a0.Lon], .agg #[.int .i64 a1.Lat, .int .i64 a1.Lon], .int .i64 a2, .int .i64 a3] (.agg #[.int .i64 r.Lat, .int .i64 r.Lon]) := by
  refine enterRet (n := 35) Tryd.func34 rfl rfl rfl (fun wd => ?_)
  refine c_seq ?_
  refine c_region ?_
  refine l_box (cs := [.int .i64 a0.Lat, .int .i64 a0.Lon]) rfl rfl rfl rfl (fun b3 => ?_)
  refine l_box (cs := [.int .i64 a1.Lat, .int .i64 a1.Lon]) rfl rfl rfl rfl (fun b4 => ?_)
  refine l_alloc (cs := [.int .i64 0, .int .i64 0]) Tryd.zeroValue23 rfl rfl rfl (fun b5 => ?_)
  refine l_nil ?_
  refine c_seq ?_
  exact c_regionD (Kd.p :: Kd.d [0] _ :: Kd.p :: Kd.d [1] _ :: Kd.p :: Kd.d [0] _ :: Kd.p :: Kd.p :: Kd.p :: Kd.p :: Kd.d [] _ :: Kd.p :: Kd.p :: Kd.d [0] _ :: Kd.p :: Kd.d [0] _ :: Kd.p :: Kd.d [1] _ :: Kd.d [] _ :: Kd.p :: Kd.p :: Kd.p :: Kd.d [] _ :: Kd.p :: Kd.d [] _ :: Kd.p :: Kd.st 8 2 [_, _] 23 :: []) 0 mixed (by
    refine d_val rfl rfl (r_field Tryd.runUnderlying23 rfl Tryd.sizeOf3 rfl rfl) ?_
    refine d_load1 (i := 0) (v := .int .i64 a0.Lat) Tryd.isAgg3 rfl rfl rfl rfl ?_
    refine d_val rfl rfl (r_field Tryd.runUnderlying23 rfl Tryd.sizeOf3 rfl rfl) ?_
    refine d_load1 (i := 1) (v := .int .i64 a1.Lat) Tryd.isAgg3 rfl rfl rfl rfl ?_
    refine d_val rfl rfl (r_field Tryd.runUnderlying23 rfl Tryd.sizeOf3 rfl rfl) ?_
    refine d_load1 (i := 0) (v := .int .i64 a0.Lat) Tryd.isAgg3 rfl rfl rfl rfl ?_
    have h_t15 := bnd_val H
    have H10 := bnd_rest H
    refine d_val rfl rfl (r_subG rfl rfl h_t15) ?_
    refine d_val rfl rfl (r_move (v := .int .i64 a2) rfl) ?_
    have h_t17 := bnd_val H10
    have H11 := bnd_rest H10
    refine d_val rfl rfl (r_mulG rfl rfl h_t17) ?_
    refine d_val rfl rfl (r_move (v := .int .i64 a3) rfl) ?_
    have h_t19 := bnd_val H11
    have H12 := bnd_rest H11
    refine d_call (k50 h_t19) Tryd.call50 rfl rfl ?_
    have h_t20 := bnd_val H12
    have H13 := bnd_rest H12
    refine d_val rfl rfl (r_addG rfl rfl h_t20) ?_
    refine d_val rfl rfl (r_field Tryd.runUnderlying23 rfl Tryd.sizeOf3 rfl rfl) ?_
    refine d_load1 (i := 0) (v := .int .i64 a0.Lon) Tryd.isAgg3 rfl rfl rfl rfl ?_
    refine d_val rfl rfl (r_field Tryd.runUnderlying23 rfl Tryd.sizeOf3 rfl rfl) ?_
    refine d_load1 (i := 0) (v := .int .i64 a0.Lon) Tryd.isAgg3 rfl rfl rfl rfl ?_
    refine d_val rfl rfl (r_field Tryd.runUnderlying23 rfl Tryd.sizeOf3 rfl rfl) ?_
    refine d_load1 (i := 1) (v := .int .i64 a1.Lon) Tryd.isAgg3 rfl rfl rfl rfl ?_
    have h_t27 := bnd_val H13
    have H14 := bnd_rest H13
    refine d_call (k49 h_t27) Tryd.call49 rfl rfl ?_
    refine d_val rfl rfl (r_move (v := .int .i64 a2) rfl) ?_
    have h_t29 := bnd_val H14
    have H15 := bnd_rest H14
    refine d_val rfl rfl (r_mulG rfl rfl h_t29) ?_
    refine d_val rfl rfl (r_move (v := .int .i64 a3) rfl) ?_
    have h_t31 := bnd_val H15
    have H16 := bnd_rest H15
    refine d_call (k50 h_t31) Tryd.call50 rfl rfl ?_
    have h_t32 := bnd_val H16
    have H17 := bnd_rest H16
    refine d_val rfl rfl (r_addG rfl rfl h_t32) ?_
    have h_t33 := bnd_val H17
    have H18 := bnd_rest H17
    refine d_call (k52 h_t33) Tryd.call52 rfl rfl ?_
    refine d_val rfl rfl (r_build (pl := #[(0, 1), (1, 1)]) (ps := [(0, .int .i64 (val (gI (a0.Lat + (val (where_floor (val (gI ((val (gI (a1.Lat - a0.Lat))) * a2))) a3)))))), (1, .int .i64 (val (where_wrap (val (gI (a0.Lon + (val (where_floor (val (gI ((val (where_short a0.Lon a1.Lon)) * a2))) a3))))))))]) (cells := #[.int .i64 (val (gI (a0.Lat + (val (where_floor (val (gI ((val (gI (a1.Lat - a0.Lat))) * a2))) a3))))), .int .i64 (val (where_wrap (val (gI (a0.Lon + (val (where_floor (val (gI ((val (where_short a0.Lon a1.Lon)) * a2))) a3)))))))]) Tryd.zeroValue23 Tryd.runUnderlying23 (fun w => by kernel_rfl) rfl rfl) ?_
    refine d_store (i := 2) (vs := [.int .i64 (val (gI (a0.Lat + (val (where_floor (val (gI ((val (gI (a1.Lat - a0.Lat))) * a2))) a3))))), .int .i64 (val (where_wrap (val (gI (a0.Lon + (val (where_floor (val (gI ((val (where_short a0.Lon a1.Lon)) * a2))) a3)))))))]) (cs' := [.int .i64 (val (gI (a0.Lat + (val (where_floor (val (gI ((val (gI (a1.Lat - a0.Lat))) * a2))) a3))))), .int .i64 (val (where_wrap (val (gI (a0.Lon + (val (where_floor (val (gI ((val (where_short a0.Lon a1.Lon)) * a2))) a3)))))))]) Tryd.sizeOf23 rfl rfl rfl rfl rfl rfl rfl rfl rfl ?_
    refine d_nil ?_
    refine c_ret ?_
    obtain rfl := Option.some.inj H18
    refine retC (i := 2) (vs := [.int .i64 (val (gI (a0.Lat + (val (where_floor (val (gI ((val (gI (a1.Lat - a0.Lat))) * a2))) a3))))), .int .i64 (val (where_wrap (val (gI (a0.Lon + (val (where_floor (val (gI ((val (where_short a0.Lon a1.Lon)) * a2))) a3)))))))]) Tryd.isAgg23 Tryd.sizeOf23 rfl rfl rfl rfl (fin rfl)
    ) (by kernel_rfl)
theorem k19 {a0 : T_api_Place} {a1 : T_api_Place} {a2 : Int} {a3 : Int} {r : T_api_Place × Int} (H : where_Between a0 a1 a2 a3 = some r) : Ret Tryd.prog 19 [.agg #[.int .i64 a0.Lat, .int .i64 a0.Lon], .agg #[.int .i64 a1.Lat, .int .i64 a1.Lon], .int .i64 a2, .int .i64 a3] (.tuple #[.agg #[.int .i64 r.1.Lat, .int .i64 r.1.Lon], .int .i64 r.2]) := by
  refine enterRet (n := 32) Tryd.func19 rfl rfl rfl (fun wd => ?_)
  refine c_seq ?_
  refine c_region ?_
  refine l_box (cs := [.int .i64 a0.Lat, .int .i64 a0.Lon]) rfl rfl rfl rfl (fun b4 => ?_)
  refine l_box (cs := [.int .i64 a1.Lat, .int .i64 a1.Lon]) rfl rfl rfl rfl (fun b5 => ?_)
  refine l_alloc (cs := [.int .i64 0, .int .i64 0]) Tryd.zeroValue23 rfl rfl rfl (fun b6 => ?_)
  refine l_val rfl rfl rfl (r_assign (v := .int .i64 0) rfl) ?_
  refine l_nil ?_
  refine c_seq ?_
  refine c_seq ?_
  refine c_region ?_
  refine l_loadN (i := 0) (vs := [.int .i64 a0.Lat, .int .i64 a0.Lon]) Tryd.isAgg23 Tryd.sizeOf23 rfl rfl rfl rfl rfl ?_
  refine l_loadN (i := 1) (vs := [.int .i64 a1.Lat, .int .i64 a1.Lon]) Tryd.isAgg23 Tryd.sizeOf23 rfl rfl rfl rfl rfl ?_
  refine l_buildSlice (vs := [.agg #[.int .i64 a0.Lat, .int .i64 a0.Lon], .agg #[.int .i64 a1.Lat, .int .i64 a1.Lon]]) (cs := [.int .i64 a0.Lat, .int .i64 a0.Lon, .int .i64 a1.Lat, .int .i64 a1.Lon]) Tryd.underlying70 Tryd.sizeOf23 Tryd.zeroValue23 rfl rfl rfl rfl rfl rfl rfl (fun b7 => ?_)
  obtain ⟨t14, h_t14, H11⟩ := bnd_some H; clear H
  refine l_callG (fun w hF hS => k31 (know_all w) (frs_box (i := 3) (xs := ([a0, a1] : List T_api_Place)) (f := e_api_Place) hS rfl rfl rfl rfl rfl) h_t14) Tryd.call31 rfl rfl rfl ?_
  refine l_val rfl rfl rfl (r_assign (v := .int .i64 t14) rfl) ?_
  refine l_nil ?_
  refine c_seq ?_
  refine c_region ?_
  refine l_val rfl rfl rfl (r_move (v := .int .i64 t14) rfl) ?_
  refine l_val rfl rfl rfl (r_neq rfl rfl) ?_
  refine l_nil ?_
  refine c_if (b := (decide (t14 ≠ 0))) rfl (fun hb => ?_) (fun hb => ?_)
  · have H12 := cnd_t hb H11; clear H11
    refine c_seq ?_
    refine c_region ?_
    refine l_val rfl rfl rfl (r_build (pl := #[(0, 1), (1, 1)]) (ps := []) (cells := #[.int .i64 0, .int .i64 0]) Tryd.zeroValue23 Tryd.runUnderlying23 (fun w => by kernel_rfl) rfl rfl) ?_
    refine l_val rfl rfl rfl (r_move (v := .int .i64 t14) rfl) ?_
    refine l_store (i := 2) (vs := [.int .i64 0, .int .i64 0]) (cs' := [.int .i64 0, .int .i64 0]) Tryd.sizeOf23 rfl rfl rfl rfl rfl rfl rfl rfl rfl ?_
    refine l_val rfl rfl rfl (r_assign (v := .int .i64 t14) rfl) ?_
    refine l_nil ?_
    refine c_ret ?_
    obtain rfl := Option.some.inj H12
    refine retCt (i := 2) (vs := [.int .i64 0, .int .i64 0]) (v2 := .int .i64 t14) Tryd.isAgg23 Tryd.sizeOf23 rfl rfl rfl rfl rfl (fin rfl)
  · have H13 := cnd_f hb H11; clear H11
    refine c_skip ?_
    refine c_seq ?_
    refine c_seq ?_
    refine c_region ?_
    refine l_val rfl rfl rfl (r_move (v := .int .i64 a3) rfl) ?_
    obtain ⟨t20, h_t20, H14⟩ := bnd_some H13; clear H13
    refine l_call (k33 h_t20) Tryd.call33 rfl rfl rfl ?_
    refine l_val rfl rfl rfl (r_move (v := .bool t20) rfl) ?_
    refine split (fun hb => ?_) (fun hb => ?_)
    · have H15 := cnd_t hb H14; clear H14
      refine l_passed rfl rfl rfl ?_
      refine l_passed rfl rfl rfl ?_
      refine l_passed rfl rfl rfl ?_
      refine l_val rfl rfl rfl (r_pickT (v := .bool true) rfl rfl) ?_
      refine l_nil ?_
      refine c_true rfl ?_
      refine c_seq ?_
      refine c_region ?_
      refine l_val rfl rfl rfl (r_build (pl := #[(0, 1), (1, 1)]) (ps := []) (cells := #[.int .i64 0, .int .i64 0]) Tryd.zeroValue23 Tryd.runUnderlying23 (fun w => by kernel_rfl) rfl rfl) ?_
      refine l_store (i := 2) (vs := [.int .i64 0, .int .i64 0]) (cs' := [.int .i64 0, .int .i64 0]) Tryd.sizeOf23 rfl rfl rfl rfl rfl rfl rfl rfl rfl ?_
      refine l_val rfl rfl rfl (r_assign (v := .int .i64 2) rfl) ?_
      refine l_nil ?_
      refine c_ret ?_
      obtain rfl := Option.some.inj H15
      refine retCt (i := 2) (vs := [.int .i64 0, .int .i64 0]) (v2 := .int .i64 2) Tryd.isAgg23 Tryd.sizeOf23 rfl rfl rfl rfl rfl (fin rfl)
    · have H16 := cnd_f hb H14; clear H14
      refine l_val rfl rfl rfl (r_move (v := .int .i64 a2) rfl) ?_
      refine l_val rfl rfl rfl (r_move (v := .int .i64 a3) rfl) ?_
      obtain ⟨t24, h_t24, H17⟩ := bnd_some H16; clear H16
      refine l_call (k33 h_t24) Tryd.call33 rfl rfl rfl ?_
      refine l_val rfl rfl rfl (r_pickF (v := .bool t24) rfl rfl) ?_
      refine l_nil ?_
      refine c_if (b := t24) rfl (fun hb => ?_) (fun hb => ?_)
      · have H18 := cnd_t hb H17; clear H17
        refine c_seq ?_
        refine c_region ?_
        refine l_val rfl rfl rfl (r_build (pl := #[(0, 1), (1, 1)]) (ps := []) (cells := #[.int .i64 0, .int .i64 0]) Tryd.zeroValue23 Tryd.runUnderlying23 (fun w => by kernel_rfl) rfl rfl) ?_
        refine l_store (i := 2) (vs := [.int .i64 0, .int .i64 0]) (cs' := [.int .i64 0, .int .i64 0]) Tryd.sizeOf23 rfl rfl rfl rfl rfl rfl rfl rfl rfl ?_
        refine l_val rfl rfl rfl (r_assign (v := .int .i64 2) rfl) ?_
        refine l_nil ?_
        refine c_ret ?_
        obtain rfl := Option.some.inj H18
        refine retCt (i := 2) (vs := [.int .i64 0, .int .i64 0]) (v2 := .int .i64 2) Tryd.isAgg23 Tryd.sizeOf23 rfl rfl rfl rfl rfl (fin rfl)
      · have H19 := cnd_f hb H17; clear H17
        refine c_skip ?_
        refine c_seq ?_
        refine c_region ?_
        refine l_loadN (i := 0) (vs := [.int .i64 a0.Lat, .int .i64 a0.Lon]) Tryd.isAgg23 Tryd.sizeOf23 rfl rfl rfl rfl rfl ?_
        refine l_loadN (i := 1) (vs := [.int .i64 a1.Lat, .int .i64 a1.Lon]) Tryd.isAgg23 Tryd.sizeOf23 rfl rfl rfl rfl rfl ?_
        refine l_val rfl rfl rfl (r_move (v := .int .i64 a2) rfl) ?_
        refine l_val rfl rfl rfl (r_move (v := .int .i64 a3) rfl) ?_
        obtain ⟨t31, h_t31, H20⟩ := bnd_some H19; clear H19
        refine l_call (k34 h_t31) Tryd.call34 rfl rfl rfl ?_
        refine l_store (i := 2) (vs := [.int .i64 t31.Lat, .int .i64 t31.Lon]) (cs' := [.int .i64 t31.Lat, .int .i64 t31.Lon]) Tryd.sizeOf23 rfl rfl rfl rfl rfl rfl rfl rfl rfl ?_
        refine l_val rfl rfl rfl (r_assign (v := .int .i64 0) rfl) ?_
        refine l_nil ?_
        refine c_ret ?_
        obtain rfl := Option.some.inj H20
        refine retCt (i := 2) (vs := [.int .i64 t31.Lat, .int .i64 t31.Lon]) (v2 := .int .i64 0) Tryd.isAgg23 Tryd.sizeOf23 rfl rfl rfl rfl rfl (fin rfl)
theorem k4 {a0 : T_api_Place} {a1 : T_api_Place} {a2 : Int} {r : Bool} {w : World} {h : Heap} (hw : Know h w noS) (tb_pow10 : TabH Tryd.prog h "internal/strconv.uint64pow10" .u64 Lib.pow10Tab) (H : Keep_WhereEnds a0 a1 a2 = some r) : Does Tryd.prog 4 (List.toArray [.agg #[.int .i64 a0.Lat, .int .i64 a0.Lon], .agg #[.int .i64 a1.Lat, .int .i64 a1.Lon], .int .i64 a2]) w (fun v w' => v = (.bool r) ∧ Grow w w') := by
  refine enter (n := 110) Tryd.func4 rfl rfl rfl noS [] (Sat.nil _ _) ?_
  refine c_seq ?_
  refine c_region ?_
  refine l_box (cs := [.int .i64 a0.Lat, .int .i64 a0.Lon]) rfl rfl rfl rfl (fun b5 => ?_)
  refine l_box (cs := [.int .i64 a1.Lat, .int .i64 a1.Lon]) rfl rfl rfl rfl (fun b6 => ?_)
  refine l_val rfl rfl rfl (r_assign (v := .bool false) rfl) ?_
  refine l_nil ?_
  refine c_seq ?_
  refine c_seq ?_
  refine c_region ?_
  obtain ⟨t18, h_t18, H33⟩ := bnd_some H; clear H
  refine l_callG (fun w hF hS => k17 (know_all w) (tb_pow10.mono (hw.now hF)) h_t18) Tryd.call17 rfl rfl rfl ?_
  refine l_val rfl rfl rfl (r_not rfl) ?_
  refine l_nil ?_
  refine c_if (b := (!t18)) rfl (fun hb => ?_) (fun hb => ?_)
  · have H34 := cnd_t hb H33; clear H33
    refine c_seq ?_
    refine c_region ?_
    refine l_val rfl rfl rfl (r_assign (v := .bool false) rfl) ?_
    refine l_nil ?_
    refine c_ret ?_
    obtain rfl := Option.some.inj H34
    refine ret1 (v := .bool false) rfl rfl (fin rfl)
  · have H35 := cnd_f hb H33; clear H33
    refine c_skip ?_
    refine c_seq ?_
    refine c_region ?_
    refine l_loadN (i := 0) (vs := [.int .i64 a0.Lat, .int .i64 a0.Lon]) Tryd.isAgg23 Tryd.sizeOf23 rfl rfl rfl rfl rfl ?_
    refine l_loadN (i := 1) (vs := [.int .i64 a1.Lat, .int .i64 a1.Lon]) Tryd.isAgg23 Tryd.sizeOf23 rfl rfl rfl rfl rfl ?_
    obtain ⟨t23, h_t23, H36⟩ := bnd_some H35; clear H35
    refine l_call (k18 h_t23) Tryd.call18 rfl rfl rfl ?_
    refine l_val rfl rfl rfl (r_move (v := .tuple #[.int .i64 t23.1, .int .i64 t23.2]) rfl) ?_
    refine l_val rfl rfl rfl (r_extract (v := .int .i64 t23.1) rfl rfl) ?_
    refine l_val rfl rfl rfl (r_extract (v := .int .i64 t23.2) rfl rfl) ?_
    refine l_val rfl rfl rfl (r_assign (v := .int .i64 t23.1) rfl) ?_
    refine l_val rfl rfl rfl (r_assign (v := .int .i64 t23.2) rfl) ?_
    refine l_nil ?_
    refine c_seq ?_
    refine c_seq ?_
    refine c_region ?_
    refine l_val rfl rfl rfl (r_move (v := .int .i64 t23.2) rfl) ?_
    refine l_val rfl rfl rfl (r_neq rfl rfl) ?_
    refine l_nil ?_
    refine c_if (b := (decide (t23.2 ≠ 0))) rfl (fun hb => ?_) (fun hb => ?_)
    · have H37 := cnd_t hb H36; clear H36
      refine c_seq ?_
      refine c_region ?_
      refine l_val rfl rfl rfl (r_assign (v := .bool true) rfl) ?_
      refine l_nil ?_
      refine c_ret ?_
      obtain rfl := Option.some.inj H37
      refine ret1 (v := .bool true) rfl rfl (fin rfl)
    · have H38 := cnd_f hb H36; clear H36
      refine c_skip ?_
      refine c_seq ?_
      refine c_region ?_
      refine l_loadN (i := 1) (vs := [.int .i64 a1.Lat, .int .i64 a1.Lon]) Tryd.isAgg23 Tryd.sizeOf23 rfl rfl rfl rfl rfl ?_
      refine l_loadN (i := 0) (vs := [.int .i64 a0.Lat, .int .i64 a0.Lon]) Tryd.isAgg23 Tryd.sizeOf23 rfl rfl rfl rfl rfl ?_
      obtain ⟨t31, h_t31, H39⟩ := bnd_some H38; clear H38
      refine l_call (k18 h_t31) Tryd.call18 rfl rfl rfl ?_
      refine l_val rfl rfl rfl (r_move (v := .tuple #[.int .i64 t31.1, .int .i64 t31.2]) rfl) ?_
      refine l_val rfl rfl rfl (r_extract (v := .int .i64 t31.1) rfl rfl) ?_
      refine l_val rfl rfl rfl (r_extract (v := .int .i64 t31.2) rfl rfl) ?_
      refine l_val rfl rfl rfl (r_assign (v := .int .i64 t31.1) rfl) ?_
      refine l_val rfl rfl rfl (r_assign (v := .int .i64 t31.2) rfl) ?_
      refine l_nil ?_
      refine c_seq ?_
      refine c_region ?_
      refine l_loadN (i := 0) (vs := [.int .i64 a0.Lat, .int .i64 a0.Lon]) Tryd.isAgg23 Tryd.sizeOf23 rfl rfl rfl rfl rfl ?_
      refine l_loadN (i := 0) (vs := [.int .i64 a0.Lat, .int .i64 a0.Lon]) Tryd.isAgg23 Tryd.sizeOf23 rfl rfl rfl rfl rfl ?_
      obtain ⟨t37, h_t37, H40⟩ := bnd_some H39; clear H39
      refine l_call (k18 h_t37) Tryd.call18 rfl rfl rfl ?_
      refine l_val rfl rfl rfl (r_move (v := .tuple #[.int .i64 t37.1, .int .i64 t37.2]) rfl) ?_
      refine l_val rfl rfl rfl (r_extract (v := .int .i64 t37.1) rfl rfl) ?_
      refine l_val rfl rfl rfl (r_extract (v := .int .i64 t37.2) rfl rfl) ?_
      refine l_val rfl rfl rfl (r_assign (v := .int .i64 t37.1) rfl) ?_
      refine l_val rfl rfl rfl (r_assign (v := .int .i64 t37.2) rfl) ?_
      refine l_nil ?_
      refine c_seq ?_
      refine c_seq ?_
      refine c_region ?_
      refine l_val rfl rfl rfl (r_move (v := .int .i64 t31.2) rfl) ?_
      refine l_val rfl rfl rfl (r_neq rfl rfl) ?_
      refine l_val rfl rfl rfl (r_move (v := .bool (decide (t31.2 ≠ 0))) rfl) ?_
      refine split (fun hb => ?_) (fun hb => ?_)
      · have H41 := cnd_t hb H40; clear H40
        refine l_passed rfl rfl rfl ?_
        refine l_passed rfl rfl rfl ?_
        refine l_val rfl rfl rfl (r_pickT (v := .bool true) rfl rfl) ?_
        refine l_val rfl rfl rfl (r_move (v := .bool true) rfl) ?_
        refine l_passed rfl rfl rfl ?_
        refine l_passed rfl rfl rfl ?_
        refine l_passed rfl rfl rfl ?_
        refine l_val rfl rfl rfl (r_pickT (v := .bool true) rfl rfl) ?_
        refine l_val rfl rfl rfl (r_move (v := .bool true) rfl) ?_
        refine l_passed rfl rfl rfl ?_
        refine l_passed rfl rfl rfl ?_
        refine l_val rfl rfl rfl (r_pickT (v := .bool true) rfl rfl) ?_
        refine l_nil ?_
        refine c_true rfl ?_
        refine c_seq ?_
        refine c_region ?_
        refine l_val rfl rfl rfl (r_assign (v := .bool false) rfl) ?_
        refine l_nil ?_
        refine c_ret ?_
        obtain rfl := Option.some.inj H41
        refine ret1 (v := .bool false) rfl rfl (fin rfl)
      · have H42 := cnd_f hb H40; clear H40
        refine l_val rfl rfl rfl (r_move (v := .int .i64 t37.2) rfl) ?_
        refine l_val rfl rfl rfl (r_neq rfl rfl) ?_
        refine l_val rfl rfl rfl (r_pickF (v := .bool (decide (t37.2 ≠ 0))) rfl rfl) ?_
        refine l_val rfl rfl rfl (r_move (v := .bool (decide (t37.2 ≠ 0))) rfl) ?_
        refine split (fun hb => ?_) (fun hb => ?_)
        · have H43 := cnd_t hb H42; clear H42
          refine l_passed rfl rfl rfl ?_
          refine l_passed rfl rfl rfl ?_
          refine l_passed rfl rfl rfl ?_
          refine l_val rfl rfl rfl (r_pickT (v := .bool true) rfl rfl) ?_
          refine l_val rfl rfl rfl (r_move (v := .bool true) rfl) ?_
          refine l_passed rfl rfl rfl ?_
          refine l_passed rfl rfl rfl ?_
          refine l_val rfl rfl rfl (r_pickT (v := .bool true) rfl rfl) ?_
          refine l_nil ?_
          refine c_true rfl ?_
          refine c_seq ?_
          refine c_region ?_
          refine l_val rfl rfl rfl (r_assign (v := .bool false) rfl) ?_
          refine l_nil ?_
          refine c_ret ?_
          obtain rfl := Option.some.inj H43
          refine ret1 (v := .bool false) rfl rfl (fin rfl)
        · have H44 := cnd_f hb H42; clear H42
          refine l_val rfl rfl rfl (r_move (v := .int .i64 t31.1) rfl) ?_
          refine l_val rfl rfl rfl (r_move (v := .int .i64 t23.1) rfl) ?_
          refine l_val rfl rfl rfl (r_neq rfl rfl) ?_
          refine l_val rfl rfl rfl (r_pickF (v := .bool (decide (t31.1 ≠ t23.1))) rfl rfl) ?_
          refine l_val rfl rfl rfl (r_move (v := .bool (decide (t31.1 ≠ t23.1))) rfl) ?_
          refine split (fun hb => ?_) (fun hb => ?_)
          · have H45 := cnd_t hb H44; clear H44
            refine l_passed rfl rfl rfl ?_
            refine l_passed rfl rfl rfl ?_
            refine l_val rfl rfl rfl (r_pickT (v := .bool true) rfl rfl) ?_
            refine l_nil ?_
            refine c_true rfl ?_
            refine c_seq ?_
            refine c_region ?_
            refine l_val rfl rfl rfl (r_assign (v := .bool false) rfl) ?_
            refine l_nil ?_
            refine c_ret ?_
            obtain rfl := Option.some.inj H45
            refine ret1 (v := .bool false) rfl rfl (fin rfl)
          · have H46 := cnd_f hb H44; clear H44
            refine l_val rfl rfl rfl (r_move (v := .int .i64 t37.1) rfl) ?_
            refine l_val rfl rfl rfl (r_neq rfl rfl) ?_
            refine l_val rfl rfl rfl (r_pickF (v := .bool (decide (t37.1 ≠ 0))) rfl rfl) ?_
            refine l_nil ?_
            refine c_if (b := (decide (t37.1 ≠ 0))) rfl (fun hb => ?_) (fun hb => ?_)
            · have H47 := cnd_t hb H46; clear H46
              refine c_seq ?_
              refine c_region ?_
              refine l_val rfl rfl rfl (r_assign (v := .bool false) rfl) ?_
              refine l_nil ?_
              refine c_ret ?_
              obtain rfl := Option.some.inj H47
              refine ret1 (v := .bool false) rfl rfl (fin rfl)
            · have H48 := cnd_f hb H46; clear H46
              refine c_skip ?_
              refine c_seq ?_
              refine c_region ?_
              refine l_loadN (i := 0) (vs := [.int .i64 a0.Lat, .int .i64 a0.Lon]) Tryd.isAgg23 Tryd.sizeOf23 rfl rfl rfl rfl rfl ?_
              refine l_loadN (i := 1) (vs := [.int .i64 a1.Lat, .int .i64 a1.Lon]) Tryd.isAgg23 Tryd.sizeOf23 rfl rfl rfl rfl rfl ?_
              refine l_val rfl rfl rfl (r_move (v := .int .i64 a2) rfl) ?_
              obtain ⟨t59, h_t59, H49⟩ := bnd_some H48; clear H48
              refine l_call (k19 h_t59) Tryd.call19 rfl rfl rfl ?_
              refine l_val rfl rfl rfl (r_move (v := .tuple #[.agg #[.int .i64 t59.1.Lat, .int .i64 t59.1.Lon], .int .i64 t59.2]) rfl) ?_
              refine l_val rfl rfl rfl (r_extract (v := .agg #[.int .i64 t59.1.Lat, .int .i64 t59.1.Lon]) rfl rfl) ?_
              refine l_val rfl rfl rfl (r_extract (v := .int .i64 t59.2) rfl rfl) ?_
              refine l_alloc (cs := [.int .i64 0, .int .i64 0]) Tryd.zeroValue23 rfl rfl rfl (fun b7 => ?_)
              refine l_store (i := 2) (vs := [.int .i64 t59.1.Lat, .int .i64 t59.1.Lon]) (cs' := [.int .i64 t59.1.Lat, .int .i64 t59.1.Lon]) Tryd.sizeOf23 rfl rfl rfl rfl rfl rfl rfl rfl rfl ?_
              refine l_val rfl rfl rfl (r_assign (v := .int .i64 t59.2) rfl) ?_
              refine l_nil ?_
              refine c_seq ?_
              refine c_region ?_
              refine l_loadN (i := 0) (vs := [.int .i64 a0.Lat, .int .i64 a0.Lon]) Tryd.isAgg23 Tryd.sizeOf23 rfl rfl rfl rfl rfl ?_
              refine l_loadN (i := 1) (vs := [.int .i64 a1.Lat, .int .i64 a1.Lon]) Tryd.isAgg23 Tryd.sizeOf23 rfl rfl rfl rfl rfl ?_
              refine l_val rfl rfl rfl (r_move (v := .int .i64 a2) rfl) ?_
              refine l_val rfl rfl rfl (r_move (v := .int .i64 a2) rfl) ?_
              obtain ⟨t67, h_t67, H50⟩ := bnd_some H49; clear H49
              refine l_call (k19 h_t67) Tryd.call19 rfl rfl rfl ?_
              refine l_val rfl rfl rfl (r_move (v := .tuple #[.agg #[.int .i64 t67.1.Lat, .int .i64 t67.1.Lon], .int .i64 t67.2]) rfl) ?_
              refine l_val rfl rfl rfl (r_extract (v := .agg #[.int .i64 t67.1.Lat, .int .i64 t67.1.Lon]) rfl rfl) ?_
              refine l_val rfl rfl rfl (r_extract (v := .int .i64 t67.2) rfl rfl) ?_
              refine l_alloc (cs := [.int .i64 0, .int .i64 0]) Tryd.zeroValue23 rfl rfl rfl (fun b8 => ?_)
              refine l_store (i := 3) (vs := [.int .i64 t67.1.Lat, .int .i64 t67.1.Lon]) (cs' := [.int .i64 t67.1.Lat, .int .i64 t67.1.Lon]) Tryd.sizeOf23 rfl rfl rfl rfl rfl rfl rfl rfl rfl ?_
              refine l_val rfl rfl rfl (r_assign (v := .int .i64 t67.2) rfl) ?_
              refine l_nil ?_
              refine c_seq ?_
              refine c_seq ?_
              refine c_region ?_
              refine l_val rfl rfl rfl (r_move (v := .int .i64 t59.2) rfl) ?_
              refine l_val rfl rfl rfl (r_neq rfl rfl) ?_
              refine l_nil ?_
              refine c_if (b := (decide (t59.2 ≠ 0))) rfl (fun hb => ?_) (fun hb => ?_)
              · have H51 := cnd_t hb H50; clear H50
                refine c_seq ?_
                refine c_region ?_
                refine l_val rfl rfl rfl (r_move (v := .int .i64 t67.2) rfl) ?_
                refine l_val rfl rfl rfl (r_move (v := .int .i64 t59.2) rfl) ?_
                refine l_val rfl rfl rfl (r_eql rfl rfl) ?_
                refine l_val rfl rfl rfl (r_assign (v := .bool (decide (t67.2 = t59.2))) rfl) ?_
                refine l_nil ?_
                refine c_ret ?_
                obtain rfl := Option.some.inj H51
                refine ret1 (v := .bool (decide (t67.2 = t59.2))) rfl rfl (fin rfl)
              · have H52 := cnd_f hb H50; clear H50
                refine c_skip ?_
                refine c_seq ?_
                refine c_region ?_
                refine l_loadN (i := 0) (vs := [.int .i64 a0.Lat, .int .i64 a0.Lon]) Tryd.isAgg23 Tryd.sizeOf23 rfl rfl rfl rfl rfl ?_
                obtain ⟨t77, h_t77, H53⟩ := bnd_some H52; clear H52
                refine l_callG (fun w hF hS => k6 (know_all w) (tb_pow10.mono (hw.now hF)) h_t77) Tryd.call6 rfl rfl rfl ?_
                refine l_val rfl rfl rfl (r_move (v := .tuple #[str t77.1, .int .i64 t77.2]) rfl) ?_
                refine l_val rfl rfl rfl (r_extract (v := str t77.1) rfl rfl) ?_
                refine l_val rfl rfl rfl (r_extract (v := .int .i64 t77.2) rfl rfl) ?_
                refine l_val rfl rfl rfl (r_assign (v := str t77.1) rfl) ?_
                refine l_val rfl rfl rfl (r_assign (v := .int .i64 t77.2) rfl) ?_
                refine l_nil ?_
                refine c_seq ?_
                refine c_region ?_
                refine l_val rfl rfl rfl (r_move (v := str t77.1) rfl) ?_
                obtain ⟨t82, h_t82, H54⟩ := bnd_some H53; clear H53
                refine l_call (k7 h_t82) Tryd.call7 rfl rfl rfl ?_
                refine l_val rfl rfl rfl (r_move (v := .tuple #[.agg #[.int .i64 t82.1.Lat, .int .i64 t82.1.Lon], .int .i64 t82.2]) rfl) ?_
                refine l_val rfl rfl rfl (r_extract (v := .agg #[.int .i64 t82.1.Lat, .int .i64 t82.1.Lon]) rfl rfl) ?_
                refine l_val rfl rfl rfl (r_extract (v := .int .i64 t82.2) rfl rfl) ?_
                refine l_alloc (cs := [.int .i64 0, .int .i64 0]) Tryd.zeroValue23 rfl rfl rfl (fun b9 => ?_)
                refine l_store (i := 4) (vs := [.int .i64 t82.1.Lat, .int .i64 t82.1.Lon]) (cs' := [.int .i64 t82.1.Lat, .int .i64 t82.1.Lon]) Tryd.sizeOf23 rfl rfl rfl rfl rfl rfl rfl rfl rfl ?_
                refine l_val rfl rfl rfl (r_assign (v := .int .i64 t82.2) rfl) ?_
                refine l_nil ?_
                refine c_seq ?_
                refine c_region ?_
                refine l_val rfl rfl rfl (r_move (v := .int .i64 t67.2) rfl) ?_
                refine l_val rfl rfl rfl (r_eql rfl rfl) ?_
                refine l_val rfl rfl rfl (r_move (v := .bool (decide (t67.2 = 0))) rfl) ?_
                refine split (fun hb => ?_) (fun hb => ?_)
                · have H55 := cnd_t hb H54; clear H54
                  refine l_loadN (i := 2) (vs := [.int .i64 t59.1.Lat, .int .i64 t59.1.Lon]) Tryd.isAgg23 Tryd.sizeOf23 rfl rfl rfl rfl rfl ?_
                  refine l_loadN (i := 0) (vs := [.int .i64 a0.Lat, .int .i64 a0.Lon]) Tryd.isAgg23 Tryd.sizeOf23 rfl rfl rfl rfl rfl ?_
                  refine l_val rfl rfl rfl (r_eqlA (xs := #[.int .i64 t59.1.Lat, .int .i64 t59.1.Lon]) (ys := #[.int .i64 a0.Lat, .int .i64 a0.Lon]) Tryd.eqGuardType23 (fun w => run_eq_api_Place w t59.1 a0) rfl rfl) ?_
                  refine l_val rfl rfl rfl (r_pickT (v := .bool (eq_api_Place t59.1 a0)) rfl rfl) ?_
                  refine l_val rfl rfl rfl (r_move (v := .bool (eq_api_Place t59.1 a0)) rfl) ?_
                  refine split (fun hb => ?_) (fun hb => ?_)
                  · have H56 := cnd_t hb H55; clear H55
                    refine l_loadN (i := 3) (vs := [.int .i64 t67.1.Lat, .int .i64 t67.1.Lon]) Tryd.isAgg23 Tryd.sizeOf23 rfl rfl rfl rfl rfl ?_
                    refine l_loadN (i := 1) (vs := [.int .i64 a1.Lat, .int .i64 a1.Lon]) Tryd.isAgg23 Tryd.sizeOf23 rfl rfl rfl rfl rfl ?_
                    refine l_val rfl rfl rfl (r_eqlA (xs := #[.int .i64 t67.1.Lat, .int .i64 t67.1.Lon]) (ys := #[.int .i64 a1.Lat, .int .i64 a1.Lon]) Tryd.eqGuardType23 (fun w => run_eq_api_Place w t67.1 a1) rfl rfl) ?_
                    refine l_val rfl rfl rfl (r_pickT (v := .bool (eq_api_Place t67.1 a1)) rfl rfl) ?_
                    refine l_val rfl rfl rfl (r_move (v := .bool (eq_api_Place t67.1 a1)) rfl) ?_
                    refine split (fun hb => ?_) (fun hb => ?_)
                    · have H57 := cnd_t hb H56; clear H56
                      refine l_val rfl rfl rfl (r_move (v := .int .i64 t77.2) rfl) ?_
                      refine l_val rfl rfl rfl (r_eql rfl rfl) ?_
                      refine l_val rfl rfl rfl (r_pickT (v := .bool (decide (t77.2 = 0))) rfl rfl) ?_
                      refine l_val rfl rfl rfl (r_move (v := .bool (decide (t77.2 = 0))) rfl) ?_
                      refine split (fun hb => ?_) (fun hb => ?_)
                      · have H58 := cnd_t hb H57; clear H57
                        refine l_val rfl rfl rfl (r_move (v := .int .i64 t82.2) rfl) ?_
                        refine l_val rfl rfl rfl (r_eql rfl rfl) ?_
                        refine l_val rfl rfl rfl (r_pickT (v := .bool (decide (t82.2 = 0))) rfl rfl) ?_
                        refine l_val rfl rfl rfl (r_move (v := .bool (decide (t82.2 = 0))) rfl) ?_
                        refine split (fun hb => ?_) (fun hb => ?_)
                        · have H59 := cnd_t hb H58; clear H58
                          refine l_loadN (i := 4) (vs := [.int .i64 t82.1.Lat, .int .i64 t82.1.Lon]) Tryd.isAgg23 Tryd.sizeOf23 rfl rfl rfl rfl rfl ?_
                          refine l_loadN (i := 0) (vs := [.int .i64 a0.Lat, .int .i64 a0.Lon]) Tryd.isAgg23 Tryd.sizeOf23 rfl rfl rfl rfl rfl ?_
                          refine l_val rfl rfl rfl (r_eqlA (xs := #[.int .i64 t82.1.Lat, .int .i64 t82.1.Lon]) (ys := #[.int .i64 a0.Lat, .int .i64 a0.Lon]) Tryd.eqGuardType23 (fun w => run_eq_api_Place w t82.1 a0) rfl rfl) ?_
                          refine l_val rfl rfl rfl (r_pickT (v := .bool (eq_api_Place t82.1 a0)) rfl rfl) ?_
                          refine l_val rfl rfl rfl (r_assign (v := .bool (eq_api_Place t82.1 a0)) rfl) ?_
                          refine l_nil ?_
                          refine c_ret ?_
                          obtain rfl := Option.some.inj H59
                          refine ret1 (v := .bool (eq_api_Place t82.1 a0)) rfl rfl (fin rfl)
                        · have H60 := cnd_f hb H58; clear H58
                          refine l_passed rfl rfl rfl ?_
                          refine l_passed rfl rfl rfl ?_
                          refine l_passed rfl rfl rfl ?_
                          refine l_val rfl rfl rfl (r_pickF (v := .bool false) rfl rfl) ?_
                          refine l_val rfl rfl rfl (r_assign (v := .bool false) rfl) ?_
                          refine l_nil ?_
                          refine c_ret ?_
                          obtain rfl := Option.some.inj H60
                          refine ret1 (v := .bool false) rfl rfl (fin rfl)
                      · have H61 := cnd_f hb H57; clear H57
                        refine l_passed rfl rfl rfl ?_
                        refine l_passed rfl rfl rfl ?_
                        refine l_val rfl rfl rfl (r_pickF (v := .bool false) rfl rfl) ?_
                        refine l_val rfl rfl rfl (r_move (v := .bool false) rfl) ?_
                        refine l_passed rfl rfl rfl ?_
                        refine l_passed rfl rfl rfl ?_
                        refine l_passed rfl rfl rfl ?_
                        refine l_val rfl rfl rfl (r_pickF (v := .bool false) rfl rfl) ?_
                        refine l_val rfl rfl rfl (r_assign (v := .bool false) rfl) ?_
                        refine l_nil ?_
                        refine c_ret ?_
                        obtain rfl := Option.some.inj H61
                        refine ret1 (v := .bool false) rfl rfl (fin rfl)
                    · have H62 := cnd_f hb H56; clear H56
                      refine l_passed rfl rfl rfl ?_
                      refine l_passed rfl rfl rfl ?_
                      refine l_val rfl rfl rfl (r_pickF (v := .bool false) rfl rfl) ?_
                      refine l_val rfl rfl rfl (r_move (v := .bool false) rfl) ?_
                      refine l_passed rfl rfl rfl ?_
                      refine l_passed rfl rfl rfl ?_
                      refine l_val rfl rfl rfl (r_pickF (v := .bool false) rfl rfl) ?_
                      refine l_val rfl rfl rfl (r_move (v := .bool false) rfl) ?_
                      refine l_passed rfl rfl rfl ?_
                      refine l_passed rfl rfl rfl ?_
                      refine l_passed rfl rfl rfl ?_
                      refine l_val rfl rfl rfl (r_pickF (v := .bool false) rfl rfl) ?_
                      refine l_val rfl rfl rfl (r_assign (v := .bool false) rfl) ?_
                      refine l_nil ?_
                      refine c_ret ?_
                      obtain rfl := Option.some.inj H62
                      refine ret1 (v := .bool false) rfl rfl (fin rfl)
                  · have H63 := cnd_f hb H55; clear H55
                    refine l_passed rfl rfl rfl ?_
                    refine l_passed rfl rfl rfl ?_
                    refine l_passed rfl rfl rfl ?_
                    refine l_val rfl rfl rfl (r_pickF (v := .bool false) rfl rfl) ?_
                    refine l_val rfl rfl rfl (r_move (v := .bool false) rfl) ?_
                    refine l_passed rfl rfl rfl ?_
                    refine l_passed rfl rfl rfl ?_
                    refine l_val rfl rfl rfl (r_pickF (v := .bool false) rfl rfl) ?_
                    refine l_val rfl rfl rfl (r_move (v := .bool false) rfl) ?_
                    refine l_passed rfl rfl rfl ?_
                    refine l_passed rfl rfl rfl ?_
                    refine l_val rfl rfl rfl (r_pickF (v := .bool false) rfl rfl) ?_
                    refine l_val rfl rfl rfl (r_move (v := .bool false) rfl) ?_
                    refine l_passed rfl rfl rfl ?_
                    refine l_passed rfl rfl rfl ?_
                    refine l_passed rfl rfl rfl ?_
                    refine l_val rfl rfl rfl (r_pickF (v := .bool false) rfl rfl) ?_
                    refine l_val rfl rfl rfl (r_assign (v := .bool false) rfl) ?_
                    refine l_nil ?_
                    refine c_ret ?_
                    obtain rfl := Option.some.inj H63
                    refine ret1 (v := .bool false) rfl rfl (fin rfl)
                · have H64 := cnd_f hb H54; clear H54
                  refine l_passed rfl rfl rfl ?_
                  refine l_passed rfl rfl rfl ?_
                  refine l_passed rfl rfl rfl ?_
                  refine l_val rfl rfl rfl (r_pickF (v := .bool false) rfl rfl) ?_
                  refine l_val rfl rfl rfl (r_move (v := .bool false) rfl) ?_
                  refine l_passed rfl rfl rfl ?_
                  refine l_passed rfl rfl rfl ?_
                  refine l_passed rfl rfl rfl ?_
                  refine l_val rfl rfl rfl (r_pickF (v := .bool false) rfl rfl) ?_
                  refine l_val rfl rfl rfl (r_move (v := .bool false) rfl) ?_
                  refine l_passed rfl rfl rfl ?_
                  refine l_passed rfl rfl rfl ?_
                  refine l_val rfl rfl rfl (r_pickF (v := .bool false) rfl rfl) ?_
                  refine l_val rfl rfl rfl (r_move (v := .bool false) rfl) ?_
                  refine l_passed rfl rfl rfl ?_
                  refine l_passed rfl rfl rfl ?_
                  refine l_val rfl rfl rfl (r_pickF (v := .bool false) rfl rfl) ?_
                  refine l_val rfl rfl rfl (r_move (v := .bool false) rfl) ?_
                  refine l_passed rfl rfl rfl ?_
                  refine l_passed rfl rfl rfl ?_
                  refine l_passed rfl rfl rfl ?_
                  refine l_val rfl rfl rfl (r_pickF (v := .bool false) rfl rfl) ?_
                  refine l_val rfl rfl rfl (r_assign (v := .bool false) rfl) ?_
                  refine l_nil ?_
                  refine c_ret ?_
                  obtain rfl := Option.some.inj H64
                  refine ret1 (v := .bool false) rfl rfl (fin rfl)
end Go.Proofs.YtamacljplianfaaDoor
