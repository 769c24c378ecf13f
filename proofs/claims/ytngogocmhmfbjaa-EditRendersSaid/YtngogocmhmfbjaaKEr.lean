/- EditRenders: the walks, printed by our generator; each follows its model. Conditions: the model yields a value. -/
import Derived.Test.YtngogocmhmfbjaaKEc
namespace Go.Proofs.Ytngogocmhmfbjaa
open Go Go.Vc Go.Md Go.M Go.Lx
set_option maxRecDepth 100000
set_option maxHeartbeats 4000000
set_option linter.unusedVariables false

theorem k16 {a0 : (List Int)} {v0 : Value} {r : Int} {w : World} {h : Heap} (hw : Know h w noS) (f0 : FrS h 1 v0 (a0.map e_i64)) (H : Law_first a0 = some r) : Does Try.prog 16 (List.toArray [v0]) w (fun v w' => v = (.int .i64 r) ∧ Grow w w') := by
  refine enter (n := 15) Try.func16 rfl rfl rfl noS [] (Sat.nil _ _) ?_
  refine c_seq ?_
  refine c_region ?_
  refine l_val rfl rfl rfl (r_assign (v := .int .i64 0) rfl) ?_
  refine l_nil ?_
  refine c_seq ?_
  refine c_seq ?_
  refine c_region ?_
  refine l_val rfl rfl rfl (r_move (v := v0) rfl) ?_
  refine l_val rfl rfl rfl (r_lenF Try.underlying128 rfl f0 rfl) ?_
  refine l_val rfl rfl rfl (r_move (v := .int .i64 0) rfl) ?_
  refine l_nil ?_
  refine c_block ?_
  refine c_fix (σ := Int) (τ := Unit) (fun next1 s => Law_first_l1 a0 next1 s) (fun s t => [(5, v0), (6, .int .i64 (a0.length : Int)), (7, .int .i64 s)]) (fun s t => []) (fun s t => True) 0 () [] H (by exact trivial) (by exact ⟨rfl, rfl, rfl, trivial⟩) (by decide) rfl ?_
  rintro x7_2 _ m1 gg H8 _
  clear H
  replace H8 : Law_first_l1 a0 (it (fun next1 s => Law_first_l1 a0 next1 s) m1) x7_2 = some r := H8
  generalize hn1 : it (fun next1 s => Law_first_l1 a0 next1 s) m1 = next1 at H8
  refine c_tidyF [(5, v0), (6, .int .i64 (a0.length : Int)), (7, .int .i64 x7_2)] [] rfl rfl ?_
  refine c_seq ?_
  refine c_region ?_
  refine l_val rfl rfl rfl (r_lss rfl rfl) ?_
  refine l_nil ?_
  refine c_seq ?_
  refine c_if (b := (decide (x7_2 < (a0.length : Int)))) rfl (fun hb => ?_) (fun hb => ?_)
  · have H9 := cnd_t hb H8; clear H8
    refine c_skip ?_
    refine c_seq ?_
    refine c_block ?_
    refine c_seq ?_
    refine c_region ?_
    obtain ⟨t9, h_t9, H10⟩ := bnd_some H9; clear H9
    refine l_val rfl rfl rfl (r_indexF Try.underlying128 Try.sizeOf26 rfl rfl f0 h_t9) ?_
    refine l_read (fun w hF hS => run_loadG1 (f := e_i64) (i := x7_2) (sz := 1) (j := 0) (v := .int .i64 t9) Try.isAgg26 rfl rfl (f0.row (hw.now hF)) h_t9 rfl) rfl rfl rfl ?_
    refine l_val rfl rfl rfl (r_assign (v := .int .i64 t9) rfl) ?_
    refine l_nil ?_
    refine c_seq ?_
    refine c_region ?_
    refine l_val rfl rfl rfl (r_move (v := .int .i64 t9) rfl) ?_
    refine l_val rfl rfl rfl (r_neq rfl rfl) ?_
    refine l_nil ?_
    refine c_if (b := (decide (t9 ≠ 0))) rfl (fun hb => ?_) (fun hb => ?_)
    · have H11 := cnd_t hb H10; clear H10
      refine c_seq ?_
      refine c_region ?_
      refine l_val rfl rfl rfl (r_move (v := .int .i64 t9) rfl) ?_
      refine l_val rfl rfl rfl (r_assign (v := .int .i64 t9) rfl) ?_
      refine l_nil ?_
      refine c_ret ?_
      obtain rfl := Option.some.inj H11
      refine ret1 (v := .int .i64 t9) rfl rfl (fin rfl)
    · have H12 := cnd_f hb H10; clear H10
      refine c_skip ?_
      refine c_region ?_
      obtain ⟨t14, h_t14, H13⟩ := bnd_some H12; clear H12
      refine l_val rfl rfl rfl (r_addG rfl rfl h_t14) ?_
      refine l_val rfl rfl rfl (r_move (v := .int .i64 t14) rfl) ?_
      refine l_nil ?_
      refine c_close t14 () m1 [] (by exact ⟨rfl, rfl, rfl, trivial⟩) (by decide) rfl (by exact ⟨(by subst hn1; exact H13), trivial⟩) (Nat.lt_succ_self _)
  · have H14 := cnd_f hb H8; clear H8
    refine c_exit ?_
    refine c_seq ?_
    refine c_region ?_
    refine l_val rfl rfl rfl (r_assign (v := .int .i64 0) rfl) ?_
    refine l_nil ?_
    refine c_ret ?_
    obtain rfl := Option.some.inj H14
    refine ret1 (v := .int .i64 0) rfl rfl (fin rfl)
theorem k197 {a0 : Int} {r : Int} (H : edit_clamp a0 = some r) : Ret Try.prog 197 [.int .i64 a0] (.int .u8 r) := by
  refine enterRet (n := 7) Try.func197 rfl rfl rfl (fun wd => ?_)
  refine c_seq ?_
  refine c_region ?_
  refine l_val rfl rfl rfl (r_assign (v := .int .u8 0) rfl) ?_
  refine l_nil ?_
  refine c_seq ?_
  refine c_region ?_
  refine l_val rfl rfl rfl (r_move (v := .int .i64 a0) rfl) ?_
  refine l_val rfl rfl rfl (r_max rfl rfl) ?_
  refine l_val rfl rfl rfl (r_min rfl rfl) ?_
  refine l_val rfl rfl rfl (r_convG Try.runUnderlying3 Try.runUnderlying5 rfl (wr_u8 _)) ?_
  refine l_val rfl rfl rfl (r_assign (v := .int .u8 (wU8 (min (max a0 0) 255))) rfl) ?_
  refine l_nil ?_
  refine c_ret ?_
  obtain rfl := Option.some.inj H
  refine ret1 (v := .int .u8 (wU8 (min (max a0 0) 255))) rfl rfl (fin rfl)
theorem k155 {a0 : T_edit_Step} {a1 : (Nat → Int)} {r : (Nat → Int)} (H : edit_Step_warm a0 a1 = some r) : Ret Try.prog 155 [.agg #[.int .i64 a0.Kind, .int .i64 a0.A, .int .i64 a0.B, .int .i64 a0.C, .int .i64 a0.D], .agg #[.int .u8 (a1 0), .int .u8 (a1 1), .int .u8 (a1 2)]] (.agg #[.int .u8 (r 0), .int .u8 (r 1), .int .u8 (r 2)]) := by
  refine enterRet (n := 22) Try.func155 rfl rfl rfl (fun wd => ?_)
  refine c_seq ?_
  refine c_region ?_
  refine l_box (cs := [.int .i64 a0.Kind, .int .i64 a0.A, .int .i64 a0.B, .int .i64 a0.C, .int .i64 a0.D]) rfl rfl rfl rfl (fun b3 => ?_)
  refine l_box (cs := [.int .u8 (a1 0), .int .u8 (a1 1), .int .u8 (a1 2)]) rfl rfl rfl rfl (fun b4 => ?_)
  refine l_alloc (cs := [.int .u8 0, .int .u8 0, .int .u8 0]) Try.zeroValue81 rfl rfl rfl (fun b5 => ?_)
  refine l_nil ?_
  refine c_seq ?_
  exact c_regionD (Kd.p :: Kd.d [1] _ :: Kd.p :: Kd.p :: Kd.d [0] _ :: Kd.p :: Kd.d [] _ :: Kd.p :: Kd.d [1] _ :: Kd.p :: Kd.d [1] _ :: Kd.p :: Kd.p :: Kd.d [0] _ :: Kd.p :: Kd.d [] _ :: Kd.p :: Kd.st 4 2 [_, _, _] 81 :: []) 0 mixed (by
    refine d_val rfl rfl (r_indexPA Try.runUnderlying81 Try.sizeOf5 rfl rfl (by decide) (by decide)) ?_
    refine d_load1 (i := 1) (v := .int .u8 (a1 0)) Try.isAgg5 rfl rfl rfl rfl ?_
    have h_t7 := bnd_val H
    have H7 := bnd_rest H
    refine d_val rfl rfl (r_convG Try.runUnderlying5 Try.runUnderlying3 rfl (gK_i64 h_t7)) ?_
    refine d_val rfl rfl (r_field Try.runUnderlying69 rfl Try.sizeOf3 rfl rfl) ?_
    refine d_load1 (i := 0) (v := .int .i64 a0.A) Try.isAgg3 rfl rfl rfl rfl ?_
    have h_t10 := bnd_val H7
    have H8 := bnd_rest H7
    refine d_val rfl rfl (r_addG rfl rfl h_t10) ?_
    have h_t11 := bnd_val H8
    have H9 := bnd_rest H8
    refine d_call (k197 h_t11) Try.call197 rfl rfl ?_
    refine d_val rfl rfl (r_indexPA Try.runUnderlying81 Try.sizeOf5 rfl rfl (by decide) (by decide)) ?_
    refine d_load1 (i := 1) (v := .int .u8 (a1 1)) Try.isAgg5 rfl rfl rfl rfl ?_
    refine d_val rfl rfl (r_indexPA Try.runUnderlying81 Try.sizeOf5 rfl rfl (by decide) (by decide)) ?_
    refine d_load1 (i := 1) (v := .int .u8 (a1 2)) Try.isAgg5 rfl rfl rfl rfl ?_
    have h_t16 := bnd_val H9
    have H10 := bnd_rest H9
    refine d_val rfl rfl (r_convG Try.runUnderlying5 Try.runUnderlying3 rfl (gK_i64 h_t16)) ?_
    refine d_val rfl rfl (r_field Try.runUnderlying69 rfl Try.sizeOf3 rfl rfl) ?_
    refine d_load1 (i := 0) (v := .int .i64 a0.A) Try.isAgg3 rfl rfl rfl rfl ?_
    have h_t19 := bnd_val H10
    have H11 := bnd_rest H10
    refine d_val rfl rfl (r_subG rfl rfl h_t19) ?_
    have h_t20 := bnd_val H11
    have H12 := bnd_rest H11
    refine d_call (k197 h_t20) Try.call197 rfl rfl ?_
    refine d_val rfl rfl (r_buildA (ps := [(0, .int .u8 (val (edit_clamp (val (gI ((val (gK (-9223372036854775808) 9223372036854775807 (a1 0))) + a0.A)))))), (1, .int .u8 (a1 1)), (2, .int .u8 (val (edit_clamp (val (gI ((val (gK (-9223372036854775808) 9223372036854775807 (a1 2))) - a0.A))))))]) (cells := #[.int .u8 (val (edit_clamp (val (gI ((val (gK (-9223372036854775808) 9223372036854775807 (a1 0))) + a0.A))))), .int .u8 (a1 1), .int .u8 (val (edit_clamp (val (gI ((val (gK (-9223372036854775808) 9223372036854775807 (a1 2))) - a0.A)))))]) Try.zeroValue81 Try.runUnderlying81 Try.sizeOf5 rfl rfl) ?_
    refine d_store (i := 2) (vs := [.int .u8 (val (edit_clamp (val (gI ((val (gK (-9223372036854775808) 9223372036854775807 (a1 0))) + a0.A))))), .int .u8 (a1 1), .int .u8 (val (edit_clamp (val (gI ((val (gK (-9223372036854775808) 9223372036854775807 (a1 2))) - a0.A)))))]) (cs' := [.int .u8 (val (edit_clamp (val (gI ((val (gK (-9223372036854775808) 9223372036854775807 (a1 0))) + a0.A))))), .int .u8 (a1 1), .int .u8 (val (edit_clamp (val (gI ((val (gK (-9223372036854775808) 9223372036854775807 (a1 2))) - a0.A)))))]) Try.sizeOf81 rfl rfl rfl rfl rfl rfl rfl rfl rfl ?_
    refine d_nil ?_
    refine c_ret ?_
    obtain rfl := Option.some.inj H12
    refine retC (i := 2) (vs := [.int .u8 (val (edit_clamp (val (gI ((val (gK (-9223372036854775808) 9223372036854775807 (a1 0))) + a0.A))))), .int .u8 (a1 1), .int .u8 (val (edit_clamp (val (gI ((val (gK (-9223372036854775808) 9223372036854775807 (a1 2))) - a0.A)))))]) Try.isAgg81 Try.sizeOf81 rfl rfl rfl rfl (fin rfl)
    ) (by kernel_rfl)
theorem k198 {a0 : Int} {a1 : Int} {r : Int} (H : edit_floor a0 a1 = some r) : Ret Try.prog 198 [.int .i64 a0, .int .i64 a1] (.int .i64 r) := by
  refine enterRet (n := 16) Try.func198 rfl rfl rfl (fun wd => ?_)
  refine c_seq ?_
  refine c_region ?_
  refine l_val rfl rfl rfl (r_assign (v := .int .i64 0) rfl) ?_
  refine l_nil ?_
  refine c_seq ?_
  refine c_region ?_
  refine l_val rfl rfl rfl (r_move (v := .int .i64 a0) rfl) ?_
  refine l_val rfl rfl rfl (r_move (v := .int .i64 a1) rfl) ?_
  obtain ⟨t8, h_t8, H6⟩ := bnd_some H; clear H
  refine l_val rfl rfl rfl (r_quoG rfl rfl h_t8) ?_
  refine l_val rfl rfl rfl (r_assign (v := .int .i64 t8) rfl) ?_
  refine l_nil ?_
  refine c_seq ?_
  refine c_seq ?_
  refine c_region ?_
  refine l_val rfl rfl rfl (r_move (v := .int .i64 a0) rfl) ?_
  refine l_val rfl rfl rfl (r_move (v := .int .i64 a1) rfl) ?_
  obtain ⟨t11, h_t11, H7⟩ := bnd_some H6; clear H6
  refine l_val rfl rfl rfl (r_remG rfl rfl h_t11) ?_
  refine l_val rfl rfl rfl (r_lss rfl rfl) ?_
  refine l_nil ?_
  refine c_if (b := (decide (t11 < 0))) rfl (fun hb => ?_) (fun hb => ?_)
  · have H8 := cnd_t hb H7; clear H7
    refine c_region ?_
    refine l_val rfl rfl rfl (r_move (v := .int .i64 t8) rfl) ?_
    obtain ⟨t14, h_t14, H9⟩ := bnd_some H8; clear H8
    refine l_val rfl rfl rfl (r_subG rfl rfl h_t14) ?_
    refine l_val rfl rfl rfl (r_assign (v := .int .i64 t14) rfl) ?_
    refine l_nil ?_
    refine c_seq ?_
    refine c_region ?_
    refine l_val rfl rfl rfl (r_move (v := .int .i64 t14) rfl) ?_
    refine l_val rfl rfl rfl (r_assign (v := .int .i64 t14) rfl) ?_
    refine l_nil ?_
    refine c_ret ?_
    obtain rfl := Option.some.inj H9
    refine ret1 (v := .int .i64 t14) rfl rfl (fin rfl)
  · have H10 := cnd_f hb H7; clear H7
    refine c_skip ?_
    refine c_seq ?_
    refine c_region ?_
    refine l_val rfl rfl rfl (r_move (v := .int .i64 t8) rfl) ?_
    refine l_val rfl rfl rfl (r_assign (v := .int .i64 t8) rfl) ?_
    refine l_nil ?_
    refine c_ret ?_
    obtain rfl := Option.some.inj H10
    refine ret1 (v := .int .i64 t8) rfl rfl (fin rfl)
theorem k156 {a0 : T_edit_Step} {a1 : (Nat → Int)} {r : (Nat → Int)} (H : edit_Step_mute a0 a1 = some r) : Ret Try.prog 156 [.agg #[.int .i64 a0.Kind, .int .i64 a0.A, .int .i64 a0.B, .int .i64 a0.C, .int .i64 a0.D], .agg #[.int .u8 (a1 0), .int .u8 (a1 1), .int .u8 (a1 2)]] (.agg #[.int .u8 (r 0), .int .u8 (r 1), .int .u8 (r 2)]) := by
  refine enterRet (n := 44) Try.func156 rfl rfl rfl (fun wd => ?_)
  refine c_seq ?_
  refine c_region ?_
  refine l_box (cs := [.int .i64 a0.Kind, .int .i64 a0.A, .int .i64 a0.B, .int .i64 a0.C, .int .i64 a0.D]) rfl rfl rfl rfl (fun b3 => ?_)
  refine l_box (cs := [.int .u8 (a1 0), .int .u8 (a1 1), .int .u8 (a1 2)]) rfl rfl rfl rfl (fun b4 => ?_)
  refine l_alloc (cs := [.int .u8 0, .int .u8 0, .int .u8 0]) Try.zeroValue81 rfl rfl rfl (fun b5 => ?_)
  refine l_nil ?_
  refine c_seq ?_
  refine c_region ?_
  refine l_val rfl rfl rfl (r_indexPA Try.runUnderlying81 Try.sizeOf5 rfl rfl (by decide) (by decide)) ?_
  refine l_load1 (i := 1) (v := .int .u8 (a1 0)) Try.isAgg5 rfl rfl rfl rfl rfl ?_
  obtain ⟨t10, h_t10, H24⟩ := bnd_some H; clear H
  refine l_val rfl rfl rfl (r_convG Try.runUnderlying5 Try.runUnderlying3 rfl (gK_i64 h_t10)) ?_
  obtain ⟨t11, h_t11, H25⟩ := bnd_some H24; clear H24
  refine l_val rfl rfl rfl (r_mulG rfl rfl h_t11) ?_
  refine l_val rfl rfl rfl (r_indexPA Try.runUnderlying81 Try.sizeOf5 rfl rfl (by decide) (by decide)) ?_
  refine l_load1 (i := 1) (v := .int .u8 (a1 1)) Try.isAgg5 rfl rfl rfl rfl rfl ?_
  obtain ⟨t14, h_t14, H26⟩ := bnd_some H25; clear H25
  refine l_val rfl rfl rfl (r_convG Try.runUnderlying5 Try.runUnderlying3 rfl (gK_i64 h_t14)) ?_
  obtain ⟨t15, h_t15, H27⟩ := bnd_some H26; clear H26
  refine l_val rfl rfl rfl (r_mulG rfl rfl h_t15) ?_
  obtain ⟨t16, h_t16, H28⟩ := bnd_some H27; clear H27
  refine l_val rfl rfl rfl (r_addG rfl rfl h_t16) ?_
  refine l_val rfl rfl rfl (r_indexPA Try.runUnderlying81 Try.sizeOf5 rfl rfl (by decide) (by decide)) ?_
  refine l_load1 (i := 1) (v := .int .u8 (a1 2)) Try.isAgg5 rfl rfl rfl rfl rfl ?_
  obtain ⟨t19, h_t19, H29⟩ := bnd_some H28; clear H28
  refine l_val rfl rfl rfl (r_convG Try.runUnderlying5 Try.runUnderlying3 rfl (gK_i64 h_t19)) ?_
  obtain ⟨t20, h_t20, H30⟩ := bnd_some H29; clear H29
  refine l_val rfl rfl rfl (r_mulG rfl rfl h_t20) ?_
  obtain ⟨t21, h_t21, H31⟩ := bnd_some H30; clear H30
  refine l_val rfl rfl rfl (r_addG rfl rfl h_t21) ?_
  obtain ⟨t22, h_t22, H32⟩ := bnd_some H31; clear H31
  refine l_val rfl rfl rfl (r_quoG rfl rfl h_t22) ?_
  refine l_val rfl rfl rfl (r_assign (v := .int .i64 t22) rfl) ?_
  refine l_nil ?_
  refine c_meet (r := r) (σ := (Nat → Int)) (τ := Unit) (fun s => edit_Step_mute_j1 s) (fun s t => [(3, .pointer (some ⟨b4, 0, none⟩)), (4, .pointer (some ⟨b5, 0, none⟩))]) (fun s t => [cellsC b4 [.int .u8 (s 0), .int .u8 (s 1), .int .u8 (s 2)] 81, cellsC b5 [.int .u8 0, .int .u8 0, .int .u8 0] 81]) (fun s t => True) ?_ ?_
  · refine c_seq ?_
    refine c_region ?_
    refine l_loadN (i := 1) (vs := [.int .u8 (a1 0), .int .u8 (a1 1), .int .u8 (a1 2)]) Try.isAgg81 Try.sizeOf81 rfl rfl rfl rfl rfl ?_
    refine l_val rfl rfl rfl (r_move (v := .int .i64 0) rfl) ?_
    refine l_nil ?_
    refine c_block ?_
    refine c_fix (σ := Int × (Nat → Int)) (τ := Unit) (fun next2 s => edit_Step_mute_l2 a0 a1 t22 next2 s.1 s.2) (fun s t => [(2, .pointer (some ⟨b3, 0, none⟩)), (3, .pointer (some ⟨b4, 0, none⟩)), (4, .pointer (some ⟨b5, 0, none⟩)), (5, .int .i64 t22), (23, .agg #[.int .u8 (a1 0), .int .u8 (a1 1), .int .u8 (a1 2)]), (24, .int .i64 s.1)]) (fun s t => [cellsC b3 [.int .i64 a0.Kind, .int .i64 a0.A, .int .i64 a0.B, .int .i64 a0.C, .int .i64 a0.D] 69, cellsC b4 [.int .u8 (s.2 0), .int .u8 (s.2 1), .int .u8 (s.2 2)] 81, cellsC b5 [.int .u8 0, .int .u8 0, .int .u8 0] 81]) (fun s t => True) (0, a1) () [0, 1, 2] H32 (by exact trivial) (by exact ⟨rfl, rfl, rfl, rfl, rfl, rfl, trivial⟩) (by decide) rfl ?_
    rintro ⟨x24_2, m_3⟩ _ m2 gg H34 _
    clear H32
    replace H34 : edit_Step_mute_l2 a0 a1 t22 (it (fun next2 s => edit_Step_mute_l2 a0 a1 t22 next2 s.1 s.2) m2) x24_2 m_3 = some r := H34
    generalize hn2 : it (fun next2 s => edit_Step_mute_l2 a0 a1 t22 next2 s.1 s.2) m2 = next2 at H34
    refine c_tidyF [(2, .pointer (some ⟨b3, 0, none⟩)), (3, .pointer (some ⟨b4, 0, none⟩)), (4, .pointer (some ⟨b5, 0, none⟩)), (5, .int .i64 t22), (23, .agg #[.int .u8 (a1 0), .int .u8 (a1 1), .int .u8 (a1 2)]), (24, .int .i64 x24_2)] [cellsC b3 [.int .i64 a0.Kind, .int .i64 a0.A, .int .i64 a0.B, .int .i64 a0.C, .int .i64 a0.D] 69, cellsC b4 [.int .u8 (m_3 0), .int .u8 (m_3 1), .int .u8 (m_3 2)] 81, cellsC b5 [.int .u8 0, .int .u8 0, .int .u8 0] 81] rfl rfl ?_
    refine c_seq ?_
    refine c_region ?_
    refine l_val rfl rfl rfl (r_lss rfl rfl) ?_
    refine l_nil ?_
    refine c_seq ?_
    refine c_if (b := (decide (x24_2 < 3))) rfl (fun hb => ?_) (fun hb => ?_)
    · have H35 := cnd_t hb H34; clear H34
      refine c_skip ?_
      refine c_seq ?_
      refine c_block ?_
      refine c_seq ?_
      refine c_region ?_
      refine l_val rfl rfl rfl (r_move (v := .int .i64 x24_2) rfl) ?_
      obtain ⟨k27, h_k27, H36⟩ := bnd_some H35; clear H35
      refine l_val rfl rfl rfl (r_indexAG (f := fun j_ => .int .u8 (a1 j_)) Try.runUnderlying81 Try.isAgg5 Try.sizeOf5 rfl rfl rfl h_k27) ?_
      refine l_val rfl rfl rfl (r_assign (v := .int .i64 x24_2) rfl) ?_
      refine l_val rfl rfl rfl (r_assign (v := .int .u8 (a1 k27)) rfl) ?_
      refine l_nil ?_
      refine c_region ?_
      refine l_val rfl rfl rfl (r_move (v := .int .i64 x24_2) rfl) ?_
      refine l_val rfl rfl rfl (r_move (v := .int .u8 (a1 k27)) rfl) ?_
      obtain ⟨t30, h_t30, H37⟩ := bnd_some H36; clear H36
      refine l_val rfl rfl rfl (r_convG Try.runUnderlying5 Try.runUnderlying3 rfl (gK_i64 h_t30)) ?_
      refine l_val rfl rfl rfl (r_move (v := .int .i64 t22) rfl) ?_
      refine l_val rfl rfl rfl (r_move (v := .int .u8 (a1 k27)) rfl) ?_
      obtain ⟨t33, h_t33, H38⟩ := bnd_some H37; clear H37
      refine l_val rfl rfl rfl (r_convG Try.runUnderlying5 Try.runUnderlying3 rfl (gK_i64 h_t33)) ?_
      obtain ⟨t34, h_t34, H39⟩ := bnd_some H38; clear H38
      refine l_val rfl rfl rfl (r_subG rfl rfl h_t34) ?_
      refine l_val rfl rfl rfl (r_field Try.runUnderlying69 rfl Try.sizeOf3 rfl rfl) ?_
      refine l_load1 (i := 0) (v := .int .i64 a0.A) Try.isAgg3 rfl rfl rfl rfl rfl ?_
      obtain ⟨t37, h_t37, H40⟩ := bnd_some H39; clear H39
      refine l_val rfl rfl rfl (r_mulG rfl rfl h_t37) ?_
      obtain ⟨t38, h_t38, H41⟩ := bnd_some H40; clear H40
      refine l_call (k198 h_t38) Try.call198 rfl rfl rfl ?_
      obtain ⟨t39, h_t39, H42⟩ := bnd_some H41; clear H41
      refine l_val rfl rfl rfl (r_addG rfl rfl h_t39) ?_
      obtain ⟨t40, h_t40, H43⟩ := bnd_some H42; clear H42
      refine l_call (k197 h_t40) Try.call197 rfl rfl rfl ?_
      obtain ⟨k41, h_k41, H44⟩ := bnd_some H43; clear H43
      refine l_val rfl rfl rfl (r_indexPG Try.runUnderlying81 Try.sizeOf5 rfl rfl h_k41) ?_
      refine l_store (i := 1) (vs := [.int .u8 t40]) (cs' := [.int .u8 ((setA m_3 k41 t40) 0), .int .u8 ((setA m_3 k41 t40) 1), .int .u8 ((setA m_3 k41 t40) 2)]) Try.sizeOf5 rfl rfl rfl rfl rfl rfl rfl rfl (wr_arr (pre := []) (post := []) (f := fun (j_ : Int) => [.int .u8 j_]) (n := 3) (sz := 1) (a := m_3) (x := t40) rfl rfl (fun _ => rfl) (gIx_lt h_k41) rfl rfl) ?_
      refine l_nil ?_
      refine c_region ?_
      obtain ⟨t42, h_t42, H45⟩ := bnd_some H44; clear H44
      refine l_val rfl rfl rfl (r_addG rfl rfl h_t42) ?_
      refine l_val rfl rfl rfl (r_move (v := .int .i64 t42) rfl) ?_
      refine l_nil ?_
      refine c_close (t42, (setA m_3 k41 t40)) () m2 [0, 1, 2] (by exact ⟨rfl, rfl, rfl, rfl, rfl, rfl, trivial⟩) (by decide) rfl (by exact ⟨(by subst hn2; exact H45), trivial⟩) (Nat.lt_succ_self _)
    · have H46 := cnd_f hb H34; clear H34
      refine c_exit ?_
      refine c_close m_3 () 0 [1, 2] (by exact ⟨rfl, rfl, trivial⟩) (by decide) rfl (by exact ⟨H46, trivial⟩) (Nat.lt_succ_self _)
  · rintro m _ gg H33 _
    replace H33 : edit_Step_mute_j1 m = some r := H33
    refine c_tidyF [(3, .pointer (some ⟨b4, 0, none⟩)), (4, .pointer (some ⟨b5, 0, none⟩))] [cellsC b4 [.int .u8 (m 0), .int .u8 (m 1), .int .u8 (m 2)] 81, cellsC b5 [.int .u8 0, .int .u8 0, .int .u8 0] 81] rfl rfl ?_
    refine c_seq ?_
    refine c_region ?_
    refine l_loadN (i := 0) (vs := [.int .u8 (m 0), .int .u8 (m 1), .int .u8 (m 2)]) Try.isAgg81 Try.sizeOf81 rfl rfl rfl rfl rfl ?_
    refine l_store (i := 1) (vs := [.int .u8 (m 0), .int .u8 (m 1), .int .u8 (m 2)]) (cs' := [.int .u8 (m 0), .int .u8 (m 1), .int .u8 (m 2)]) Try.sizeOf81 rfl rfl rfl rfl rfl rfl rfl rfl rfl ?_
    refine l_nil ?_
    refine c_ret ?_
    obtain rfl := Option.some.inj H33
    refine retC (i := 1) (vs := [.int .u8 (m 0), .int .u8 (m 1), .int .u8 (m 2)]) Try.isAgg81 Try.sizeOf81 rfl rfl rfl rfl (fin rfl)
theorem k193 {a0 : T_edit_Step} {a1 : Int} {r : Int} (H : edit_Step_light a0 a1 = some r) : Ret Try.prog 193 [.agg #[.int .i64 a0.Kind, .int .i64 a0.A, .int .i64 a0.B, .int .i64 a0.C, .int .i64 a0.D], .int .u8 a1] (.int .u8 r) := by
  refine enterRet (n := 11) Try.func193 rfl rfl rfl (fun wd => ?_)
  refine c_seq ?_
  refine c_region ?_
  refine l_box (cs := [.int .i64 a0.Kind, .int .i64 a0.A, .int .i64 a0.B, .int .i64 a0.C, .int .i64 a0.D]) rfl rfl rfl rfl (fun b1 => ?_)
  refine l_val rfl rfl rfl (r_assign (v := .int .u8 0) rfl) ?_
  refine l_nil ?_
  refine c_seq ?_
  refine c_region ?_
  refine l_val rfl rfl rfl (r_move (v := .int .u8 a1) rfl) ?_
  obtain ⟨t6, h_t6, H4⟩ := bnd_some H; clear H
  refine l_val rfl rfl rfl (r_convG Try.runUnderlying5 Try.runUnderlying3 rfl (gK_i64 h_t6)) ?_
  refine l_val rfl rfl rfl (r_field Try.runUnderlying69 rfl Try.sizeOf3 rfl rfl) ?_
  refine l_load1 (i := 0) (v := .int .i64 a0.A) Try.isAgg3 rfl rfl rfl rfl rfl ?_
  obtain ⟨t9, h_t9, H5⟩ := bnd_some H4; clear H4
  refine l_val rfl rfl rfl (r_addG rfl rfl h_t9) ?_
  obtain ⟨t10, h_t10, H6⟩ := bnd_some H5; clear H5
  refine l_call (k197 h_t10) Try.call197 rfl rfl rfl ?_
  refine l_val rfl rfl rfl (r_assign (v := .int .u8 t10) rfl) ?_
  refine l_nil ?_
  refine c_ret ?_
  obtain rfl := Option.some.inj H6
  refine ret1 (v := .int .u8 t10) rfl rfl (fin rfl)
theorem k194 {a0 : T_edit_Step} {a1 : Int} {r : Int} (H : edit_Step_spread a0 a1 = some r) : Ret Try.prog 194 [.agg #[.int .i64 a0.Kind, .int .i64 a0.A, .int .i64 a0.B, .int .i64 a0.C, .int .i64 a0.D], .int .u8 a1] (.int .u8 r) := by
  refine enterRet (n := 14) Try.func194 rfl rfl rfl (fun wd => ?_)
  refine c_seq ?_
  refine c_region ?_
  refine l_box (cs := [.int .i64 a0.Kind, .int .i64 a0.A, .int .i64 a0.B, .int .i64 a0.C, .int .i64 a0.D]) rfl rfl rfl rfl (fun b1 => ?_)
  refine l_val rfl rfl rfl (r_assign (v := .int .u8 0) rfl) ?_
  refine l_nil ?_
  refine c_seq ?_
  refine c_region ?_
  refine l_val rfl rfl rfl (r_move (v := .int .u8 a1) rfl) ?_
  obtain ⟨t6, h_t6, H7⟩ := bnd_some H; clear H
  refine l_val rfl rfl rfl (r_convG Try.runUnderlying5 Try.runUnderlying3 rfl (gK_i64 h_t6)) ?_
  obtain ⟨t7, h_t7, H8⟩ := bnd_some H7; clear H7
  refine l_val rfl rfl rfl (r_subG rfl rfl h_t7) ?_
  refine l_val rfl rfl rfl (r_field Try.runUnderlying69 rfl Try.sizeOf3 rfl rfl) ?_
  refine l_load1 (i := 0) (v := .int .i64 a0.A) Try.isAgg3 rfl rfl rfl rfl rfl ?_
  obtain ⟨t10, h_t10, H9⟩ := bnd_some H8; clear H8
  refine l_val rfl rfl rfl (r_mulG rfl rfl h_t10) ?_
  obtain ⟨t11, h_t11, H10⟩ := bnd_some H9; clear H9
  refine l_call (k198 h_t11) Try.call198 rfl rfl rfl ?_
  obtain ⟨t12, h_t12, H11⟩ := bnd_some H10; clear H10
  refine l_val rfl rfl rfl (r_addG rfl rfl h_t12) ?_
  obtain ⟨t13, h_t13, H12⟩ := bnd_some H11; clear H11
  refine l_call (k197 h_t13) Try.call197 rfl rfl rfl ?_
  refine l_val rfl rfl rfl (r_assign (v := .int .u8 t13) rfl) ?_
  refine l_nil ?_
  refine c_ret ?_
  obtain rfl := Option.some.inj H12
  refine ret1 (v := .int .u8 t13) rfl rfl (fin rfl)
theorem k195 {a0 : T_edit_Step} {a1 : Int} {r : Int} (H : edit_Step_levels a0 a1 = some r) : Ret Try.prog 195 [.agg #[.int .i64 a0.Kind, .int .i64 a0.A, .int .i64 a0.B, .int .i64 a0.C, .int .i64 a0.D], .int .u8 a1] (.int .u8 r) := by
  refine enterRet (n := 18) Try.func195 rfl rfl rfl (fun wd => ?_)
  refine c_seq ?_
  refine c_region ?_
  refine l_box (cs := [.int .i64 a0.Kind, .int .i64 a0.A, .int .i64 a0.B, .int .i64 a0.C, .int .i64 a0.D]) rfl rfl rfl rfl (fun b1 => ?_)
  refine l_val rfl rfl rfl (r_assign (v := .int .u8 0) rfl) ?_
  refine l_nil ?_
  refine c_seq ?_
  refine c_region ?_
  refine l_val rfl rfl rfl (r_move (v := .int .u8 a1) rfl) ?_
  obtain ⟨t6, h_t6, H7⟩ := bnd_some H; clear H
  refine l_val rfl rfl rfl (r_convG Try.runUnderlying5 Try.runUnderlying3 rfl (gK_i64 h_t6)) ?_
  refine l_val rfl rfl rfl (r_field Try.runUnderlying69 rfl Try.sizeOf3 rfl rfl) ?_
  refine l_load1 (i := 0) (v := .int .i64 a0.A) Try.isAgg3 rfl rfl rfl rfl rfl ?_
  obtain ⟨t9, h_t9, H8⟩ := bnd_some H7; clear H7
  refine l_val rfl rfl rfl (r_subG rfl rfl h_t9) ?_
  obtain ⟨t10, h_t10, H9⟩ := bnd_some H8; clear H8
  refine l_val rfl rfl rfl (r_mulG rfl rfl h_t10) ?_
  refine l_val rfl rfl rfl (r_field Try.runUnderlying69 rfl Try.sizeOf3 rfl rfl) ?_
  refine l_load1 (i := 0) (v := .int .i64 a0.B) Try.isAgg3 rfl rfl rfl rfl rfl ?_
  refine l_val rfl rfl rfl (r_field Try.runUnderlying69 rfl Try.sizeOf3 rfl rfl) ?_
  refine l_load1 (i := 0) (v := .int .i64 a0.A) Try.isAgg3 rfl rfl rfl rfl rfl ?_
  obtain ⟨t15, h_t15, H10⟩ := bnd_some H9; clear H9
  refine l_val rfl rfl rfl (r_subG rfl rfl h_t15) ?_
  obtain ⟨t16, h_t16, H11⟩ := bnd_some H10; clear H10
  refine l_call (k198 h_t16) Try.call198 rfl rfl rfl ?_
  obtain ⟨t17, h_t17, H12⟩ := bnd_some H11; clear H11
  refine l_call (k197 h_t17) Try.call197 rfl rfl rfl ?_
  refine l_val rfl rfl rfl (r_assign (v := .int .u8 t17) rfl) ?_
  refine l_nil ?_
  refine c_ret ?_
  obtain rfl := Option.some.inj H12
  refine ret1 (v := .int .u8 t17) rfl rfl (fin rfl)
theorem k196 {a0 : T_edit_Step} {a1 : Int} {r : Int} (H : edit_Step_invert a0 a1 = some r) : Ret Try.prog 196 [.agg #[.int .i64 a0.Kind, .int .i64 a0.A, .int .i64 a0.B, .int .i64 a0.C, .int .i64 a0.D], .int .u8 a1] (.int .u8 r) := by
  refine enterRet (n := 7) Try.func196 rfl rfl rfl (fun wd => ?_)
  refine c_seq ?_
  refine c_region ?_
  refine l_box (cs := [.int .i64 a0.Kind, .int .i64 a0.A, .int .i64 a0.B, .int .i64 a0.C, .int .i64 a0.D]) rfl rfl rfl rfl (fun b1 => ?_)
  refine l_val rfl rfl rfl (r_assign (v := .int .u8 0) rfl) ?_
  refine l_nil ?_
  refine c_seq ?_
  refine c_region ?_
  refine l_val rfl rfl rfl (r_move (v := .int .u8 a1) rfl) ?_
  refine l_val rfl rfl rfl (r_subW rfl rfl (wr_u8 _)) ?_
  refine l_val rfl rfl rfl (r_assign (v := .int .u8 (wU8 (255 - a1))) rfl) ?_
  refine l_nil ?_
  refine c_ret ?_
  obtain rfl := Option.some.inj H
  refine ret1 (v := .int .u8 (wU8 (255 - a1))) rfl rfl (fin rfl)
theorem k154 {a0 : T_edit_Step} {r : (Option (Int → Option (Int)))} (H : edit_Step_byByte a0 = some r) : RetF Try.prog 154 [.agg #[.int .i64 a0.Kind, .int .i64 a0.A, .int .i64 a0.B, .int .i64 a0.C, .int .i64 a0.D]] (fun v => FnV Try.prog v r (fun g => fnR_func_uint8_uint8 g)) := by
  refine enterRetF (n := 21) Try.func154 rfl rfl rfl (fun wd => ?_)
  refine c_seq ?_
  refine c_region ?_
  refine l_box (cs := [.int .i64 a0.Kind, .int .i64 a0.A, .int .i64 a0.B, .int .i64 a0.C, .int .i64 a0.D]) rfl rfl rfl rfl (fun b1 => ?_)
  refine l_val rfl rfl rfl (r_assign (v := .nilFunc) rfl) ?_
  refine l_nil ?_
  refine c_seq ?_
  refine c_seq ?_
  refine c_region ?_
  refine l_val rfl rfl rfl (r_field Try.runUnderlying69 rfl Try.sizeOf3 rfl rfl) ?_
  refine l_load1 (i := 0) (v := .int .i64 a0.Kind) Try.isAgg3 rfl rfl rfl rfl rfl ?_
  refine l_nil ?_
  refine c_block ?_
  refine c_seq ?_
  refine c_region ?_
  refine l_val rfl rfl rfl (r_eql rfl rfl) ?_
  refine l_val rfl rfl rfl (r_assign (v := .bool (decide (a0.Kind = 4))) rfl) ?_
  refine l_nil ?_
  refine c_if (b := (decide (a0.Kind = 4))) rfl (fun hb => ?_) (fun hb => ?_)
  · have H9 := cnd_t hb H; clear H
    refine c_seq ?_
    refine c_region ?_
    refine l_loadN (i := 0) (vs := [.int .i64 a0.Kind, .int .i64 a0.A, .int .i64 a0.B, .int .i64 a0.C, .int .i64 a0.D]) Try.isAgg69 Try.sizeOf69 rfl rfl rfl rfl rfl ?_
    refine l_val rfl rfl rfl (r_makeFnP (pre := #[.agg #[.int .i64 a0.Kind, .int .i64 a0.A, .int .i64 a0.B, .int .i64 a0.C, .int .i64 a0.D]]) (caps := #[]) rfl rfl) ?_
    refine l_val rfl rfl rfl (r_assign (v := .func (.func 193) #[.agg #[.int .i64 a0.Kind, .int .i64 a0.A, .int .i64 a0.B, .int .i64 a0.C, .int .i64 a0.D]] #[]) rfl) ?_
    refine l_nil ?_
    refine c_ret ?_
    obtain rfl := Option.some.inj H9
    refine ret1 (v := .func (.func 193) #[.agg #[.int .i64 a0.Kind, .int .i64 a0.A, .int .i64 a0.B, .int .i64 a0.C, .int .i64 a0.D]] #[]) rfl rfl (finF (φ := fun v => FnV Try.prog v (some (edit_Step_light a0)) (fun g => fnR_func_uint8_uint8 g)) (FnV.mk (g := (edit_Step_light a0)) (R := fun g => fnR_func_uint8_uint8 g) (fun h_ => (FnH.mk ⟨193, #[.agg #[.int .i64 a0.Kind, .int .i64 a0.A, .int .i64 a0.B, .int .i64 a0.C, .int .i64 a0.D]], #[], rfl, Try.call193, fun args2 post2 w2 hk2 hR2 => by obtain ⟨a0_, r_, rfl, H_, rfl⟩ := hR2; exact k193 H_ w2⟩))))
  · have H10 := cnd_f hb H; clear H
    refine c_seq ?_
    refine c_region ?_
    refine l_val rfl rfl rfl (r_eql rfl rfl) ?_
    refine l_val rfl rfl rfl (r_assign (v := .bool (decide (a0.Kind = 5))) rfl) ?_
    refine l_nil ?_
    refine c_if (b := (decide (a0.Kind = 5))) rfl (fun hb => ?_) (fun hb => ?_)
    · have H11 := cnd_t hb H10; clear H10
      refine c_seq ?_
      refine c_region ?_
      refine l_loadN (i := 0) (vs := [.int .i64 a0.Kind, .int .i64 a0.A, .int .i64 a0.B, .int .i64 a0.C, .int .i64 a0.D]) Try.isAgg69 Try.sizeOf69 rfl rfl rfl rfl rfl ?_
      refine l_val rfl rfl rfl (r_makeFnP (pre := #[.agg #[.int .i64 a0.Kind, .int .i64 a0.A, .int .i64 a0.B, .int .i64 a0.C, .int .i64 a0.D]]) (caps := #[]) rfl rfl) ?_
      refine l_val rfl rfl rfl (r_assign (v := .func (.func 194) #[.agg #[.int .i64 a0.Kind, .int .i64 a0.A, .int .i64 a0.B, .int .i64 a0.C, .int .i64 a0.D]] #[]) rfl) ?_
      refine l_nil ?_
      refine c_ret ?_
      obtain rfl := Option.some.inj H11
      refine ret1 (v := .func (.func 194) #[.agg #[.int .i64 a0.Kind, .int .i64 a0.A, .int .i64 a0.B, .int .i64 a0.C, .int .i64 a0.D]] #[]) rfl rfl (finF (φ := fun v => FnV Try.prog v (some (edit_Step_spread a0)) (fun g => fnR_func_uint8_uint8 g)) (FnV.mk (g := (edit_Step_spread a0)) (R := fun g => fnR_func_uint8_uint8 g) (fun h_ => (FnH.mk ⟨194, #[.agg #[.int .i64 a0.Kind, .int .i64 a0.A, .int .i64 a0.B, .int .i64 a0.C, .int .i64 a0.D]], #[], rfl, Try.call194, fun args2 post2 w2 hk2 hR2 => by obtain ⟨a0_, r_, rfl, H_, rfl⟩ := hR2; exact k194 H_ w2⟩))))
    · have H12 := cnd_f hb H10; clear H10
      refine c_seq ?_
      refine c_region ?_
      refine l_val rfl rfl rfl (r_eql rfl rfl) ?_
      refine l_val rfl rfl rfl (r_assign (v := .bool (decide (a0.Kind = 6))) rfl) ?_
      refine l_nil ?_
      refine c_if (b := (decide (a0.Kind = 6))) rfl (fun hb => ?_) (fun hb => ?_)
      · have H13 := cnd_t hb H12; clear H12
        refine c_seq ?_
        refine c_region ?_
        refine l_loadN (i := 0) (vs := [.int .i64 a0.Kind, .int .i64 a0.A, .int .i64 a0.B, .int .i64 a0.C, .int .i64 a0.D]) Try.isAgg69 Try.sizeOf69 rfl rfl rfl rfl rfl ?_
        refine l_val rfl rfl rfl (r_makeFnP (pre := #[.agg #[.int .i64 a0.Kind, .int .i64 a0.A, .int .i64 a0.B, .int .i64 a0.C, .int .i64 a0.D]]) (caps := #[]) rfl rfl) ?_
        refine l_val rfl rfl rfl (r_assign (v := .func (.func 195) #[.agg #[.int .i64 a0.Kind, .int .i64 a0.A, .int .i64 a0.B, .int .i64 a0.C, .int .i64 a0.D]] #[]) rfl) ?_
        refine l_nil ?_
        refine c_ret ?_
        obtain rfl := Option.some.inj H13
        refine ret1 (v := .func (.func 195) #[.agg #[.int .i64 a0.Kind, .int .i64 a0.A, .int .i64 a0.B, .int .i64 a0.C, .int .i64 a0.D]] #[]) rfl rfl (finF (φ := fun v => FnV Try.prog v (some (edit_Step_levels a0)) (fun g => fnR_func_uint8_uint8 g)) (FnV.mk (g := (edit_Step_levels a0)) (R := fun g => fnR_func_uint8_uint8 g) (fun h_ => (FnH.mk ⟨195, #[.agg #[.int .i64 a0.Kind, .int .i64 a0.A, .int .i64 a0.B, .int .i64 a0.C, .int .i64 a0.D]], #[], rfl, Try.call195, fun args2 post2 w2 hk2 hR2 => by obtain ⟨a0_, r_, rfl, H_, rfl⟩ := hR2; exact k195 H_ w2⟩))))
      · have H14 := cnd_f hb H12; clear H12
        refine c_seq ?_
        refine c_region ?_
        refine l_val rfl rfl rfl (r_eql rfl rfl) ?_
        refine l_val rfl rfl rfl (r_assign (v := .bool (decide (a0.Kind = 9))) rfl) ?_
        refine l_nil ?_
        refine c_if (b := (decide (a0.Kind = 9))) rfl (fun hb => ?_) (fun hb => ?_)
        · have H15 := cnd_t hb H14; clear H14
          refine c_seq ?_
          refine c_region ?_
          refine l_loadN (i := 0) (vs := [.int .i64 a0.Kind, .int .i64 a0.A, .int .i64 a0.B, .int .i64 a0.C, .int .i64 a0.D]) Try.isAgg69 Try.sizeOf69 rfl rfl rfl rfl rfl ?_
          refine l_val rfl rfl rfl (r_makeFnP (pre := #[.agg #[.int .i64 a0.Kind, .int .i64 a0.A, .int .i64 a0.B, .int .i64 a0.C, .int .i64 a0.D]]) (caps := #[]) rfl rfl) ?_
          refine l_val rfl rfl rfl (r_assign (v := .func (.func 196) #[.agg #[.int .i64 a0.Kind, .int .i64 a0.A, .int .i64 a0.B, .int .i64 a0.C, .int .i64 a0.D]] #[]) rfl) ?_
          refine l_nil ?_
          refine c_ret ?_
          obtain rfl := Option.some.inj H15
          refine ret1 (v := .func (.func 196) #[.agg #[.int .i64 a0.Kind, .int .i64 a0.A, .int .i64 a0.B, .int .i64 a0.C, .int .i64 a0.D]] #[]) rfl rfl (finF (φ := fun v => FnV Try.prog v (some (edit_Step_invert a0)) (fun g => fnR_func_uint8_uint8 g)) (FnV.mk (g := (edit_Step_invert a0)) (R := fun g => fnR_func_uint8_uint8 g) (fun h_ => (FnH.mk ⟨196, #[.agg #[.int .i64 a0.Kind, .int .i64 a0.A, .int .i64 a0.B, .int .i64 a0.C, .int .i64 a0.D]], #[], rfl, Try.call196, fun args2 post2 w2 hk2 hR2 => by obtain ⟨a0_, r_, rfl, H_, rfl⟩ := hR2; exact k196 H_ w2⟩))))
        · have H16 := cnd_f hb H14; clear H14
          refine c_skip ?_
          refine c_seq ?_
          refine c_region ?_
          refine l_val rfl rfl rfl (r_assign (v := .nilFunc) rfl) ?_
          refine l_nil ?_
          refine c_ret ?_
          obtain rfl := Option.some.inj H16
          refine ret1 (v := .nilFunc) rfl rfl (finF (φ := fun v => FnV Try.prog v none (fun g => fnR_func_uint8_uint8 g)) FnV.nil)
theorem k157 {a0 : T_edit_Step} {a1 : (Nat → Int)} {r : (Nat → Int)} (H : edit_Step_eachByte a0 a1 = some r) : Ret Try.prog 157 [.agg #[.int .i64 a0.Kind, .int .i64 a0.A, .int .i64 a0.B, .int .i64 a0.C, .int .i64 a0.D], .agg #[.int .u8 (a1 0), .int .u8 (a1 1), .int .u8 (a1 2)]] (.agg #[.int .u8 (r 0), .int .u8 (r 1), .int .u8 (r 2)]) := by
  refine enterRet (n := 22) Try.func157 rfl rfl rfl (fun wd => ?_)
  refine c_seq ?_
  refine c_region ?_
  refine l_box (cs := [.int .i64 a0.Kind, .int .i64 a0.A, .int .i64 a0.B, .int .i64 a0.C, .int .i64 a0.D]) rfl rfl rfl rfl (fun b3 => ?_)
  refine l_box (cs := [.int .u8 (a1 0), .int .u8 (a1 1), .int .u8 (a1 2)]) rfl rfl rfl rfl (fun b4 => ?_)
  refine l_alloc (cs := [.int .u8 0, .int .u8 0, .int .u8 0]) Try.zeroValue81 rfl rfl rfl (fun b5 => ?_)
  refine l_nil ?_
  refine c_seq ?_
  refine c_region ?_
  refine l_loadN (i := 0) (vs := [.int .i64 a0.Kind, .int .i64 a0.A, .int .i64 a0.B, .int .i64 a0.C, .int .i64 a0.D]) Try.isAgg69 Try.sizeOf69 rfl rfl rfl rfl rfl ?_
  obtain ⟨t9, h_t9, H11⟩ := bnd_some H; clear H
  refine l_callF (k154 h_t9) Try.call154 rfl rfl rfl (fun fv hf => ?_)
  refine l_val rfl rfl rfl (r_assign (v := fv) rfl) ?_
  refine l_nil ?_
  refine c_meet (r := r) (σ := (Nat → Int)) (τ := Unit) (fun s => edit_Step_eachByte_j1 s) (fun s t => [(3, .pointer (some ⟨b4, 0, none⟩)), (4, .pointer (some ⟨b5, 0, none⟩))]) (fun s t => [cellsC b4 [.int .u8 (s 0), .int .u8 (s 1), .int .u8 (s 2)] 81, cellsC b5 [.int .u8 0, .int .u8 0, .int .u8 0] 81]) (fun s t => True) ?_ ?_
  · refine c_seq ?_
    refine c_region ?_
    refine l_loadN (i := 1) (vs := [.int .u8 (a1 0), .int .u8 (a1 1), .int .u8 (a1 2)]) Try.isAgg81 Try.sizeOf81 rfl rfl rfl rfl rfl ?_
    refine l_val rfl rfl rfl (r_move (v := .int .i64 0) rfl) ?_
    refine l_nil ?_
    refine c_block ?_
    refine c_sel [1, 2] [cellsC b4 [.int .u8 (a1 0), .int .u8 (a1 1), .int .u8 (a1 2)] 81, cellsC b5 [.int .u8 0, .int .u8 0, .int .u8 0] 81] rfl (by decide) ?_
    refine c_fix (σ := Int × (Nat → Int)) (τ := Unit) (fun next2 s => edit_Step_eachByte_l2 a1 t9 next2 s.1 s.2) (fun s t => [(3, .pointer (some ⟨b4, 0, none⟩)), (4, .pointer (some ⟨b5, 0, none⟩)), (5, fv), (10, .agg #[.int .u8 (a1 0), .int .u8 (a1 1), .int .u8 (a1 2)]), (11, .int .i64 s.1)]) (fun s t => [cellsC b4 [.int .u8 (s.2 0), .int .u8 (s.2 1), .int .u8 (s.2 2)] 81, cellsC b5 [.int .u8 0, .int .u8 0, .int .u8 0] 81]) (fun s t => True) (0, a1) () [0, 1] H11 (by exact trivial) (by exact ⟨rfl, rfl, rfl, rfl, rfl, trivial⟩) (by decide) rfl ?_
    rintro ⟨x11_2, m_3⟩ _ m2 gg H13 _
    clear H11
    replace H13 : edit_Step_eachByte_l2 a1 t9 (it (fun next2 s => edit_Step_eachByte_l2 a1 t9 next2 s.1 s.2) m2) x11_2 m_3 = some r := H13
    generalize hn2 : it (fun next2 s => edit_Step_eachByte_l2 a1 t9 next2 s.1 s.2) m2 = next2 at H13
    refine c_tidyF [(3, .pointer (some ⟨b4, 0, none⟩)), (4, .pointer (some ⟨b5, 0, none⟩)), (5, fv), (10, .agg #[.int .u8 (a1 0), .int .u8 (a1 1), .int .u8 (a1 2)]), (11, .int .i64 x11_2)] [cellsC b4 [.int .u8 (m_3 0), .int .u8 (m_3 1), .int .u8 (m_3 2)] 81, cellsC b5 [.int .u8 0, .int .u8 0, .int .u8 0] 81] rfl rfl ?_
    refine c_seq ?_
    refine c_region ?_
    refine l_val rfl rfl rfl (r_lss rfl rfl) ?_
    refine l_nil ?_
    refine c_seq ?_
    refine c_if (b := (decide (x11_2 < 3))) rfl (fun hb => ?_) (fun hb => ?_)
    · have H14 := cnd_t hb H13; clear H13
      refine c_skip ?_
      refine c_seq ?_
      refine c_block ?_
      refine c_seq ?_
      refine c_region ?_
      refine l_val rfl rfl rfl (r_move (v := .int .i64 x11_2) rfl) ?_
      obtain ⟨k14, h_k14, H15⟩ := bnd_some H14; clear H14
      refine l_val rfl rfl rfl (r_indexAG (f := fun j_ => .int .u8 (a1 j_)) Try.runUnderlying81 Try.isAgg5 Try.sizeOf5 rfl rfl rfl h_k14) ?_
      refine l_val rfl rfl rfl (r_assign (v := .int .i64 x11_2) rfl) ?_
      refine l_val rfl rfl rfl (r_assign (v := .int .u8 (a1 k14)) rfl) ?_
      refine l_nil ?_
      refine c_region ?_
      refine l_val rfl rfl rfl (r_move (v := .int .i64 x11_2) rfl) ?_
      refine l_val rfl rfl rfl (r_move (v := fv) rfl) ?_
      refine l_val rfl rfl rfl (r_move (v := .int .u8 (a1 k14)) rfl) ?_
      obtain ⟨g18, h_g18, H16⟩ := bnd_some H15; clear H15
      obtain ⟨t18, h_t18, H17⟩ := bnd_some H16; clear H16
      refine l_callV (R := fnR_func_uint8_uint8 g18) (r := .int .u8 t18) (v := fv) (fun w hF hS => ⟨(hf.fn (gFn_some h_g18) _), ⟨(a1 k14), _, rfl, h_t18, rfl⟩⟩) rfl rfl rfl rfl ?_
      obtain ⟨k19, h_k19, H18⟩ := bnd_some H17; clear H17
      refine l_val rfl rfl rfl (r_indexPG Try.runUnderlying81 Try.sizeOf5 rfl rfl h_k19) ?_
      refine l_store (i := 0) (vs := [.int .u8 t18]) (cs' := [.int .u8 ((setA m_3 k19 t18) 0), .int .u8 ((setA m_3 k19 t18) 1), .int .u8 ((setA m_3 k19 t18) 2)]) Try.sizeOf5 rfl rfl rfl rfl rfl rfl rfl rfl (wr_arr (pre := []) (post := []) (f := fun (j_ : Int) => [.int .u8 j_]) (n := 3) (sz := 1) (a := m_3) (x := t18) rfl rfl (fun _ => rfl) (gIx_lt h_k19) rfl rfl) ?_
      refine l_nil ?_
      refine c_region ?_
      obtain ⟨t20, h_t20, H19⟩ := bnd_some H18; clear H18
      refine l_val rfl rfl rfl (r_addG rfl rfl h_t20) ?_
      refine l_val rfl rfl rfl (r_move (v := .int .i64 t20) rfl) ?_
      refine l_nil ?_
      refine c_close (t20, (setA m_3 k19 t18)) () m2 [0, 1] (by exact ⟨rfl, rfl, rfl, rfl, rfl, trivial⟩) (by decide) rfl (by exact ⟨(by subst hn2; exact H19), trivial⟩) (Nat.lt_succ_self _)
    · have H20 := cnd_f hb H13; clear H13
      refine c_exit ?_
      refine c_close m_3 () 0 [0, 1] (by exact ⟨rfl, rfl, trivial⟩) (by decide) rfl (by exact ⟨H20, trivial⟩) (Nat.lt_succ_self _)
  · rintro m _ gg H12 _
    replace H12 : edit_Step_eachByte_j1 m = some r := H12
    refine c_tidyF [(3, .pointer (some ⟨b4, 0, none⟩)), (4, .pointer (some ⟨b5, 0, none⟩))] [cellsC b4 [.int .u8 (m 0), .int .u8 (m 1), .int .u8 (m 2)] 81, cellsC b5 [.int .u8 0, .int .u8 0, .int .u8 0] 81] rfl rfl ?_
    refine c_seq ?_
    refine c_region ?_
    refine l_loadN (i := 0) (vs := [.int .u8 (m 0), .int .u8 (m 1), .int .u8 (m 2)]) Try.isAgg81 Try.sizeOf81 rfl rfl rfl rfl rfl ?_
    refine l_store (i := 1) (vs := [.int .u8 (m 0), .int .u8 (m 1), .int .u8 (m 2)]) (cs' := [.int .u8 (m 0), .int .u8 (m 1), .int .u8 (m 2)]) Try.sizeOf81 rfl rfl rfl rfl rfl rfl rfl rfl rfl ?_
    refine l_nil ?_
    refine c_ret ?_
    obtain rfl := Option.some.inj H12
    refine retC (i := 1) (vs := [.int .u8 (m 0), .int .u8 (m 1), .int .u8 (m 2)]) Try.isAgg81 Try.sizeOf81 rfl rfl rfl rfl (fin rfl)
theorem k120 {a0 : T_edit_Step} {r : (Option ((Nat → Int) → Option ((Nat → Int))))} (H : edit_Step_byPixel a0 = some r) : RetF Try.prog 120 [.agg #[.int .i64 a0.Kind, .int .i64 a0.A, .int .i64 a0.B, .int .i64 a0.C, .int .i64 a0.D]] (fun v => FnV Try.prog v r (fun g => fnR_func_3_uint8_3_uint8 g)) := by
  refine enterRetF (n := 15) Try.func120 rfl rfl rfl (fun wd => ?_)
  refine c_seq ?_
  refine c_region ?_
  refine l_box (cs := [.int .i64 a0.Kind, .int .i64 a0.A, .int .i64 a0.B, .int .i64 a0.C, .int .i64 a0.D]) rfl rfl rfl rfl (fun b1 => ?_)
  refine l_val rfl rfl rfl (r_assign (v := .nilFunc) rfl) ?_
  refine l_nil ?_
  refine c_seq ?_
  refine c_seq ?_
  refine c_region ?_
  refine l_val rfl rfl rfl (r_field Try.runUnderlying69 rfl Try.sizeOf3 rfl rfl) ?_
  refine l_load1 (i := 0) (v := .int .i64 a0.Kind) Try.isAgg3 rfl rfl rfl rfl rfl ?_
  refine l_nil ?_
  refine c_block ?_
  refine c_seq ?_
  refine c_region ?_
  refine l_val rfl rfl rfl (r_eql rfl rfl) ?_
  refine l_val rfl rfl rfl (r_assign (v := .bool (decide (a0.Kind = 7))) rfl) ?_
  refine l_nil ?_
  refine c_if (b := (decide (a0.Kind = 7))) rfl (fun hb => ?_) (fun hb => ?_)
  · have H5 := cnd_t hb H; clear H
    refine c_seq ?_
    refine c_region ?_
    refine l_loadN (i := 0) (vs := [.int .i64 a0.Kind, .int .i64 a0.A, .int .i64 a0.B, .int .i64 a0.C, .int .i64 a0.D]) Try.isAgg69 Try.sizeOf69 rfl rfl rfl rfl rfl ?_
    refine l_val rfl rfl rfl (r_makeFnP (pre := #[.agg #[.int .i64 a0.Kind, .int .i64 a0.A, .int .i64 a0.B, .int .i64 a0.C, .int .i64 a0.D]]) (caps := #[]) rfl rfl) ?_
    refine l_val rfl rfl rfl (r_assign (v := .func (.func 155) #[.agg #[.int .i64 a0.Kind, .int .i64 a0.A, .int .i64 a0.B, .int .i64 a0.C, .int .i64 a0.D]] #[]) rfl) ?_
    refine l_nil ?_
    refine c_ret ?_
    obtain rfl := Option.some.inj H5
    refine ret1 (v := .func (.func 155) #[.agg #[.int .i64 a0.Kind, .int .i64 a0.A, .int .i64 a0.B, .int .i64 a0.C, .int .i64 a0.D]] #[]) rfl rfl (finF (φ := fun v => FnV Try.prog v (some (edit_Step_warm a0)) (fun g => fnR_func_3_uint8_3_uint8 g)) (FnV.mk (g := (edit_Step_warm a0)) (R := fun g => fnR_func_3_uint8_3_uint8 g) (fun h_ => (FnH.mk ⟨155, #[.agg #[.int .i64 a0.Kind, .int .i64 a0.A, .int .i64 a0.B, .int .i64 a0.C, .int .i64 a0.D]], #[], rfl, Try.call155, fun args2 post2 w2 hk2 hR2 => by obtain ⟨a0_, r_, rfl, H_, rfl⟩ := hR2; exact k155 H_ w2⟩))))
  · have H6 := cnd_f hb H; clear H
    refine c_seq ?_
    refine c_region ?_
    refine l_val rfl rfl rfl (r_eql rfl rfl) ?_
    refine l_val rfl rfl rfl (r_assign (v := .bool (decide (a0.Kind = 8))) rfl) ?_
    refine l_nil ?_
    refine c_if (b := (decide (a0.Kind = 8))) rfl (fun hb => ?_) (fun hb => ?_)
    · have H7 := cnd_t hb H6; clear H6
      refine c_seq ?_
      refine c_region ?_
      refine l_loadN (i := 0) (vs := [.int .i64 a0.Kind, .int .i64 a0.A, .int .i64 a0.B, .int .i64 a0.C, .int .i64 a0.D]) Try.isAgg69 Try.sizeOf69 rfl rfl rfl rfl rfl ?_
      refine l_val rfl rfl rfl (r_makeFnP (pre := #[.agg #[.int .i64 a0.Kind, .int .i64 a0.A, .int .i64 a0.B, .int .i64 a0.C, .int .i64 a0.D]]) (caps := #[]) rfl rfl) ?_
      refine l_val rfl rfl rfl (r_assign (v := .func (.func 156) #[.agg #[.int .i64 a0.Kind, .int .i64 a0.A, .int .i64 a0.B, .int .i64 a0.C, .int .i64 a0.D]] #[]) rfl) ?_
      refine l_nil ?_
      refine c_ret ?_
      obtain rfl := Option.some.inj H7
      refine ret1 (v := .func (.func 156) #[.agg #[.int .i64 a0.Kind, .int .i64 a0.A, .int .i64 a0.B, .int .i64 a0.C, .int .i64 a0.D]] #[]) rfl rfl (finF (φ := fun v => FnV Try.prog v (some (edit_Step_mute a0)) (fun g => fnR_func_3_uint8_3_uint8 g)) (FnV.mk (g := (edit_Step_mute a0)) (R := fun g => fnR_func_3_uint8_3_uint8 g) (fun h_ => (FnH.mk ⟨156, #[.agg #[.int .i64 a0.Kind, .int .i64 a0.A, .int .i64 a0.B, .int .i64 a0.C, .int .i64 a0.D]], #[], rfl, Try.call156, fun args2 post2 w2 hk2 hR2 => by obtain ⟨a0_, r_, rfl, H_, rfl⟩ := hR2; exact k156 H_ w2⟩))))
    · have H8 := cnd_f hb H6; clear H6
      refine c_skip ?_
      refine c_seq ?_
      refine c_region ?_
      refine l_loadN (i := 0) (vs := [.int .i64 a0.Kind, .int .i64 a0.A, .int .i64 a0.B, .int .i64 a0.C, .int .i64 a0.D]) Try.isAgg69 Try.sizeOf69 rfl rfl rfl rfl rfl ?_
      refine l_val rfl rfl rfl (r_makeFnP (pre := #[.agg #[.int .i64 a0.Kind, .int .i64 a0.A, .int .i64 a0.B, .int .i64 a0.C, .int .i64 a0.D]]) (caps := #[]) rfl rfl) ?_
      refine l_val rfl rfl rfl (r_assign (v := .func (.func 157) #[.agg #[.int .i64 a0.Kind, .int .i64 a0.A, .int .i64 a0.B, .int .i64 a0.C, .int .i64 a0.D]] #[]) rfl) ?_
      refine l_nil ?_
      refine c_ret ?_
      obtain rfl := Option.some.inj H8
      refine ret1 (v := .func (.func 157) #[.agg #[.int .i64 a0.Kind, .int .i64 a0.A, .int .i64 a0.B, .int .i64 a0.C, .int .i64 a0.D]] #[]) rfl rfl (finF (φ := fun v => FnV Try.prog v (some (edit_Step_eachByte a0)) (fun g => fnR_func_3_uint8_3_uint8 g)) (FnV.mk (g := (edit_Step_eachByte a0)) (R := fun g => fnR_func_3_uint8_3_uint8 g) (fun h_ => (FnH.mk ⟨157, #[.agg #[.int .i64 a0.Kind, .int .i64 a0.A, .int .i64 a0.B, .int .i64 a0.C, .int .i64 a0.D]], #[], rfl, Try.call157, fun args2 post2 w2 hk2 hR2 => by obtain ⟨a0_, r_, rfl, H_, rfl⟩ := hR2; exact k157 H_ w2⟩))))
theorem k126 {a0 : T_edit_Step} {a1 : T_api_Image} {p1_2 : Option Addr × Nat} {n1_2 : Nat} {r : (List Int)} {w : World} {h : Heap} {S : Nat → Prop} (hcs : (rowV 5 1 (.slice p1_2.1 n1_2 p1_2.2) n1_2 (a1.Pixels.map e_u8)).P S w) (hlt : ∀ b, S b → b < w.heap.size) (hw : Know h w S) (hn1_2 : n1_2 = a1.Pixels.length) (H : edit_Step_tone a0 a1 = some r) : Does Try.prog 126 (List.toArray [.agg #[.int .i64 a0.Kind, .int .i64 a0.A, .int .i64 a0.B, .int .i64 a0.C, .int .i64 a0.D], .agg #[.int .i64 a1.W, .int .i64 a1.H, .slice p1_2.1 n1_2 p1_2.2]]) w (fun v w' => ∃ x : Unit, v = (.tuple #[]) ∧ Turn w w' S (rowV 5 1 (.slice p1_2.1 n1_2 p1_2.2) n1_2 (r.map e_u8))) := by
  refine enter (n := 32) Try.func126 rfl rfl rfl S [rowV 5 1 (.slice p1_2.1 n1_2 p1_2.2) n1_2 (a1.Pixels.map e_u8)] (Sat.one hcs hlt) ?_
  refine c_seq ?_
  refine c_region ?_
  refine l_box (cs := [.int .i64 a0.Kind, .int .i64 a0.A, .int .i64 a0.B, .int .i64 a0.C, .int .i64 a0.D]) rfl rfl rfl rfl (fun b3 => ?_)
  refine l_box (cs := [.int .i64 a1.W, .int .i64 a1.H, .slice p1_2.1 n1_2 p1_2.2]) rfl rfl rfl rfl (fun b4 => ?_)
  refine l_nil ?_
  refine c_seq ?_
  refine c_region ?_
  refine l_loadN (i := 1) (vs := [.int .i64 a0.Kind, .int .i64 a0.A, .int .i64 a0.B, .int .i64 a0.C, .int .i64 a0.D]) Try.isAgg69 Try.sizeOf69 rfl rfl rfl rfl rfl ?_
  obtain ⟨t8, h_t8, H12⟩ := bnd_some H; clear H
  refine l_callF (k120 h_t8) Try.call120 rfl rfl rfl (fun fv hf => ?_)
  refine l_val rfl rfl rfl (r_assign (v := fv) rfl) ?_
  refine l_nil ?_
  refine c_seq ?_
  refine c_region ?_
  refine l_val rfl rfl rfl (r_assign (v := .int .i64 0) rfl) ?_
  refine l_nil ?_
  refine c_block ?_
  refine c_sel [0, 2] [rowV 5 1 (.slice p1_2.1 n1_2 p1_2.2) n1_2 (a1.Pixels.map e_u8), cellsC b4 [.int .i64 a1.W, .int .i64 a1.H, .slice p1_2.1 n1_2 p1_2.2] 97] rfl (by decide) ?_
  refine c_fix (σ := Int × (List Int)) (τ := Unit) (fun next1 s => edit_Step_tone_l1 t8 next1 s.1 s.2) (fun s t => [(3, .pointer (some ⟨b4, 0, none⟩)), (4, fv), (5, .int .i64 s.1)]) (fun s t => [rowV 5 1 (.slice p1_2.1 n1_2 p1_2.2) n1_2 (s.2.map e_u8), cellsC b4 [.int .i64 a1.W, .int .i64 a1.H, .slice p1_2.1 n1_2 p1_2.2] 97]) (fun s t => n1_2 = s.2.length) (0, a1.Pixels) () [0, 1] H12 (by exact hn1_2) (by exact ⟨rfl, rfl, rfl, trivial⟩) (by decide) rfl ?_
  rintro ⟨x5_2, l_2⟩ _ m1 gg H13 hl_2
  clear H12
  replace H13 : edit_Step_tone_l1 t8 (it (fun next1 s => edit_Step_tone_l1 t8 next1 s.1 s.2) m1) x5_2 l_2 = some r := H13
  generalize hn1 : it (fun next1 s => edit_Step_tone_l1 t8 next1 s.1 s.2) m1 = next1 at H13
  refine c_tidyF [(3, .pointer (some ⟨b4, 0, none⟩)), (4, fv), (5, .int .i64 x5_2)] [rowV 5 1 (.slice p1_2.1 n1_2 p1_2.2) n1_2 (l_2.map e_u8), cellsC b4 [.int .i64 a1.W, .int .i64 a1.H, .slice p1_2.1 n1_2 p1_2.2] 97] rfl rfl ?_
  refine c_seq ?_
  refine c_seq ?_
  refine c_region ?_
  refine l_val rfl rfl rfl (r_move (v := .int .i64 x5_2) rfl) ?_
  refine l_val rfl rfl rfl (r_field Try.runUnderlying97 rfl Try.sizeOf95 rfl rfl) ?_
  refine l_load1 (i := 1) (v := .slice p1_2.1 n1_2 p1_2.2) Try.isAgg95 rfl rfl rfl rfl rfl ?_
  refine l_val rfl rfl rfl (r_lenN Try.underlying95 rfl hl_2) ?_
  refine l_val rfl rfl rfl (r_lss rfl rfl) ?_
  refine l_nil ?_
  refine c_if (b := (decide (x5_2 < (l_2.length : Int)))) rfl (fun hb => ?_) (fun hb => ?_)
  · have H14 := cnd_t hb H13; clear H13
    refine c_skip ?_
    refine c_seq ?_
    refine c_block ?_
    refine c_seq ?_
    refine c_region ?_
    refine l_val rfl rfl rfl (r_move (v := fv) rfl) ?_
    refine l_val rfl rfl rfl (r_field Try.runUnderlying97 rfl Try.sizeOf95 rfl rfl) ?_
    refine l_load1 (i := 1) (v := .slice p1_2.1 n1_2 p1_2.2) Try.isAgg95 rfl rfl rfl rfl rfl ?_
    refine l_val rfl rfl rfl (r_move (v := .int .i64 x5_2) rfl) ?_
    refine l_val rfl rfl rfl (r_move (v := .int .i64 x5_2) rfl) ?_
    obtain ⟨t21, h_t21, H15⟩ := bnd_some H14; clear H14
    refine l_val rfl rfl rfl (r_addG rfl rfl h_t21) ?_
    obtain ⟨t22, h_t22, H16⟩ := bnd_some H15; clear H15
    refine l_read (v := .slice (cutA p1_2.1 (Int.toNat x5_2) p1_2.2 1) t22.length (p1_2.2 - Int.toNat x5_2)) (fun w hF hS => run_sliceLHO (xs := l_2) Try.underlying95 Try.sizeOf5 rfl rfl rfl hl_2 (capOf (i := 0) hS rfl) h_t22) rfl rfl rfl ?_
    obtain ⟨u23, h_u23, H17⟩ := bnd_some H16; clear H16
    refine l_val rfl rfl rfl (r_sap Try.runUnderlying81 rfl (gIf_some h_u23)) ?_
    refine l_read (fun w hF hS => run_loadSA (n := 3) (f := e_u8) (xs := t22) (vs := [.int .u8 ((ofL t22) 0), .int .u8 ((ofL t22) 1), .int .u8 ((ofL t22) 2)]) Try.isAgg81 Try.sizeOf81 rfl (Row.cutG (rowOf (i := 0) hS rfl) hl_2 (capOf (i := 0) hS rfl) h_t22) (gIf_some h_u23) rfl rfl (fun _ => rfl) rfl) rfl rfl rfl ?_
    obtain ⟨g25, h_g25, H18⟩ := bnd_some H17; clear H17
    obtain ⟨t25, h_t25, H19⟩ := bnd_some H18; clear H18
    refine l_callV (R := fnR_func_3_uint8_3_uint8 g25) (r := .agg #[.int .u8 (t25 0), .int .u8 (t25 1), .int .u8 (t25 2)]) (v := fv) (fun w hF hS => ⟨(hf.fn (gFn_some h_g25) _), ⟨(ofL t22), _, rfl, h_t25, rfl⟩⟩) rfl rfl rfl rfl ?_
    refine l_alloc (cs := [.int .u8 0, .int .u8 0, .int .u8 0]) Try.zeroValue81 rfl rfl rfl (fun b5 => ?_)
    refine l_store (i := 2) (vs := [.int .u8 (t25 0), .int .u8 (t25 1), .int .u8 (t25 2)]) (cs' := [.int .u8 (t25 0), .int .u8 (t25 1), .int .u8 (t25 2)]) Try.sizeOf81 rfl rfl rfl rfl rfl rfl rfl rfl rfl ?_
    refine l_nil ?_
    exact c_regionD (Kd.p :: Kd.d [1] _ :: Kd.p :: Kd.d [0] _ :: Kd.p :: Kd.t 0 [2] _ _ :: []) 0 mixed (by
      refine d_val rfl rfl (r_field Try.runUnderlying97 rfl Try.sizeOf95 rfl rfl) ?_
      refine d_load1 (i := 1) (v := .slice p1_2.1 n1_2 p1_2.2) Try.isAgg95 rfl rfl rfl rfl ?_
      refine d_val rfl rfl (r_move (v := .int .i64 x5_2) rfl) ?_
      have h_t29 := bnd_val H19
      have H20 := bnd_rest H19
      refine d_readD (v := .slice (cutA p1_2.1 (Int.toNat x5_2) p1_2.2 1) (val (gCut l_2 x5_2 l_2.length)).length (p1_2.2 - Int.toNat x5_2)) (fun w L' hF hS hi => run_sliceLO (xs := l_2) Try.underlying95 Try.sizeOf5 rfl rfl hl_2 (capOf (i := 0) hS ((hi 0 (by simp)).trans rfl)) h_t29) rfl rfl ?_
      refine d_val rfl rfl (r_sliceArrAll Try.underlying81 Try.sizeOf5 rfl) ?_
      refine d_turn (Cv := fun _ => rowV 5 1 (.slice p1_2.1 n1_2 p1_2.2) n1_2 ((cpyL l_2 x5_2 (val (gCut l_2 x5_2 l_2.length)).length ((List.range 3).map t25)).map e_u8)) () (turns_copyG (i := 0) (rds := _) (p := p1_2) (f := e_u8) (xs := l_2) (ts := (val (gCut l_2 x5_2 l_2.length))) (ys := ((List.range 3).map t25)) hl_2 Try.underlying95 (by rw [info_of Try.typeInfo5]; rfl) rfl rfl h_t29 rfl (by simp) (fun w L' hF hS hi => row_arr (f := e_u8) (i := 2) hS ((hi 2 (by simp)).trans rfl) rfl (fun _ => rfl) (gCutA_ok (n := 3) (f := t25) (q := 3) (by decide))) (fun _ => rfl) (fun _ => rfl)) (fun _ => rfl) rfl rfl (fun _ => ?_)
      refine d_nil ?_
      refine c_region ?_
      refine l_val rfl rfl rfl (r_move (v := .int .i64 x5_2) rfl) ?_
      obtain ⟨t15, h_t15, H21⟩ := bnd_some H20; clear H20
      refine l_val rfl rfl rfl (r_addG rfl rfl h_t15) ?_
      refine l_val rfl rfl rfl (r_assign (v := .int .i64 t15) rfl) ?_
      refine l_nil ?_
      refine c_close (t15, (cpyL l_2 x5_2 (val (gCut l_2 x5_2 l_2.length)).length ((List.range 3).map t25))) () m1 [0, 1] (by exact ⟨rfl, rfl, rfl, trivial⟩) (by decide) rfl (by exact ⟨(by subst hn1; exact H21), (cpyL_n hl_2 h_t29)⟩) (Nat.lt_succ_self _)
      ) (by kernel_rfl)
  · have H22 := cnd_f hb H13; clear H13
    refine c_exit ?_
    obtain rfl := Option.some.inj H22
    refine ret0n rfl (finX () (i := 0) rfl rfl (Imp.refl _))
theorem k61 {a0 : T_api_Image} {v0_2 : Value} {a1 : (List T_edit_Step)} {v1 : Value} {r : T_api_Image × Int} {w : World} {h : Heap} (hw : Know h w noS) (f0_2 : FrS h 1 v0_2 (a0.Pixels.map e_u8)) (f1 : FrS h 5 v1 (a1.map e_edit_Step)) (H : edit_Render a0 a1 = some r) : Does Try.prog 61 (List.toArray [.agg #[.int .i64 a0.W, .int .i64 a0.H, v0_2], v1]) w (fun v w' => ∃ x : (Option Addr × Nat), v = (.tuple #[.agg #[.int .i64 r.1.W, .int .i64 r.1.H, .slice x.1 r.1.Pixels.length x.2], .int .i64 r.2]) ∧ Turn w w' noS (rowV 5 1 (.slice x.1 r.1.Pixels.length x.2) r.1.Pixels.length (r.1.Pixels.map e_u8))) := by
  refine enter (n := 92) Try.func61 rfl rfl rfl noS [] (Sat.nil _ _) ?_
  refine c_seq ?_
  refine c_region ?_
  refine l_box (cs := [.int .i64 a0.W, .int .i64 a0.H, v0_2]) rfl rfl rfl rfl (fun b3 => ?_)
  refine l_alloc (cs := [.int .i64 0, .int .i64 0, .slice none 0 0]) Try.zeroValue97 rfl rfl rfl (fun b4 => ?_)
  refine l_val rfl rfl rfl (r_assign (v := .int .i64 0) rfl) ?_
  refine l_nil ?_
  refine c_seq ?_
  refine c_seq ?_
  refine c_region ?_
  refine l_val rfl rfl rfl (r_move (v := v1) rfl) ?_
  obtain ⟨t14, h_t14, H28⟩ := bnd_some H; clear H
  refine l_callG (fun w hF hS => k104 (know_all w) (f1.mono (hw.now hF)) h_t14) Try.call104 rfl rfl rfl ?_
  refine l_val rfl rfl rfl (r_assign (v := .int .i64 t14) rfl) ?_
  refine l_nil ?_
  refine c_seq ?_
  refine c_region ?_
  refine l_val rfl rfl rfl (r_move (v := .int .i64 t14) rfl) ?_
  refine l_val rfl rfl rfl (r_neq rfl rfl) ?_
  refine l_nil ?_
  refine c_if (b := (decide (t14 ≠ 0))) rfl (fun hb => ?_) (fun hb => ?_)
  · have H29 := cnd_t hb H28; clear H28
    refine c_seq ?_
    refine c_region ?_
    refine l_val rfl rfl rfl (r_build (pl := #[(0, 1), (1, 1), (2, 1)]) (ps := []) (cells := #[.int .i64 0, .int .i64 0, .slice none 0 0]) Try.zeroValue97 Try.runUnderlying97 (fun w => by kernel_rfl) rfl rfl) ?_
    refine l_val rfl rfl rfl (r_move (v := .int .i64 t14) rfl) ?_
    refine l_store (i := 1) (vs := [.int .i64 0, .int .i64 0, .slice none 0 0]) (cs' := [.int .i64 0, .int .i64 0, .slice none 0 0]) Try.sizeOf97 rfl rfl rfl rfl rfl rfl rfl rfl rfl ?_
    refine l_val rfl rfl rfl (r_assign (v := .int .i64 t14) rfl) ?_
    refine l_nil ?_
    refine c_ret ?_
    refine c_nilRow 5 1 ?_
    obtain rfl := Option.some.inj H29
    refine retCt (i := 1) (vs := [.int .i64 0, .int .i64 0, .slice ((none, 0) : Option Addr × Nat).1 ([] : List Int).length ((none, 0) : Option Addr × Nat).2]) (v2 := .int .i64 t14) Try.isAgg97 Try.sizeOf97 rfl rfl rfl rfl rfl (finX ((none, 0) : Option Addr × Nat) (i := 2) rfl rfl (Imp.refl _))
  · have H30 := cnd_f hb H28; clear H28
    refine c_skip ?_
    refine c_seq ?_
    refine c_seq ?_
    refine c_region ?_
    refine l_loadN (i := 0) (vs := [.int .i64 a0.W, .int .i64 a0.H, v0_2]) Try.isAgg97 Try.sizeOf97 rfl rfl rfl rfl rfl ?_
    obtain ⟨t20, h_t20, H31⟩ := bnd_some H30; clear H30
    refine l_callG (fun w hF hS => k122 (know_all w) (f0_2.mono (hw.now hF)) h_t20) Try.call122 rfl rfl rfl ?_
    refine l_val rfl rfl rfl (r_assign (v := .int .i64 t20) rfl) ?_
    refine l_nil ?_
    refine c_seq ?_
    refine c_region ?_
    refine l_val rfl rfl rfl (r_move (v := .int .i64 t20) rfl) ?_
    refine l_val rfl rfl rfl (r_neq rfl rfl) ?_
    refine l_nil ?_
    refine c_if (b := (decide (t20 ≠ 0))) rfl (fun hb => ?_) (fun hb => ?_)
    · have H32 := cnd_t hb H31; clear H31
      refine c_seq ?_
      refine c_region ?_
      refine l_val rfl rfl rfl (r_build (pl := #[(0, 1), (1, 1), (2, 1)]) (ps := []) (cells := #[.int .i64 0, .int .i64 0, .slice none 0 0]) Try.zeroValue97 Try.runUnderlying97 (fun w => by kernel_rfl) rfl rfl) ?_
      refine l_val rfl rfl rfl (r_move (v := .int .i64 t20) rfl) ?_
      refine l_store (i := 1) (vs := [.int .i64 0, .int .i64 0, .slice none 0 0]) (cs' := [.int .i64 0, .int .i64 0, .slice none 0 0]) Try.sizeOf97 rfl rfl rfl rfl rfl rfl rfl rfl rfl ?_
      refine l_val rfl rfl rfl (r_assign (v := .int .i64 t20) rfl) ?_
      refine l_nil ?_
      refine c_ret ?_
      refine c_nilRow 5 1 ?_
      obtain rfl := Option.some.inj H32
      refine retCt (i := 1) (vs := [.int .i64 0, .int .i64 0, .slice ((none, 0) : Option Addr × Nat).1 ([] : List Int).length ((none, 0) : Option Addr × Nat).2]) (v2 := .int .i64 t20) Try.isAgg97 Try.sizeOf97 rfl rfl rfl rfl rfl (finX ((none, 0) : Option Addr × Nat) (i := 2) rfl rfl (Imp.refl _))
    · have H33 := cnd_f hb H31; clear H31
      refine c_skip ?_
      refine c_seq ?_
      refine c_seq ?_
      refine c_region ?_
      refine l_val rfl rfl rfl (r_move (v := v1) rfl) ?_
      refine l_val rfl rfl rfl (r_field Try.runUnderlying97 rfl Try.sizeOf3 rfl rfl) ?_
      refine l_load1 (i := 0) (v := .int .i64 a0.W) Try.isAgg3 rfl rfl rfl rfl rfl ?_
      refine l_val rfl rfl rfl (r_field Try.runUnderlying97 rfl Try.sizeOf3 rfl rfl) ?_
      refine l_load1 (i := 0) (v := .int .i64 a0.H) Try.isAgg3 rfl rfl rfl rfl rfl ?_
      obtain ⟨t31, h_t31, H34⟩ := bnd_some H33; clear H33
      refine l_callG (fun w hF hS => k112 (know_all w) (f1.mono (hw.now hF)) h_t31) Try.call112 rfl rfl rfl ?_
      refine l_val rfl rfl rfl (r_move (v := .tuple #[.int .i64 t31.1, .int .i64 t31.2.1, .int .i64 t31.2.2]) rfl) ?_
      refine l_val rfl rfl rfl (r_extract (v := .int .i64 t31.1) rfl rfl) ?_
      refine l_val rfl rfl rfl (r_extract (v := .int .i64 t31.2.1) rfl rfl) ?_
      refine l_val rfl rfl rfl (r_extract (v := .int .i64 t31.2.2) rfl rfl) ?_
      refine l_val rfl rfl rfl (r_assign (v := .int .i64 t31.1) rfl) ?_
      refine l_val rfl rfl rfl (r_assign (v := .int .i64 t31.2.1) rfl) ?_
      refine l_val rfl rfl rfl (r_assign (v := .int .i64 t31.2.2) rfl) ?_
      refine l_nil ?_
      refine c_seq ?_
      refine c_region ?_
      refine l_val rfl rfl rfl (r_move (v := .int .i64 t31.2.2) rfl) ?_
      refine l_val rfl rfl rfl (r_neq rfl rfl) ?_
      refine l_nil ?_
      refine c_if (b := (decide (t31.2.2 ≠ 0))) rfl (fun hb => ?_) (fun hb => ?_)
      · have H35 := cnd_t hb H34; clear H34
        refine c_seq ?_
        refine c_region ?_
        refine l_val rfl rfl rfl (r_build (pl := #[(0, 1), (1, 1), (2, 1)]) (ps := []) (cells := #[.int .i64 0, .int .i64 0, .slice none 0 0]) Try.zeroValue97 Try.runUnderlying97 (fun w => by kernel_rfl) rfl rfl) ?_
        refine l_val rfl rfl rfl (r_move (v := .int .i64 t31.2.2) rfl) ?_
        refine l_store (i := 1) (vs := [.int .i64 0, .int .i64 0, .slice none 0 0]) (cs' := [.int .i64 0, .int .i64 0, .slice none 0 0]) Try.sizeOf97 rfl rfl rfl rfl rfl rfl rfl rfl rfl ?_
        refine l_val rfl rfl rfl (r_assign (v := .int .i64 t31.2.2) rfl) ?_
        refine l_nil ?_
        refine c_ret ?_
        refine c_nilRow 5 1 ?_
        obtain rfl := Option.some.inj H35
        refine retCt (i := 1) (vs := [.int .i64 0, .int .i64 0, .slice ((none, 0) : Option Addr × Nat).1 ([] : List Int).length ((none, 0) : Option Addr × Nat).2]) (v2 := .int .i64 t31.2.2) Try.isAgg97 Try.sizeOf97 rfl rfl rfl rfl rfl (finX ((none, 0) : Option Addr × Nat) (i := 2) rfl rfl (Imp.refl _))
      · have H36 := cnd_f hb H34; clear H34
        refine c_skip ?_
        refine c_seq ?_
        refine c_region ?_
        refine l_loadN (i := 0) (vs := [.int .i64 a0.W, .int .i64 a0.H, v0_2]) Try.isAgg97 Try.sizeOf97 rfl rfl rfl rfl rfl ?_
        obtain ⟨t41, h_t41, H37⟩ := bnd_some H36; clear H36
        refine l_make (makes_call (rds := []) (G := fun x : (Option Addr × Nat) => .tuple #[.agg #[.int .i64 t41.1.W, .int .i64 t41.1.H, .slice x.1 t41.1.Pixels.length x.2], .int .i64 t41.2]) (C := fun x : (Option Addr × Nat) => rowV 5 1 (.slice x.1 t41.1.Pixels.length x.2) t41.1.Pixels.length (t41.1.Pixels.map e_u8)) (fun w L' hF hS hi => k123 (know_all w) (f0_2.mono (hw.now hF)) h_t41) Try.call123 rfl) rfl rfl rfl (fun p => ?_)
        refine l_val rfl rfl rfl (r_move (v := .tuple #[.agg #[.int .i64 t41.1.W, .int .i64 t41.1.H, .slice p.1 t41.1.Pixels.length p.2], .int .i64 t41.2]) rfl) ?_
        refine l_val rfl rfl rfl (r_extract (v := .agg #[.int .i64 t41.1.W, .int .i64 t41.1.H, .slice p.1 t41.1.Pixels.length p.2]) rfl rfl) ?_
        refine l_val rfl rfl rfl (r_extract (v := .int .i64 t41.2) rfl rfl) ?_
        refine l_store (i := 0) (vs := [.int .i64 t41.1.W, .int .i64 t41.1.H, .slice p.1 t41.1.Pixels.length p.2]) (cs' := [.int .i64 t41.1.W, .int .i64 t41.1.H, .slice p.1 t41.1.Pixels.length p.2]) Try.sizeOf97 rfl rfl rfl rfl rfl rfl rfl rfl rfl ?_
        refine l_nil ?_
        refine c_meet (r := r) (σ := Int × Int × (List Int)) (τ := (Option Addr × Nat) × Nat) (fun s => edit_Render_j1 s.1 s.2.1 s.2.2) (fun s t => [(2, .pointer (some ⟨b3, 0, none⟩)), (4, .pointer (some ⟨b4, 0, none⟩))]) (fun s t => [cellsC b3 [.int .i64 s.1, .int .i64 s.2.1, .slice t.1.1 t.2 t.1.2] 97, cellsC b4 [.int .i64 0, .int .i64 0, .slice none 0 0] 97, rowV 5 1 (.slice t.1.1 t.2 t.1.2) t.2 (s.2.2.map e_u8)]) (fun s t => t.2 = s.2.2.length) ?_ ?_
        · refine c_seq ?_
          refine c_region ?_
          refine l_val rfl rfl rfl (r_move (v := v1) rfl) ?_
          refine l_val rfl rfl rfl (r_lenF Try.underlying61 rfl f1 rfl) ?_
          refine l_val rfl rfl rfl (r_move (v := .int .i64 0) rfl) ?_
          refine l_nil ?_
          refine c_block ?_
          refine c_fix (σ := Int × Int × Int × (List Int)) (τ := (Option Addr × Nat) × Nat) (fun next2 s => edit_Render_l2 a1 next2 s.1 s.2.1 s.2.2.1 s.2.2.2) (fun s t => [(2, .pointer (some ⟨b3, 0, none⟩)), (4, .pointer (some ⟨b4, 0, none⟩)), (44, v1), (45, .int .i64 (a1.length : Int)), (46, .int .i64 s.1)]) (fun s t => [cellsC b3 [.int .i64 s.2.1, .int .i64 s.2.2.1, .slice t.1.1 t.2 t.1.2] 97, cellsC b4 [.int .i64 0, .int .i64 0, .slice none 0 0] 97, rowV 5 1 (.slice t.1.1 t.2 t.1.2) t.2 (s.2.2.2.map e_u8)]) (fun s t => t.2 = s.2.2.2.length) (0, t41.1.W, t41.1.H, t41.1.Pixels) (p, t41.1.Pixels.length) [0, 1, 2] H37 (by exact rfl) (by exact ⟨rfl, rfl, rfl, rfl, rfl, trivial⟩) (by decide) rfl ?_
          rintro ⟨x46_2, m_5, m_6, l_3⟩ ⟨p_3, n_2⟩ m2 gg H39 hl_3
          clear H37
          replace H39 : edit_Render_l2 a1 (it (fun next2 s => edit_Render_l2 a1 next2 s.1 s.2.1 s.2.2.1 s.2.2.2) m2) x46_2 m_5 m_6 l_3 = some r := H39
          generalize hn2 : it (fun next2 s => edit_Render_l2 a1 next2 s.1 s.2.1 s.2.2.1 s.2.2.2) m2 = next2 at H39
          refine c_tidyF [(2, .pointer (some ⟨b3, 0, none⟩)), (4, .pointer (some ⟨b4, 0, none⟩)), (44, v1), (45, .int .i64 (a1.length : Int)), (46, .int .i64 x46_2)] [cellsC b3 [.int .i64 m_5, .int .i64 m_6, .slice p_3.1 n_2 p_3.2] 97, cellsC b4 [.int .i64 0, .int .i64 0, .slice none 0 0] 97, rowV 5 1 (.slice p_3.1 n_2 p_3.2) n_2 (l_3.map e_u8)] rfl rfl ?_
          refine c_seq ?_
          refine c_region ?_
          refine l_val rfl rfl rfl (r_lss rfl rfl) ?_
          refine l_nil ?_
          refine c_seq ?_
          refine c_if (b := (decide (x46_2 < (a1.length : Int)))) rfl (fun hb => ?_) (fun hb => ?_)
          · have H40 := cnd_t hb H39; clear H39
            refine c_skip ?_
            refine c_meet (r := r) (σ := Int × Int × (List Int)) (τ := (Option Addr × Nat) × Nat) (fun s => edit_Render_j3 x46_2 next2 s.1 s.2.1 s.2.2) (fun s t => [(2, .pointer (some ⟨b3, 0, none⟩)), (4, .pointer (some ⟨b4, 0, none⟩)), (44, v1), (45, .int .i64 (a1.length : Int)), (46, .int .i64 x46_2)]) (fun s t => [cellsC b3 [.int .i64 s.1, .int .i64 s.2.1, .slice t.1.1 t.2 t.1.2] 97, cellsC b4 [.int .i64 0, .int .i64 0, .slice none 0 0] 97, rowV 5 1 (.slice t.1.1 t.2 t.1.2) t.2 (s.2.2.map e_u8)]) (fun s t => t.2 = s.2.2.length) ?_ ?_
            · refine c_block ?_
              refine c_seq ?_
              refine c_region ?_
              obtain ⟨t48, h_t48, H43⟩ := bnd_some H40; clear H40
              refine l_val rfl rfl rfl (r_indexF Try.underlying61 Try.sizeOf69 rfl rfl f1 h_t48) ?_
              refine l_read (fun w hF hS => run_loadGN (f := e_edit_Step) (i := x46_2) (sz := 5) (j := 0) (vs := [.int .i64 t48.Kind, .int .i64 t48.A, .int .i64 t48.B, .int .i64 t48.C, .int .i64 t48.D]) Try.isAgg69 Try.sizeOf69 rfl rfl (f1.row (hw.now hF)) h_t48 rfl) rfl rfl rfl ?_
              refine l_alloc (cs := [.int .i64 0, .int .i64 0, .int .i64 0, .int .i64 0, .int .i64 0]) Try.zeroValue69 rfl rfl rfl (fun b5 => ?_)
              refine l_store (i := 3) (vs := [.int .i64 t48.Kind, .int .i64 t48.A, .int .i64 t48.B, .int .i64 t48.C, .int .i64 t48.D]) (cs' := [.int .i64 t48.Kind, .int .i64 t48.A, .int .i64 t48.B, .int .i64 t48.C, .int .i64 t48.D]) Try.sizeOf69 rfl rfl rfl rfl rfl rfl rfl rfl rfl ?_
              refine l_nil ?_
              refine c_seq ?_
              refine c_region ?_
              refine l_val rfl rfl rfl (r_field Try.runUnderlying69 rfl Try.sizeOf3 rfl rfl) ?_
              refine l_load1 (i := 3) (v := .int .i64 t48.Kind) Try.isAgg3 rfl rfl rfl rfl rfl ?_
              refine l_nil ?_
              refine c_block ?_
              refine c_seq ?_
              refine c_region ?_
              refine l_val rfl rfl rfl (r_eql rfl rfl) ?_
              refine l_val rfl rfl rfl (r_assign (v := .bool (decide (t48.Kind = 1))) rfl) ?_
              refine l_nil ?_
              refine c_if (b := (decide (t48.Kind = 1))) rfl (fun hb => ?_) (fun hb => ?_)
              · have H44 := cnd_t hb H43; clear H43
                refine c_region ?_
                refine l_loadN (i := 0) (vs := [.int .i64 m_5, .int .i64 m_6, .slice p_3.1 n_2 p_3.2]) Try.isAgg97 Try.sizeOf97 rfl rfl rfl rfl rfl ?_
                refine l_val rfl rfl rfl (r_field Try.runUnderlying69 rfl Try.sizeOf3 rfl rfl) ?_
                refine l_load1 (i := 3) (v := .int .i64 t48.A) Try.isAgg3 rfl rfl rfl rfl rfl ?_
                obtain ⟨t61, h_t61, H45⟩ := bnd_some H44; clear H44
                refine l_make (makes_call (rds := [2]) (G := fun x : (Option Addr × Nat) => .tuple #[.agg #[.int .i64 t61.1.W, .int .i64 t61.1.H, .slice x.1 t61.1.Pixels.length x.2], .int .i64 t61.2]) (C := fun x : (Option Addr × Nat) => rowV 5 1 (.slice x.1 t61.1.Pixels.length x.2) t61.1.Pixels.length (t61.1.Pixels.map e_u8)) (fun w L' hF hS hi => k123 (know_all w) (frs_own (i := 2) hl_3 hS ((hi 2 (by simp)).trans rfl)) h_t61) Try.call123 rfl) rfl rfl rfl (fun p_5 => ?_)
                refine l_val rfl rfl rfl (r_move (v := .tuple #[.agg #[.int .i64 t61.1.W, .int .i64 t61.1.H, .slice p_5.1 t61.1.Pixels.length p_5.2], .int .i64 t61.2]) rfl) ?_
                refine l_val rfl rfl rfl (r_extract (v := .agg #[.int .i64 t61.1.W, .int .i64 t61.1.H, .slice p_5.1 t61.1.Pixels.length p_5.2]) rfl rfl) ?_
                refine l_val rfl rfl rfl (r_extract (v := .int .i64 t61.2) rfl rfl) ?_
                refine l_store (i := 0) (vs := [.int .i64 t61.1.W, .int .i64 t61.1.H, .slice p_5.1 t61.1.Pixels.length p_5.2]) (cs' := [.int .i64 t61.1.W, .int .i64 t61.1.H, .slice p_5.1 t61.1.Pixels.length p_5.2]) Try.sizeOf97 rfl rfl rfl rfl rfl rfl rfl rfl rfl ?_
                refine l_nil ?_
                refine c_close (t61.1.W, t61.1.H, t61.1.Pixels) (p_5, t61.1.Pixels.length) 0 [0, 1, 4] (by exact ⟨rfl, rfl, rfl, rfl, rfl, trivial⟩) (by decide) rfl (by exact ⟨H45, rfl⟩) (Nat.lt_succ_self _)
              · have H46 := cnd_f hb H43; clear H43
                refine c_seq ?_
                refine c_region ?_
                refine l_val rfl rfl rfl (r_eql rfl rfl) ?_
                refine l_val rfl rfl rfl (r_assign (v := .bool (decide (t48.Kind = 2))) rfl) ?_
                refine l_nil ?_
                refine c_if (b := (decide (t48.Kind = 2))) rfl (fun hb => ?_) (fun hb => ?_)
                · have H47 := cnd_t hb H46; clear H46
                  refine c_region ?_
                  refine l_loadN (i := 0) (vs := [.int .i64 m_5, .int .i64 m_6, .slice p_3.1 n_2 p_3.2]) Try.isAgg97 Try.sizeOf97 rfl rfl rfl rfl rfl ?_
                  refine l_val rfl rfl rfl (r_field Try.runUnderlying69 rfl Try.sizeOf3 rfl rfl) ?_
                  refine l_load1 (i := 3) (v := .int .i64 t48.A) Try.isAgg3 rfl rfl rfl rfl rfl ?_
                  refine l_val rfl rfl rfl (r_field Try.runUnderlying69 rfl Try.sizeOf3 rfl rfl) ?_
                  refine l_load1 (i := 3) (v := .int .i64 t48.B) Try.isAgg3 rfl rfl rfl rfl rfl ?_
                  refine l_val rfl rfl rfl (r_field Try.runUnderlying69 rfl Try.sizeOf3 rfl rfl) ?_
                  refine l_load1 (i := 3) (v := .int .i64 t48.C) Try.isAgg3 rfl rfl rfl rfl rfl ?_
                  refine l_val rfl rfl rfl (r_field Try.runUnderlying69 rfl Try.sizeOf3 rfl rfl) ?_
                  refine l_load1 (i := 3) (v := .int .i64 t48.D) Try.isAgg3 rfl rfl rfl rfl rfl ?_
                  obtain ⟨t76, h_t76, H48⟩ := bnd_some H47; clear H47
                  refine l_make (makes_call (rds := [2]) (G := fun x : (Option Addr × Nat) => .tuple #[.agg #[.int .i64 t76.1.W, .int .i64 t76.1.H, .slice x.1 t76.1.Pixels.length x.2], .int .i64 t76.2]) (C := fun x : (Option Addr × Nat) => rowV 5 1 (.slice x.1 t76.1.Pixels.length x.2) t76.1.Pixels.length (t76.1.Pixels.map e_u8)) (fun w L' hF hS hi => k124 (know_all w) (frs_own (i := 2) hl_3 hS ((hi 2 (by simp)).trans rfl)) h_t76) Try.call124 rfl) rfl rfl rfl (fun p_6 => ?_)
                  refine l_val rfl rfl rfl (r_move (v := .tuple #[.agg #[.int .i64 t76.1.W, .int .i64 t76.1.H, .slice p_6.1 t76.1.Pixels.length p_6.2], .int .i64 t76.2]) rfl) ?_
                  refine l_val rfl rfl rfl (r_extract (v := .agg #[.int .i64 t76.1.W, .int .i64 t76.1.H, .slice p_6.1 t76.1.Pixels.length p_6.2]) rfl rfl) ?_
                  refine l_val rfl rfl rfl (r_extract (v := .int .i64 t76.2) rfl rfl) ?_
                  refine l_store (i := 0) (vs := [.int .i64 t76.1.W, .int .i64 t76.1.H, .slice p_6.1 t76.1.Pixels.length p_6.2]) (cs' := [.int .i64 t76.1.W, .int .i64 t76.1.H, .slice p_6.1 t76.1.Pixels.length p_6.2]) Try.sizeOf97 rfl rfl rfl rfl rfl rfl rfl rfl rfl ?_
                  refine l_nil ?_
                  refine c_close (t76.1.W, t76.1.H, t76.1.Pixels) (p_6, t76.1.Pixels.length) 0 [0, 1, 4] (by exact ⟨rfl, rfl, rfl, rfl, rfl, trivial⟩) (by decide) rfl (by exact ⟨H48, rfl⟩) (Nat.lt_succ_self _)
                · have H49 := cnd_f hb H46; clear H46
                  refine c_seq ?_
                  refine c_region ?_
                  refine l_val rfl rfl rfl (r_eql rfl rfl) ?_
                  refine l_val rfl rfl rfl (r_assign (v := .bool (decide (t48.Kind = 3))) rfl) ?_
                  refine l_nil ?_
                  refine c_if (b := (decide (t48.Kind = 3))) rfl (fun hb => ?_) (fun hb => ?_)
                  · have H50 := cnd_t hb H49; clear H49
                    refine c_region ?_
                    refine l_loadN (i := 0) (vs := [.int .i64 m_5, .int .i64 m_6, .slice p_3.1 n_2 p_3.2]) Try.isAgg97 Try.sizeOf97 rfl rfl rfl rfl rfl ?_
                    refine l_val rfl rfl rfl (r_field Try.runUnderlying69 rfl Try.sizeOf3 rfl rfl) ?_
                    refine l_load1 (i := 3) (v := .int .i64 t48.A) Try.isAgg3 rfl rfl rfl rfl rfl ?_
                    refine l_val rfl rfl rfl (r_field Try.runUnderlying69 rfl Try.sizeOf3 rfl rfl) ?_
                    refine l_load1 (i := 3) (v := .int .i64 t48.B) Try.isAgg3 rfl rfl rfl rfl rfl ?_
                    obtain ⟨t87, h_t87, H51⟩ := bnd_some H50; clear H50
                    refine l_make (makes_call (rds := [2]) (G := fun x : (Option Addr × Nat) => .tuple #[.agg #[.int .i64 t87.1.W, .int .i64 t87.1.H, .slice x.1 t87.1.Pixels.length x.2], .int .i64 t87.2]) (C := fun x : (Option Addr × Nat) => rowV 5 1 (.slice x.1 t87.1.Pixels.length x.2) t87.1.Pixels.length (t87.1.Pixels.map e_u8)) (fun w L' hF hS hi => k125 (know_all w) (frs_own (i := 2) hl_3 hS ((hi 2 (by simp)).trans rfl)) h_t87) Try.call125 rfl) rfl rfl rfl (fun p_7 => ?_)
                    refine l_val rfl rfl rfl (r_move (v := .tuple #[.agg #[.int .i64 t87.1.W, .int .i64 t87.1.H, .slice p_7.1 t87.1.Pixels.length p_7.2], .int .i64 t87.2]) rfl) ?_
                    refine l_val rfl rfl rfl (r_extract (v := .agg #[.int .i64 t87.1.W, .int .i64 t87.1.H, .slice p_7.1 t87.1.Pixels.length p_7.2]) rfl rfl) ?_
                    refine l_val rfl rfl rfl (r_extract (v := .int .i64 t87.2) rfl rfl) ?_
                    refine l_store (i := 0) (vs := [.int .i64 t87.1.W, .int .i64 t87.1.H, .slice p_7.1 t87.1.Pixels.length p_7.2]) (cs' := [.int .i64 t87.1.W, .int .i64 t87.1.H, .slice p_7.1 t87.1.Pixels.length p_7.2]) Try.sizeOf97 rfl rfl rfl rfl rfl rfl rfl rfl rfl ?_
                    refine l_nil ?_
                    refine c_close (t87.1.W, t87.1.H, t87.1.Pixels) (p_7, t87.1.Pixels.length) 0 [0, 1, 4] (by exact ⟨rfl, rfl, rfl, rfl, rfl, trivial⟩) (by decide) rfl (by exact ⟨H51, rfl⟩) (Nat.lt_succ_self _)
                  · have H52 := cnd_f hb H49; clear H49
                    refine c_region ?_
                    refine l_loadN (i := 3) (vs := [.int .i64 t48.Kind, .int .i64 t48.A, .int .i64 t48.B, .int .i64 t48.C, .int .i64 t48.D]) Try.isAgg69 Try.sizeOf69 rfl rfl rfl rfl rfl ?_
                    refine l_loadN (i := 0) (vs := [.int .i64 m_5, .int .i64 m_6, .slice p_3.1 n_2 p_3.2]) Try.isAgg97 Try.sizeOf97 rfl rfl rfl rfl rfl ?_
                    obtain ⟨t54, h_t54, H53⟩ := bnd_some H52; clear H52
                    refine l_turn (turns_callB (i := 2) (rds := []) (G := fun x : Unit => .tuple #[]) (C := fun x : Unit => rowV 5 1 (.slice p_3.1 n_2 p_3.2) n_2 (t54.map e_u8)) rfl (fun w L' S hF hS hi hp hlt ho hA => k126 hp hlt (know_but w S) hl_3 h_t54) Try.call126 rfl) rfl rfl rfl (fun _ => ?_)
                    refine c_know (fun w hF hS => lenOf (i := 2) hS rfl) (fun hl_5_ => ?_)
                    have hl_5 : n_2 = t54.length := by simpa using hl_5_.symm
                    refine l_nil ?_
                    refine c_close (m_5, m_6, t54) (p_3, n_2) 0 [0, 1, 2] (by exact ⟨rfl, rfl, rfl, rfl, rfl, trivial⟩) (by decide) rfl (by exact ⟨H53, hl_5⟩) (Nat.lt_succ_self _)
            · rintro ⟨m_7, m_8, l_4⟩ ⟨p_4, n_3⟩ gg H41 hl_4
              replace H41 : edit_Render_j3 x46_2 next2 m_7 m_8 l_4 = some r := H41
              refine c_tidyF [(2, .pointer (some ⟨b3, 0, none⟩)), (4, .pointer (some ⟨b4, 0, none⟩)), (44, v1), (45, .int .i64 (a1.length : Int)), (46, .int .i64 x46_2)] [cellsC b3 [.int .i64 m_7, .int .i64 m_8, .slice p_4.1 n_3 p_4.2] 97, cellsC b4 [.int .i64 0, .int .i64 0, .slice none 0 0] 97, rowV 5 1 (.slice p_4.1 n_3 p_4.2) n_3 (l_4.map e_u8)] rfl rfl ?_
              refine c_region ?_
              obtain ⟨t90, h_t90, H42⟩ := bnd_some H41; clear H41
              refine l_val rfl rfl rfl (r_addG rfl rfl h_t90) ?_
              refine l_val rfl rfl rfl (r_move (v := .int .i64 t90) rfl) ?_
              refine l_nil ?_
              refine c_close (t90, m_7, m_8, l_4) (p_4, n_3) m2 [0, 1, 2] (by exact ⟨rfl, rfl, rfl, rfl, rfl, trivial⟩) (by decide) rfl (by exact ⟨(by subst hn2; exact H42), hl_4⟩) (Nat.lt_succ_self _)
          · have H54 := cnd_f hb H39; clear H39
            refine c_exit ?_
            refine c_close (m_5, m_6, l_3) (p_3, n_2) 0 [0, 1, 2] (by exact ⟨rfl, rfl, trivial⟩) (by decide) rfl (by exact ⟨H54, hl_3⟩) (Nat.lt_succ_self _)
        · rintro ⟨m, m_2, l⟩ ⟨p_2, n⟩ gg H38 hl
          replace H38 : edit_Render_j1 m m_2 l = some r := H38
          refine c_tidyF [(2, .pointer (some ⟨b3, 0, none⟩)), (4, .pointer (some ⟨b4, 0, none⟩))] [cellsC b3 [.int .i64 m, .int .i64 m_2, .slice p_2.1 n p_2.2] 97, cellsC b4 [.int .i64 0, .int .i64 0, .slice none 0 0] 97, rowV 5 1 (.slice p_2.1 n p_2.2) n (l.map e_u8)] rfl rfl ?_
          refine c_seq ?_
          refine c_region ?_
          refine l_loadN (i := 0) (vs := [.int .i64 m, .int .i64 m_2, .slice p_2.1 n p_2.2]) Try.isAgg97 Try.sizeOf97 rfl rfl rfl rfl rfl ?_
          refine l_store (i := 1) (vs := [.int .i64 m, .int .i64 m_2, .slice p_2.1 n p_2.2]) (cs' := [.int .i64 m, .int .i64 m_2, .slice p_2.1 n p_2.2]) Try.sizeOf97 rfl rfl rfl rfl rfl rfl rfl rfl rfl ?_
          refine l_val rfl rfl rfl (r_assign (v := .int .i64 0) rfl) ?_
          refine l_nil ?_
          refine c_ret ?_
          obtain rfl := Option.some.inj H38
          refine retCt (i := 1) (vs := [.int .i64 m, .int .i64 m_2, .slice p_2.1 n p_2.2]) (v2 := .int .i64 0) Try.isAgg97 Try.sizeOf97 rfl rfl rfl rfl rfl (finX p_2 (i := 2) rfl (by first | rfl | rw [(show n = l.length from hl)]) (Imp.of (by rw [(show n = l.length from hl)])))
theorem k62 {a0 : T_api_Image} {v0_2 : Value} {r : Int} {w : World} {h : Heap} (hw : Know h w noS) (f0_2 : FrS h 1 v0_2 (a0.Pixels.map e_u8)) (H : R1_ImageError a0 = some r) : Does Try.prog 62 (List.toArray [.agg #[.int .i64 a0.W, .int .i64 a0.H, v0_2]]) w (fun v w' => v = (.int .i64 r) ∧ Grow w w') := by
  refine enter (n := 31) Try.func62 rfl rfl rfl noS [] (Sat.nil _ _) ?_
  refine c_seq ?_
  refine c_region ?_
  refine l_box (cs := [.int .i64 a0.W, .int .i64 a0.H, v0_2]) rfl rfl rfl rfl (fun b1 => ?_)
  refine l_val rfl rfl rfl (r_assign (v := .int .i64 0) rfl) ?_
  refine l_nil ?_
  refine c_seq ?_
  refine c_seq ?_
  refine c_region ?_
  refine l_val rfl rfl rfl (r_field Try.runUnderlying97 rfl Try.sizeOf3 rfl rfl) ?_
  refine l_load1 (i := 0) (v := .int .i64 a0.W) Try.isAgg3 rfl rfl rfl rfl rfl ?_
  refine l_val rfl rfl rfl (r_lss rfl rfl) ?_
  refine l_val rfl rfl rfl (r_move (v := .bool (decide (a0.W < 1))) rfl) ?_
  refine split (fun hb => ?_) (fun hb => ?_)
  · have H13 := cnd_t hb H; clear H
    refine l_passed rfl rfl rfl ?_
    refine l_passed rfl rfl rfl ?_
    refine l_passed rfl rfl rfl ?_
    refine l_val rfl rfl rfl (r_pickT (v := .bool true) rfl rfl) ?_
    refine l_val rfl rfl rfl (r_move (v := .bool true) rfl) ?_
    refine l_passed rfl rfl rfl ?_
    refine l_passed rfl rfl rfl ?_
    refine l_passed rfl rfl rfl ?_
    refine l_val rfl rfl rfl (r_pickT (v := .bool true) rfl rfl) ?_
    refine l_val rfl rfl rfl (r_move (v := .bool true) rfl) ?_
    refine l_passed rfl rfl rfl ?_
    refine l_passed rfl rfl rfl ?_
    refine l_passed rfl rfl rfl ?_
    refine l_val rfl rfl rfl (r_pickT (v := .bool true) rfl rfl) ?_
    refine l_nil ?_
    refine c_true rfl ?_
    refine c_seq ?_
    refine c_region ?_
    refine l_val rfl rfl rfl (r_assign (v := .int .i64 2) rfl) ?_
    refine l_nil ?_
    refine c_ret ?_
    obtain rfl := Option.some.inj H13
    refine ret1 (v := .int .i64 2) rfl rfl (fin rfl)
  · have H14 := cnd_f hb H; clear H
    refine l_val rfl rfl rfl (r_field Try.runUnderlying97 rfl Try.sizeOf3 rfl rfl) ?_
    refine l_load1 (i := 0) (v := .int .i64 a0.W) Try.isAgg3 rfl rfl rfl rfl rfl ?_
    refine l_val rfl rfl rfl (r_gtr rfl rfl) ?_
    refine l_val rfl rfl rfl (r_pickF (v := .bool (decide (64 < a0.W))) rfl rfl) ?_
    refine l_val rfl rfl rfl (r_move (v := .bool (decide (64 < a0.W))) rfl) ?_
    refine split (fun hb => ?_) (fun hb => ?_)
    · have H15 := cnd_t hb H14; clear H14
      refine l_passed rfl rfl rfl ?_
      refine l_passed rfl rfl rfl ?_
      refine l_passed rfl rfl rfl ?_
      refine l_val rfl rfl rfl (r_pickT (v := .bool true) rfl rfl) ?_
      refine l_val rfl rfl rfl (r_move (v := .bool true) rfl) ?_
      refine l_passed rfl rfl rfl ?_
      refine l_passed rfl rfl rfl ?_
      refine l_passed rfl rfl rfl ?_
      refine l_val rfl rfl rfl (r_pickT (v := .bool true) rfl rfl) ?_
      refine l_nil ?_
      refine c_true rfl ?_
      refine c_seq ?_
      refine c_region ?_
      refine l_val rfl rfl rfl (r_assign (v := .int .i64 2) rfl) ?_
      refine l_nil ?_
      refine c_ret ?_
      obtain rfl := Option.some.inj H15
      refine ret1 (v := .int .i64 2) rfl rfl (fin rfl)
    · have H16 := cnd_f hb H14; clear H14
      refine l_val rfl rfl rfl (r_field Try.runUnderlying97 rfl Try.sizeOf3 rfl rfl) ?_
      refine l_load1 (i := 0) (v := .int .i64 a0.H) Try.isAgg3 rfl rfl rfl rfl rfl ?_
      refine l_val rfl rfl rfl (r_lss rfl rfl) ?_
      refine l_val rfl rfl rfl (r_pickF (v := .bool (decide (a0.H < 1))) rfl rfl) ?_
      refine l_val rfl rfl rfl (r_move (v := .bool (decide (a0.H < 1))) rfl) ?_
      refine split (fun hb => ?_) (fun hb => ?_)
      · have H17 := cnd_t hb H16; clear H16
        refine l_passed rfl rfl rfl ?_
        refine l_passed rfl rfl rfl ?_
        refine l_passed rfl rfl rfl ?_
        refine l_val rfl rfl rfl (r_pickT (v := .bool true) rfl rfl) ?_
        refine l_nil ?_
        refine c_true rfl ?_
        refine c_seq ?_
        refine c_region ?_
        refine l_val rfl rfl rfl (r_assign (v := .int .i64 2) rfl) ?_
        refine l_nil ?_
        refine c_ret ?_
        obtain rfl := Option.some.inj H17
        refine ret1 (v := .int .i64 2) rfl rfl (fin rfl)
      · have H18 := cnd_f hb H16; clear H16
        refine l_val rfl rfl rfl (r_field Try.runUnderlying97 rfl Try.sizeOf3 rfl rfl) ?_
        refine l_load1 (i := 0) (v := .int .i64 a0.H) Try.isAgg3 rfl rfl rfl rfl rfl ?_
        refine l_val rfl rfl rfl (r_gtr rfl rfl) ?_
        refine l_val rfl rfl rfl (r_pickF (v := .bool (decide (64 < a0.H))) rfl rfl) ?_
        refine l_nil ?_
        refine c_if (b := (decide (64 < a0.H))) rfl (fun hb => ?_) (fun hb => ?_)
        · have H19 := cnd_t hb H18; clear H18
          refine c_seq ?_
          refine c_region ?_
          refine l_val rfl rfl rfl (r_assign (v := .int .i64 2) rfl) ?_
          refine l_nil ?_
          refine c_ret ?_
          obtain rfl := Option.some.inj H19
          refine ret1 (v := .int .i64 2) rfl rfl (fin rfl)
        · have H20 := cnd_f hb H18; clear H18
          refine c_skip ?_
          refine c_seq ?_
          refine c_seq ?_
          refine c_region ?_
          refine l_val rfl rfl rfl (r_field Try.runUnderlying97 rfl Try.sizeOf95 rfl rfl) ?_
          refine l_load1 (i := 0) (v := v0_2) Try.isAgg95 rfl rfl rfl rfl rfl ?_
          refine l_val rfl rfl rfl (r_lenF Try.underlying95 rfl f0_2 rfl) ?_
          refine l_val rfl rfl rfl (r_field Try.runUnderlying97 rfl Try.sizeOf3 rfl rfl) ?_
          refine l_load1 (i := 0) (v := .int .i64 a0.W) Try.isAgg3 rfl rfl rfl rfl rfl ?_
          obtain ⟨t26, h_t26, H21⟩ := bnd_some H20; clear H20
          refine l_val rfl rfl rfl (r_mulG rfl rfl h_t26) ?_
          refine l_val rfl rfl rfl (r_field Try.runUnderlying97 rfl Try.sizeOf3 rfl rfl) ?_
          refine l_load1 (i := 0) (v := .int .i64 a0.H) Try.isAgg3 rfl rfl rfl rfl rfl ?_
          obtain ⟨t29, h_t29, H22⟩ := bnd_some H21; clear H21
          refine l_val rfl rfl rfl (r_mulG rfl rfl h_t29) ?_
          refine l_val rfl rfl rfl (r_neq rfl rfl) ?_
          refine l_nil ?_
          refine c_if (b := (decide ((a0.Pixels.length : Int) ≠ t29))) rfl (fun hb => ?_) (fun hb => ?_)
          · have H23 := cnd_t hb H22; clear H22
            refine c_seq ?_
            refine c_region ?_
            refine l_val rfl rfl rfl (r_assign (v := .int .i64 1) rfl) ?_
            refine l_nil ?_
            refine c_ret ?_
            obtain rfl := Option.some.inj H23
            refine ret1 (v := .int .i64 1) rfl rfl (fin rfl)
          · have H24 := cnd_f hb H22; clear H22
            refine c_skip ?_
            refine c_seq ?_
            refine c_region ?_
            refine l_val rfl rfl rfl (r_assign (v := .int .i64 0) rfl) ?_
            refine l_nil ?_
            refine c_ret ?_
            obtain rfl := Option.some.inj H24
            refine ret1 (v := .int .i64 0) rfl rfl (fin rfl)
theorem k129 {a0 : T_api_Image} {v0_2 : Value} {a1 : Int} {a2 : Int} {r : T_api_Image} {w : World} {h : Heap} (hw : Know h w noS) (f0_2 : FrS h 1 v0_2 (a0.Pixels.map e_u8)) (H : R1_Scaled a0 a1 a2 = some r) : Does Try.prog 129 (List.toArray [.agg #[.int .i64 a0.W, .int .i64 a0.H, v0_2], .int .i64 a1, .int .i64 a2]) w (fun v w' => ∃ x : (Option Addr × Nat), v = (.agg #[.int .i64 r.W, .int .i64 r.H, .slice x.1 r.Pixels.length x.2]) ∧ Turn w w' noS (rowV 5 1 (.slice x.1 r.Pixels.length x.2) r.Pixels.length (r.Pixels.map e_u8))) := by
  refine enter (n := 93) Try.func129 rfl rfl rfl noS [] (Sat.nil _ _) ?_
  refine c_seq ?_
  refine c_region ?_
  refine l_box (cs := [.int .i64 a0.W, .int .i64 a0.H, v0_2]) rfl rfl rfl rfl (fun b4 => ?_)
  refine l_alloc (cs := [.int .i64 0, .int .i64 0, .slice none 0 0]) Try.zeroValue97 rfl rfl rfl (fun b5 => ?_)
  refine l_nil ?_
  refine c_seq ?_
  refine c_region ?_
  refine l_val rfl rfl rfl (r_move (v := .int .i64 a1) rfl) ?_
  refine l_val rfl rfl rfl (r_move (v := .int .i64 a2) rfl) ?_
  refine l_val rfl rfl rfl (r_build (pl := #[(0, 1), (1, 1), (2, 1)]) (ps := [(0, .int .i64 a1), (1, .int .i64 a2)]) (cells := #[.int .i64 a1, .int .i64 a2, .slice none 0 0]) Try.zeroValue97 Try.runUnderlying97 (fun w => by kernel_rfl) rfl rfl) ?_
  refine l_alloc (cs := [.int .i64 0, .int .i64 0, .slice none 0 0]) Try.zeroValue97 rfl rfl rfl (fun b6 => ?_)
  refine l_store (i := 2) (vs := [.int .i64 a1, .int .i64 a2, .slice none 0 0]) (cs' := [.int .i64 a1, .int .i64 a2, .slice none 0 0]) Try.sizeOf97 rfl rfl rfl rfl rfl rfl rfl rfl rfl ?_
  refine l_nil ?_
  refine c_meet (r := r) (σ := (List Int)) (τ := (Option Addr × Nat)) (fun s => R1_Scaled_j1 a1 a2 s) (fun s t => [(6, .pointer (some ⟨b5, 0, none⟩)), (7, .pointer (some ⟨b6, 0, none⟩))]) (fun s t => [cellsC b5 [.int .i64 0, .int .i64 0, .slice none 0 0] 97, cellsC b6 [.int .i64 a1, .int .i64 a2, .slice t.1 s.length t.2] 97, rowV 5 1 (.slice t.1 s.length t.2) s.length (s.map e_u8)]) (fun s t => True) ?_ ?_
  · refine c_seq ?_
    refine c_region ?_
    refine l_val rfl rfl rfl (r_move (v := .int .i64 a2) rfl) ?_
    refine l_val rfl rfl rfl (r_move (v := .int .i64 0) rfl) ?_
    refine l_nil ?_
    refine c_block ?_
    refine c_nilRow 5 1 ?_
    refine c_fix (σ := Int × (List Int)) (τ := (Option Addr × Nat)) (fun next2 s => R1_Scaled_l2 a0 a1 a2 next2 s.1 s.2) (fun s t => [(1, .int .i64 a1), (2, .int .i64 a2), (3, .pointer (some ⟨b4, 0, none⟩)), (6, .pointer (some ⟨b5, 0, none⟩)), (7, .pointer (some ⟨b6, 0, none⟩)), (17, .int .i64 a2), (18, .int .i64 s.1)]) (fun s t => [cellsC b4 [.int .i64 a0.W, .int .i64 a0.H, v0_2] 97, cellsC b5 [.int .i64 0, .int .i64 0, .slice none 0 0] 97, cellsC b6 [.int .i64 a1, .int .i64 a2, .slice t.1 s.2.length t.2] 97, rowV 5 1 (.slice t.1 s.2.length t.2) s.2.length (s.2.map e_u8)]) (fun s t => True) (0, ([] : List Int)) ((none, 0) : Option Addr × Nat) [0, 1, 2, 3] H (by exact trivial) (by exact ⟨rfl, rfl, rfl, rfl, rfl, rfl, rfl, trivial⟩) (by decide) rfl ?_
    rintro ⟨x18_2, l_3⟩ p_2 m2 gg H47 _
    clear H
    replace H47 : R1_Scaled_l2 a0 a1 a2 (it (fun next2 s => R1_Scaled_l2 a0 a1 a2 next2 s.1 s.2) m2) x18_2 l_3 = some r := H47
    generalize hn2 : it (fun next2 s => R1_Scaled_l2 a0 a1 a2 next2 s.1 s.2) m2 = next2 at H47
    refine c_tidyF [(1, .int .i64 a1), (2, .int .i64 a2), (3, .pointer (some ⟨b4, 0, none⟩)), (6, .pointer (some ⟨b5, 0, none⟩)), (7, .pointer (some ⟨b6, 0, none⟩)), (17, .int .i64 a2), (18, .int .i64 x18_2)] [cellsC b4 [.int .i64 a0.W, .int .i64 a0.H, v0_2] 97, cellsC b5 [.int .i64 0, .int .i64 0, .slice none 0 0] 97, cellsC b6 [.int .i64 a1, .int .i64 a2, .slice p_2.1 l_3.length p_2.2] 97, rowV 5 1 (.slice p_2.1 l_3.length p_2.2) l_3.length (l_3.map e_u8)] rfl rfl ?_
    refine c_seq ?_
    refine c_region ?_
    refine l_val rfl rfl rfl (r_lss rfl rfl) ?_
    refine l_nil ?_
    refine c_seq ?_
    refine c_if (b := (decide (x18_2 < a2))) rfl (fun hb => ?_) (fun hb => ?_)
    · have H48 := cnd_t hb H47; clear H47
      refine c_skip ?_
      refine c_meet (r := r) (σ := (List Int)) (τ := (Option Addr × Nat)) (fun s => R1_Scaled_j3 x18_2 next2 s) (fun s t => [(1, .int .i64 a1), (2, .int .i64 a2), (3, .pointer (some ⟨b4, 0, none⟩)), (6, .pointer (some ⟨b5, 0, none⟩)), (7, .pointer (some ⟨b6, 0, none⟩)), (17, .int .i64 a2), (18, .int .i64 x18_2)]) (fun s t => [cellsC b4 [.int .i64 a0.W, .int .i64 a0.H, v0_2] 97, cellsC b5 [.int .i64 0, .int .i64 0, .slice none 0 0] 97, cellsC b6 [.int .i64 a1, .int .i64 a2, .slice t.1 s.length t.2] 97, rowV 5 1 (.slice t.1 s.length t.2) s.length (s.map e_u8)]) (fun s t => True) ?_ ?_
      · refine c_block ?_
        refine c_seq ?_
        refine c_region ?_
        refine l_val rfl rfl rfl (r_move (v := .int .i64 x18_2) rfl) ?_
        refine l_val rfl rfl rfl (r_assign (v := .int .i64 x18_2) rfl) ?_
        refine l_nil ?_
        refine c_seq ?_
        refine c_region ?_
        refine l_val rfl rfl rfl (r_move (v := .int .i64 a1) rfl) ?_
        refine l_val rfl rfl rfl (r_move (v := .int .i64 0) rfl) ?_
        refine l_nil ?_
        refine c_block ?_
        refine c_fix (σ := Int × (List Int)) (τ := (Option Addr × Nat)) (fun next4 s => R1_Scaled_l4 a0 a1 a2 x18_2 next2 next4 s.1 s.2) (fun s t => [(1, .int .i64 a1), (2, .int .i64 a2), (3, .pointer (some ⟨b4, 0, none⟩)), (6, .pointer (some ⟨b5, 0, none⟩)), (7, .pointer (some ⟨b6, 0, none⟩)), (8, .int .i64 x18_2), (17, .int .i64 a2), (18, .int .i64 x18_2), (21, .int .i64 a1), (22, .int .i64 s.1)]) (fun s t => [cellsC b4 [.int .i64 a0.W, .int .i64 a0.H, v0_2] 97, cellsC b5 [.int .i64 0, .int .i64 0, .slice none 0 0] 97, cellsC b6 [.int .i64 a1, .int .i64 a2, .slice t.1 s.2.length t.2] 97, rowV 5 1 (.slice t.1 s.2.length t.2) s.2.length (s.2.map e_u8)]) (fun s t => True) (0, l_3) p_2 [0, 1, 2, 3] H48 (by exact trivial) (by exact ⟨rfl, rfl, rfl, rfl, rfl, rfl, rfl, rfl, rfl, rfl, trivial⟩) (by decide) rfl ?_
        rintro ⟨x22_2, l_6⟩ p_4 m4 gg H51 _
        clear H48
        replace H51 : R1_Scaled_l4 a0 a1 a2 x18_2 next2 (it (fun next4 s => R1_Scaled_l4 a0 a1 a2 x18_2 next2 next4 s.1 s.2) m4) x22_2 l_6 = some r := H51
        generalize hn4 : it (fun next4 s => R1_Scaled_l4 a0 a1 a2 x18_2 next2 next4 s.1 s.2) m4 = next4 at H51
        refine c_tidyF [(1, .int .i64 a1), (2, .int .i64 a2), (3, .pointer (some ⟨b4, 0, none⟩)), (6, .pointer (some ⟨b5, 0, none⟩)), (7, .pointer (some ⟨b6, 0, none⟩)), (8, .int .i64 x18_2), (17, .int .i64 a2), (18, .int .i64 x18_2), (21, .int .i64 a1), (22, .int .i64 x22_2)] [cellsC b4 [.int .i64 a0.W, .int .i64 a0.H, v0_2] 97, cellsC b5 [.int .i64 0, .int .i64 0, .slice none 0 0] 97, cellsC b6 [.int .i64 a1, .int .i64 a2, .slice p_4.1 l_6.length p_4.2] 97, rowV 5 1 (.slice p_4.1 l_6.length p_4.2) l_6.length (l_6.map e_u8)] rfl rfl ?_
        refine c_seq ?_
        refine c_region ?_
        refine l_val rfl rfl rfl (r_lss rfl rfl) ?_
        refine l_nil ?_
        refine c_seq ?_
        refine c_if (b := (decide (x22_2 < a1))) rfl (fun hb => ?_) (fun hb => ?_)
        · have H52 := cnd_t hb H51; clear H51
          refine c_skip ?_
          refine c_meet (r := r) (σ := (List Int)) (τ := (Option Addr × Nat)) (fun s => R1_Scaled_j5 x22_2 next4 s) (fun s t => [(1, .int .i64 a1), (2, .int .i64 a2), (3, .pointer (some ⟨b4, 0, none⟩)), (6, .pointer (some ⟨b5, 0, none⟩)), (7, .pointer (some ⟨b6, 0, none⟩)), (8, .int .i64 x18_2), (17, .int .i64 a2), (18, .int .i64 x18_2), (21, .int .i64 a1), (22, .int .i64 x22_2)]) (fun s t => [cellsC b4 [.int .i64 a0.W, .int .i64 a0.H, v0_2] 97, cellsC b5 [.int .i64 0, .int .i64 0, .slice none 0 0] 97, cellsC b6 [.int .i64 a1, .int .i64 a2, .slice t.1 s.length t.2] 97, rowV 5 1 (.slice t.1 s.length t.2) s.length (s.map e_u8)]) (fun s t => True) ?_ ?_
          · refine c_block ?_
            refine c_seq ?_
            refine c_region ?_
            refine l_val rfl rfl rfl (r_move (v := .int .i64 x22_2) rfl) ?_
            refine l_val rfl rfl rfl (r_assign (v := .int .i64 x22_2) rfl) ?_
            refine l_nil ?_
            refine c_seq ?_
            refine c_region ?_
            refine l_val rfl rfl rfl (r_move (v := .int .i64 0) rfl) ?_
            refine l_nil ?_
            refine c_block ?_
            refine c_fix (σ := Int × (List Int)) (τ := (Option Addr × Nat)) (fun next6 s => R1_Scaled_l6 a0 a1 a2 x18_2 x22_2 next4 next6 s.1 s.2) (fun s t => [(1, .int .i64 a1), (2, .int .i64 a2), (3, .pointer (some ⟨b4, 0, none⟩)), (6, .pointer (some ⟨b5, 0, none⟩)), (7, .pointer (some ⟨b6, 0, none⟩)), (8, .int .i64 x18_2), (9, .int .i64 x22_2), (17, .int .i64 a2), (18, .int .i64 x18_2), (21, .int .i64 a1), (22, .int .i64 x22_2), (25, .int .i64 s.1)]) (fun s t => [cellsC b4 [.int .i64 a0.W, .int .i64 a0.H, v0_2] 97, cellsC b5 [.int .i64 0, .int .i64 0, .slice none 0 0] 97, cellsC b6 [.int .i64 a1, .int .i64 a2, .slice t.1 s.2.length t.2] 97, rowV 5 1 (.slice t.1 s.2.length t.2) s.2.length (s.2.map e_u8)]) (fun s t => True) (0, l_6) p_4 [0, 1, 2, 3] H52 (by exact trivial) (by exact ⟨rfl, rfl, rfl, rfl, rfl, rfl, rfl, rfl, rfl, rfl, rfl, rfl, trivial⟩) (by decide) rfl ?_
            rintro ⟨x25_2, l_9⟩ p_6 m6 gg H55 _
            clear H52
            replace H55 : R1_Scaled_l6 a0 a1 a2 x18_2 x22_2 next4 (it (fun next6 s => R1_Scaled_l6 a0 a1 a2 x18_2 x22_2 next4 next6 s.1 s.2) m6) x25_2 l_9 = some r := H55
            generalize hn6 : it (fun next6 s => R1_Scaled_l6 a0 a1 a2 x18_2 x22_2 next4 next6 s.1 s.2) m6 = next6 at H55
            refine c_tidyF [(1, .int .i64 a1), (2, .int .i64 a2), (3, .pointer (some ⟨b4, 0, none⟩)), (6, .pointer (some ⟨b5, 0, none⟩)), (7, .pointer (some ⟨b6, 0, none⟩)), (8, .int .i64 x18_2), (9, .int .i64 x22_2), (17, .int .i64 a2), (18, .int .i64 x18_2), (21, .int .i64 a1), (22, .int .i64 x22_2), (25, .int .i64 x25_2)] [cellsC b4 [.int .i64 a0.W, .int .i64 a0.H, v0_2] 97, cellsC b5 [.int .i64 0, .int .i64 0, .slice none 0 0] 97, cellsC b6 [.int .i64 a1, .int .i64 a2, .slice p_6.1 l_9.length p_6.2] 97, rowV 5 1 (.slice p_6.1 l_9.length p_6.2) l_9.length (l_9.map e_u8)] rfl rfl ?_
            refine c_seq ?_
            refine c_region ?_
            refine l_val rfl rfl rfl (r_lss rfl rfl) ?_
            refine l_nil ?_
            refine c_seq ?_
            refine c_if (b := (decide (x25_2 < 3))) rfl (fun hb => ?_) (fun hb => ?_)
            · have H56 := cnd_t hb H55; clear H55
              refine c_skip ?_
              refine c_meet (r := r) (σ := (List Int)) (τ := (Option Addr × Nat)) (fun s => R1_Scaled_j7 x25_2 next6 s) (fun s t => [(1, .int .i64 a1), (2, .int .i64 a2), (3, .pointer (some ⟨b4, 0, none⟩)), (6, .pointer (some ⟨b5, 0, none⟩)), (7, .pointer (some ⟨b6, 0, none⟩)), (8, .int .i64 x18_2), (9, .int .i64 x22_2), (17, .int .i64 a2), (18, .int .i64 x18_2), (21, .int .i64 a1), (22, .int .i64 x22_2), (25, .int .i64 x25_2)]) (fun s t => [cellsC b4 [.int .i64 a0.W, .int .i64 a0.H, v0_2] 97, cellsC b5 [.int .i64 0, .int .i64 0, .slice none 0 0] 97, cellsC b6 [.int .i64 a1, .int .i64 a2, .slice t.1 s.length t.2] 97, rowV 5 1 (.slice t.1 s.length t.2) s.length (s.map e_u8)]) (fun s t => True) ?_ ?_
              · refine c_block ?_
                refine c_seq ?_
                refine c_region ?_
                refine l_val rfl rfl rfl (r_move (v := .int .i64 x25_2) rfl) ?_
                refine l_val rfl rfl rfl (r_assign (v := .int .i64 x25_2) rfl) ?_
                refine l_nil ?_
                refine c_seq ?_
                refine c_region ?_
                refine l_val rfl rfl rfl (r_assign (v := .int .i64 0) rfl) ?_
                refine l_nil ?_
                refine c_meet (r := r) (σ := Int) (τ := Unit) (fun s => R1_Scaled_j8 a0 x25_2 l_9 next6 s) (fun s t => [(1, .int .i64 a1), (2, .int .i64 a2), (3, .pointer (some ⟨b4, 0, none⟩)), (6, .pointer (some ⟨b5, 0, none⟩)), (7, .pointer (some ⟨b6, 0, none⟩)), (8, .int .i64 x18_2), (9, .int .i64 x22_2), (11, .int .i64 s), (17, .int .i64 a2), (18, .int .i64 x18_2), (21, .int .i64 a1), (22, .int .i64 x22_2), (25, .int .i64 x25_2)]) (fun s t => [cellsC b4 [.int .i64 a0.W, .int .i64 a0.H, v0_2] 97, cellsC b5 [.int .i64 0, .int .i64 0, .slice none 0 0] 97, cellsC b6 [.int .i64 a1, .int .i64 a2, .slice p_6.1 l_9.length p_6.2] 97, rowV 5 1 (.slice p_6.1 l_9.length p_6.2) l_9.length (l_9.map e_u8)]) (fun s t => True) ?_ ?_
                · refine c_seq ?_
                  refine c_region ?_
                  refine l_val rfl rfl rfl (r_field Try.runUnderlying97 rfl Try.sizeOf3 rfl rfl) ?_
                  refine l_load1 (i := 0) (v := .int .i64 a0.H) Try.isAgg3 rfl rfl rfl rfl rfl ?_
                  refine l_val rfl rfl rfl (r_move (v := .int .i64 x18_2) rfl) ?_
                  obtain ⟨t31, h_t31, H67⟩ := bnd_some H56; clear H56
                  refine l_val rfl rfl rfl (r_mulG rfl rfl h_t31) ?_
                  refine l_val rfl rfl rfl (r_assign (v := .int .i64 t31) rfl) ?_
                  refine l_nil ?_
                  refine c_block ?_
                  refine c_fix (σ := Int × Int) (τ := Unit) (fun next9 s => R1_Scaled_l9 a0 a1 a2 x18_2 x22_2 x25_2 l_9 next6 next9 s.1 s.2) (fun s t => [(1, .int .i64 a1), (2, .int .i64 a2), (3, .pointer (some ⟨b4, 0, none⟩)), (6, .pointer (some ⟨b5, 0, none⟩)), (7, .pointer (some ⟨b6, 0, none⟩)), (8, .int .i64 x18_2), (9, .int .i64 x22_2), (10, .int .i64 x25_2), (11, .int .i64 s.1), (12, .int .i64 s.2), (17, .int .i64 a2), (18, .int .i64 x18_2), (21, .int .i64 a1), (22, .int .i64 x22_2), (25, .int .i64 x25_2)]) (fun s t => [cellsC b4 [.int .i64 a0.W, .int .i64 a0.H, v0_2] 97, cellsC b5 [.int .i64 0, .int .i64 0, .slice none 0 0] 97, cellsC b6 [.int .i64 a1, .int .i64 a2, .slice p_6.1 l_9.length p_6.2] 97, rowV 5 1 (.slice p_6.1 l_9.length p_6.2) l_9.length (l_9.map e_u8)]) (fun s t => True) (0, t31) () [0, 1, 2, 3] H67 (by exact trivial) (by exact ⟨rfl, rfl, rfl, rfl, rfl, rfl, rfl, rfl, rfl, rfl, rfl, rfl, rfl, rfl, rfl, trivial⟩) (by decide) rfl ?_
                  rintro ⟨x11_3, x12_2⟩ _ m9 gg H68 _
                  clear H67
                  replace H68 : R1_Scaled_l9 a0 a1 a2 x18_2 x22_2 x25_2 l_9 next6 (it (fun next9 s => R1_Scaled_l9 a0 a1 a2 x18_2 x22_2 x25_2 l_9 next6 next9 s.1 s.2) m9) x11_3 x12_2 = some r := H68
                  generalize hn9 : it (fun next9 s => R1_Scaled_l9 a0 a1 a2 x18_2 x22_2 x25_2 l_9 next6 next9 s.1 s.2) m9 = next9 at H68
                  refine c_tidyF [(1, .int .i64 a1), (2, .int .i64 a2), (3, .pointer (some ⟨b4, 0, none⟩)), (6, .pointer (some ⟨b5, 0, none⟩)), (7, .pointer (some ⟨b6, 0, none⟩)), (8, .int .i64 x18_2), (9, .int .i64 x22_2), (10, .int .i64 x25_2), (11, .int .i64 x11_3), (12, .int .i64 x12_2), (17, .int .i64 a2), (18, .int .i64 x18_2), (21, .int .i64 a1), (22, .int .i64 x22_2), (25, .int .i64 x25_2)] [cellsC b4 [.int .i64 a0.W, .int .i64 a0.H, v0_2] 97, cellsC b5 [.int .i64 0, .int .i64 0, .slice none 0 0] 97, cellsC b6 [.int .i64 a1, .int .i64 a2, .slice p_6.1 l_9.length p_6.2] 97, rowV 5 1 (.slice p_6.1 l_9.length p_6.2) l_9.length (l_9.map e_u8)] rfl rfl ?_
                  refine c_seq ?_
                  refine c_seq ?_
                  refine c_region ?_
                  refine l_val rfl rfl rfl (r_move (v := .int .i64 x12_2) rfl) ?_
                  refine l_val rfl rfl rfl (r_field Try.runUnderlying97 rfl Try.sizeOf3 rfl rfl) ?_
                  refine l_load1 (i := 0) (v := .int .i64 a0.H) Try.isAgg3 rfl rfl rfl rfl rfl ?_
                  refine l_val rfl rfl rfl (r_move (v := .int .i64 x18_2) rfl) ?_
                  obtain ⟨t36, h_t36, H69⟩ := bnd_some H68; clear H68
                  refine l_val rfl rfl rfl (r_addG rfl rfl h_t36) ?_
                  obtain ⟨t37, h_t37, H70⟩ := bnd_some H69; clear H69
                  refine l_val rfl rfl rfl (r_mulG rfl rfl h_t37) ?_
                  refine l_val rfl rfl rfl (r_lss rfl rfl) ?_
                  refine l_nil ?_
                  refine c_if (b := (decide (x12_2 < t37))) rfl (fun hb => ?_) (fun hb => ?_)
                  · have H71 := cnd_t hb H70; clear H70
                    refine c_skip ?_
                    refine c_meet (r := r) (σ := Int) (τ := Unit) (fun s => R1_Scaled_j10 x12_2 next9 s) (fun s t => [(1, .int .i64 a1), (2, .int .i64 a2), (3, .pointer (some ⟨b4, 0, none⟩)), (6, .pointer (some ⟨b5, 0, none⟩)), (7, .pointer (some ⟨b6, 0, none⟩)), (8, .int .i64 x18_2), (9, .int .i64 x22_2), (10, .int .i64 x25_2), (11, .int .i64 s), (12, .int .i64 x12_2), (17, .int .i64 a2), (18, .int .i64 x18_2), (21, .int .i64 a1), (22, .int .i64 x22_2), (25, .int .i64 x25_2)]) (fun s t => [cellsC b4 [.int .i64 a0.W, .int .i64 a0.H, v0_2] 97, cellsC b5 [.int .i64 0, .int .i64 0, .slice none 0 0] 97, cellsC b6 [.int .i64 a1, .int .i64 a2, .slice p_6.1 l_9.length p_6.2] 97, rowV 5 1 (.slice p_6.1 l_9.length p_6.2) l_9.length (l_9.map e_u8)]) (fun s t => True) ?_ ?_
                    · refine c_block ?_
                      refine c_seq ?_
                      refine c_region ?_
                      refine l_val rfl rfl rfl (r_field Try.runUnderlying97 rfl Try.sizeOf3 rfl rfl) ?_
                      refine l_load1 (i := 0) (v := .int .i64 a0.W) Try.isAgg3 rfl rfl rfl rfl rfl ?_
                      refine l_val rfl rfl rfl (r_move (v := .int .i64 x22_2) rfl) ?_
                      obtain ⟨t44, h_t44, H74⟩ := bnd_some H71; clear H71
                      refine l_val rfl rfl rfl (r_mulG rfl rfl h_t44) ?_
                      refine l_val rfl rfl rfl (r_assign (v := .int .i64 t44) rfl) ?_
                      refine l_nil ?_
                      refine c_block ?_
                      refine c_fix (σ := Int × Int) (τ := Unit) (fun next11 s => R1_Scaled_l11 a0 a1 a2 x22_2 x25_2 x12_2 next9 next11 s.1 s.2) (fun s t => [(1, .int .i64 a1), (2, .int .i64 a2), (3, .pointer (some ⟨b4, 0, none⟩)), (6, .pointer (some ⟨b5, 0, none⟩)), (7, .pointer (some ⟨b6, 0, none⟩)), (8, .int .i64 x18_2), (9, .int .i64 x22_2), (10, .int .i64 x25_2), (11, .int .i64 s.1), (12, .int .i64 x12_2), (13, .int .i64 s.2), (17, .int .i64 a2), (18, .int .i64 x18_2), (21, .int .i64 a1), (22, .int .i64 x22_2), (25, .int .i64 x25_2)]) (fun s t => [cellsC b4 [.int .i64 a0.W, .int .i64 a0.H, v0_2] 97, cellsC b5 [.int .i64 0, .int .i64 0, .slice none 0 0] 97, cellsC b6 [.int .i64 a1, .int .i64 a2, .slice p_6.1 l_9.length p_6.2] 97, rowV 5 1 (.slice p_6.1 l_9.length p_6.2) l_9.length (l_9.map e_u8)]) (fun s t => True) (x11_3, t44) () [0, 1, 2, 3] H74 (by exact trivial) (by exact ⟨rfl, rfl, rfl, rfl, rfl, rfl, rfl, rfl, rfl, rfl, rfl, rfl, rfl, rfl, rfl, rfl, trivial⟩) (by decide) rfl ?_
                      rintro ⟨x11_6, x13_2⟩ _ m11 gg H75 _
                      clear H74
                      replace H75 : R1_Scaled_l11 a0 a1 a2 x22_2 x25_2 x12_2 next9 (it (fun next11 s => R1_Scaled_l11 a0 a1 a2 x22_2 x25_2 x12_2 next9 next11 s.1 s.2) m11) x11_6 x13_2 = some r := H75
                      generalize hn11 : it (fun next11 s => R1_Scaled_l11 a0 a1 a2 x22_2 x25_2 x12_2 next9 next11 s.1 s.2) m11 = next11 at H75
                      refine c_tidyF [(1, .int .i64 a1), (2, .int .i64 a2), (3, .pointer (some ⟨b4, 0, none⟩)), (6, .pointer (some ⟨b5, 0, none⟩)), (7, .pointer (some ⟨b6, 0, none⟩)), (8, .int .i64 x18_2), (9, .int .i64 x22_2), (10, .int .i64 x25_2), (11, .int .i64 x11_6), (12, .int .i64 x12_2), (13, .int .i64 x13_2), (17, .int .i64 a2), (18, .int .i64 x18_2), (21, .int .i64 a1), (22, .int .i64 x22_2), (25, .int .i64 x25_2)] [cellsC b4 [.int .i64 a0.W, .int .i64 a0.H, v0_2] 97, cellsC b5 [.int .i64 0, .int .i64 0, .slice none 0 0] 97, cellsC b6 [.int .i64 a1, .int .i64 a2, .slice p_6.1 l_9.length p_6.2] 97, rowV 5 1 (.slice p_6.1 l_9.length p_6.2) l_9.length (l_9.map e_u8)] rfl rfl ?_
                      refine c_seq ?_
                      refine c_seq ?_
                      refine c_region ?_
                      refine l_val rfl rfl rfl (r_move (v := .int .i64 x13_2) rfl) ?_
                      refine l_val rfl rfl rfl (r_field Try.runUnderlying97 rfl Try.sizeOf3 rfl rfl) ?_
                      refine l_load1 (i := 0) (v := .int .i64 a0.W) Try.isAgg3 rfl rfl rfl rfl rfl ?_
                      refine l_val rfl rfl rfl (r_move (v := .int .i64 x22_2) rfl) ?_
                      obtain ⟨t49, h_t49, H76⟩ := bnd_some H75; clear H75
                      refine l_val rfl rfl rfl (r_addG rfl rfl h_t49) ?_
                      obtain ⟨t50, h_t50, H77⟩ := bnd_some H76; clear H76
                      refine l_val rfl rfl rfl (r_mulG rfl rfl h_t50) ?_
                      refine l_val rfl rfl rfl (r_lss rfl rfl) ?_
                      refine l_nil ?_
                      refine c_if (b := (decide (x13_2 < t50))) rfl (fun hb => ?_) (fun hb => ?_)
                      · have H78 := cnd_t hb H77; clear H77
                        refine c_skip ?_
                        refine c_seq ?_
                        refine c_block ?_
                        exact c_regionD (Kd.p :: Kd.d [0] _ :: Kd.p :: Kd.p :: Kd.p :: Kd.p :: Kd.p :: Kd.p :: Kd.cv _ _ :: Kd.p :: Kd.p :: Kd.d [] _ :: Kd.p :: Kd.p :: Kd.p :: []) 0 mixed (by
                          refine d_val rfl rfl (r_move (v := .int .i64 x11_6) rfl) ?_
                          refine d_loadN (i := 0) (vs := [.int .i64 a0.W, .int .i64 a0.H, v0_2]) Try.isAgg97 Try.sizeOf97 rfl rfl rfl rfl ?_
                          refine d_val rfl rfl (r_move (v := .int .i64 x13_2) rfl) ?_
                          refine d_val rfl rfl (r_move (v := .int .i64 a1) rfl) ?_
                          have h_t58 := bnd_val H78
                          have H79 := bnd_rest H78
                          refine d_val rfl rfl (r_quoG rfl rfl h_t58) ?_
                          refine d_val rfl rfl (r_move (v := .int .i64 x12_2) rfl) ?_
                          refine d_val rfl rfl (r_move (v := .int .i64 a2) rfl) ?_
                          have h_t61 := bnd_val H79
                          have H80 := bnd_rest H79
                          refine d_val rfl rfl (r_quoG rfl rfl h_t61) ?_
                          have h_t62 := bnd_val H80
                          have H81 := bnd_rest H80
                          refine d_callC (σ := Value) (G := fun x => x) (Φ := fun x => FrS h 1 x ((val (R1_pixel a0 (val (gQuo x13_2 a1)) (val (gQuo x12_2 a2)))).map e_u8)) (fun w hF => k165 (h := h) (hw.at hF) f0_2 h_t62) (k165 (h := h) hw.weak f0_2 h_t62) Try.call165 rfl rfl (fun pv hp => ?_)
                          refine d_val rfl rfl (r_move (v := .int .i64 x25_2) rfl) ?_
                          have h_t64 := bnd_val H81
                          have H82 := bnd_rest H81
                          refine d_val rfl rfl (r_indexF Try.underlying95 Try.sizeOf5 rfl rfl hp h_t64) ?_
                          refine d_read (fun w hF => run_loadG1 (f := e_u8) (i := x25_2) (sz := 1) (j := 0) (v := .int .u8 (val (gAt (val (R1_pixel a0 (val (gQuo x13_2 a1)) (val (gQuo x12_2 a2)))) x25_2))) Try.isAgg5 rfl rfl (hp.row (hw.now hF)) h_t64 rfl) rfl rfl ?_
                          have h_t66 := bnd_val H82
                          have H83 := bnd_rest H82
                          refine d_val rfl rfl (r_convG Try.runUnderlying5 Try.runUnderlying3 rfl (gK_i64 h_t66)) ?_
                          have h_t67 := bnd_val H83
                          have H84 := bnd_rest H83
                          refine d_val rfl rfl (r_addG rfl rfl h_t67) ?_
                          refine d_val rfl rfl (r_assign (v := .int .i64 (val (gI (x11_6 + (val (gK (-9223372036854775808) 9223372036854775807 (val (gAt (val (R1_pixel a0 (val (gQuo x13_2 a1)) (val (gQuo x12_2 a2)))) x25_2)))))))) rfl) ?_
                          refine d_nil ?_
                          refine c_region ?_
                          refine l_val rfl rfl rfl (r_move (v := .int .i64 x13_2) rfl) ?_
                          obtain ⟨t53, h_t53, H85⟩ := bnd_some H84; clear H84
                          refine l_val rfl rfl rfl (r_addG rfl rfl h_t53) ?_
                          refine l_val rfl rfl rfl (r_assign (v := .int .i64 t53) rfl) ?_
                          refine l_nil ?_
                          refine c_close ((val (gI (x11_6 + (val (gK (-9223372036854775808) 9223372036854775807 (val (gAt (val (R1_pixel a0 (val (gQuo x13_2 a1)) (val (gQuo x12_2 a2)))) x25_2))))))), t53) () m11 [0, 1, 2, 3] (by exact ⟨rfl, rfl, rfl, rfl, rfl, rfl, rfl, rfl, rfl, rfl, rfl, rfl, rfl, rfl, rfl, rfl, trivial⟩) (by decide) rfl (by exact ⟨(by subst hn11; exact H85), trivial⟩) (Nat.lt_succ_self _)
                          ) (by kernel_rfl)
                      · have H86 := cnd_f hb H77; clear H77
                        refine c_exit ?_
                        refine c_close x11_6 () 0 [0, 1, 2, 3] (by exact ⟨rfl, rfl, rfl, rfl, rfl, rfl, rfl, rfl, rfl, rfl, rfl, rfl, rfl, rfl, rfl, trivial⟩) (by decide) rfl (by exact ⟨H86, trivial⟩) (Nat.lt_succ_self _)
                    · rintro x11_4 _ gg H72 _
                      replace H72 : R1_Scaled_j10 x12_2 next9 x11_4 = some r := H72
                      refine c_tidyF [(1, .int .i64 a1), (2, .int .i64 a2), (3, .pointer (some ⟨b4, 0, none⟩)), (6, .pointer (some ⟨b5, 0, none⟩)), (7, .pointer (some ⟨b6, 0, none⟩)), (8, .int .i64 x18_2), (9, .int .i64 x22_2), (10, .int .i64 x25_2), (11, .int .i64 x11_4), (12, .int .i64 x12_2), (17, .int .i64 a2), (18, .int .i64 x18_2), (21, .int .i64 a1), (22, .int .i64 x22_2), (25, .int .i64 x25_2)] [cellsC b4 [.int .i64 a0.W, .int .i64 a0.H, v0_2] 97, cellsC b5 [.int .i64 0, .int .i64 0, .slice none 0 0] 97, cellsC b6 [.int .i64 a1, .int .i64 a2, .slice p_6.1 l_9.length p_6.2] 97, rowV 5 1 (.slice p_6.1 l_9.length p_6.2) l_9.length (l_9.map e_u8)] rfl rfl ?_
                      refine c_region ?_
                      refine l_val rfl rfl rfl (r_move (v := .int .i64 x12_2) rfl) ?_
                      obtain ⟨t40, h_t40, H73⟩ := bnd_some H72; clear H72
                      refine l_val rfl rfl rfl (r_addG rfl rfl h_t40) ?_
                      refine l_val rfl rfl rfl (r_assign (v := .int .i64 t40) rfl) ?_
                      refine l_nil ?_
                      refine c_close (x11_4, t40) () m9 [0, 1, 2, 3] (by exact ⟨rfl, rfl, rfl, rfl, rfl, rfl, rfl, rfl, rfl, rfl, rfl, rfl, rfl, rfl, rfl, trivial⟩) (by decide) rfl (by exact ⟨(by subst hn9; exact H73), trivial⟩) (Nat.lt_succ_self _)
                  · have H87 := cnd_f hb H70; clear H70
                    refine c_exit ?_
                    refine c_close x11_3 () 0 [0, 1, 2, 3] (by exact ⟨rfl, rfl, rfl, rfl, rfl, rfl, rfl, rfl, rfl, rfl, rfl, rfl, rfl, trivial⟩) (by decide) rfl (by exact ⟨H87, trivial⟩) (Nat.lt_succ_self _)
                · rintro x11 _ gg H59 _
                  replace H59 : R1_Scaled_j8 a0 x25_2 l_9 next6 x11 = some r := H59
                  refine c_tidyF [(1, .int .i64 a1), (2, .int .i64 a2), (3, .pointer (some ⟨b4, 0, none⟩)), (6, .pointer (some ⟨b5, 0, none⟩)), (7, .pointer (some ⟨b6, 0, none⟩)), (8, .int .i64 x18_2), (9, .int .i64 x22_2), (11, .int .i64 x11), (17, .int .i64 a2), (18, .int .i64 x18_2), (21, .int .i64 a1), (22, .int .i64 x22_2), (25, .int .i64 x25_2)] [cellsC b4 [.int .i64 a0.W, .int .i64 a0.H, v0_2] 97, cellsC b5 [.int .i64 0, .int .i64 0, .slice none 0 0] 97, cellsC b6 [.int .i64 a1, .int .i64 a2, .slice p_6.1 l_9.length p_6.2] 97, rowV 5 1 (.slice p_6.1 l_9.length p_6.2) l_9.length (l_9.map e_u8)] rfl rfl ?_
                  exact c_regionD (Kd.p :: Kd.d [2] _ :: Kd.p :: Kd.p :: Kd.p :: Kd.d [0] _ :: Kd.p :: Kd.d [0] _ :: Kd.p :: Kd.p :: Kd.p :: Kd.d [0] _ :: Kd.p :: Kd.p :: Kd.d [0] _ :: Kd.p :: Kd.p :: Kd.p :: Kd.ns 4 [_] 5 1 :: Kd.t 3 [4] _ _ :: Kd.p :: Kd.sv 88 87 2 _ 97 :: []) 1 mixed (by
                    refine d_val rfl rfl (r_field Try.runUnderlying97 rfl Try.sizeOf95 rfl rfl) ?_
                    refine d_load1 (i := 2) (v := .slice p_6.1 l_9.length p_6.2) Try.isAgg95 rfl rfl rfl rfl ?_
                    refine d_val rfl rfl (r_move (v := .int .i64 x11) rfl) ?_
                    have h_t71 := bnd_val H59
                    have H60 := bnd_rest H59
                    refine d_val rfl rfl (r_mulG rfl rfl h_t71) ?_
                    refine d_val rfl rfl (r_field Try.runUnderlying97 rfl Try.sizeOf3 rfl rfl) ?_
                    refine d_load1 (i := 0) (v := .int .i64 a0.W) Try.isAgg3 rfl rfl rfl rfl ?_
                    refine d_val rfl rfl (r_field Try.runUnderlying97 rfl Try.sizeOf3 rfl rfl) ?_
                    refine d_load1 (i := 0) (v := .int .i64 a0.H) Try.isAgg3 rfl rfl rfl rfl ?_
                    have h_t76 := bnd_val H60
                    have H61 := bnd_rest H60
                    refine d_val rfl rfl (r_mulG rfl rfl h_t76) ?_
                    have h_t77 := bnd_val H61
                    have H62 := bnd_rest H61
                    refine d_val rfl rfl (r_addG rfl rfl h_t77) ?_
                    refine d_val rfl rfl (r_field Try.runUnderlying97 rfl Try.sizeOf3 rfl rfl) ?_
                    refine d_load1 (i := 0) (v := .int .i64 a0.W) Try.isAgg3 rfl rfl rfl rfl ?_
                    have h_t80 := bnd_val H62
                    have H63 := bnd_rest H62
                    refine d_val rfl rfl (r_mulG rfl rfl h_t80) ?_
                    refine d_val rfl rfl (r_field Try.runUnderlying97 rfl Try.sizeOf3 rfl rfl) ?_
                    refine d_load1 (i := 0) (v := .int .i64 a0.H) Try.isAgg3 rfl rfl rfl rfl ?_
                    have h_t83 := bnd_val H63
                    have H64 := bnd_rest H63
                    refine d_val rfl rfl (r_mulG rfl rfl h_t83) ?_
                    have h_t84 := bnd_val H64
                    have H65 := bnd_rest H64
                    refine d_val rfl rfl (r_quoG rfl rfl h_t84) ?_
                    refine d_val rfl rfl (r_convG Try.runUnderlying3 Try.runUnderlying5 rfl (wr_u8 _)) ?_
                    refine d_newS rfl rfl (run_buildSlice (vs := [.int .u8 (wU8 (val (gQuo (val (gI ((val (gI (2 * x11))) + (val (gI (a0.W * a0.H)))))) (val (gI ((val (gI (2 * a0.W))) * a0.H))))))]) (cs := [.int .u8 (wU8 (val (gQuo (val (gI ((val (gI (2 * x11))) + (val (gI (a0.W * a0.H)))))) (val (gI ((val (gI (2 * a0.W))) * a0.H))))))]) Try.underlying95 Try.sizeOf5 Try.zeroValue5 rfl rfl rfl rfl rfl) rfl (fun b7 => ?_)
                    have h_l87 := bnd_val H65
                    have H66 := bnd_rest H65
                    refine d_turn (Cv := fun v => rowV 5 1 v (val (gApp 1 l_9 ([(wU8 (val (gQuo (val (gI ((val (gI (2 * x11))) + (val (gI (a0.W * a0.H)))))) (val (gI ((val (gI (2 * a0.W))) * a0.H))))))] : List Int))).length ((val (gApp 1 l_9 ([(wU8 (val (gQuo (val (gI ((val (gI (2 * x11))) + (val (gI (a0.W * a0.H)))))) (val (gI ((val (gI (2 * a0.W))) * a0.H))))))] : List Int))).map e_u8)) (none, 0) (turns_appG (i := 3) (hn := rfl) (rds := [4]) (p := p_6) (sz := 1) (by_ := 1) (f := e_u8) (ys := l_9) (ls := ([(wU8 (val (gQuo (val (gI ((val (gI (2 * x11))) + (val (gI (a0.W * a0.H)))))) (val (gI ((val (gI (2 * a0.W))) * a0.H))))))] : List Int)) (V := .slice (some ⟨b7, 0, none⟩) 1 1) Try.underlying95 (info_of Try.typeInfo5) rfl rfl rfl rfl rfl rfl rfl rfl rfl rfl (fun w L' hF hS hi => row_box (i := 4) hS ((hi 4 (by simp)).trans rfl) rfl rfl) (fun _ => rfl) (fun _ => rfl) h_l87) (fun _ => rfl) rfl rfl (fun p_8 => ?_)
                    refine d_val rfl rfl (r_field Try.runUnderlying97 rfl Try.sizeOf95 rfl rfl) ?_
                    refine d_storeV (i := 2) (vs := [.slice p_8.1 (val (gApp 1 l_9 ([(wU8 (val (gQuo (val (gI ((val (gI (2 * x11))) + (val (gI (a0.W * a0.H)))))) (val (gI ((val (gI (2 * a0.W))) * a0.H))))))] : List Int))).length p_8.2]) (cs' := fun v_ => [.int .i64 a1, .int .i64 a2, v_]) Try.sizeOf95 rfl rfl rfl rfl rfl rfl rfl rfl rfl ?_
                    refine d_nil ?_
                    refine c_close (val (gApp 1 l_9 ([(wU8 (val (gQuo (val (gI ((val (gI (2 * x11))) + (val (gI (a0.W * a0.H)))))) (val (gI ((val (gI (2 * a0.W))) * a0.H))))))] : List Int))) p_8 0 [0, 1, 2, 3] (by exact ⟨rfl, rfl, rfl, rfl, rfl, rfl, rfl, rfl, rfl, rfl, rfl, rfl, trivial⟩) (by decide) rfl (by exact ⟨H66, trivial⟩) (Nat.lt_succ_self _)
                    ) (by kernel_rfl)
              · rintro l_10 p_7 gg H57 _
                replace H57 : R1_Scaled_j7 x25_2 next6 l_10 = some r := H57
                refine c_tidyF [(1, .int .i64 a1), (2, .int .i64 a2), (3, .pointer (some ⟨b4, 0, none⟩)), (6, .pointer (some ⟨b5, 0, none⟩)), (7, .pointer (some ⟨b6, 0, none⟩)), (8, .int .i64 x18_2), (9, .int .i64 x22_2), (17, .int .i64 a2), (18, .int .i64 x18_2), (21, .int .i64 a1), (22, .int .i64 x22_2), (25, .int .i64 x25_2)] [cellsC b4 [.int .i64 a0.W, .int .i64 a0.H, v0_2] 97, cellsC b5 [.int .i64 0, .int .i64 0, .slice none 0 0] 97, cellsC b6 [.int .i64 a1, .int .i64 a2, .slice p_7.1 l_10.length p_7.2] 97, rowV 5 1 (.slice p_7.1 l_10.length p_7.2) l_10.length (l_10.map e_u8)] rfl rfl ?_
                refine c_region ?_
                obtain ⟨t89, h_t89, H58⟩ := bnd_some H57; clear H57
                refine l_val rfl rfl rfl (r_addG rfl rfl h_t89) ?_
                refine l_val rfl rfl rfl (r_move (v := .int .i64 t89) rfl) ?_
                refine l_nil ?_
                refine c_close (t89, l_10) p_7 m6 [0, 1, 2, 3] (by exact ⟨rfl, rfl, rfl, rfl, rfl, rfl, rfl, rfl, rfl, rfl, rfl, rfl, trivial⟩) (by decide) rfl (by exact ⟨(by subst hn6; exact H58), trivial⟩) (Nat.lt_succ_self _)
            · have H88 := cnd_f hb H55; clear H55
              refine c_exit ?_
              refine c_close l_9 p_6 0 [0, 1, 2, 3] (by exact ⟨rfl, rfl, rfl, rfl, rfl, rfl, rfl, rfl, rfl, rfl, trivial⟩) (by decide) rfl (by exact ⟨H88, trivial⟩) (Nat.lt_succ_self _)
          · rintro l_7 p_5 gg H53 _
            replace H53 : R1_Scaled_j5 x22_2 next4 l_7 = some r := H53
            refine c_tidyF [(1, .int .i64 a1), (2, .int .i64 a2), (3, .pointer (some ⟨b4, 0, none⟩)), (6, .pointer (some ⟨b5, 0, none⟩)), (7, .pointer (some ⟨b6, 0, none⟩)), (8, .int .i64 x18_2), (17, .int .i64 a2), (18, .int .i64 x18_2), (21, .int .i64 a1), (22, .int .i64 x22_2)] [cellsC b4 [.int .i64 a0.W, .int .i64 a0.H, v0_2] 97, cellsC b5 [.int .i64 0, .int .i64 0, .slice none 0 0] 97, cellsC b6 [.int .i64 a1, .int .i64 a2, .slice p_5.1 l_7.length p_5.2] 97, rowV 5 1 (.slice p_5.1 l_7.length p_5.2) l_7.length (l_7.map e_u8)] rfl rfl ?_
            refine c_region ?_
            obtain ⟨t90, h_t90, H54⟩ := bnd_some H53; clear H53
            refine l_val rfl rfl rfl (r_addG rfl rfl h_t90) ?_
            refine l_val rfl rfl rfl (r_move (v := .int .i64 t90) rfl) ?_
            refine l_nil ?_
            refine c_close (t90, l_7) p_5 m4 [0, 1, 2, 3] (by exact ⟨rfl, rfl, rfl, rfl, rfl, rfl, rfl, rfl, rfl, rfl, trivial⟩) (by decide) rfl (by exact ⟨(by subst hn4; exact H54), trivial⟩) (Nat.lt_succ_self _)
        · have H89 := cnd_f hb H51; clear H51
          refine c_exit ?_
          refine c_close l_6 p_4 0 [0, 1, 2, 3] (by exact ⟨rfl, rfl, rfl, rfl, rfl, rfl, rfl, trivial⟩) (by decide) rfl (by exact ⟨H89, trivial⟩) (Nat.lt_succ_self _)
      · rintro l_4 p_3 gg H49 _
        replace H49 : R1_Scaled_j3 x18_2 next2 l_4 = some r := H49
        refine c_tidyF [(1, .int .i64 a1), (2, .int .i64 a2), (3, .pointer (some ⟨b4, 0, none⟩)), (6, .pointer (some ⟨b5, 0, none⟩)), (7, .pointer (some ⟨b6, 0, none⟩)), (17, .int .i64 a2), (18, .int .i64 x18_2)] [cellsC b4 [.int .i64 a0.W, .int .i64 a0.H, v0_2] 97, cellsC b5 [.int .i64 0, .int .i64 0, .slice none 0 0] 97, cellsC b6 [.int .i64 a1, .int .i64 a2, .slice p_3.1 l_4.length p_3.2] 97, rowV 5 1 (.slice p_3.1 l_4.length p_3.2) l_4.length (l_4.map e_u8)] rfl rfl ?_
        refine c_region ?_
        obtain ⟨t91, h_t91, H50⟩ := bnd_some H49; clear H49
        refine l_val rfl rfl rfl (r_addG rfl rfl h_t91) ?_
        refine l_val rfl rfl rfl (r_move (v := .int .i64 t91) rfl) ?_
        refine l_nil ?_
        refine c_close (t91, l_4) p_3 m2 [0, 1, 2, 3] (by exact ⟨rfl, rfl, rfl, rfl, rfl, rfl, rfl, trivial⟩) (by decide) rfl (by exact ⟨(by subst hn2; exact H50), trivial⟩) (Nat.lt_succ_self _)
    · have H90 := cnd_f hb H47; clear H47
      refine c_exit ?_
      refine c_close l_3 p_2 0 [1, 2, 3] (by exact ⟨rfl, rfl, trivial⟩) (by decide) rfl (by exact ⟨H90, trivial⟩) (Nat.lt_succ_self _)
  · rintro l p gg H46 _
    replace H46 : R1_Scaled_j1 a1 a2 l = some r := H46
    refine c_tidyF [(6, .pointer (some ⟨b5, 0, none⟩)), (7, .pointer (some ⟨b6, 0, none⟩))] [cellsC b5 [.int .i64 0, .int .i64 0, .slice none 0 0] 97, cellsC b6 [.int .i64 a1, .int .i64 a2, .slice p.1 l.length p.2] 97, rowV 5 1 (.slice p.1 l.length p.2) l.length (l.map e_u8)] rfl rfl ?_
    refine c_seq ?_
    refine c_region ?_
    refine l_loadN (i := 1) (vs := [.int .i64 a1, .int .i64 a2, .slice p.1 l.length p.2]) Try.isAgg97 Try.sizeOf97 rfl rfl rfl rfl rfl ?_
    refine l_store (i := 0) (vs := [.int .i64 a1, .int .i64 a2, .slice p.1 l.length p.2]) (cs' := [.int .i64 a1, .int .i64 a2, .slice p.1 l.length p.2]) Try.sizeOf97 rfl rfl rfl rfl rfl rfl rfl rfl rfl ?_
    refine l_nil ?_
    refine c_ret ?_
    obtain rfl := Option.some.inj H46
    refine retC (i := 0) (vs := [.int .i64 a1, .int .i64 a2, .slice p.1 l.length p.2]) Try.isAgg97 Try.sizeOf97 rfl rfl rfl rfl (finX p (i := 2) rfl rfl (Imp.refl _))
theorem k130 {a0 : (List Int)} {v0 : Value} {r : (List Int)} {w : World} {h : Heap} (hw : Know h w noS) (f0 : FrS h 1 v0 (a0.map e_u8)) (H : slices_Clone_byte a0 = some r) : Does Try.prog 130 (List.toArray [v0]) w (fun v w' => ∃ x : (Option Addr × Nat), v = (.slice x.1 r.length x.2) ∧ Turn w w' noS (rowV 5 1 (.slice x.1 r.length x.2) r.length (r.map e_u8))) := by
  refine enter (n := 8) Try.func130 rfl rfl rfl noS [] (Sat.nil _ _) ?_
  refine c_seq ?_
  refine c_region ?_
  refine l_val rfl rfl rfl (r_assign (v := .slice none 0 0) rfl) ?_
  refine l_nil ?_
  refine c_seq ?_
  refine c_seq ?_
  refine c_region ?_
  refine l_val rfl rfl rfl (r_move (v := v0) rfl) ?_
  refine l_val rfl rfl rfl (r_eqlNilS Try.underlying95 f0 rfl rfl) ?_
  refine l_nil ?_
  refine c_if (b := isNilV v0) rfl (fun hb => ?_) (fun hb => ?_)
  · have hn_ : a0 = [] := f0.nilV hb
    have H3 : some ([] : List Int) = some r := by have h_ := H; rw [hn_] at h_; exact h_
    refine c_seq ?_
    refine c_region ?_
    refine l_val rfl rfl rfl (r_assign (v := .slice none 0 0) rfl) ?_
    refine l_nil ?_
    refine c_ret ?_
    refine c_nilRow 5 1 ?_
    obtain rfl := Option.some.inj H3
    refine ret1 (v := .slice ((none, 0) : Option Addr × Nat).1 ([] : List Int).length ((none, 0) : Option Addr × Nat).2) rfl rfl (finX ((none, 0) : Option Addr × Nat) (i := 0) rfl rfl (Imp.refl _))
  · skip
    refine c_skip ?_
    refine c_seq ?_
    refine c_region ?_
    refine l_buildSlice (vs := []) (cs := []) Try.underlying95 Try.sizeOf5 Try.zeroValue5 rfl rfl rfl rfl rfl rfl rfl (fun b1 => ?_)
    refine l_val rfl rfl rfl (r_move (v := v0) rfl) ?_
    refine c_imp 0 rfl (imp_box (m := 0) (E := 5) (sz := 1) (xs := (([] : List Int)).map e_u8) rfl rfl rfl ⟨rfl, by decide⟩) ?_
    obtain ⟨l7, h_l7, H4⟩ := bnd_some H; clear H
    refine l_turn (turns_appG (i := 0) (hn := rfl) (rds := []) (p := ((some ⟨b1, 0, none⟩, 0) : Option Addr × Nat)) (sz := 1) (by_ := 1) (f := e_u8) (ys := ([] : List Int)) (ls := a0) (V := v0) Try.underlying95 (info_of Try.typeInfo5) rfl rfl rfl rfl rfl rfl rfl rfl f0.eq (List.length_map _) (fun w L' hF hS hi => (f0).row (hw.now hF)) (fun _ => rfl) (fun _ => rfl) h_l7) rfl rfl rfl (fun p => ?_)
    refine l_val rfl rfl rfl (r_assign (v := .slice p.1 l7.length p.2) rfl) ?_
    refine l_nil ?_
    refine c_ret ?_
    obtain rfl := Option.some.inj H4
    refine ret1 (v := .slice p.1 l7.length p.2) rfl rfl (finX p (i := 0) rfl rfl (Imp.refl _))
theorem k63 {a0 : T_api_Image} {v0_2 : Value} {a1 : (List T_edit_Step)} {v1 : Value} {r : T_api_Image} {w : World} {h : Heap} (hw : Know h w noS) (f0_2 : FrS h 1 v0_2 (a0.Pixels.map e_u8)) (f1 : FrS h 5 v1 (a1.map e_edit_Step)) (H : R_Rendered a0 a1 = some r) : Does Try.prog 63 (List.toArray [.agg #[.int .i64 a0.W, .int .i64 a0.H, v0_2], v1]) w (fun v w' => ∃ x : (Option Addr × Nat), v = (.agg #[.int .i64 r.W, .int .i64 r.H, .slice x.1 r.Pixels.length x.2]) ∧ Turn w w' noS (roH h 1 (.slice x.1 r.Pixels.length x.2) r.Pixels.length (r.Pixels.map e_u8))) := by
  refine enter (n := 95) Try.func63 rfl rfl rfl noS [] (Sat.nil _ _) ?_
  refine c_seq ?_
  refine c_region ?_
  refine l_box (cs := [.int .i64 a0.W, .int .i64 a0.H, v0_2]) rfl rfl rfl rfl (fun b8 => ?_)
  refine l_alloc (cs := [.int .i64 0, .int .i64 0, .slice none 0 0]) Try.zeroValue97 rfl rfl rfl (fun b9 => ?_)
  refine l_nil ?_
  refine c_meet (r := r) (σ := Int × Int × (List Int)) (τ := (Option Addr × Nat) × Nat) (fun s => R_Rendered_j1 s.1 s.2.1 s.2.2) (fun s t => [(2, .pointer (some ⟨b8, 0, none⟩)), (4, .pointer (some ⟨b9, 0, none⟩))]) (fun s t => [cellsC b8 [.int .i64 s.1, .int .i64 s.2.1, .slice t.1.1 t.2 t.1.2] 97, cellsC b9 [.int .i64 0, .int .i64 0, .slice none 0 0] 97, roH h 1 (.slice t.1.1 t.2 t.1.2) t.2 (s.2.2.map e_u8)]) (fun s t => t.2 = s.2.2.length) ?_ ?_
  · refine c_seq ?_
    refine c_region ?_
    refine l_val rfl rfl rfl (r_move (v := v1) rfl) ?_
    refine l_val rfl rfl rfl (r_lenF Try.underlying61 rfl f1 rfl) ?_
    refine l_val rfl rfl rfl (r_move (v := .int .i64 0) rfl) ?_
    refine l_nil ?_
    refine c_block ?_
    obtain ⟨p_2, hp_⟩ := (f0_2).form; subst hp_
    refine c_frz f0_2 ?_
    refine c_fix (σ := Int × Int × Int × (List Int)) (τ := (Option Addr × Nat) × Nat) (fun next2 s => R_Rendered_l2 a1 next2 s.1 s.2.1 s.2.2.1 s.2.2.2) (fun s t => [(2, .pointer (some ⟨b8, 0, none⟩)), (4, .pointer (some ⟨b9, 0, none⟩)), (11, v1), (12, .int .i64 (a1.length : Int)), (13, .int .i64 s.1)]) (fun s t => [cellsC b8 [.int .i64 s.2.1, .int .i64 s.2.2.1, .slice t.1.1 t.2 t.1.2] 97, cellsC b9 [.int .i64 0, .int .i64 0, .slice none 0 0] 97, roH h 1 (.slice t.1.1 t.2 t.1.2) t.2 (s.2.2.2.map e_u8)]) (fun s t => t.2 = s.2.2.2.length) (0, a0.W, a0.H, a0.Pixels) (p_2, a0.Pixels.length) [0, 1, 2] H (by exact rfl) (by exact ⟨rfl, rfl, rfl, rfl, rfl, trivial⟩) (by decide) rfl ?_
    rintro ⟨x13_2, m_5, m_6, l_3⟩ ⟨p_3, n_2⟩ m2 gg H80 hl_3
    clear H
    replace H80 : R_Rendered_l2 a1 (it (fun next2 s => R_Rendered_l2 a1 next2 s.1 s.2.1 s.2.2.1 s.2.2.2) m2) x13_2 m_5 m_6 l_3 = some r := H80
    generalize hn2 : it (fun next2 s => R_Rendered_l2 a1 next2 s.1 s.2.1 s.2.2.1 s.2.2.2) m2 = next2 at H80
    refine c_tidyF [(2, .pointer (some ⟨b8, 0, none⟩)), (4, .pointer (some ⟨b9, 0, none⟩)), (11, v1), (12, .int .i64 (a1.length : Int)), (13, .int .i64 x13_2)] [cellsC b8 [.int .i64 m_5, .int .i64 m_6, .slice p_3.1 n_2 p_3.2] 97, cellsC b9 [.int .i64 0, .int .i64 0, .slice none 0 0] 97, roH h 1 (.slice p_3.1 n_2 p_3.2) n_2 (l_3.map e_u8)] rfl rfl ?_
    refine c_seq ?_
    refine c_region ?_
    refine l_val rfl rfl rfl (r_lss rfl rfl) ?_
    refine l_nil ?_
    refine c_seq ?_
    refine c_if (b := (decide (x13_2 < (a1.length : Int)))) rfl (fun hb => ?_) (fun hb => ?_)
    · have H81 := cnd_t hb H80; clear H80
      refine c_skip ?_
      refine c_meet (r := r) (σ := Int × Int × (List Int)) (τ := (Option Addr × Nat) × Nat) (fun s => R_Rendered_j3 x13_2 next2 s.1 s.2.1 s.2.2) (fun s t => [(2, .pointer (some ⟨b8, 0, none⟩)), (4, .pointer (some ⟨b9, 0, none⟩)), (11, v1), (12, .int .i64 (a1.length : Int)), (13, .int .i64 x13_2)]) (fun s t => [cellsC b8 [.int .i64 s.1, .int .i64 s.2.1, .slice t.1.1 t.2 t.1.2] 97, cellsC b9 [.int .i64 0, .int .i64 0, .slice none 0 0] 97, rowV 5 1 (.slice t.1.1 t.2 t.1.2) t.2 (s.2.2.map e_u8)]) (fun s t => t.2 = s.2.2.length) ?_ ?_
      · refine c_block ?_
        refine c_seq ?_
        refine c_region ?_
        obtain ⟨t15, h_t15, H84⟩ := bnd_some H81; clear H81
        refine l_val rfl rfl rfl (r_indexF Try.underlying61 Try.sizeOf69 rfl rfl f1 h_t15) ?_
        refine l_read (fun w hF hS => run_loadGN (f := e_edit_Step) (i := x13_2) (sz := 5) (j := 0) (vs := [.int .i64 t15.Kind, .int .i64 t15.A, .int .i64 t15.B, .int .i64 t15.C, .int .i64 t15.D]) Try.isAgg69 Try.sizeOf69 rfl rfl (f1.row (hw.now hF)) h_t15 rfl) rfl rfl rfl ?_
        refine l_alloc (cs := [.int .i64 0, .int .i64 0, .int .i64 0, .int .i64 0, .int .i64 0]) Try.zeroValue69 rfl rfl rfl (fun b10 => ?_)
        refine l_store (i := 3) (vs := [.int .i64 t15.Kind, .int .i64 t15.A, .int .i64 t15.B, .int .i64 t15.C, .int .i64 t15.D]) (cs' := [.int .i64 t15.Kind, .int .i64 t15.A, .int .i64 t15.B, .int .i64 t15.C, .int .i64 t15.D]) Try.sizeOf69 rfl rfl rfl rfl rfl rfl rfl rfl rfl ?_
        refine l_nil ?_
        refine c_seq ?_
        refine c_region ?_
        refine l_val rfl rfl rfl (r_field Try.runUnderlying69 rfl Try.sizeOf3 rfl rfl) ?_
        refine l_load1 (i := 3) (v := .int .i64 t15.Kind) Try.isAgg3 rfl rfl rfl rfl rfl ?_
        refine l_nil ?_
        refine c_block ?_
        refine c_seq ?_
        refine c_region ?_
        refine l_val rfl rfl rfl (r_eql rfl rfl) ?_
        refine l_val rfl rfl rfl (r_assign (v := .bool (decide (t15.Kind = 1))) rfl) ?_
        refine l_nil ?_
        refine c_if (b := (decide (t15.Kind = 1))) rfl (fun hb => ?_) (fun hb => ?_)
        · have H85 := cnd_t hb H84; clear H84
          refine c_region ?_
          refine l_loadN (i := 0) (vs := [.int .i64 m_5, .int .i64 m_6, .slice p_3.1 n_2 p_3.2]) Try.isAgg97 Try.sizeOf97 rfl rfl rfl rfl rfl ?_
          refine l_val rfl rfl rfl (r_field Try.runUnderlying69 rfl Try.sizeOf3 rfl rfl) ?_
          refine l_load1 (i := 3) (v := .int .i64 t15.A) Try.isAgg3 rfl rfl rfl rfl rfl ?_
          obtain ⟨t72, h_t72, H86⟩ := bnd_some H85; clear H85
          refine l_make (makes_call (rds := [2]) (G := fun x : (Option Addr × Nat) => .agg #[.int .i64 t72.W, .int .i64 t72.H, .slice x.1 t72.Pixels.length x.2]) (C := fun x : (Option Addr × Nat) => rowV 5 1 (.slice x.1 t72.Pixels.length x.2) t72.Pixels.length (t72.Pixels.map e_u8)) (fun w L' hF hS hi => k127 (know_all w) (frs_roh (i := 2) hS ((hi 2 (by simp)).trans rfl) (hw.now hF)) h_t72) Try.call127 rfl) rfl rfl rfl (fun p_5 => ?_)
          refine l_store (i := 0) (vs := [.int .i64 t72.W, .int .i64 t72.H, .slice p_5.1 t72.Pixels.length p_5.2]) (cs' := [.int .i64 t72.W, .int .i64 t72.H, .slice p_5.1 t72.Pixels.length p_5.2]) Try.sizeOf97 rfl rfl rfl rfl rfl rfl rfl rfl rfl ?_
          refine l_nil ?_
          refine c_close (t72.W, t72.H, t72.Pixels) (p_5, t72.Pixels.length) 0 [0, 1, 4] (by exact ⟨rfl, rfl, rfl, rfl, rfl, trivial⟩) (by decide) rfl (by exact ⟨H86, rfl⟩) (Nat.lt_succ_self _)
        · have H87 := cnd_f hb H84; clear H84
          refine c_seq ?_
          refine c_region ?_
          refine l_val rfl rfl rfl (r_eql rfl rfl) ?_
          refine l_val rfl rfl rfl (r_assign (v := .bool (decide (t15.Kind = 2))) rfl) ?_
          refine l_nil ?_
          refine c_if (b := (decide (t15.Kind = 2))) rfl (fun hb => ?_) (fun hb => ?_)
          · have H88 := cnd_t hb H87; clear H87
            refine c_region ?_
            refine l_loadN (i := 0) (vs := [.int .i64 m_5, .int .i64 m_6, .slice p_3.1 n_2 p_3.2]) Try.isAgg97 Try.sizeOf97 rfl rfl rfl rfl rfl ?_
            refine l_val rfl rfl rfl (r_field Try.runUnderlying69 rfl Try.sizeOf3 rfl rfl) ?_
            refine l_load1 (i := 3) (v := .int .i64 t15.A) Try.isAgg3 rfl rfl rfl rfl rfl ?_
            refine l_val rfl rfl rfl (r_field Try.runUnderlying69 rfl Try.sizeOf3 rfl rfl) ?_
            refine l_load1 (i := 3) (v := .int .i64 t15.B) Try.isAgg3 rfl rfl rfl rfl rfl ?_
            refine l_val rfl rfl rfl (r_field Try.runUnderlying69 rfl Try.sizeOf3 rfl rfl) ?_
            refine l_load1 (i := 3) (v := .int .i64 t15.C) Try.isAgg3 rfl rfl rfl rfl rfl ?_
            refine l_val rfl rfl rfl (r_field Try.runUnderlying69 rfl Try.sizeOf3 rfl rfl) ?_
            refine l_load1 (i := 3) (v := .int .i64 t15.D) Try.isAgg3 rfl rfl rfl rfl rfl ?_
            obtain ⟨t84, h_t84, H89⟩ := bnd_some H88; clear H88
            refine l_make (makes_call (rds := [2]) (G := fun x : (Option Addr × Nat) => .agg #[.int .i64 t84.W, .int .i64 t84.H, .slice x.1 t84.Pixels.length x.2]) (C := fun x : (Option Addr × Nat) => rowV 5 1 (.slice x.1 t84.Pixels.length x.2) t84.Pixels.length (t84.Pixels.map e_u8)) (fun w L' hF hS hi => k128 (know_all w) (frs_roh (i := 2) hS ((hi 2 (by simp)).trans rfl) (hw.now hF)) h_t84) Try.call128 rfl) rfl rfl rfl (fun p_6 => ?_)
            refine l_store (i := 0) (vs := [.int .i64 t84.W, .int .i64 t84.H, .slice p_6.1 t84.Pixels.length p_6.2]) (cs' := [.int .i64 t84.W, .int .i64 t84.H, .slice p_6.1 t84.Pixels.length p_6.2]) Try.sizeOf97 rfl rfl rfl rfl rfl rfl rfl rfl rfl ?_
            refine l_nil ?_
            refine c_close (t84.W, t84.H, t84.Pixels) (p_6, t84.Pixels.length) 0 [0, 1, 4] (by exact ⟨rfl, rfl, rfl, rfl, rfl, trivial⟩) (by decide) rfl (by exact ⟨H89, rfl⟩) (Nat.lt_succ_self _)
          · have H90 := cnd_f hb H87; clear H87
            refine c_seq ?_
            refine c_region ?_
            refine l_val rfl rfl rfl (r_eql rfl rfl) ?_
            refine l_val rfl rfl rfl (r_assign (v := .bool (decide (t15.Kind = 3))) rfl) ?_
            refine l_nil ?_
            refine c_if (b := (decide (t15.Kind = 3))) rfl (fun hb => ?_) (fun hb => ?_)
            · have H91 := cnd_t hb H90; clear H90
              refine c_region ?_
              refine l_loadN (i := 0) (vs := [.int .i64 m_5, .int .i64 m_6, .slice p_3.1 n_2 p_3.2]) Try.isAgg97 Try.sizeOf97 rfl rfl rfl rfl rfl ?_
              refine l_val rfl rfl rfl (r_field Try.runUnderlying69 rfl Try.sizeOf3 rfl rfl) ?_
              refine l_load1 (i := 3) (v := .int .i64 t15.A) Try.isAgg3 rfl rfl rfl rfl rfl ?_
              refine l_val rfl rfl rfl (r_field Try.runUnderlying69 rfl Try.sizeOf3 rfl rfl) ?_
              refine l_load1 (i := 3) (v := .int .i64 t15.B) Try.isAgg3 rfl rfl rfl rfl rfl ?_
              obtain ⟨t92, h_t92, H92⟩ := bnd_some H91; clear H91
              refine l_make (makes_call (rds := [2]) (G := fun x : (Option Addr × Nat) => .agg #[.int .i64 t92.W, .int .i64 t92.H, .slice x.1 t92.Pixels.length x.2]) (C := fun x : (Option Addr × Nat) => rowV 5 1 (.slice x.1 t92.Pixels.length x.2) t92.Pixels.length (t92.Pixels.map e_u8)) (fun w L' hF hS hi => k129 (know_all w) (frs_roh (i := 2) hS ((hi 2 (by simp)).trans rfl) (hw.now hF)) h_t92) Try.call129 rfl) rfl rfl rfl (fun p_7 => ?_)
              refine l_store (i := 0) (vs := [.int .i64 t92.W, .int .i64 t92.H, .slice p_7.1 t92.Pixels.length p_7.2]) (cs' := [.int .i64 t92.W, .int .i64 t92.H, .slice p_7.1 t92.Pixels.length p_7.2]) Try.sizeOf97 rfl rfl rfl rfl rfl rfl rfl rfl rfl ?_
              refine l_nil ?_
              refine c_close (t92.W, t92.H, t92.Pixels) (p_7, t92.Pixels.length) 0 [0, 1, 4] (by exact ⟨rfl, rfl, rfl, rfl, rfl, trivial⟩) (by decide) rfl (by exact ⟨H92, rfl⟩) (Nat.lt_succ_self _)
            · have H93 := cnd_f hb H90; clear H90
              refine c_seq ?_
              refine c_region ?_
              refine l_val rfl rfl rfl (r_field Try.runUnderlying97 rfl Try.sizeOf95 rfl rfl) ?_
              refine l_load1 (i := 0) (v := .slice p_3.1 n_2 p_3.2) Try.isAgg95 rfl rfl rfl rfl rfl ?_
              obtain ⟨t21, h_t21, H94⟩ := bnd_some H93; clear H93
              refine l_make (makes_call (rds := [2]) (G := fun x : (Option Addr × Nat) => .slice x.1 t21.length x.2) (C := fun x : (Option Addr × Nat) => rowV 5 1 (.slice x.1 t21.length x.2) t21.length (t21.map e_u8)) (fun w L' hF hS hi => k130 (know_all w) (frs_roh (i := 2) hS ((hi 2 (by simp)).trans rfl) (hw.now hF)) h_t21) Try.call130 rfl) rfl rfl rfl (fun p_8 => ?_)
              refine l_val rfl rfl rfl (r_field Try.runUnderlying97 rfl Try.sizeOf95 rfl rfl) ?_
              refine l_store (i := 0) (vs := [.slice p_8.1 t21.length p_8.2]) (cs' := [.int .i64 m_5, .int .i64 m_6, .slice p_8.1 t21.length p_8.2]) Try.sizeOf95 rfl rfl rfl rfl rfl rfl rfl rfl rfl ?_
              refine l_nil ?_
              refine c_seq ?_
              refine c_region ?_
              refine l_val rfl rfl rfl (r_assign (v := .int .i64 0) rfl) ?_
              refine l_nil ?_
              refine c_block ?_
              refine c_sel [0, 1, 3, 4] [cellsC b8 [.int .i64 m_5, .int .i64 m_6, .slice p_8.1 t21.length p_8.2] 97, cellsC b9 [.int .i64 0, .int .i64 0, .slice none 0 0] 97, cellsC b10 [.int .i64 t15.Kind, .int .i64 t15.A, .int .i64 t15.B, .int .i64 t15.C, .int .i64 t15.D] 69, rowV 5 1 (.slice p_8.1 t21.length p_8.2) t21.length (t21.map e_u8)] rfl (by decide) ?_
              refine c_fix (σ := Int × (List Int)) (τ := Unit) (fun next4 s => R_Rendered_l4 x13_2 m_5 m_6 next2 t15 next4 s.1 s.2) (fun s t => [(2, .pointer (some ⟨b8, 0, none⟩)), (4, .pointer (some ⟨b9, 0, none⟩)), (6, .pointer (some ⟨b10, 0, none⟩)), (7, .int .i64 s.1), (11, v1), (12, .int .i64 (a1.length : Int)), (13, .int .i64 x13_2)]) (fun s t => [cellsC b8 [.int .i64 m_5, .int .i64 m_6, .slice p_8.1 t21.length p_8.2] 97, cellsC b9 [.int .i64 0, .int .i64 0, .slice none 0 0] 97, cellsC b10 [.int .i64 t15.Kind, .int .i64 t15.A, .int .i64 t15.B, .int .i64 t15.C, .int .i64 t15.D] 69, rowV 5 1 (.slice p_8.1 t21.length p_8.2) t21.length (s.2.map e_u8)]) (fun s t => t21.length = s.2.length) (0, t21) () [0, 1, 2, 3] H94 (by exact rfl) (by exact ⟨rfl, rfl, rfl, rfl, rfl, rfl, rfl, trivial⟩) (by decide) rfl ?_
              rintro ⟨x7_2, l_6⟩ _ m4 gg H95 hl_6
              clear H94
              replace H95 : R_Rendered_l4 x13_2 m_5 m_6 next2 t15 (it (fun next4 s => R_Rendered_l4 x13_2 m_5 m_6 next2 t15 next4 s.1 s.2) m4) x7_2 l_6 = some r := H95
              generalize hn4 : it (fun next4 s => R_Rendered_l4 x13_2 m_5 m_6 next2 t15 next4 s.1 s.2) m4 = next4 at H95
              refine c_tidyF [(2, .pointer (some ⟨b8, 0, none⟩)), (4, .pointer (some ⟨b9, 0, none⟩)), (6, .pointer (some ⟨b10, 0, none⟩)), (7, .int .i64 x7_2), (11, v1), (12, .int .i64 (a1.length : Int)), (13, .int .i64 x13_2)] [cellsC b8 [.int .i64 m_5, .int .i64 m_6, .slice p_8.1 t21.length p_8.2] 97, cellsC b9 [.int .i64 0, .int .i64 0, .slice none 0 0] 97, cellsC b10 [.int .i64 t15.Kind, .int .i64 t15.A, .int .i64 t15.B, .int .i64 t15.C, .int .i64 t15.D] 69, rowV 5 1 (.slice p_8.1 t21.length p_8.2) t21.length (l_6.map e_u8)] rfl rfl ?_
              refine c_seq ?_
              refine c_seq ?_
              refine c_region ?_
              refine l_val rfl rfl rfl (r_move (v := .int .i64 x7_2) rfl) ?_
              refine l_val rfl rfl rfl (r_field Try.runUnderlying97 rfl Try.sizeOf95 rfl rfl) ?_
              refine l_load1 (i := 0) (v := .slice p_8.1 t21.length p_8.2) Try.isAgg95 rfl rfl rfl rfl rfl ?_
              refine l_val rfl rfl rfl (r_lenN Try.underlying95 rfl hl_6) ?_
              refine l_val rfl rfl rfl (r_lss rfl rfl) ?_
              refine l_nil ?_
              refine c_if (b := (decide (x7_2 < (l_6.length : Int)))) rfl (fun hb => ?_) (fun hb => ?_)
              · have H96 := cnd_t hb H95; clear H95
                refine c_skip ?_
                refine c_meet (r := r) (σ := (List Int)) (τ := Unit) (fun s => R_Rendered_j5 x7_2 next4 s) (fun s t => [(2, .pointer (some ⟨b8, 0, none⟩)), (4, .pointer (some ⟨b9, 0, none⟩)), (6, .pointer (some ⟨b10, 0, none⟩)), (7, .int .i64 x7_2), (11, v1), (12, .int .i64 (a1.length : Int)), (13, .int .i64 x13_2)]) (fun s t => [cellsC b8 [.int .i64 m_5, .int .i64 m_6, .slice p_8.1 t21.length p_8.2] 97, cellsC b9 [.int .i64 0, .int .i64 0, .slice none 0 0] 97, cellsC b10 [.int .i64 t15.Kind, .int .i64 t15.A, .int .i64 t15.B, .int .i64 t15.C, .int .i64 t15.D] 69, rowV 5 1 (.slice p_8.1 t21.length p_8.2) t21.length (s.map e_u8)]) (fun s t => t21.length = s.length) ?_ ?_
                · refine c_block ?_
                  refine c_seq ?_
                  exact c_regionD (Kd.d [2] _ :: Kd.p :: Kd.d [0] _ :: Kd.p :: Kd.d [3] _ :: Kd.d [3] _ :: Kd.p :: Kd.p :: Kd.d [0] _ :: Kd.p :: Kd.p :: Kd.d [3] _ :: Kd.d [3] _ :: Kd.p :: Kd.p :: Kd.d [0] _ :: Kd.p :: Kd.p :: Kd.d [3] _ :: Kd.d [3] _ :: Kd.p :: Kd.p :: Kd.d [] _ :: Kd.nw 4 [_, _, _] 90 :: Kd.st 8 4 [_, _, _] 90 :: []) 1 mixed (by
                    refine d_loadN (i := 2) (vs := [.int .i64 t15.Kind, .int .i64 t15.A, .int .i64 t15.B, .int .i64 t15.C, .int .i64 t15.D]) Try.isAgg69 Try.sizeOf69 rfl rfl rfl rfl ?_
                    refine d_val rfl rfl (r_field Try.runUnderlying97 rfl Try.sizeOf95 rfl rfl) ?_
                    refine d_load1 (i := 0) (v := .slice p_8.1 t21.length p_8.2) Try.isAgg95 rfl rfl rfl rfl ?_
                    refine d_val rfl rfl (r_move (v := .int .i64 x7_2) rfl) ?_
                    have h_t34 := bnd_val H96
                    have H99 := bnd_rest H96
                    refine d_readD (fun w L' hF hS hi => run_indexO Try.underlying95 Try.sizeOf5 rfl rfl (rowOf (i := 3) hS ((hi 3 (by simp)).trans rfl)) hl_6 h_t34) rfl rfl ?_
                    refine d_readD (fun w L' hF hS hi => run_loadG1 (f := e_u8) (i := x7_2) (sz := 1) (j := 0) (v := .int .u8 (val (gAt l_6 x7_2))) Try.isAgg5 rfl rfl (rowOf (i := 3) hS ((hi 3 (by simp)).trans rfl)) h_t34 rfl) rfl rfl ?_
                    have h_t36 := bnd_val H99
                    have H100 := bnd_rest H99
                    refine d_val rfl rfl (r_convG Try.runUnderlying5 Try.runUnderlying3 rfl (gK_i64 h_t36)) ?_
                    refine d_val rfl rfl (r_field Try.runUnderlying97 rfl Try.sizeOf95 rfl rfl) ?_
                    refine d_load1 (i := 0) (v := .slice p_8.1 t21.length p_8.2) Try.isAgg95 rfl rfl rfl rfl ?_
                    refine d_val rfl rfl (r_move (v := .int .i64 x7_2) rfl) ?_
                    have h_t40 := bnd_val H100
                    have H101 := bnd_rest H100
                    refine d_val rfl rfl (r_addG rfl rfl h_t40) ?_
                    have h_t41 := bnd_val H101
                    have H102 := bnd_rest H101
                    refine d_readD (fun w L' hF hS hi => run_indexO Try.underlying95 Try.sizeOf5 rfl rfl (rowOf (i := 3) hS ((hi 3 (by simp)).trans rfl)) hl_6 h_t41) rfl rfl ?_
                    refine d_readD (fun w L' hF hS hi => run_loadG1 (f := e_u8) (i := (val (gI (x7_2 + 1)))) (sz := 1) (j := 0) (v := .int .u8 (val (gAt l_6 (val (gI (x7_2 + 1)))))) Try.isAgg5 rfl rfl (rowOf (i := 3) hS ((hi 3 (by simp)).trans rfl)) h_t41 rfl) rfl rfl ?_
                    have h_t43 := bnd_val H102
                    have H103 := bnd_rest H102
                    refine d_val rfl rfl (r_convG Try.runUnderlying5 Try.runUnderlying3 rfl (gK_i64 h_t43)) ?_
                    refine d_val rfl rfl (r_field Try.runUnderlying97 rfl Try.sizeOf95 rfl rfl) ?_
                    refine d_load1 (i := 0) (v := .slice p_8.1 t21.length p_8.2) Try.isAgg95 rfl rfl rfl rfl ?_
                    refine d_val rfl rfl (r_move (v := .int .i64 x7_2) rfl) ?_
                    have h_t47 := bnd_val H103
                    have H104 := bnd_rest H103
                    refine d_val rfl rfl (r_addG rfl rfl h_t47) ?_
                    have h_t48 := bnd_val H104
                    have H105 := bnd_rest H104
                    refine d_readD (fun w L' hF hS hi => run_indexO Try.underlying95 Try.sizeOf5 rfl rfl (rowOf (i := 3) hS ((hi 3 (by simp)).trans rfl)) hl_6 h_t48) rfl rfl ?_
                    refine d_readD (fun w L' hF hS hi => run_loadG1 (f := e_u8) (i := (val (gI (x7_2 + 2)))) (sz := 1) (j := 0) (v := .int .u8 (val (gAt l_6 (val (gI (x7_2 + 2)))))) Try.isAgg5 rfl rfl (rowOf (i := 3) hS ((hi 3 (by simp)).trans rfl)) h_t48 rfl) rfl rfl ?_
                    have h_t50 := bnd_val H105
                    have H106 := bnd_rest H105
                    refine d_val rfl rfl (r_convG Try.runUnderlying5 Try.runUnderlying3 rfl (gK_i64 h_t50)) ?_
                    refine d_val rfl rfl (r_buildA (ps := [(0, .int .i64 (val (gK (-9223372036854775808) 9223372036854775807 (val (gAt l_6 x7_2))))), (1, .int .i64 (val (gK (-9223372036854775808) 9223372036854775807 (val (gAt l_6 (val (gI (x7_2 + 1)))))))), (2, .int .i64 (val (gK (-9223372036854775808) 9223372036854775807 (val (gAt l_6 (val (gI (x7_2 + 2))))))))]) (cells := #[.int .i64 (val (gK (-9223372036854775808) 9223372036854775807 (val (gAt l_6 x7_2)))), .int .i64 (val (gK (-9223372036854775808) 9223372036854775807 (val (gAt l_6 (val (gI (x7_2 + 1))))))), .int .i64 (val (gK (-9223372036854775808) 9223372036854775807 (val (gAt l_6 (val (gI (x7_2 + 2)))))))]) Try.zeroValue90 Try.runUnderlying90 Try.sizeOf3 rfl rfl) ?_
                    have h_t52 := bnd_val H106
                    have H107 := bnd_rest H106
                    refine d_call (k56 h_t52) Try.call56 rfl rfl ?_
                    refine d_new rfl rfl (run_alloc (cs := [.int .i64 0, .int .i64 0, .int .i64 0]) Try.zeroValue90 rfl) rfl (fun b11 => ?_)
                    refine d_store (i := 4) (vs := [.int .i64 ((val (R_Dot t15 (ofL [(val (gK (-9223372036854775808) 9223372036854775807 (val (gAt l_6 x7_2)))), (val (gK (-9223372036854775808) 9223372036854775807 (val (gAt l_6 (val (gI (x7_2 + 1))))))), (val (gK (-9223372036854775808) 9223372036854775807 (val (gAt l_6 (val (gI (x7_2 + 2)))))))]))) 0), .int .i64 ((val (R_Dot t15 (ofL [(val (gK (-9223372036854775808) 9223372036854775807 (val (gAt l_6 x7_2)))), (val (gK (-9223372036854775808) 9223372036854775807 (val (gAt l_6 (val (gI (x7_2 + 1))))))), (val (gK (-9223372036854775808) 9223372036854775807 (val (gAt l_6 (val (gI (x7_2 + 2)))))))]))) 1), .int .i64 ((val (R_Dot t15 (ofL [(val (gK (-9223372036854775808) 9223372036854775807 (val (gAt l_6 x7_2)))), (val (gK (-9223372036854775808) 9223372036854775807 (val (gAt l_6 (val (gI (x7_2 + 1))))))), (val (gK (-9223372036854775808) 9223372036854775807 (val (gAt l_6 (val (gI (x7_2 + 2)))))))]))) 2)]) (cs' := [.int .i64 ((val (R_Dot t15 (ofL [(val (gK (-9223372036854775808) 9223372036854775807 (val (gAt l_6 x7_2)))), (val (gK (-9223372036854775808) 9223372036854775807 (val (gAt l_6 (val (gI (x7_2 + 1))))))), (val (gK (-9223372036854775808) 9223372036854775807 (val (gAt l_6 (val (gI (x7_2 + 2)))))))]))) 0), .int .i64 ((val (R_Dot t15 (ofL [(val (gK (-9223372036854775808) 9223372036854775807 (val (gAt l_6 x7_2)))), (val (gK (-9223372036854775808) 9223372036854775807 (val (gAt l_6 (val (gI (x7_2 + 1))))))), (val (gK (-9223372036854775808) 9223372036854775807 (val (gAt l_6 (val (gI (x7_2 + 2)))))))]))) 1), .int .i64 ((val (R_Dot t15 (ofL [(val (gK (-9223372036854775808) 9223372036854775807 (val (gAt l_6 x7_2)))), (val (gK (-9223372036854775808) 9223372036854775807 (val (gAt l_6 (val (gI (x7_2 + 1))))))), (val (gK (-9223372036854775808) 9223372036854775807 (val (gAt l_6 (val (gI (x7_2 + 2)))))))]))) 2)]) Try.sizeOf90 rfl rfl rfl rfl rfl rfl rfl rfl rfl ?_
                    refine d_nil ?_
                    refine c_seq ?_
                    refine c_region ?_
                    refine l_loadN (i := 4) (vs := [.int .i64 ((val (R_Dot t15 (ofL [(val (gK (-9223372036854775808) 9223372036854775807 (val (gAt l_6 x7_2)))), (val (gK (-9223372036854775808) 9223372036854775807 (val (gAt l_6 (val (gI (x7_2 + 1))))))), (val (gK (-9223372036854775808) 9223372036854775807 (val (gAt l_6 (val (gI (x7_2 + 2)))))))]))) 0), .int .i64 ((val (R_Dot t15 (ofL [(val (gK (-9223372036854775808) 9223372036854775807 (val (gAt l_6 x7_2)))), (val (gK (-9223372036854775808) 9223372036854775807 (val (gAt l_6 (val (gI (x7_2 + 1))))))), (val (gK (-9223372036854775808) 9223372036854775807 (val (gAt l_6 (val (gI (x7_2 + 2)))))))]))) 1), .int .i64 ((val (R_Dot t15 (ofL [(val (gK (-9223372036854775808) 9223372036854775807 (val (gAt l_6 x7_2)))), (val (gK (-9223372036854775808) 9223372036854775807 (val (gAt l_6 (val (gI (x7_2 + 1))))))), (val (gK (-9223372036854775808) 9223372036854775807 (val (gAt l_6 (val (gI (x7_2 + 2)))))))]))) 2)]) Try.isAgg90 Try.sizeOf90 rfl rfl rfl rfl rfl ?_
                    refine l_val rfl rfl rfl (r_move (v := .int .i64 0) rfl) ?_
                    refine l_nil ?_
                    refine c_block ?_
                    refine c_sel [0, 1, 2, 3] [cellsC b8 [.int .i64 m_5, .int .i64 m_6, .slice p_8.1 t21.length p_8.2] 97, cellsC b9 [.int .i64 0, .int .i64 0, .slice none 0 0] 97, cellsC b10 [.int .i64 t15.Kind, .int .i64 t15.A, .int .i64 t15.B, .int .i64 t15.C, .int .i64 t15.D] 69, rowV 5 1 (.slice p_8.1 t21.length p_8.2) t21.length (l_6.map e_u8)] rfl (by decide) ?_
                    refine c_fix (σ := Int × (List Int)) (τ := Unit) (fun next6 s => R_Rendered_l6 x7_2 next4 (val (R_Dot t15 (ofL [(val (gK (-9223372036854775808) 9223372036854775807 (val (gAt l_6 x7_2)))), (val (gK (-9223372036854775808) 9223372036854775807 (val (gAt l_6 (val (gI (x7_2 + 1))))))), (val (gK (-9223372036854775808) 9223372036854775807 (val (gAt l_6 (val (gI (x7_2 + 2)))))))]))) next6 s.1 s.2) (fun s t => [(2, .pointer (some ⟨b8, 0, none⟩)), (4, .pointer (some ⟨b9, 0, none⟩)), (6, .pointer (some ⟨b10, 0, none⟩)), (7, .int .i64 x7_2), (11, v1), (12, .int .i64 (a1.length : Int)), (13, .int .i64 x13_2), (53, .agg #[.int .i64 ((val (R_Dot t15 (ofL [(val (gK (-9223372036854775808) 9223372036854775807 (val (gAt l_6 x7_2)))), (val (gK (-9223372036854775808) 9223372036854775807 (val (gAt l_6 (val (gI (x7_2 + 1))))))), (val (gK (-9223372036854775808) 9223372036854775807 (val (gAt l_6 (val (gI (x7_2 + 2)))))))]))) 0), .int .i64 ((val (R_Dot t15 (ofL [(val (gK (-9223372036854775808) 9223372036854775807 (val (gAt l_6 x7_2)))), (val (gK (-9223372036854775808) 9223372036854775807 (val (gAt l_6 (val (gI (x7_2 + 1))))))), (val (gK (-9223372036854775808) 9223372036854775807 (val (gAt l_6 (val (gI (x7_2 + 2)))))))]))) 1), .int .i64 ((val (R_Dot t15 (ofL [(val (gK (-9223372036854775808) 9223372036854775807 (val (gAt l_6 x7_2)))), (val (gK (-9223372036854775808) 9223372036854775807 (val (gAt l_6 (val (gI (x7_2 + 1))))))), (val (gK (-9223372036854775808) 9223372036854775807 (val (gAt l_6 (val (gI (x7_2 + 2)))))))]))) 2)]), (54, .int .i64 s.1)]) (fun s t => [cellsC b8 [.int .i64 m_5, .int .i64 m_6, .slice p_8.1 t21.length p_8.2] 97, cellsC b9 [.int .i64 0, .int .i64 0, .slice none 0 0] 97, cellsC b10 [.int .i64 t15.Kind, .int .i64 t15.A, .int .i64 t15.B, .int .i64 t15.C, .int .i64 t15.D] 69, rowV 5 1 (.slice p_8.1 t21.length p_8.2) t21.length (s.2.map e_u8)]) (fun s t => t21.length = s.2.length) (0, l_6) () [0, 1, 2, 3] H107 (by exact hl_6) (by exact ⟨rfl, rfl, rfl, rfl, rfl, rfl, rfl, rfl, rfl, trivial⟩) (by decide) rfl ?_
                    rintro ⟨x54_2, l_9⟩ _ m6 gg H108 hl_9
                    clear H107
                    replace H108 : R_Rendered_l6 x7_2 next4 (val (R_Dot t15 (ofL [(val (gK (-9223372036854775808) 9223372036854775807 (val (gAt l_6 x7_2)))), (val (gK (-9223372036854775808) 9223372036854775807 (val (gAt l_6 (val (gI (x7_2 + 1))))))), (val (gK (-9223372036854775808) 9223372036854775807 (val (gAt l_6 (val (gI (x7_2 + 2)))))))]))) (it (fun next6 s => R_Rendered_l6 x7_2 next4 (val (R_Dot t15 (ofL [(val (gK (-9223372036854775808) 9223372036854775807 (val (gAt l_6 x7_2)))), (val (gK (-9223372036854775808) 9223372036854775807 (val (gAt l_6 (val (gI (x7_2 + 1))))))), (val (gK (-9223372036854775808) 9223372036854775807 (val (gAt l_6 (val (gI (x7_2 + 2)))))))]))) next6 s.1 s.2) m6) x54_2 l_9 = some r := H108
                    generalize hn6 : it (fun next6 s => R_Rendered_l6 x7_2 next4 (val (R_Dot t15 (ofL [(val (gK (-9223372036854775808) 9223372036854775807 (val (gAt l_6 x7_2)))), (val (gK (-9223372036854775808) 9223372036854775807 (val (gAt l_6 (val (gI (x7_2 + 1))))))), (val (gK (-9223372036854775808) 9223372036854775807 (val (gAt l_6 (val (gI (x7_2 + 2)))))))]))) next6 s.1 s.2) m6 = next6 at H108
                    refine c_tidyF [(2, .pointer (some ⟨b8, 0, none⟩)), (4, .pointer (some ⟨b9, 0, none⟩)), (6, .pointer (some ⟨b10, 0, none⟩)), (7, .int .i64 x7_2), (11, v1), (12, .int .i64 (a1.length : Int)), (13, .int .i64 x13_2), (53, .agg #[.int .i64 ((val (R_Dot t15 (ofL [(val (gK (-9223372036854775808) 9223372036854775807 (val (gAt l_6 x7_2)))), (val (gK (-9223372036854775808) 9223372036854775807 (val (gAt l_6 (val (gI (x7_2 + 1))))))), (val (gK (-9223372036854775808) 9223372036854775807 (val (gAt l_6 (val (gI (x7_2 + 2)))))))]))) 0), .int .i64 ((val (R_Dot t15 (ofL [(val (gK (-9223372036854775808) 9223372036854775807 (val (gAt l_6 x7_2)))), (val (gK (-9223372036854775808) 9223372036854775807 (val (gAt l_6 (val (gI (x7_2 + 1))))))), (val (gK (-9223372036854775808) 9223372036854775807 (val (gAt l_6 (val (gI (x7_2 + 2)))))))]))) 1), .int .i64 ((val (R_Dot t15 (ofL [(val (gK (-9223372036854775808) 9223372036854775807 (val (gAt l_6 x7_2)))), (val (gK (-9223372036854775808) 9223372036854775807 (val (gAt l_6 (val (gI (x7_2 + 1))))))), (val (gK (-9223372036854775808) 9223372036854775807 (val (gAt l_6 (val (gI (x7_2 + 2)))))))]))) 2)]), (54, .int .i64 x54_2)] [cellsC b8 [.int .i64 m_5, .int .i64 m_6, .slice p_8.1 t21.length p_8.2] 97, cellsC b9 [.int .i64 0, .int .i64 0, .slice none 0 0] 97, cellsC b10 [.int .i64 t15.Kind, .int .i64 t15.A, .int .i64 t15.B, .int .i64 t15.C, .int .i64 t15.D] 69, rowV 5 1 (.slice p_8.1 t21.length p_8.2) t21.length (l_9.map e_u8)] rfl rfl ?_
                    refine c_seq ?_
                    refine c_region ?_
                    refine l_val rfl rfl rfl (r_lss rfl rfl) ?_
                    refine l_nil ?_
                    refine c_seq ?_
                    refine c_if (b := (decide (x54_2 < 3))) rfl (fun hb => ?_) (fun hb => ?_)
                    · have H109 := cnd_t hb H108; clear H108
                      refine c_skip ?_
                      refine c_seq ?_
                      refine c_block ?_
                      refine c_seq ?_
                      refine c_region ?_
                      refine l_val rfl rfl rfl (r_move (v := .int .i64 x54_2) rfl) ?_
                      obtain ⟨k57, h_k57, H110⟩ := bnd_some H109; clear H109
                      refine l_val rfl rfl rfl (r_indexAG (f := fun j_ => .int .i64 ((val (R_Dot t15 (ofL [(val (gK (-9223372036854775808) 9223372036854775807 (val (gAt l_6 x7_2)))), (val (gK (-9223372036854775808) 9223372036854775807 (val (gAt l_6 (val (gI (x7_2 + 1))))))), (val (gK (-9223372036854775808) 9223372036854775807 (val (gAt l_6 (val (gI (x7_2 + 2)))))))]))) j_)) Try.runUnderlying90 Try.isAgg3 Try.sizeOf3 rfl rfl rfl h_k57) ?_
                      refine l_val rfl rfl rfl (r_assign (v := .int .i64 x54_2) rfl) ?_
                      refine l_val rfl rfl rfl (r_assign (v := .int .i64 ((val (R_Dot t15 (ofL [(val (gK (-9223372036854775808) 9223372036854775807 (val (gAt l_6 x7_2)))), (val (gK (-9223372036854775808) 9223372036854775807 (val (gAt l_6 (val (gI (x7_2 + 1))))))), (val (gK (-9223372036854775808) 9223372036854775807 (val (gAt l_6 (val (gI (x7_2 + 2)))))))]))) k57)) rfl) ?_
                      refine l_nil ?_
                      refine c_region ?_
                      refine l_val rfl rfl rfl (r_field Try.runUnderlying97 rfl Try.sizeOf95 rfl rfl) ?_
                      refine l_load1 (i := 0) (v := .slice p_8.1 t21.length p_8.2) Try.isAgg95 rfl rfl rfl rfl rfl ?_
                      refine l_val rfl rfl rfl (r_move (v := .int .i64 x7_2) rfl) ?_
                      refine l_val rfl rfl rfl (r_move (v := .int .i64 x54_2) rfl) ?_
                      obtain ⟨t62, h_t62, H111⟩ := bnd_some H110; clear H110
                      refine l_val rfl rfl rfl (r_addG rfl rfl h_t62) ?_
                      refine l_val rfl rfl rfl (r_move (v := .int .i64 ((val (R_Dot t15 (ofL [(val (gK (-9223372036854775808) 9223372036854775807 (val (gAt l_6 x7_2)))), (val (gK (-9223372036854775808) 9223372036854775807 (val (gAt l_6 (val (gI (x7_2 + 1))))))), (val (gK (-9223372036854775808) 9223372036854775807 (val (gAt l_6 (val (gI (x7_2 + 2)))))))]))) k57)) rfl) ?_
                      refine l_val rfl rfl rfl (r_convG Try.runUnderlying3 Try.runUnderlying5 rfl (wr_u8 _)) ?_
                      obtain ⟨t65, h_t65, H112⟩ := bnd_some H111; clear H111
                      refine l_read (fun w hF hS => run_indexO Try.underlying95 Try.sizeOf5 rfl rfl (rowOf (i := 3) hS rfl) hl_9 h_t65) rfl rfl rfl ?_
                      obtain ⟨l3, h_l3, H113⟩ := bnd_some H112; clear H112
                      refine l_storeG (q := 3) (j := 0) (i := t62) (sz := 1) (hm := hl_9) (f := e_u8) (vs := [.int .u8 (wU8 ((val (R_Dot t15 (ofL [(val (gK (-9223372036854775808) 9223372036854775807 (val (gAt l_6 x7_2)))), (val (gK (-9223372036854775808) 9223372036854775807 (val (gAt l_6 (val (gI (x7_2 + 1))))))), (val (gK (-9223372036854775808) 9223372036854775807 (val (gAt l_6 (val (gI (x7_2 + 2)))))))]))) k57))]) Try.sizeOf5 rfl rfl rfl rfl rfl rfl rfl rfl rfl (fun y_ hy_ => by first | rfl | (cases hy_.symm.trans h_t65; rfl)) h_l3 ?_
                      refine l_nil ?_
                      refine c_region ?_
                      obtain ⟨t66, h_t66, H114⟩ := bnd_some H113; clear H113
                      refine l_val rfl rfl rfl (r_addG rfl rfl h_t66) ?_
                      refine l_val rfl rfl rfl (r_move (v := .int .i64 t66) rfl) ?_
                      refine l_nil ?_
                      refine c_close (t66, l3) () m6 [0, 1, 2, 3] (by exact ⟨rfl, rfl, rfl, rfl, rfl, rfl, rfl, rfl, rfl, trivial⟩) (by decide) rfl (by exact ⟨(by subst hn6; exact H114), (gSet_n hl_9 h_l3)⟩) (Nat.lt_succ_self _)
                    · have H115 := cnd_f hb H108; clear H108
                      refine c_exit ?_
                      refine c_close l_9 () 0 [0, 1, 2, 3] (by exact ⟨rfl, rfl, rfl, rfl, rfl, rfl, rfl, trivial⟩) (by decide) rfl (by exact ⟨H115, hl_9⟩) (Nat.lt_succ_self _)
                    ) (by kernel_rfl)
                · rintro l_7 _ gg H97 hl_7
                  replace H97 : R_Rendered_j5 x7_2 next4 l_7 = some r := H97
                  refine c_tidyF [(2, .pointer (some ⟨b8, 0, none⟩)), (4, .pointer (some ⟨b9, 0, none⟩)), (6, .pointer (some ⟨b10, 0, none⟩)), (7, .int .i64 x7_2), (11, v1), (12, .int .i64 (a1.length : Int)), (13, .int .i64 x13_2)] [cellsC b8 [.int .i64 m_5, .int .i64 m_6, .slice p_8.1 t21.length p_8.2] 97, cellsC b9 [.int .i64 0, .int .i64 0, .slice none 0 0] 97, cellsC b10 [.int .i64 t15.Kind, .int .i64 t15.A, .int .i64 t15.B, .int .i64 t15.C, .int .i64 t15.D] 69, rowV 5 1 (.slice p_8.1 t21.length p_8.2) t21.length (l_7.map e_u8)] rfl rfl ?_
                  refine c_region ?_
                  refine l_val rfl rfl rfl (r_move (v := .int .i64 x7_2) rfl) ?_
                  obtain ⟨t29, h_t29, H98⟩ := bnd_some H97; clear H97
                  refine l_val rfl rfl rfl (r_addG rfl rfl h_t29) ?_
                  refine l_val rfl rfl rfl (r_assign (v := .int .i64 t29) rfl) ?_
                  refine l_nil ?_
                  refine c_close (t29, l_7) () m4 [0, 1, 2, 3] (by exact ⟨rfl, rfl, rfl, rfl, rfl, rfl, rfl, trivial⟩) (by decide) rfl (by exact ⟨(by subst hn4; exact H98), hl_7⟩) (Nat.lt_succ_self _)
              · have H116 := cnd_f hb H95; clear H95
                refine c_exit ?_
                refine c_close (m_5, m_6, l_6) (p_8, t21.length) 0 [0, 1, 3] (by exact ⟨rfl, rfl, rfl, rfl, rfl, trivial⟩) (by decide) rfl (by exact ⟨H116, hl_6⟩) (Nat.lt_succ_self _)
      · rintro ⟨m_7, m_8, l_4⟩ ⟨p_4, n_3⟩ gg H82 hl_4
        replace H82 : R_Rendered_j3 x13_2 next2 m_7 m_8 l_4 = some r := H82
        refine c_tidyF [(2, .pointer (some ⟨b8, 0, none⟩)), (4, .pointer (some ⟨b9, 0, none⟩)), (11, v1), (12, .int .i64 (a1.length : Int)), (13, .int .i64 x13_2)] [cellsC b8 [.int .i64 m_7, .int .i64 m_8, .slice p_4.1 n_3 p_4.2] 97, cellsC b9 [.int .i64 0, .int .i64 0, .slice none 0 0] 97, rowV 5 1 (.slice p_4.1 n_3 p_4.2) n_3 (l_4.map e_u8)] rfl rfl ?_
        refine c_region ?_
        obtain ⟨t93, h_t93, H83⟩ := bnd_some H82; clear H82
        refine l_val rfl rfl rfl (r_addG rfl rfl h_t93) ?_
        refine l_val rfl rfl rfl (r_move (v := .int .i64 t93) rfl) ?_
        refine l_nil ?_
        refine c_imp 2 rfl (imp_rowH h _ _ _ _ _) ?_
        refine c_close (t93, m_7, m_8, l_4) (p_4, n_3) m2 [0, 1, 2] (by exact ⟨rfl, rfl, rfl, rfl, rfl, trivial⟩) (by decide) rfl (by exact ⟨(by subst hn2; exact H83), hl_4⟩) (Nat.lt_succ_self _)
    · have H117 := cnd_f hb H80; clear H80
      refine c_exit ?_
      refine c_close (m_5, m_6, l_3) (p_3, n_2) 0 [0, 1, 2] (by exact ⟨rfl, rfl, trivial⟩) (by decide) rfl (by exact ⟨H117, hl_3⟩) (Nat.lt_succ_self _)
  · rintro ⟨m, m_2, l⟩ ⟨p, n⟩ gg H79 hl
    replace H79 : R_Rendered_j1 m m_2 l = some r := H79
    refine c_tidyF [(2, .pointer (some ⟨b8, 0, none⟩)), (4, .pointer (some ⟨b9, 0, none⟩))] [cellsC b8 [.int .i64 m, .int .i64 m_2, .slice p.1 n p.2] 97, cellsC b9 [.int .i64 0, .int .i64 0, .slice none 0 0] 97, roH h 1 (.slice p.1 n p.2) n (l.map e_u8)] rfl rfl ?_
    refine c_seq ?_
    refine c_region ?_
    refine l_loadN (i := 0) (vs := [.int .i64 m, .int .i64 m_2, .slice p.1 n p.2]) Try.isAgg97 Try.sizeOf97 rfl rfl rfl rfl rfl ?_
    refine l_store (i := 1) (vs := [.int .i64 m, .int .i64 m_2, .slice p.1 n p.2]) (cs' := [.int .i64 m, .int .i64 m_2, .slice p.1 n p.2]) Try.sizeOf97 rfl rfl rfl rfl rfl rfl rfl rfl rfl ?_
    refine l_nil ?_
    refine c_ret ?_
    obtain rfl := Option.some.inj H79
    refine retC (i := 1) (vs := [.int .i64 m, .int .i64 m_2, .slice p.1 n p.2]) Try.isAgg97 Try.sizeOf97 rfl rfl rfl rfl (finX p (i := 2) rfl (by first | rfl | rw [(show n = l.length from hl)]) (Imp.of (by rw [(show n = l.length from hl)])))
theorem k131 {a0 : (List Int)} {v0 : Value} {a1 : (List Int)} {v1 : Value} {r : Bool} {w : World} {h : Heap} (hw : Know h w noS) (f0 : FrS h 1 v0 (a0.map e_u8)) (f1 : FrS h 1 v1 (a1.map e_u8)) (H : slices_Equal_byte a0 a1 = some r) : Does Try.prog 131 (List.toArray [v0, v1]) w (fun v w' => v = (.bool r) ∧ Grow w w') := by
  refine enter (n := 26) Try.func131 rfl rfl rfl noS [] (Sat.nil _ _) ?_
  refine c_seq ?_
  refine c_region ?_
  refine l_val rfl rfl rfl (r_assign (v := .bool false) rfl) ?_
  refine l_nil ?_
  refine c_seq ?_
  refine c_seq ?_
  refine c_region ?_
  refine l_val rfl rfl rfl (r_move (v := v0) rfl) ?_
  refine l_val rfl rfl rfl (r_lenF Try.underlying95 rfl f0 rfl) ?_
  refine l_val rfl rfl rfl (r_move (v := v1) rfl) ?_
  refine l_val rfl rfl rfl (r_lenF Try.underlying95 rfl f1 rfl) ?_
  refine l_val rfl rfl rfl (r_neq rfl rfl) ?_
  refine l_nil ?_
  refine c_if (b := (decide ((a0.length : Int) ≠ (a1.length : Int)))) rfl (fun hb => ?_) (fun hb => ?_)
  · have H11 := cnd_t hb H; clear H
    refine c_seq ?_
    refine c_region ?_
    refine l_val rfl rfl rfl (r_assign (v := .bool false) rfl) ?_
    refine l_nil ?_
    refine c_ret ?_
    obtain rfl := Option.some.inj H11
    refine ret1 (v := .bool false) rfl rfl (fin rfl)
  · have H12 := cnd_f hb H; clear H
    refine c_skip ?_
    refine c_seq ?_
    refine c_seq ?_
    refine c_region ?_
    refine l_val rfl rfl rfl (r_move (v := v0) rfl) ?_
    refine l_val rfl rfl rfl (r_lenF Try.underlying95 rfl f0 rfl) ?_
    refine l_val rfl rfl rfl (r_move (v := .int .i64 0) rfl) ?_
    refine l_nil ?_
    refine c_block ?_
    refine c_fix (σ := Int) (τ := Unit) (fun next1 s => slices_Equal_byte_l1 a0 a1 next1 s) (fun s t => [(0, v0), (1, v1), (12, .int .i64 (a0.length : Int)), (13, .int .i64 s)]) (fun s t => []) (fun s t => True) 0 () [] H12 (by exact trivial) (by exact ⟨rfl, rfl, rfl, rfl, trivial⟩) (by decide) rfl ?_
    rintro x13_2 _ m1 gg H13 _
    clear H12
    replace H13 : slices_Equal_byte_l1 a0 a1 (it (fun next1 s => slices_Equal_byte_l1 a0 a1 next1 s) m1) x13_2 = some r := H13
    generalize hn1 : it (fun next1 s => slices_Equal_byte_l1 a0 a1 next1 s) m1 = next1 at H13
    refine c_tidyF [(0, v0), (1, v1), (12, .int .i64 (a0.length : Int)), (13, .int .i64 x13_2)] [] rfl rfl ?_
    refine c_seq ?_
    refine c_region ?_
    refine l_val rfl rfl rfl (r_lss rfl rfl) ?_
    refine l_nil ?_
    refine c_seq ?_
    refine c_if (b := (decide (x13_2 < (a0.length : Int)))) rfl (fun hb => ?_) (fun hb => ?_)
    · have H14 := cnd_t hb H13; clear H13
      refine c_skip ?_
      refine c_seq ?_
      refine c_block ?_
      refine c_seq ?_
      refine c_region ?_
      refine l_val rfl rfl rfl (r_move (v := .int .i64 x13_2) rfl) ?_
      refine l_val rfl rfl rfl (r_assign (v := .int .i64 x13_2) rfl) ?_
      refine l_nil ?_
      refine c_seq ?_
      exact c_regionD (Kd.p :: Kd.p :: Kd.p :: Kd.d [] _ :: Kd.p :: Kd.p :: Kd.p :: Kd.d [] _ :: Kd.p :: []) 0 mixed (by
        refine d_val rfl rfl (r_move (v := v0) rfl) ?_
        refine d_val rfl rfl (r_move (v := .int .i64 x13_2) rfl) ?_
        have h_t18 := bnd_val H14
        have H15 := bnd_rest H14
        refine d_val rfl rfl (r_indexF Try.underlying95 Try.sizeOf5 rfl rfl f0 h_t18) ?_
        refine d_read (fun w hF => run_loadG1 (f := e_u8) (i := x13_2) (sz := 1) (j := 0) (v := .int .u8 (val (gAt a0 x13_2))) Try.isAgg5 rfl rfl (f0.row (hw.now hF)) h_t18 rfl) rfl rfl ?_
        refine d_val rfl rfl (r_move (v := v1) rfl) ?_
        refine d_val rfl rfl (r_move (v := .int .i64 x13_2) rfl) ?_
        have h_t22 := bnd_val H15
        have H16 := bnd_rest H15
        refine d_val rfl rfl (r_indexF Try.underlying95 Try.sizeOf5 rfl rfl f1 h_t22) ?_
        refine d_read (fun w hF => run_loadG1 (f := e_u8) (i := x13_2) (sz := 1) (j := 0) (v := .int .u8 (val (gAt a1 x13_2))) Try.isAgg5 rfl rfl (f1.row (hw.now hF)) h_t22 rfl) rfl rfl ?_
        refine d_val rfl rfl (r_neq rfl rfl) ?_
        refine d_nil ?_
        refine c_if (b := (decide ((val (gAt a0 x13_2)) ≠ (val (gAt a1 x13_2))))) rfl (fun hb => ?_) (fun hb => ?_)
        · have H17 := cnd_t hb H16; clear H16
          refine c_seq ?_
          refine c_region ?_
          refine l_val rfl rfl rfl (r_assign (v := .bool false) rfl) ?_
          refine l_nil ?_
          refine c_ret ?_
          obtain rfl := Option.some.inj H17
          refine ret1 (v := .bool false) rfl rfl (fin rfl)
        · have H18 := cnd_f hb H16; clear H16
          refine c_skip ?_
          refine c_region ?_
          obtain ⟨t25, h_t25, H19⟩ := bnd_some H18; clear H18
          refine l_val rfl rfl rfl (r_addG rfl rfl h_t25) ?_
          refine l_val rfl rfl rfl (r_move (v := .int .i64 t25) rfl) ?_
          refine l_nil ?_
          refine c_close t25 () m1 [] (by exact ⟨rfl, rfl, rfl, rfl, trivial⟩) (by decide) rfl (by exact ⟨(by subst hn1; exact H19), trivial⟩) (Nat.lt_succ_self _)
        ) (by kernel_rfl)
    · have H20 := cnd_f hb H13; clear H13
      refine c_exit ?_
      refine c_seq ?_
      refine c_region ?_
      refine l_val rfl rfl rfl (r_assign (v := .bool true) rfl) ?_
      refine l_nil ?_
      refine c_ret ?_
      obtain rfl := Option.some.inj H20
      refine ret1 (v := .bool true) rfl rfl (fin rfl)
theorem k64 {a0 : T_api_Image} {v0_2 : Value} {a1 : T_api_Image} {v1_2 : Value} {r : Bool} {w : World} {h : Heap} (hw : Know h w noS) (f0_2 : FrS h 1 v0_2 (a0.Pixels.map e_u8)) (f1_2 : FrS h 1 v1_2 (a1.Pixels.map e_u8)) (H : R1_SameImage a0 a1 = some r) : Does Try.prog 64 (List.toArray [.agg #[.int .i64 a0.W, .int .i64 a0.H, v0_2], .agg #[.int .i64 a1.W, .int .i64 a1.H, v1_2]]) w (fun v w' => v = (.bool r) ∧ Grow w w') := by
  refine enter (n := 24) Try.func64 rfl rfl rfl noS [] (Sat.nil _ _) ?_
  refine c_seq ?_
  refine c_region ?_
  refine l_box (cs := [.int .i64 a0.W, .int .i64 a0.H, v0_2]) rfl rfl rfl rfl (fun b2 => ?_)
  refine l_box (cs := [.int .i64 a1.W, .int .i64 a1.H, v1_2]) rfl rfl rfl rfl (fun b3 => ?_)
  refine l_val rfl rfl rfl (r_assign (v := .bool false) rfl) ?_
  refine l_nil ?_
  refine c_seq ?_
  refine c_region ?_
  refine l_val rfl rfl rfl (r_field Try.runUnderlying97 rfl Try.sizeOf3 rfl rfl) ?_
  refine l_load1 (i := 0) (v := .int .i64 a0.W) Try.isAgg3 rfl rfl rfl rfl rfl ?_
  refine l_val rfl rfl rfl (r_field Try.runUnderlying97 rfl Try.sizeOf3 rfl rfl) ?_
  refine l_load1 (i := 1) (v := .int .i64 a1.W) Try.isAgg3 rfl rfl rfl rfl rfl ?_
  refine l_val rfl rfl rfl (r_eql rfl rfl) ?_
  refine l_val rfl rfl rfl (r_move (v := .bool (decide (a0.W = a1.W))) rfl) ?_
  refine split (fun hb => ?_) (fun hb => ?_)
  · have H6 := cnd_t hb H; clear H
    refine l_val rfl rfl rfl (r_field Try.runUnderlying97 rfl Try.sizeOf3 rfl rfl) ?_
    refine l_load1 (i := 0) (v := .int .i64 a0.H) Try.isAgg3 rfl rfl rfl rfl rfl ?_
    refine l_val rfl rfl rfl (r_field Try.runUnderlying97 rfl Try.sizeOf3 rfl rfl) ?_
    refine l_load1 (i := 1) (v := .int .i64 a1.H) Try.isAgg3 rfl rfl rfl rfl rfl ?_
    refine l_val rfl rfl rfl (r_eql rfl rfl) ?_
    refine l_val rfl rfl rfl (r_pickT (v := .bool (decide (a0.H = a1.H))) rfl rfl) ?_
    refine l_val rfl rfl rfl (r_move (v := .bool (decide (a0.H = a1.H))) rfl) ?_
    refine split (fun hb => ?_) (fun hb => ?_)
    · have H7 := cnd_t hb H6; clear H6
      refine l_val rfl rfl rfl (r_field Try.runUnderlying97 rfl Try.sizeOf95 rfl rfl) ?_
      refine l_load1 (i := 0) (v := v0_2) Try.isAgg95 rfl rfl rfl rfl rfl ?_
      refine l_val rfl rfl rfl (r_field Try.runUnderlying97 rfl Try.sizeOf95 rfl rfl) ?_
      refine l_load1 (i := 1) (v := v1_2) Try.isAgg95 rfl rfl rfl rfl rfl ?_
      obtain ⟨t22, h_t22, H8⟩ := bnd_some H7; clear H7
      refine l_callG (fun w hF hS => k131 (know_all w) (f0_2.mono (hw.now hF)) (f1_2.mono (hw.now hF)) h_t22) Try.call131 rfl rfl rfl ?_
      refine l_val rfl rfl rfl (r_pickT (v := .bool t22) rfl rfl) ?_
      refine l_val rfl rfl rfl (r_assign (v := .bool t22) rfl) ?_
      refine l_nil ?_
      refine c_ret ?_
      obtain rfl := Option.some.inj H8
      refine ret1 (v := .bool t22) rfl rfl (fin rfl)
    · have H9 := cnd_f hb H6; clear H6
      refine l_passed rfl rfl rfl ?_
      refine l_passed rfl rfl rfl ?_
      refine l_passed rfl rfl rfl ?_
      refine l_passed rfl rfl rfl ?_
      refine l_passed rfl rfl rfl ?_
      refine l_val rfl rfl rfl (r_pickF (v := .bool false) rfl rfl) ?_
      refine l_val rfl rfl rfl (r_assign (v := .bool false) rfl) ?_
      refine l_nil ?_
      refine c_ret ?_
      obtain rfl := Option.some.inj H9
      refine ret1 (v := .bool false) rfl rfl (fin rfl)
  · have H10 := cnd_f hb H; clear H
    refine l_passed rfl rfl rfl ?_
    refine l_passed rfl rfl rfl ?_
    refine l_passed rfl rfl rfl ?_
    refine l_passed rfl rfl rfl ?_
    refine l_passed rfl rfl rfl ?_
    refine l_val rfl rfl rfl (r_pickF (v := .bool false) rfl rfl) ?_
    refine l_val rfl rfl rfl (r_move (v := .bool false) rfl) ?_
    refine l_passed rfl rfl rfl ?_
    refine l_passed rfl rfl rfl ?_
    refine l_passed rfl rfl rfl ?_
    refine l_passed rfl rfl rfl ?_
    refine l_passed rfl rfl rfl ?_
    refine l_val rfl rfl rfl (r_pickF (v := .bool false) rfl rfl) ?_
    refine l_val rfl rfl rfl (r_assign (v := .bool false) rfl) ?_
    refine l_nil ?_
    refine c_ret ?_
    obtain rfl := Option.some.inj H10
    refine ret1 (v := .bool false) rfl rfl (fin rfl)
theorem k9 {a0 : T_api_Image} {v0_2 : Value} {a1 : (List T_edit_Step)} {v1 : Value} {a2 : Int} {a3 : Int} {r : Bool} {w : World} {h : Heap} (hw : Know h w noS) (f0_2 : FrS h 1 v0_2 (a0.Pixels.map e_u8)) (f1 : FrS h 5 v1 (a1.map e_edit_Step)) (H : Law_EditRenders a0 a1 a2 a3 = some r) : Does Try.prog 9 (List.toArray [.agg #[.int .i64 a0.W, .int .i64 a0.H, v0_2], v1, .int .i64 a2, .int .i64 a3]) w (fun v w' => v = (.bool r) ∧ Grow w w') := by
  refine enter (n := 87) Try.func9 rfl rfl rfl noS [] (Sat.nil _ _) ?_
  refine c_seq ?_
  refine c_region ?_
  refine l_box (cs := [.int .i64 a0.W, .int .i64 a0.H, v0_2]) rfl rfl rfl rfl (fun b4 => ?_)
  refine l_val rfl rfl rfl (r_assign (v := .bool false) rfl) ?_
  refine l_nil ?_
  refine c_seq ?_
  refine c_region ?_
  refine l_val rfl rfl rfl (r_move (v := v1) rfl) ?_
  refine l_val rfl rfl rfl (r_move (v := .int .i64 a2) rfl) ?_
  refine l_val rfl rfl rfl (r_move (v := .int .i64 a3) rfl) ?_
  obtain ⟨t21, h_t21, H28⟩ := bnd_some H; clear H
  refine l_callG (fun w hF hS => k59 (know_all w) (f1.mono (hw.now hF)) h_t21) Try.call59 rfl rfl rfl ?_
  refine l_val rfl rfl rfl (r_move (v := .tuple #[.int .i64 t21.1, .int .i64 t21.2.1, .int .i64 t21.2.2]) rfl) ?_
  refine l_val rfl rfl rfl (r_extract (v := .int .i64 t21.1) rfl rfl) ?_
  refine l_val rfl rfl rfl (r_extract (v := .int .i64 t21.2.1) rfl rfl) ?_
  refine l_val rfl rfl rfl (r_extract (v := .int .i64 t21.2.2) rfl rfl) ?_
  refine l_val rfl rfl rfl (r_assign (v := .int .i64 t21.1) rfl) ?_
  refine l_val rfl rfl rfl (r_assign (v := .int .i64 t21.2.1) rfl) ?_
  refine l_val rfl rfl rfl (r_assign (v := .int .i64 t21.2.2) rfl) ?_
  refine l_nil ?_
  refine c_seq ?_
  refine c_region ?_
  refine l_val rfl rfl rfl (r_move (v := v1) rfl) ?_
  obtain ⟨t26, h_t26, H29⟩ := bnd_some H28; clear H28
  refine l_callG (fun w hF hS => k39 (know_all w) (f1.mono (hw.now hF)) h_t26) Try.call39 rfl rfl rfl ?_
  refine l_val rfl rfl rfl (r_assign (v := .int .i64 t26) rfl) ?_
  refine l_nil ?_
  refine c_seq ?_
  refine c_region ?_
  refine l_val rfl rfl rfl (r_assign (v := .int .i64 0) rfl) ?_
  refine l_val rfl rfl rfl (r_assign (v := .int .i64 0) rfl) ?_
  refine l_nil ?_
  refine c_meet (r := r) (σ := Int × Int × Int) (τ := Unit) (fun s => Law_EditRenders_j1 a0 a1 t21 s.1 s.2.1 s.2.2) (fun s t => [(1, v1), (4, .pointer (some ⟨b4, 0, none⟩)), (9, .int .i64 t21.1), (10, .int .i64 t21.2.1), (11, .int .i64 t21.2.2), (12, .int .i64 s.1), (13, .int .i64 s.2.1), (14, .int .i64 s.2.2)]) (fun s t => [cellsC b4 [.int .i64 a0.W, .int .i64 a0.H, v0_2] 97]) (fun s t => True) ?_ ?_
  · refine c_seq ?_
    refine c_region ?_
    refine l_val rfl rfl rfl (r_move (v := .int .i64 t26) rfl) ?_
    refine l_val rfl rfl rfl (r_eql rfl rfl) ?_
    refine l_nil ?_
    refine c_if (b := (decide (t26 = 0))) rfl (fun hb => ?_) (fun hb => ?_)
    · have H52 := cnd_t hb H29; clear H29
      refine c_region ?_
      refine l_val rfl rfl rfl (r_move (v := v1) rfl) ?_
      refine l_val rfl rfl rfl (r_move (v := .int .i64 a2) rfl) ?_
      refine l_val rfl rfl rfl (r_move (v := .int .i64 a3) rfl) ?_
      obtain ⟨t33, h_t33, H53⟩ := bnd_some H52; clear H52
      refine l_callG (fun w hF hS => k60 (know_all w) (f1.mono (hw.now hF)) h_t33) Try.call60 rfl rfl rfl ?_
      refine l_val rfl rfl rfl (r_move (v := .tuple #[.int .i64 t33.1, .int .i64 t33.2.1, .int .i64 t33.2.2]) rfl) ?_
      refine l_val rfl rfl rfl (r_extract (v := .int .i64 t33.1) rfl rfl) ?_
      refine l_val rfl rfl rfl (r_extract (v := .int .i64 t33.2.1) rfl rfl) ?_
      refine l_val rfl rfl rfl (r_extract (v := .int .i64 t33.2.2) rfl rfl) ?_
      refine l_val rfl rfl rfl (r_assign (v := .int .i64 t33.1) rfl) ?_
      refine l_val rfl rfl rfl (r_assign (v := .int .i64 t33.2.1) rfl) ?_
      refine l_val rfl rfl rfl (r_assign (v := .int .i64 t33.2.2) rfl) ?_
      refine l_nil ?_
      refine c_close (t33.2.2, t33.1, t33.2.1) () 0 [0] (by exact ⟨rfl, rfl, rfl, rfl, rfl, rfl, rfl, rfl, trivial⟩) (by decide) rfl (by exact ⟨H53, trivial⟩) (Nat.lt_succ_self _)
    · have H54 := cnd_f hb H29; clear H29
      refine c_skip ?_
      refine c_close (t26, 0, 0) () 0 [0] (by exact ⟨rfl, rfl, rfl, rfl, rfl, rfl, rfl, rfl, trivial⟩) (by decide) rfl (by exact ⟨H54, trivial⟩) (Nat.lt_succ_self _)
  · rintro ⟨x12, x13, x14⟩ _ gg H30 _
    replace H30 : Law_EditRenders_j1 a0 a1 t21 x12 x13 x14 = some r := H30
    refine c_tidyF [(1, v1), (4, .pointer (some ⟨b4, 0, none⟩)), (9, .int .i64 t21.1), (10, .int .i64 t21.2.1), (11, .int .i64 t21.2.2), (12, .int .i64 x12), (13, .int .i64 x13), (14, .int .i64 x14)] [cellsC b4 [.int .i64 a0.W, .int .i64 a0.H, v0_2] 97] rfl rfl ?_
    refine c_seq ?_
    refine c_seq ?_
    refine c_region ?_
    refine l_val rfl rfl rfl (r_move (v := .int .i64 t21.1) rfl) ?_
    refine l_val rfl rfl rfl (r_move (v := .int .i64 x13) rfl) ?_
    refine l_val rfl rfl rfl (r_neq rfl rfl) ?_
    refine l_val rfl rfl rfl (r_move (v := .bool (decide (t21.1 ≠ x13))) rfl) ?_
    refine split (fun hb => ?_) (fun hb => ?_)
    · have H31 := cnd_t hb H30; clear H30
      refine l_passed rfl rfl rfl ?_
      refine l_passed rfl rfl rfl ?_
      refine l_passed rfl rfl rfl ?_
      refine l_val rfl rfl rfl (r_pickT (v := .bool true) rfl rfl) ?_
      refine l_val rfl rfl rfl (r_move (v := .bool true) rfl) ?_
      refine l_passed rfl rfl rfl ?_
      refine l_passed rfl rfl rfl ?_
      refine l_passed rfl rfl rfl ?_
      refine l_val rfl rfl rfl (r_pickT (v := .bool true) rfl rfl) ?_
      refine l_nil ?_
      refine c_true rfl ?_
      refine c_seq ?_
      refine c_region ?_
      refine l_val rfl rfl rfl (r_assign (v := .bool false) rfl) ?_
      refine l_nil ?_
      refine c_ret ?_
      obtain rfl := Option.some.inj H31
      refine ret1 (v := .bool false) rfl rfl (fin rfl)
    · have H32 := cnd_f hb H30; clear H30
      refine l_val rfl rfl rfl (r_move (v := .int .i64 t21.2.1) rfl) ?_
      refine l_val rfl rfl rfl (r_move (v := .int .i64 x14) rfl) ?_
      refine l_val rfl rfl rfl (r_neq rfl rfl) ?_
      refine l_val rfl rfl rfl (r_pickF (v := .bool (decide (t21.2.1 ≠ x14))) rfl rfl) ?_
      refine l_val rfl rfl rfl (r_move (v := .bool (decide (t21.2.1 ≠ x14))) rfl) ?_
      refine split (fun hb => ?_) (fun hb => ?_)
      · have H33 := cnd_t hb H32; clear H32
        refine l_passed rfl rfl rfl ?_
        refine l_passed rfl rfl rfl ?_
        refine l_passed rfl rfl rfl ?_
        refine l_val rfl rfl rfl (r_pickT (v := .bool true) rfl rfl) ?_
        refine l_nil ?_
        refine c_true rfl ?_
        refine c_seq ?_
        refine c_region ?_
        refine l_val rfl rfl rfl (r_assign (v := .bool false) rfl) ?_
        refine l_nil ?_
        refine c_ret ?_
        obtain rfl := Option.some.inj H33
        refine ret1 (v := .bool false) rfl rfl (fin rfl)
      · have H34 := cnd_f hb H32; clear H32
        refine l_val rfl rfl rfl (r_move (v := .int .i64 t21.2.2) rfl) ?_
        refine l_val rfl rfl rfl (r_move (v := .int .i64 x12) rfl) ?_
        refine l_val rfl rfl rfl (r_neq rfl rfl) ?_
        refine l_val rfl rfl rfl (r_pickF (v := .bool (decide (t21.2.2 ≠ x12))) rfl rfl) ?_
        refine l_nil ?_
        refine c_if (b := (decide (t21.2.2 ≠ x12))) rfl (fun hb => ?_) (fun hb => ?_)
        · have H35 := cnd_t hb H34; clear H34
          refine c_seq ?_
          refine c_region ?_
          refine l_val rfl rfl rfl (r_assign (v := .bool false) rfl) ?_
          refine l_nil ?_
          refine c_ret ?_
          obtain rfl := Option.some.inj H35
          refine ret1 (v := .bool false) rfl rfl (fin rfl)
        · have H36 := cnd_f hb H34; clear H34
          refine c_skip ?_
          refine c_seq ?_
          refine c_region ?_
          refine l_loadN (i := 0) (vs := [.int .i64 a0.W, .int .i64 a0.H, v0_2]) Try.isAgg97 Try.sizeOf97 rfl rfl rfl rfl rfl ?_
          refine l_val rfl rfl rfl (r_move (v := v1) rfl) ?_
          obtain ⟨t53, h_t53, H37⟩ := bnd_some H36; clear H36
          refine l_make (makes_call (rds := []) (G := fun x : (Option Addr × Nat) => .tuple #[.agg #[.int .i64 t53.1.W, .int .i64 t53.1.H, .slice x.1 t53.1.Pixels.length x.2], .int .i64 t53.2]) (C := fun x : (Option Addr × Nat) => rowV 5 1 (.slice x.1 t53.1.Pixels.length x.2) t53.1.Pixels.length (t53.1.Pixels.map e_u8)) (fun w L' hF hS hi => k61 (know_all w) (f0_2.mono (hw.now hF)) (f1.mono (hw.now hF)) h_t53) Try.call61 rfl) rfl rfl rfl (fun p => ?_)
          refine l_val rfl rfl rfl (r_move (v := .tuple #[.agg #[.int .i64 t53.1.W, .int .i64 t53.1.H, .slice p.1 t53.1.Pixels.length p.2], .int .i64 t53.2]) rfl) ?_
          refine l_val rfl rfl rfl (r_extract (v := .agg #[.int .i64 t53.1.W, .int .i64 t53.1.H, .slice p.1 t53.1.Pixels.length p.2]) rfl rfl) ?_
          refine l_val rfl rfl rfl (r_extract (v := .int .i64 t53.2) rfl rfl) ?_
          refine l_alloc (cs := [.int .i64 0, .int .i64 0, .slice none 0 0]) Try.zeroValue97 rfl rfl rfl (fun b5 => ?_)
          refine l_store (i := 2) (vs := [.int .i64 t53.1.W, .int .i64 t53.1.H, .slice p.1 t53.1.Pixels.length p.2]) (cs' := [.int .i64 t53.1.W, .int .i64 t53.1.H, .slice p.1 t53.1.Pixels.length p.2]) Try.sizeOf97 rfl rfl rfl rfl rfl rfl rfl rfl rfl ?_
          refine l_val rfl rfl rfl (r_assign (v := .int .i64 t53.2) rfl) ?_
          refine l_nil ?_
          refine c_seq ?_
          exact c_regionD (Kd.p :: Kd.d [] _ :: Kd.d [0] _ :: Kd.d [] _ :: Kd.ns 3 [_, _] 26 2 :: Kd.d [3] _ :: Kd.p :: []) 1 mixed (by
            refine d_val rfl rfl (r_move (v := v1) rfl) ?_
            have h_t57 := bnd_val H37
            have H38 := bnd_rest H37
            refine d_callD (fun w L' hF hS hi => k39 (know_all w) (f1.mono (hw.now hF)) h_t57) Try.call39 rfl rfl ?_
            refine d_loadN (i := 0) (vs := [.int .i64 a0.W, .int .i64 a0.H, v0_2]) Try.isAgg97 Try.sizeOf97 rfl rfl rfl rfl ?_
            have h_t59 := bnd_val H38
            have H39 := bnd_rest H38
            refine d_callD (fun w L' hF hS hi => k62 (know_all w) (f0_2.mono (hw.now hF)) h_t59) Try.call62 rfl rfl ?_
            refine d_newS rfl rfl (run_buildSlice (vs := [.int .i64 (val (R_StepsFault a1)), .int .i64 (val (R1_ImageError a0))]) (cs := [.int .i64 (val (R_StepsFault a1)), .int .i64 (val (R1_ImageError a0))]) Try.underlying128 Try.sizeOf26 Try.zeroValue26 rfl rfl rfl rfl rfl) rfl (fun b6 => ?_)
            have h_t61 := bnd_val H39
            have H40 := bnd_rest H39
            refine d_callD (fun w L' hF hS hi => k16 (know_all w) (frs_box (i := 3) (xs := ([(val (R_StepsFault a1)), (val (R1_ImageError a0))] : List Int)) (f := e_i64) hS ((hi 3 (by simp)).trans rfl) rfl rfl rfl rfl) h_t61) Try.call16 rfl rfl ?_
            refine d_val rfl rfl (r_assign (v := .int .i64 (val (Law_first ([(val (R_StepsFault a1)), (val (R1_ImageError a0))] : List Int)))) rfl) ?_
            refine d_nil ?_
            refine c_seq ?_
            refine c_region ?_
            refine l_alloc (cs := [.int .i64 0, .int .i64 0, .slice none 0 0]) Try.zeroValue97 rfl rfl rfl (fun b7 => ?_)
            refine l_nil ?_
            refine c_meet (r := r) (σ := Int) (τ := Unit) (fun s => Law_EditRenders_j2 a0 a1 t53 s) (fun s t => [(1, v1), (4, .pointer (some ⟨b4, 0, none⟩)), (11, .int .i64 t53.2), (12, .int .i64 s), (15, .pointer (some ⟨b5, 0, none⟩)), (16, .pointer (some ⟨b7, 0, none⟩))]) (fun s t => [cellsC b4 [.int .i64 a0.W, .int .i64 a0.H, v0_2] 97, rowV 5 1 (.slice p.1 t53.1.Pixels.length p.2) t53.1.Pixels.length (t53.1.Pixels.map e_u8), cellsC b5 [.int .i64 t53.1.W, .int .i64 t53.1.H, .slice p.1 t53.1.Pixels.length p.2] 97, cellsC b7 [.int .i64 0, .int .i64 0, .slice none 0 0] 97]) (fun s t => True) ?_ ?_
            · refine c_seq ?_
              refine c_region ?_
              refine l_val rfl rfl rfl (r_move (v := .int .i64 (val (Law_first ([(val (R_StepsFault a1)), (val (R1_ImageError a0))] : List Int)))) rfl) ?_
              refine l_val rfl rfl rfl (r_eql rfl rfl) ?_
              refine l_nil ?_
              refine c_if (b := (decide ((val (Law_first ([(val (R_StepsFault a1)), (val (R1_ImageError a0))] : List Int))) = 0))) rfl (fun hb => ?_) (fun hb => ?_)
              · have H49 := cnd_t hb H40; clear H40
                refine c_region ?_
                refine l_val rfl rfl rfl (r_move (v := v1) rfl) ?_
                refine l_val rfl rfl rfl (r_field Try.runUnderlying97 rfl Try.sizeOf3 rfl rfl) ?_
                refine l_load1 (i := 0) (v := .int .i64 a0.W) Try.isAgg3 rfl rfl rfl rfl rfl ?_
                refine l_val rfl rfl rfl (r_field Try.runUnderlying97 rfl Try.sizeOf3 rfl rfl) ?_
                refine l_load1 (i := 0) (v := .int .i64 a0.H) Try.isAgg3 rfl rfl rfl rfl rfl ?_
                obtain ⟨t70, h_t70, H50⟩ := bnd_some H49; clear H49
                refine l_callG (fun w hF hS => k60 (know_all w) (f1.mono (hw.now hF)) h_t70) Try.call60 rfl rfl rfl ?_
                refine l_val rfl rfl rfl (r_move (v := .tuple #[.int .i64 t70.1, .int .i64 t70.2.1, .int .i64 t70.2.2]) rfl) ?_
                refine l_val rfl rfl rfl (r_extract (v := .int .i64 t70.1) rfl rfl) ?_
                refine l_val rfl rfl rfl (r_extract (v := .int .i64 t70.2.1) rfl rfl) ?_
                refine l_val rfl rfl rfl (r_extract (v := .int .i64 t70.2.2) rfl rfl) ?_
                refine l_val rfl rfl rfl (r_assign (v := .int .i64 t70.2.2) rfl) ?_
                refine l_nil ?_
                refine c_close t70.2.2 () 0 [0, 1, 2, 4] (by exact ⟨rfl, rfl, rfl, rfl, rfl, rfl, trivial⟩) (by decide) rfl (by exact ⟨H50, trivial⟩) (Nat.lt_succ_self _)
              · have H51 := cnd_f hb H40; clear H40
                refine c_skip ?_
                refine c_close (val (Law_first ([(val (R_StepsFault a1)), (val (R1_ImageError a0))] : List Int))) () 0 [0, 1, 2, 4] (by exact ⟨rfl, rfl, rfl, rfl, rfl, rfl, trivial⟩) (by decide) rfl (by exact ⟨H51, trivial⟩) (Nat.lt_succ_self _)
            · rintro x12_2 _ gg H41 _
              replace H41 : Law_EditRenders_j2 a0 a1 t53 x12_2 = some r := H41
              refine c_tidyF [(1, v1), (4, .pointer (some ⟨b4, 0, none⟩)), (11, .int .i64 t53.2), (12, .int .i64 x12_2), (15, .pointer (some ⟨b5, 0, none⟩)), (16, .pointer (some ⟨b7, 0, none⟩))] [cellsC b4 [.int .i64 a0.W, .int .i64 a0.H, v0_2] 97, rowV 5 1 (.slice p.1 t53.1.Pixels.length p.2) t53.1.Pixels.length (t53.1.Pixels.map e_u8), cellsC b5 [.int .i64 t53.1.W, .int .i64 t53.1.H, .slice p.1 t53.1.Pixels.length p.2] 97, cellsC b7 [.int .i64 0, .int .i64 0, .slice none 0 0] 97] rfl rfl ?_
              refine c_meet (r := r) (σ := Int × Int × (List Int)) (τ := (Option Addr × Nat)) (fun s => Law_EditRenders_j3 t53 x12_2 s.1 s.2.1 s.2.2) (fun s t => [(11, .int .i64 t53.2), (12, .int .i64 x12_2), (15, .pointer (some ⟨b5, 0, none⟩)), (16, .pointer (some ⟨b7, 0, none⟩))]) (fun s t => [rowV 5 1 (.slice p.1 t53.1.Pixels.length p.2) t53.1.Pixels.length (t53.1.Pixels.map e_u8), cellsC b5 [.int .i64 t53.1.W, .int .i64 t53.1.H, .slice p.1 t53.1.Pixels.length p.2] 97, cellsC b7 [.int .i64 s.1, .int .i64 s.2.1, .slice t.1 s.2.2.length t.2] 97, roH h 1 (.slice t.1 s.2.2.length t.2) s.2.2.length (s.2.2.map e_u8)]) (fun s t => True) ?_ ?_
              · refine c_seq ?_
                refine c_region ?_
                refine l_val rfl rfl rfl (r_move (v := .int .i64 x12_2) rfl) ?_
                refine l_val rfl rfl rfl (r_eql rfl rfl) ?_
                refine l_nil ?_
                refine c_if (b := (decide (x12_2 = 0))) rfl (fun hb => ?_) (fun hb => ?_)
                · have H46 := cnd_t hb H41; clear H41
                  refine c_region ?_
                  refine l_loadN (i := 0) (vs := [.int .i64 a0.W, .int .i64 a0.H, v0_2]) Try.isAgg97 Try.sizeOf97 rfl rfl rfl rfl rfl ?_
                  refine l_val rfl rfl rfl (r_move (v := v1) rfl) ?_
                  obtain ⟨t78, h_t78, H47⟩ := bnd_some H46; clear H46
                  refine l_make (makes_call (rds := []) (G := fun x : (Option Addr × Nat) => .agg #[.int .i64 t78.W, .int .i64 t78.H, .slice x.1 t78.Pixels.length x.2]) (C := fun x : (Option Addr × Nat) => roH h 1 (.slice x.1 t78.Pixels.length x.2) t78.Pixels.length (t78.Pixels.map e_u8)) (fun w L' hF hS hi => k63 (h := h) (hw.at hF) f0_2 f1 h_t78) Try.call63 rfl) rfl rfl rfl (fun p_3 => ?_)
                  refine l_store (i := 3) (vs := [.int .i64 t78.W, .int .i64 t78.H, .slice p_3.1 t78.Pixels.length p_3.2]) (cs' := [.int .i64 t78.W, .int .i64 t78.H, .slice p_3.1 t78.Pixels.length p_3.2]) Try.sizeOf97 rfl rfl rfl rfl rfl rfl rfl rfl rfl ?_
                  refine l_nil ?_
                  refine c_close (t78.W, t78.H, t78.Pixels) p_3 0 [1, 2, 3, 4] (by exact ⟨rfl, rfl, rfl, rfl, trivial⟩) (by decide) rfl (by exact ⟨H47, trivial⟩) (Nat.lt_succ_self _)
                · have H48 := cnd_f hb H41; clear H41
                  refine c_skip ?_
                  refine c_nilRow 5 1 ?_
                  refine c_imp 4 rfl (imp_rowH h _ _ _ _ _) ?_
                  refine c_close (0, 0, ([] : List Int)) ((none, 0) : Option Addr × Nat) 0 [1, 2, 3, 4] (by exact ⟨rfl, rfl, rfl, rfl, trivial⟩) (by decide) rfl (by exact ⟨H48, trivial⟩) (Nat.lt_succ_self _)
              · rintro ⟨m, m_2, l⟩ p_2 gg H42 _
                replace H42 : Law_EditRenders_j3 t53 x12_2 m m_2 l = some r := H42
                refine c_tidyF [(11, .int .i64 t53.2), (12, .int .i64 x12_2), (15, .pointer (some ⟨b5, 0, none⟩)), (16, .pointer (some ⟨b7, 0, none⟩))] [rowV 5 1 (.slice p.1 t53.1.Pixels.length p.2) t53.1.Pixels.length (t53.1.Pixels.map e_u8), cellsC b5 [.int .i64 t53.1.W, .int .i64 t53.1.H, .slice p.1 t53.1.Pixels.length p.2] 97, cellsC b7 [.int .i64 m, .int .i64 m_2, .slice p_2.1 l.length p_2.2] 97, roH h 1 (.slice p_2.1 l.length p_2.2) l.length (l.map e_u8)] rfl rfl ?_
                refine c_seq ?_
                refine c_region ?_
                refine l_val rfl rfl rfl (r_move (v := .int .i64 t53.2) rfl) ?_
                refine l_val rfl rfl rfl (r_move (v := .int .i64 x12_2) rfl) ?_
                refine l_val rfl rfl rfl (r_eql rfl rfl) ?_
                refine l_val rfl rfl rfl (r_move (v := .bool (decide (t53.2 = x12_2))) rfl) ?_
                refine split (fun hb => ?_) (fun hb => ?_)
                · have H43 := cnd_t hb H42; clear H42
                  refine l_loadN (i := 1) (vs := [.int .i64 t53.1.W, .int .i64 t53.1.H, .slice p.1 t53.1.Pixels.length p.2]) Try.isAgg97 Try.sizeOf97 rfl rfl rfl rfl rfl ?_
                  refine l_loadN (i := 2) (vs := [.int .i64 m, .int .i64 m_2, .slice p_2.1 l.length p_2.2]) Try.isAgg97 Try.sizeOf97 rfl rfl rfl rfl rfl ?_
                  obtain ⟨t85, h_t85, H44⟩ := bnd_some H43; clear H43
                  refine l_callG (fun w hF hS => k64 (know_all w) (frs_own (i := 0) rfl hS rfl) (frs_roh (i := 3) hS rfl (hw.now hF)) h_t85) Try.call64 rfl rfl rfl ?_
                  refine l_val rfl rfl rfl (r_pickT (v := .bool t85) rfl rfl) ?_
                  refine l_val rfl rfl rfl (r_assign (v := .bool t85) rfl) ?_
                  refine l_nil ?_
                  refine c_ret ?_
                  obtain rfl := Option.some.inj H44
                  refine ret1 (v := .bool t85) rfl rfl (fin rfl)
                · have H45 := cnd_f hb H42; clear H42
                  refine l_passed rfl rfl rfl ?_
                  refine l_passed rfl rfl rfl ?_
                  refine l_passed rfl rfl rfl ?_
                  refine l_val rfl rfl rfl (r_pickF (v := .bool false) rfl rfl) ?_
                  refine l_val rfl rfl rfl (r_assign (v := .bool false) rfl) ?_
                  refine l_nil ?_
                  refine c_ret ?_
                  obtain rfl := Option.some.inj H45
                  refine ret1 (v := .bool false) rfl rfl (fin rfl)
            ) (by kernel_rfl)
end Go.Proofs.Ytngogocmhmfbjaa
