/- FaceSplits: the walks, printed by our generator; each follows its model. Conditions: the model yields a value. -/
import Derived.Test.YthhaabhnlndnoaaGreatKCb
namespace Go.Proofs.YthhaabhnlndnoaaGreat
open Go Go.Vc Go.Md Go.M Go.Lx
set_option maxRecDepth 100000
set_option maxHeartbeats 4000000
set_option linter.unusedVariables false

theorem k70 {a0 : (List (Nat → Int))} {v0 : Value} {r : Int} {w : World} {h : Heap} (hw : Know h w noS) (f0 : FrS h 12 v0 (a0.map e_face_Vec)) (H : face_checkVecs a0 = some r) : Does Tryz.prog 70 (List.toArray [v0]) w (fun v w' => v = (.int .i64 r) ∧ Grow w w') := by
 refine enter (n := 18) Tryz.func70 rfl rfl rfl noS [] (Sat.nil _ _) ?_
 refine c_seq ?_
 refine c_region ?_
 refine l_val rfl rfl rfl (r_assign (v := .int .i64 0) rfl) ?_
 refine l_nil ?_
 refine c_seq ?_
 refine c_seq ?_
 refine c_region ?_
 refine l_val rfl rfl rfl (r_move (v := v0) rfl) ?_
 refine l_val rfl rfl rfl (r_lenF Tryz.underlying123 rfl f0 rfl) ?_
 refine l_val rfl rfl rfl (r_move (v := .int .i64 0) rfl) ?_
 refine l_nil ?_
 refine c_block ?_
 refine c_fix (σ := Int) (τ := Unit) (fun next1 s => face_checkVecs_l1 a0 next1 s) (fun s t => [(6, v0), (7, .int .i64 (a0.length : Int)), (8, .int .i64 s)]) (fun s t => []) (fun s t => True) 0 () [] H (by exact trivial) (by exact ⟨rfl, rfl, rfl, trivial⟩) (by decide) rfl ?_
 rintro x8_2 _ m1 gg H9 _
 clear H
 replace H9 : face_checkVecs_l1 a0 (it (fun next1 s => face_checkVecs_l1 a0 next1 s) m1) x8_2 = some r := H9
 generalize hn1 : it (fun next1 s => face_checkVecs_l1 a0 next1 s) m1 = next1 at H9
 refine c_tidyF [(6, v0), (7, .int .i64 (a0.length : Int)), (8, .int .i64 x8_2)] [] rfl rfl ?_
 refine c_seq ?_
 refine c_region ?_
 refine l_val rfl rfl rfl (r_lss rfl rfl) ?_
 refine l_nil ?_
 refine c_seq ?_
 refine c_if (b := (decide (x8_2 < (a0.length : Int)))) rfl (fun hb => ?_) (fun hb => ?_)
 ·have H10 := cnd_t hb H9; clear H9
  refine c_skip ?_
  refine c_seq ?_
  refine c_block ?_
  refine c_seq ?_
  refine c_region ?_
  obtain ⟨t10, h_t10, H11⟩ := bnd_some H10; clear H10
  refine l_val rfl rfl rfl (r_indexF Tryz.underlying123 Tryz.sizeOf47 rfl rfl f0 h_t10) ?_
  refine l_read (fun w hF hS => run_loadGN (f := e_face_Vec) (i := x8_2) (sz := 12) (j := 0) (vs := [.int .i64 (t10 0), .int .i64 (t10 1), .int .i64 (t10 2), .int .i64 (t10 3), .int .i64 (t10 4), .int .i64 (t10 5), .int .i64 (t10 6), .int .i64 (t10 7), .int .i64 (t10 8), .int .i64 (t10 9), .int .i64 (t10 10), .int .i64 (t10 11)]) Tryz.isAgg47 Tryz.sizeOf47 rfl rfl (f0.row (hw.now hF)) h_t10 rfl) rfl rfl rfl ?_
  refine l_alloc (cs := [.int .i64 0, .int .i64 0, .int .i64 0, .int .i64 0, .int .i64 0, .int .i64 0, .int .i64 0, .int .i64 0, .int .i64 0, .int .i64 0, .int .i64 0, .int .i64 0]) Tryz.zeroValue47 rfl rfl rfl (fun b1 => ?_)
  refine l_store (i := 0) (vs := [.int .i64 (t10 0), .int .i64 (t10 1), .int .i64 (t10 2), .int .i64 (t10 3), .int .i64 (t10 4), .int .i64 (t10 5), .int .i64 (t10 6), .int .i64 (t10 7), .int .i64 (t10 8), .int .i64 (t10 9), .int .i64 (t10 10), .int .i64 (t10 11)]) (cs' := [.int .i64 (t10 0), .int .i64 (t10 1), .int .i64 (t10 2), .int .i64 (t10 3), .int .i64 (t10 4), .int .i64 (t10 5), .int .i64 (t10 6), .int .i64 (t10 7), .int .i64 (t10 8), .int .i64 (t10 9), .int .i64 (t10 10), .int .i64 (t10 11)]) Tryz.sizeOf47 rfl rfl rfl rfl rfl rfl rfl rfl rfl ?_
  refine l_nil ?_
  refine c_seq ?_
  refine c_region ?_
  refine l_loadN (i := 0) (vs := [.int .i64 (t10 0), .int .i64 (t10 1), .int .i64 (t10 2), .int .i64 (t10 3), .int .i64 (t10 4), .int .i64 (t10 5), .int .i64 (t10 6), .int .i64 (t10 7), .int .i64 (t10 8), .int .i64 (t10 9), .int .i64 (t10 10), .int .i64 (t10 11)]) Tryz.isAgg47 Tryz.sizeOf47 rfl rfl rfl rfl rfl ?_
  obtain ⟨t13, h_t13, H12⟩ := bnd_some H11; clear H11
  refine l_call (k89 h_t13) Tryz.call89 rfl rfl rfl ?_
  refine l_val rfl rfl rfl (r_assign (v := .int .i64 t13) rfl) ?_
  refine l_nil ?_
  refine c_seq ?_
  refine c_region ?_
  refine l_val rfl rfl rfl (r_move (v := .int .i64 t13) rfl) ?_
  refine l_val rfl rfl rfl (r_neq rfl rfl) ?_
  refine l_nil ?_
  refine c_if (b := (decide (t13 ≠ 0))) rfl (fun hb => ?_) (fun hb => ?_)
  ·have H13 := cnd_t hb H12; clear H12
   refine c_seq ?_
   refine c_region ?_
   refine l_val rfl rfl rfl (r_move (v := .int .i64 t13) rfl) ?_
   refine l_val rfl rfl rfl (r_assign (v := .int .i64 t13) rfl) ?_
   refine l_nil ?_
   refine c_ret ?_
   obtain rfl := Option.some.inj H13
   refine ret1 (v := .int .i64 t13) rfl rfl (fin rfl)
  ·have H14 := cnd_f hb H12; clear H12
   refine c_skip ?_
   refine c_region ?_
   obtain ⟨t17, h_t17, H15⟩ := bnd_some H14; clear H14
   refine l_val rfl rfl rfl (r_addG rfl rfl h_t17) ?_
   refine l_val rfl rfl rfl (r_move (v := .int .i64 t17) rfl) ?_
   refine l_nil ?_
   refine c_close t17 () m1 [] (by exact ⟨rfl, rfl, rfl, trivial⟩) (by decide) rfl (by exact ⟨(by subst hn1; exact H15), trivial⟩) (Nat.lt_succ_self _)
 ·have H16 := cnd_f hb H9; clear H9
  refine c_exit ?_
  refine c_seq ?_
  refine c_region ?_
  refine l_val rfl rfl rfl (r_assign (v := .int .i64 0) rfl) ?_
  refine l_nil ?_
  refine c_ret ?_
  obtain rfl := Option.some.inj H16
  refine ret1 (v := .int .i64 0) rfl rfl (fin rfl)
theorem k24 {a0 : (Nat → Int)} {a1 : (Nat → Int)} {r : Int × Int} (H : face_Far a0 a1 = some r) : Ret Tryz.prog 24 [.agg #[.int .i64 (a0 0), .int .i64 (a0 1), .int .i64 (a0 2), .int .i64 (a0 3), .int .i64 (a0 4), .int .i64 (a0 5), .int .i64 (a0 6), .int .i64 (a0 7), .int .i64 (a0 8), .int .i64 (a0 9), .int .i64 (a0 10), .int .i64 (a0 11)], .agg #[.int .i64 (a1 0), .int .i64 (a1 1), .int .i64 (a1 2), .int .i64 (a1 3), .int .i64 (a1 4), .int .i64 (a1 5), .int .i64 (a1 6), .int .i64 (a1 7), .int .i64 (a1 8), .int .i64 (a1 9), .int .i64 (a1 10), .int .i64 (a1 11)]] (.tuple #[.int .i64 r.1, .int .i64 r.2]) := by
 refine enterRet (n := 17) Tryz.func24 rfl rfl rfl (fun wd => ?_)
 refine c_seq ?_
 refine c_region ?_
 refine l_box (cs := [.int .i64 (a0 0), .int .i64 (a0 1), .int .i64 (a0 2), .int .i64 (a0 3), .int .i64 (a0 4), .int .i64 (a0 5), .int .i64 (a0 6), .int .i64 (a0 7), .int .i64 (a0 8), .int .i64 (a0 9), .int .i64 (a0 10), .int .i64 (a0 11)]) rfl rfl rfl rfl (fun b3 => ?_)
 refine l_box (cs := [.int .i64 (a1 0), .int .i64 (a1 1), .int .i64 (a1 2), .int .i64 (a1 3), .int .i64 (a1 4), .int .i64 (a1 5), .int .i64 (a1 6), .int .i64 (a1 7), .int .i64 (a1 8), .int .i64 (a1 9), .int .i64 (a1 10), .int .i64 (a1 11)]) rfl rfl rfl rfl (fun b4 => ?_)
 refine l_val rfl rfl rfl (r_assign (v := .int .i64 0) rfl) ?_
 refine l_val rfl rfl rfl (r_assign (v := .int .i64 0) rfl) ?_
 refine l_nil ?_
 refine c_seq ?_
 refine c_seq ?_
 refine c_region ?_
 refine l_loadN (i := 0) (vs := [.int .i64 (a0 0), .int .i64 (a0 1), .int .i64 (a0 2), .int .i64 (a0 3), .int .i64 (a0 4), .int .i64 (a0 5), .int .i64 (a0 6), .int .i64 (a0 7), .int .i64 (a0 8), .int .i64 (a0 9), .int .i64 (a0 10), .int .i64 (a0 11)]) Tryz.isAgg47 Tryz.sizeOf47 rfl rfl rfl rfl rfl ?_
 refine l_loadN (i := 1) (vs := [.int .i64 (a1 0), .int .i64 (a1 1), .int .i64 (a1 2), .int .i64 (a1 3), .int .i64 (a1 4), .int .i64 (a1 5), .int .i64 (a1 6), .int .i64 (a1 7), .int .i64 (a1 8), .int .i64 (a1 9), .int .i64 (a1 10), .int .i64 (a1 11)]) Tryz.isAgg47 Tryz.sizeOf47 rfl rfl rfl rfl rfl ?_
 refine l_buildSlice (vs := [.agg #[.int .i64 (a0 0), .int .i64 (a0 1), .int .i64 (a0 2), .int .i64 (a0 3), .int .i64 (a0 4), .int .i64 (a0 5), .int .i64 (a0 6), .int .i64 (a0 7), .int .i64 (a0 8), .int .i64 (a0 9), .int .i64 (a0 10), .int .i64 (a0 11)], .agg #[.int .i64 (a1 0), .int .i64 (a1 1), .int .i64 (a1 2), .int .i64 (a1 3), .int .i64 (a1 4), .int .i64 (a1 5), .int .i64 (a1 6), .int .i64 (a1 7), .int .i64 (a1 8), .int .i64 (a1 9), .int .i64 (a1 10), .int .i64 (a1 11)]]) (cs := [.int .i64 (a0 0), .int .i64 (a0 1), .int .i64 (a0 2), .int .i64 (a0 3), .int .i64 (a0 4), .int .i64 (a0 5), .int .i64 (a0 6), .int .i64 (a0 7), .int .i64 (a0 8), .int .i64 (a0 9), .int .i64 (a0 10), .int .i64 (a0 11), .int .i64 (a1 0), .int .i64 (a1 1), .int .i64 (a1 2), .int .i64 (a1 3), .int .i64 (a1 4), .int .i64 (a1 5), .int .i64 (a1 6), .int .i64 (a1 7), .int .i64 (a1 8), .int .i64 (a1 9), .int .i64 (a1 10), .int .i64 (a1 11)]) Tryz.underlying123 Tryz.sizeOf47 Tryz.zeroValue47 rfl rfl rfl rfl rfl rfl rfl (fun b5 => ?_)
 obtain ⟨t10, h_t10, H5⟩ := bnd_some H; clear H
 refine l_callG (fun w hF hS => k70 (know_all w) (frs_box (i := 2) (xs := ([a0, a1] : List (Nat → Int))) (f := e_face_Vec) hS rfl rfl rfl rfl rfl) h_t10) Tryz.call70 rfl rfl rfl ?_
 refine l_val rfl rfl rfl (r_assign (v := .int .i64 t10) rfl) ?_
 refine l_nil ?_
 refine c_seq ?_
 refine c_region ?_
 refine l_val rfl rfl rfl (r_move (v := .int .i64 t10) rfl) ?_
 refine l_val rfl rfl rfl (r_neq rfl rfl) ?_
 refine l_nil ?_
 refine c_if (b := (decide (t10 ≠ 0))) rfl (fun hb => ?_) (fun hb => ?_)
 ·have H6 := cnd_t hb H5; clear H5
  refine c_seq ?_
  refine c_region ?_
  refine l_val rfl rfl rfl (r_move (v := .int .i64 t10) rfl) ?_
  refine l_val rfl rfl rfl (r_assign (v := .int .i64 0) rfl) ?_
  refine l_val rfl rfl rfl (r_assign (v := .int .i64 t10) rfl) ?_
  refine l_nil ?_
  refine c_ret ?_
  obtain rfl := Option.some.inj H6
  refine ret2 (v1 := .int .i64 0) (v2 := .int .i64 t10) rfl rfl rfl (fin rfl)
 ·have H7 := cnd_f hb H5; clear H5
  refine c_skip ?_
  refine c_seq ?_
  refine c_region ?_
  refine l_loadN (i := 0) (vs := [.int .i64 (a0 0), .int .i64 (a0 1), .int .i64 (a0 2), .int .i64 (a0 3), .int .i64 (a0 4), .int .i64 (a0 5), .int .i64 (a0 6), .int .i64 (a0 7), .int .i64 (a0 8), .int .i64 (a0 9), .int .i64 (a0 10), .int .i64 (a0 11)]) Tryz.isAgg47 Tryz.sizeOf47 rfl rfl rfl rfl rfl ?_
  refine l_loadN (i := 1) (vs := [.int .i64 (a1 0), .int .i64 (a1 1), .int .i64 (a1 2), .int .i64 (a1 3), .int .i64 (a1 4), .int .i64 (a1 5), .int .i64 (a1 6), .int .i64 (a1 7), .int .i64 (a1 8), .int .i64 (a1 9), .int .i64 (a1 10), .int .i64 (a1 11)]) Tryz.isAgg47 Tryz.sizeOf47 rfl rfl rfl rfl rfl ?_
  obtain ⟨t16, h_t16, H8⟩ := bnd_some H7; clear H7
  refine l_call (k71 h_t16) Tryz.call71 rfl rfl rfl ?_
  refine l_val rfl rfl rfl (r_assign (v := .int .i64 t16) rfl) ?_
  refine l_val rfl rfl rfl (r_assign (v := .int .i64 0) rfl) ?_
  refine l_nil ?_
  refine c_ret ?_
  obtain rfl := Option.some.inj H8
  refine ret2 (v1 := .int .i64 t16) (v2 := .int .i64 0) rfl rfl rfl (fin rfl)
theorem k5 {r : Bool} (H : Keep_awakeFace = some r) : Ret Tryz.prog 5 [] (.bool r) := by
 refine enterRet (n := 15) Tryz.func5 rfl rfl rfl (fun wd => ?_)
 refine c_seq ?_
 refine c_region ?_
 refine l_val rfl rfl rfl (r_assign (v := .bool false) rfl) ?_
 refine l_nil ?_
 refine c_seq ?_
 refine c_region ?_
 refine l_val rfl rfl rfl (r_buildA (ps := []) (cells := #[.int .i64 0, .int .i64 0, .int .i64 0, .int .i64 0, .int .i64 0, .int .i64 0, .int .i64 0, .int .i64 0, .int .i64 0, .int .i64 0, .int .i64 0, .int .i64 0]) Tryz.zeroValue47 Tryz.runUnderlying47 Tryz.sizeOf3 rfl rfl) ?_
 refine l_val rfl rfl rfl (r_buildA (ps := [(0, .int .i64 3)]) (cells := #[.int .i64 3, .int .i64 0, .int .i64 0, .int .i64 0, .int .i64 0, .int .i64 0, .int .i64 0, .int .i64 0, .int .i64 0, .int .i64 0, .int .i64 0, .int .i64 0]) Tryz.zeroValue47 Tryz.runUnderlying47 Tryz.sizeOf3 rfl rfl) ?_
 obtain ⟨t6, h_t6, H4⟩ := bnd_some H; clear H
 refine l_call (k24 h_t6) Tryz.call24 rfl rfl rfl ?_
 refine l_val rfl rfl rfl (r_move (v := .tuple #[.int .i64 t6.1, .int .i64 t6.2]) rfl) ?_
 refine l_val rfl rfl rfl (r_extract (v := .int .i64 t6.1) rfl rfl) ?_
 refine l_val rfl rfl rfl (r_extract (v := .int .i64 t6.2) rfl rfl) ?_
 refine l_val rfl rfl rfl (r_assign (v := .int .i64 t6.1) rfl) ?_
 refine l_val rfl rfl rfl (r_assign (v := .int .i64 t6.2) rfl) ?_
 refine l_nil ?_
 refine c_seq ?_
 refine c_region ?_
 refine l_val rfl rfl rfl (r_move (v := .int .i64 t6.2) rfl) ?_
 refine l_val rfl rfl rfl (r_eql rfl rfl) ?_
 refine l_val rfl rfl rfl (r_move (v := .bool (decide (t6.2 = 0))) rfl) ?_
 refine split (fun hb => ?_) (fun hb => ?_)
 ·have H5 := cnd_t hb H4; clear H4
  refine l_val rfl rfl rfl (r_move (v := .int .i64 t6.1) rfl) ?_
  refine l_val rfl rfl rfl (r_eql rfl rfl) ?_
  refine l_val rfl rfl rfl (r_pickT (v := .bool (decide (t6.1 = 9))) rfl rfl) ?_
  refine l_val rfl rfl rfl (r_assign (v := .bool (decide (t6.1 = 9))) rfl) ?_
  refine l_nil ?_
  refine c_ret ?_
  obtain rfl := Option.some.inj H5
  refine ret1 (v := .bool (decide (t6.1 = 9))) rfl rfl (fin rfl)
 ·have H6 := cnd_f hb H4; clear H4
  refine l_passed rfl rfl rfl ?_
  refine l_passed rfl rfl rfl ?_
  refine l_val rfl rfl rfl (r_pickF (v := .bool false) rfl rfl) ?_
  refine l_val rfl rfl rfl (r_assign (v := .bool false) rfl) ?_
  refine l_nil ?_
  refine c_ret ?_
  obtain rfl := Option.some.inj H6
  refine ret1 (v := .bool false) rfl rfl (fin rfl)
theorem k9 {a0 : (List T_face_Person)} {v0 : Value} {a1 : (T_face_Person → Option (Bool))} {v1 : Value} {r : Bool} {w : World} {h : Heap} (hw : Know h w noS) (f0 : FrN h 4 v0 g_face_Person a0) (f1 : FnH Tryz.prog h v1 (fnR_func_face_Person_bool a1)) (H : slices_ContainsFunc_face_Person a0 a1 = some r) : Does Tryz.prog 9 (List.toArray [v0, v1]) w (fun v w' => v = (.bool r) ∧ Grow w w') := by
 refine enter (n := 9) Tryz.func9 rfl rfl rfl noS [] (Sat.nil _ _) ?_
 refine c_seq ?_
 refine c_region ?_
 refine l_val rfl rfl rfl (r_assign (v := .bool false) rfl) ?_
 refine l_nil ?_
 refine c_seq ?_
 refine c_region ?_
 refine l_val rfl rfl rfl (r_move (v := v0) rfl) ?_
 refine l_val rfl rfl rfl (r_move (v := v1) rfl) ?_
 obtain ⟨t7, h_t7, H2⟩ := bnd_some H; clear H
 refine l_callG (fun w hF hS => k46 (know_all w) (f0.mono (hw.now hF)) (f1.mono (hw.now hF)) h_t7) Tryz.call46 rfl rfl rfl ?_
 refine l_val rfl rfl rfl (r_geq rfl rfl) ?_
 refine l_val rfl rfl rfl (r_assign (v := .bool (decide (0 ≤ t7))) rfl) ?_
 refine l_nil ?_
 refine c_ret ?_
 obtain rfl := Option.some.inj H2
 refine ret1 (v := .bool (decide (0 ≤ t7))) rfl rfl (fin rfl)
theorem k10 {q0 : T_face_Person} {vq0_2 : Value} {vq0_3 : Value} {c0 : Nat} {a0 : T_face_Person} {v0_2 : Value} {v0_3 : Value} {r : Bool} {w : World} {h : Heap} (hw : Know h w noS) (fq0_2 : FrS h 1 vq0_2 (q0.Likes.map e_i64)) (fq0_3 : FrS h 1 vq0_3 (q0.Nots.map e_i64)) (hc0 : h c0 = some (.cells (List.toArray [.int .i64 q0.Id, str q0.Name, vq0_2, vq0_3]) 32 (0, 0))) (f0_2 : FrS h 1 v0_2 (a0.Likes.map e_i64)) (f0_3 : FrS h 1 v0_3 (a0.Nots.map e_i64)) (H : Keep_FaceSplits_1 q0 a0 = some r) : Does Tryz.prog 10 (List.toArray [.agg #[.int .i64 a0.Id, str a0.Name, v0_2, v0_3], .pointer (some ⟨c0, 0, none⟩)]) w (fun v w' => v = (.bool r) ∧ Grow w w') := by
 refine enter (n := 9) Tryz.func10 rfl rfl rfl noS [] (Sat.nil _ _) ?_
 refine c_seq ?_
 refine c_region ?_
 refine l_box (cs := [.int .i64 a0.Id, str a0.Name, v0_2, v0_3]) rfl rfl rfl rfl (fun b1 => ?_)
 refine l_val rfl rfl rfl (r_assign (v := .bool false) rfl) ?_
 refine l_nil ?_
 refine c_seq ?_
 refine c_region ?_
 refine l_val rfl rfl rfl (r_field Tryz.runUnderlying32 rfl Tryz.sizeOf3 rfl rfl) ?_
 refine l_load1 (i := 0) (v := .int .i64 a0.Id) Tryz.isAgg3 rfl rfl rfl rfl rfl ?_
 refine l_val rfl rfl rfl (r_field Tryz.runUnderlying32 rfl Tryz.sizeOf3 rfl rfl) ?_
 refine l_read (fun w hF hS => run_loadK1 (v := .int .i64 q0.Id) Tryz.isAgg3 rfl (hw.now hF _ _ hc0) rfl) rfl rfl rfl ?_
 refine l_val rfl rfl rfl (r_eql rfl rfl) ?_
 refine l_val rfl rfl rfl (r_assign (v := .bool (decide (a0.Id = q0.Id))) rfl) ?_
 refine l_nil ?_
 refine c_ret ?_
 obtain rfl := Option.some.inj H
 refine ret1 (v := .bool (decide (a0.Id = q0.Id))) rfl rfl (fin rfl)
theorem k12 {a0 : (List Int)} {v0 : Value} {a1 : (List Int)} {v1 : Value} {r : Bool} {w : World} {h : Heap} (hw : Know h w noS) (f0 : FrS h 1 v0 (a0.map e_i64)) (f1 : FrS h 1 v1 (a1.map e_i64)) (H : slices_Equal_int a0 a1 = some r) : Does Tryz.prog 12 (List.toArray [v0, v1]) w (fun v w' => v = (.bool r) ∧ Grow w w') := by
 refine enter (n := 26) Tryz.func12 rfl rfl rfl noS [] (Sat.nil _ _) ?_
 refine c_seq ?_
 refine c_region ?_
 refine l_val rfl rfl rfl (r_assign (v := .bool false) rfl) ?_
 refine l_nil ?_
 refine c_seq ?_
 refine c_seq ?_
 refine c_region ?_
 refine l_val rfl rfl rfl (r_move (v := v0) rfl) ?_
 refine l_val rfl rfl rfl (r_lenF Tryz.underlying24 rfl f0 rfl) ?_
 refine l_val rfl rfl rfl (r_move (v := v1) rfl) ?_
 refine l_val rfl rfl rfl (r_lenF Tryz.underlying24 rfl f1 rfl) ?_
 refine l_val rfl rfl rfl (r_neq rfl rfl) ?_
 refine l_nil ?_
 refine c_if (b := (decide ((a0.length : Int) ≠ (a1.length : Int)))) rfl (fun hb => ?_) (fun hb => ?_)
 ·have H11 := cnd_t hb H; clear H
  refine c_seq ?_
  refine c_region ?_
  refine l_val rfl rfl rfl (r_assign (v := .bool false) rfl) ?_
  refine l_nil ?_
  refine c_ret ?_
  obtain rfl := Option.some.inj H11
  refine ret1 (v := .bool false) rfl rfl (fin rfl)
 ·have H12 := cnd_f hb H; clear H
  refine c_skip ?_
  refine c_seq ?_
  refine c_seq ?_
  refine c_region ?_
  refine l_val rfl rfl rfl (r_move (v := v0) rfl) ?_
  refine l_val rfl rfl rfl (r_lenF Tryz.underlying24 rfl f0 rfl) ?_
  refine l_val rfl rfl rfl (r_move (v := .int .i64 0) rfl) ?_
  refine l_nil ?_
  refine c_block ?_
  refine c_fix (σ := Int) (τ := Unit) (fun next1 s => slices_Equal_int_l1 a0 a1 next1 s) (fun s t => [(0, v0), (1, v1), (12, .int .i64 (a0.length : Int)), (13, .int .i64 s)]) (fun s t => []) (fun s t => True) 0 () [] H12 (by exact trivial) (by exact ⟨rfl, rfl, rfl, rfl, trivial⟩) (by decide) rfl ?_
  rintro x13_2 _ m1 gg H13 _
  clear H12
  replace H13 : slices_Equal_int_l1 a0 a1 (it (fun next1 s => slices_Equal_int_l1 a0 a1 next1 s) m1) x13_2 = some r := H13
  generalize hn1 : it (fun next1 s => slices_Equal_int_l1 a0 a1 next1 s) m1 = next1 at H13
  refine c_tidyF [(0, v0), (1, v1), (12, .int .i64 (a0.length : Int)), (13, .int .i64 x13_2)] [] rfl rfl ?_
  refine c_seq ?_
  refine c_region ?_
  refine l_val rfl rfl rfl (r_lss rfl rfl) ?_
  refine l_nil ?_
  refine c_seq ?_
  refine c_if (b := (decide (x13_2 < (a0.length : Int)))) rfl (fun hb => ?_) (fun hb => ?_)
  ·have H14 := cnd_t hb H13; clear H13
   refine c_skip ?_
   refine c_seq ?_
   refine c_block ?_
   refine c_seq ?_
   refine c_region ?_
   refine l_val rfl rfl rfl (r_move (v := .int .i64 x13_2) rfl) ?_
   refine l_val rfl rfl rfl (r_assign (v := .int .i64 x13_2) rfl) ?_
   refine l_nil ?_
   refine c_seq ?_
   exact c_regionD (Kd.p :: Kd.p :: Kd.p :: Kd.d [] _ :: Kd.p :: Kd.p :: Kd.p :: Kd.d [] _ :: Kd.p :: []) 0 mixed (by
    refine d_val rfl rfl (r_move (v := v0) rfl) ?_
    refine d_val rfl rfl (r_move (v := .int .i64 x13_2) rfl) ?_
    have h_t18 := bnd_val H14
    have H15 := bnd_rest H14
    refine d_val rfl rfl (r_indexF Tryz.underlying24 Tryz.sizeOf3 rfl rfl f0 h_t18) ?_
    refine d_read (fun w hF => run_loadG1 (f := e_i64) (i := x13_2) (sz := 1) (j := 0) (v := .int .i64 (val (gAt a0 x13_2))) Tryz.isAgg3 rfl rfl (f0.row (hw.now hF)) h_t18 rfl) rfl rfl ?_
    refine d_val rfl rfl (r_move (v := v1) rfl) ?_
    refine d_val rfl rfl (r_move (v := .int .i64 x13_2) rfl) ?_
    have h_t22 := bnd_val H15
    have H16 := bnd_rest H15
    refine d_val rfl rfl (r_indexF Tryz.underlying24 Tryz.sizeOf3 rfl rfl f1 h_t22) ?_
    refine d_read (fun w hF => run_loadG1 (f := e_i64) (i := x13_2) (sz := 1) (j := 0) (v := .int .i64 (val (gAt a1 x13_2))) Tryz.isAgg3 rfl rfl (f1.row (hw.now hF)) h_t22 rfl) rfl rfl ?_
    refine d_val rfl rfl (r_neq rfl rfl) ?_
    refine d_nil ?_
    refine c_if (b := (decide ((val (gAt a0 x13_2)) ≠ (val (gAt a1 x13_2))))) rfl (fun hb => ?_) (fun hb => ?_)
    ·have H17 := cnd_t hb H16; clear H16
     refine c_seq ?_
     refine c_region ?_
     refine l_val rfl rfl rfl (r_assign (v := .bool false) rfl) ?_
     refine l_nil ?_
     refine c_ret ?_
     obtain rfl := Option.some.inj H17
     refine ret1 (v := .bool false) rfl rfl (fin rfl)
    ·have H18 := cnd_f hb H16; clear H16
     refine c_skip ?_
     refine c_region ?_
     obtain ⟨t25, h_t25, H19⟩ := bnd_some H18; clear H18
     refine l_val rfl rfl rfl (r_addG rfl rfl h_t25) ?_
     refine l_val rfl rfl rfl (r_move (v := .int .i64 t25) rfl) ?_
     refine l_nil ?_
     refine c_close t25 () m1 [] (by exact ⟨rfl, rfl, rfl, rfl, trivial⟩) (by decide) rfl (by exact ⟨(by subst hn1; exact H19), trivial⟩) (Nat.lt_succ_self _)
    ) (by kernel_rfl)
  ·have H20 := cnd_f hb H13; clear H13
   refine c_exit ?_
   refine c_seq ?_
   refine c_region ?_
   refine l_val rfl rfl rfl (r_assign (v := .bool true) rfl) ?_
   refine l_nil ?_
   refine c_ret ?_
   obtain rfl := Option.some.inj H20
   refine ret1 (v := .bool true) rfl rfl (fin rfl)
theorem k3 {a0 : (List T_face_Likeness)} {v0 : Value} {a1 : (List T_face_Person)} {v1 : Value} {a2 : Int} {a3 : (List Int)} {v3 : Value} {a4 : Int} {r : Bool} {w : World} {h : Heap} (hw : Know h w noS) (f0 : FrS h 14 v0 (a0.map e_face_Likeness)) (f1 : FrN h 4 v1 g_face_Person a1) (f3 : FrS h 1 v3 (a3.map e_i64)) (H : Keep_FaceSplits a0 a1 a2 a3 a4 = some r) : Does Tryz.prog 3 (List.toArray [v0, v1, .int .i64 a2, v3, .int .i64 a4]) w (fun v w' => v = (.bool r) ∧ Grow w w') := by
 refine enter (n := 122) Tryz.func3 rfl rfl rfl noS [] (Sat.nil _ _) ?_
 refine c_poolNew noH ?_
 refine c_seq ?_
 refine c_region ?_
 refine l_val rfl rfl rfl (r_assign (v := .bool false) rfl) ?_
 refine l_nil ?_
 refine c_seq ?_
 refine c_seq ?_
 refine c_region ?_
 obtain ⟨t20, h_t20, H50⟩ := bnd_some H; clear H
 refine l_call (k5 h_t20) Tryz.call5 rfl rfl rfl ?_
 refine l_val rfl rfl rfl (r_not rfl) ?_
 refine l_nil ?_
 refine c_if (b := (!t20)) rfl (fun hb => ?_) (fun hb => ?_)
 ·have H51 := cnd_t hb H50; clear H50
  refine c_seq ?_
  refine c_region ?_
  refine l_val rfl rfl rfl (r_assign (v := .bool false) rfl) ?_
  refine l_nil ?_
  refine c_ret ?_
  obtain rfl := Option.some.inj H51
  refine ret1 (v := .bool false) rfl rfl (fin rfl)
 ·have H52 := cnd_f hb H50; clear H50
  refine c_skip ?_
  refine c_seq ?_
  refine c_region ?_
  refine l_val rfl rfl rfl (r_move (v := v0) rfl) ?_
  refine l_val rfl rfl rfl (r_move (v := v1) rfl) ?_
  refine l_val rfl rfl rfl (r_move (v := .int .i64 a4) rfl) ?_
  obtain ⟨t26, h_t26, H53⟩ := bnd_some H52; clear H52
  refine l_make (makes_call (rds := []) (G := fun x : (Option Addr × Nat) => .tuple #[.slice x.1 t26.1.length x.2, .int .i64 t26.2]) (C := fun x : (Option Addr × Nat) => rofD false 32 4 g_face_Person (.slice x.1 t26.1.length x.2) t26.1.length t26.1) (fun w L' hF hS hi => k6 (know_all w) (f0.mono (hw.now hF)) (f1.mono (hw.now hF)) h_t26) Tryz.call6 rfl) rfl rfl rfl (fun p => ?_)
  refine c_rofD 1 rfl (fun hp css hn hc pf => ?_)
  rw [hn]
  refine c_split 1 rfl ?_
  refine c_poolJoin 0 1 rfl rfl (by decide) (fun _ _ => noH_le) (fun hp_2 hle hle_2 => ?_)
  refine l_val rfl rfl rfl (r_move (v := .tuple #[.slice p.1 css.length p.2, .int .i64 t26.2]) rfl) ?_
  refine l_val rfl rfl rfl (r_extract (v := .slice p.1 css.length p.2) rfl rfl) ?_
  refine l_val rfl rfl rfl (r_extract (v := .int .i64 t26.2) rfl rfl) ?_
  refine l_val rfl rfl rfl (r_assign (v := .slice p.1 css.length p.2) rfl) ?_
  refine l_val rfl rfl rfl (r_assign (v := .int .i64 t26.2) rfl) ?_
  refine l_nil ?_
  refine c_sel [0, 1, 2] [poolC noH hp_2, _, rowO 32 4 (.slice p.1 css.length p.2) css.length (css.map idC)] rfl (by decide) ?_
  refine c_meet (r := r) (σ := Unit) (τ := Unit) (fun s => Keep_FaceSplits_j1 a0 a1 a2 a3) (fun s t => [(0, v0), (1, v1), (2, .int .i64 a2), (3, v3)]) (fun s t => [poolC noH hp_2]) (fun s t => True) ?_ ?_
  ·refine c_seq ?_
   refine c_region ?_
   refine l_val rfl rfl rfl (r_move (v := .int .i64 t26.2) rfl) ?_
   refine l_val rfl rfl rfl (r_eql rfl rfl) ?_
   refine l_val rfl rfl rfl (r_move (v := .bool (decide (t26.2 = 0))) rfl) ?_
   refine split (fun hb => ?_) (fun hb => ?_)
   ·have H94 := cnd_t hb H53; clear H53
    refine l_val rfl rfl rfl (r_move (v := v0) rfl) ?_
    refine l_val rfl rfl rfl (r_move (v := .slice p.1 css.length p.2) rfl) ?_
    obtain ⟨t34, h_t34, H95⟩ := bnd_some H94; clear H94
    refine l_callG (fun w hF hS => k7 (know_all w) (f0.mono (hw.now hF)) (frn_of (xs := t26.1) (frs_off (i := 2) rfl hS rfl) ((pf.mono hle_2).mono (pool_now (i := 0) hS rfl noH_le))) h_t34) Tryz.call7 rfl rfl rfl ?_
    refine l_val rfl rfl rfl (r_neq rfl rfl) ?_
    refine l_val rfl rfl rfl (r_pickT (v := .bool (decide (t34 ≠ 0))) rfl rfl) ?_
    refine l_nil ?_
    refine c_sel [0, 1, 2] [poolC noH hp_2, _, rowO 32 4 (.slice p.1 css.length p.2) css.length (css.map idC)] rfl (by decide) ?_
    refine c_if (b := (decide (t34 ≠ 0))) rfl (fun hb => ?_) (fun hb => ?_)
    ·have H96 := cnd_t hb H95; clear H95
     refine c_seq ?_
     refine c_region ?_
     refine l_val rfl rfl rfl (r_assign (v := .bool false) rfl) ?_
     refine l_nil ?_
     refine c_sel [0, 1, 2] [poolC noH hp_2, _, rowO 32 4 (.slice p.1 css.length p.2) css.length (css.map idC)] rfl (by decide) ?_
     refine c_ret ?_
     obtain rfl := Option.some.inj H96
     refine ret1 (v := .bool false) rfl rfl (fin rfl)
    ·have H97 := cnd_f hb H95; clear H95
     refine c_skip ?_
     refine c_close () () 0 [0] (by exact ⟨rfl, rfl, rfl, rfl, trivial⟩) (by decide) rfl (by exact ⟨H97, trivial⟩) (Nat.lt_succ_self _)
   ·have H98 := cnd_f hb H53; clear H53
    refine l_passed rfl rfl rfl ?_
    refine l_passed rfl rfl rfl ?_
    refine l_passed rfl rfl rfl ?_
    refine l_passed rfl rfl rfl ?_
    refine l_val rfl rfl rfl (r_pickF (v := .bool false) rfl rfl) ?_
    refine l_nil ?_
    refine c_sel [0, 1, 2] [poolC noH hp_2, _, rowO 32 4 (.slice p.1 css.length p.2) css.length (css.map idC)] rfl (by decide) ?_
    refine c_false rfl ?_
    refine c_skip ?_
    refine c_close () () 0 [0] (by exact ⟨rfl, rfl, rfl, rfl, trivial⟩) (by decide) rfl (by exact ⟨H98, trivial⟩) (Nat.lt_succ_self _)
  ·rintro _ _ gg H54 _
   replace H54 : Keep_FaceSplits_j1 a0 a1 a2 a3 = some r := H54
   refine c_tidyF [(0, v0), (1, v1), (2, .int .i64 a2), (3, v3)] [poolC noH hp_2] rfl rfl ?_
   refine c_seq ?_
   refine c_region ?_
   refine l_val rfl rfl rfl (r_move (v := v0) rfl) ?_
   refine l_val rfl rfl rfl (r_move (v := v1) rfl) ?_
   refine l_val rfl rfl rfl (r_move (v := .int .i64 a2) rfl) ?_
   refine l_val rfl rfl rfl (r_move (v := v3) rfl) ?_
   obtain ⟨t42, h_t42, H55⟩ := bnd_some H54; clear H54
   refine l_make (makes_call (rds := []) (G := fun x : (Option Addr × Nat) => .tuple #[.slice x.1 t42.1.length x.2, .int .i64 t42.2]) (C := fun x : (Option Addr × Nat) => rofD true 32 4 g_face_Person (.slice x.1 t42.1.length x.2) t42.1.length t42.1) (fun w L' hF hS hi => k8 (know_all w) (f0.mono (hw.now hF)) (f1.mono (hw.now hF)) (f3.mono (hw.now hF)) h_t42) Tryz.call8 rfl) rfl rfl rfl (fun p_2 => ?_)
   refine c_rofD 1 rfl (fun hp_3 css_2 hn_2 hc_2 pf_2 => ?_)
   rw [hn_2]
   refine c_split 1 rfl ?_
   refine c_poolJoin 0 1 rfl rfl (by decide) (fun _ _ => noH_le) (fun hp_4 hle_3 hle_4 => ?_)
   refine l_val rfl rfl rfl (r_move (v := .tuple #[.slice p_2.1 css_2.length p_2.2, .int .i64 t42.2]) rfl) ?_
   refine l_val rfl rfl rfl (r_extract (v := .slice p_2.1 css_2.length p_2.2) rfl rfl) ?_
   refine l_val rfl rfl rfl (r_extract (v := .int .i64 t42.2) rfl rfl) ?_
   refine l_val rfl rfl rfl (r_assign (v := .slice p_2.1 css_2.length p_2.2) rfl) ?_
   refine l_val rfl rfl rfl (r_assign (v := .int .i64 t42.2) rfl) ?_
   refine l_nil ?_
   refine c_sel [0, 1, 2] [poolC noH hp_4, _, rowO 32 4 (.slice p_2.1 css_2.length p_2.2) css_2.length (css_2.map idC)] rfl (by decide) ?_
   refine c_seq ?_
   refine c_seq ?_
   refine c_region ?_
   refine l_val rfl rfl rfl (r_move (v := .int .i64 t42.2) rfl) ?_
   refine l_val rfl rfl rfl (r_neq rfl rfl) ?_
   refine l_nil ?_
   refine c_sel [0, 1, 2] [poolC noH hp_4, _, rowO 32 4 (.slice p_2.1 css_2.length p_2.2) css_2.length (css_2.map idC)] rfl (by decide) ?_
   refine c_if (b := (decide (t42.2 ≠ 0))) rfl (fun hb => ?_) (fun hb => ?_)
   ·have H56 := cnd_t hb H55; clear H55
    refine c_seq ?_
    refine c_region ?_
    refine l_val rfl rfl rfl (r_assign (v := .bool true) rfl) ?_
    refine l_nil ?_
    refine c_sel [0, 1, 2] [poolC noH hp_4, _, rowO 32 4 (.slice p_2.1 css_2.length p_2.2) css_2.length (css_2.map idC)] rfl (by decide) ?_
    refine c_ret ?_
    obtain rfl := Option.some.inj H56
    refine ret1 (v := .bool true) rfl rfl (fin rfl)
   ·have H57 := cnd_f hb H55; clear H55
    refine c_skip ?_
    refine c_seq ?_
    refine c_seq ?_
    refine c_region ?_
    refine l_val rfl rfl rfl (r_move (v := v0) rfl) ?_
    refine l_val rfl rfl rfl (r_move (v := .slice p_2.1 css_2.length p_2.2) rfl) ?_
    obtain ⟨t49, h_t49, H58⟩ := bnd_some H57; clear H57
    refine l_callG (fun w hF hS => k7 (know_all w) (f0.mono (hw.now hF)) (frn_of (xs := t42.1) (frs_off (i := 2) rfl hS rfl) ((pf_2.mono hle_4).mono (pool_now (i := 0) hS rfl noH_le))) h_t49) Tryz.call7 rfl rfl rfl ?_
    refine l_val rfl rfl rfl (r_neq rfl rfl) ?_
    refine l_val rfl rfl rfl (r_move (v := .bool (decide (t49 ≠ 0))) rfl) ?_
    refine split (fun hb => ?_) (fun hb => ?_)
    ·have H59 := cnd_t hb H58; clear H58
     refine l_passed rfl rfl rfl ?_
     refine l_passed rfl rfl rfl ?_
     refine l_passed rfl rfl rfl ?_
     refine l_passed rfl rfl rfl ?_
     refine l_passed rfl rfl rfl ?_
     refine l_passed rfl rfl rfl ?_
     refine l_val rfl rfl rfl (r_pickT (v := .bool true) rfl rfl) ?_
     refine l_nil ?_
     refine c_sel [0, 1, 2] [poolC noH hp_4, _, rowO 32 4 (.slice p_2.1 css_2.length p_2.2) css_2.length (css_2.map idC)] rfl (by decide) ?_
     refine c_true rfl ?_
     refine c_seq ?_
     refine c_region ?_
     refine l_val rfl rfl rfl (r_assign (v := .bool false) rfl) ?_
     refine l_nil ?_
     refine c_sel [0, 1, 2] [poolC noH hp_4, _, rowO 32 4 (.slice p_2.1 css_2.length p_2.2) css_2.length (css_2.map idC)] rfl (by decide) ?_
     refine c_ret ?_
     obtain rfl := Option.some.inj H59
     refine ret1 (v := .bool false) rfl rfl (fin rfl)
    ·have H60 := cnd_f hb H58; clear H58
     refine l_val rfl rfl rfl (r_move (v := .slice p_2.1 css_2.length p_2.2) rfl) ?_
     refine l_val rfl rfl rfl (r_lenN Tryz.underlying23 rfl hn_2.symm) ?_
     refine l_val rfl rfl rfl (r_move (v := v1) rfl) ?_
     refine l_val rfl rfl rfl (r_lenFN Tryz.underlying23 rfl f1) ?_
     obtain ⟨t56, h_t56, H61⟩ := bnd_some H60; clear H60
     refine l_val rfl rfl rfl (r_addG rfl rfl h_t56) ?_
     refine l_val rfl rfl rfl (r_neq rfl rfl) ?_
     refine l_val rfl rfl rfl (r_pickF (v := .bool (decide ((t42.1.length : Int) ≠ t56))) rfl rfl) ?_
     refine l_nil ?_
     refine c_sel [0, 1, 2] [poolC noH hp_4, _, rowO 32 4 (.slice p_2.1 css_2.length p_2.2) css_2.length (css_2.map idC)] rfl (by decide) ?_
     refine c_if (b := (decide ((t42.1.length : Int) ≠ t56))) rfl (fun hb => ?_) (fun hb => ?_)
     ·have H62 := cnd_t hb H61; clear H61
      refine c_seq ?_
      refine c_region ?_
      refine l_val rfl rfl rfl (r_assign (v := .bool false) rfl) ?_
      refine l_nil ?_
      refine c_sel [0, 1, 2] [poolC noH hp_4, _, rowO 32 4 (.slice p_2.1 css_2.length p_2.2) css_2.length (css_2.map idC)] rfl (by decide) ?_
      refine c_ret ?_
      obtain rfl := Option.some.inj H62
      refine ret1 (v := .bool false) rfl rfl (fin rfl)
     ·have H63 := cnd_f hb H61; clear H61
      refine c_skip ?_
      refine c_seq ?_
      refine c_region ?_
      refine l_val rfl rfl rfl (r_assign (v := .int .i64 0) rfl) ?_
      refine l_nil ?_
      refine c_sel [0, 1, 2] [poolC noH hp_4, _, rowO 32 4 (.slice p_2.1 css_2.length p_2.2) css_2.length (css_2.map idC)] rfl (by decide) ?_
      refine c_meet (r := r) (σ := Int) (τ := Unit) (fun s => Keep_FaceSplits_j2 a0 a1 a2 t42 s) (fun s t => [(0, v0), (1, v1), (2, .int .i64 a2), (13, .slice p_2.1 css_2.length p_2.2), (14, .int .i64 s)]) (fun s t => [poolC noH hp_4, rowO 32 4 (.slice p_2.1 css_2.length p_2.2) css_2.length (css_2.map idC)]) (fun s t => AllC g_face_Person hp_4 4 css_2 t42.1) ?_ ?_
      ·refine c_seq ?_
       refine c_sel [0, 1, 2] [poolC noH hp_4, _, rowO 32 4 (.slice p_2.1 css_2.length p_2.2) css_2.length (css_2.map idC)] rfl (by decide) ?_
       refine c_region ?_
       refine l_val rfl rfl rfl (r_move (v := .slice p_2.1 css_2.length p_2.2) rfl) ?_
       refine l_val rfl rfl rfl (r_lenN Tryz.underlying23 rfl hn_2.symm) ?_
       refine l_val rfl rfl rfl (r_move (v := .int .i64 0) rfl) ?_
       refine l_nil ?_
       refine c_sel [0, 1, 2] [poolC noH hp_4, _, rowO 32 4 (.slice p_2.1 css_2.length p_2.2) css_2.length (css_2.map idC)] rfl (by decide) ?_
       refine c_block ?_
       refine c_sel [0, 2] [poolC noH hp_4, rowO 32 4 (.slice p_2.1 css_2.length p_2.2) css_2.length (css_2.map idC)] rfl (by decide) ?_
       refine c_fix (σ := Int × Int) (τ := Unit) (fun next4 s => Keep_FaceSplits_l4 a0 a1 a2 t42 next4 s.1 s.2) (fun s t => [(0, v0), (1, v1), (2, .int .i64 a2), (13, .slice p_2.1 css_2.length p_2.2), (14, .int .i64 s.1), (59, .slice p_2.1 css_2.length p_2.2), (60, .int .i64 (t42.1.length : Int)), (61, .int .i64 s.2)]) (fun s t => [poolC noH hp_4, rowO 32 4 (.slice p_2.1 css_2.length p_2.2) css_2.length (css_2.map idC)]) (fun s t => True) (0, 0) () [0, 1] H63 (by exact trivial) (by exact ⟨rfl, rfl, rfl, rfl, rfl, rfl, rfl, rfl, trivial⟩) (by decide) rfl ?_
       rintro ⟨x14_3, x61_2⟩ _ m4 gg H85 _
       clear H63
       replace H85 : Keep_FaceSplits_l4 a0 a1 a2 t42 (it (fun next4 s => Keep_FaceSplits_l4 a0 a1 a2 t42 next4 s.1 s.2) m4) x14_3 x61_2 = some r := H85
       generalize hn4 : it (fun next4 s => Keep_FaceSplits_l4 a0 a1 a2 t42 next4 s.1 s.2) m4 = next4 at H85
       refine c_tidyF [(0, v0), (1, v1), (2, .int .i64 a2), (13, .slice p_2.1 css_2.length p_2.2), (14, .int .i64 x14_3), (59, .slice p_2.1 css_2.length p_2.2), (60, .int .i64 (t42.1.length : Int)), (61, .int .i64 x61_2)] [poolC noH hp_4, rowO 32 4 (.slice p_2.1 css_2.length p_2.2) css_2.length (css_2.map idC)] rfl rfl ?_
       refine c_seq ?_
       refine c_region ?_
       refine l_val rfl rfl rfl (r_lss rfl rfl) ?_
       refine l_nil ?_
       refine c_seq ?_
       refine c_if (b := (decide (x61_2 < (t42.1.length : Int)))) rfl (fun hb => ?_) (fun hb => ?_)
       ·have H86 := cnd_t hb H85; clear H85
        refine c_skip ?_
        refine c_meet (r := r) (σ := Int) (τ := Unit) (fun s => Keep_FaceSplits_j5 x61_2 next4 s) (fun s t => [(0, v0), (1, v1), (2, .int .i64 a2), (13, .slice p_2.1 css_2.length p_2.2), (14, .int .i64 s), (59, .slice p_2.1 css_2.length p_2.2), (60, .int .i64 (t42.1.length : Int)), (61, .int .i64 x61_2)]) (fun s t => [poolC noH hp_4, rowO 32 4 (.slice p_2.1 css_2.length p_2.2) css_2.length (css_2.map idC)]) (fun s t => True) ?_ ?_
        ·refine c_block ?_
         refine c_seq ?_
         refine c_region ?_
         obtain ⟨t63, h_t63, H89⟩ := bnd_some H86; clear H86
         refine l_read (fun w hF hS => run_indexO Tryz.underlying23 Tryz.sizeOf32 rfl rfl (offOf (i := 1) hS rfl) rfl ((pf_2.mono hle_4).ix h_t63)) rfl rfl rfl ?_
         refine l_read (fun w hF hS => run_loadGN (f := idC) (i := x61_2) (sz := 4) (j := 0) (vs := [.int .i64 t63.Id, str t63.Name, (List.getD (List.getD css_2 (Int.toNat x61_2) []) 2 undef), (List.getD (List.getD css_2 (Int.toNat x61_2) []) 3 undef)]) Tryz.isAgg32 Tryz.sizeOf32 rfl rfl (offOf (i := 1) hS rfl) ((pf_2.mono hle_4).ix h_t63) (rd_of (((pf_2.mono hle_4).eta h_t63).trans (cg_face_Person ((pf_2.mono hle_4).at h_t63))) rfl)) rfl rfl rfl ?_
         refine l_alloc (cs := [.int .i64 0, str [], .slice none 0 0, .slice none 0 0]) Tryz.zeroValue32 rfl rfl rfl (fun b3 => ?_)
         refine l_store (i := 2) (vs := [.int .i64 t63.Id, str t63.Name, (List.getD (List.getD css_2 (Int.toNat x61_2) []) 2 undef), (List.getD (List.getD css_2 (Int.toNat x61_2) []) 3 undef)]) (cs' := [.int .i64 t63.Id, str t63.Name, (List.getD (List.getD css_2 (Int.toNat x61_2) []) 2 undef), (List.getD (List.getD css_2 (Int.toNat x61_2) []) 3 undef)]) Tryz.sizeOf32 rfl rfl rfl rfl rfl rfl (by simp only [List.all_cons, List.all_nil, (show FrS hp_4 1 (List.getD (List.getD css_2 (Int.toNat x61_2) []) 2 undef) (t63.Likes.map e_i64) from (g_face_Person_p2 ((pf_2.mono hle_4).at h_t63))).one, (show FrS hp_4 1 (List.getD (List.getD css_2 (Int.toNat x61_2) []) 3 undef) (t63.Nots.map e_i64) from (g_face_Person_p3 ((pf_2.mono hle_4).at h_t63))).one] <;> rfl) rfl rfl ?_
         refine l_nil ?_
         refine c_sel [0, 1, 2] [poolC noH hp_4, rowO 32 4 (.slice p_2.1 css_2.length p_2.2) css_2.length (css_2.map idC), cellsC b3 [.int .i64 t63.Id, str t63.Name, (List.getD (List.getD css_2 (Int.toNat x61_2) []) 2 undef), (List.getD (List.getD css_2 (Int.toNat x61_2) []) 3 undef)] 32] rfl (by decide) ?_
         refine c_seq ?_
         refine c_region ?_
         refine l_val rfl rfl rfl (r_move (v := v1) rfl) ?_
         refine l_val rfl rfl rfl (r_makeFn (caps := #[.pointer (some ⟨b3, 0, none⟩)]) rfl) ?_
         obtain ⟨t67, h_t67, H90⟩ := bnd_some H89; clear H89
         refine l_callG (fun w hF hS => k9 (know_all w) (f1.mono (hw.now hF)) (FnH.mk ⟨10, #[], #[.pointer (some ⟨b3, 0, none⟩)], rfl, Tryz.call10, fun args2 post2 w2 hk2 hR2 => by obtain ⟨a0_, v0_2_, v0_3_, r_, fa0_2_, fa0_3_, rfl, H_, rfl⟩ := hR2; exact k10 (know_all w2) (((show FrS hp_4 1 (List.getD (List.getD css_2 (Int.toNat x61_2) []) 2 undef) (t63.Likes.map e_i64) from (g_face_Person_p2 ((pf_2.mono hle_4).at h_t63))).mono (pool_now (i := 0) hS rfl noH_le)).mono hk2.up) (((show FrS hp_4 1 (List.getD (List.getD css_2 (Int.toNat x61_2) []) 3 undef) (t63.Nots.map e_i64) from (g_face_Person_p3 ((pf_2.mono hle_4).at h_t63))).mono (pool_now (i := 0) hS rfl noH_le)).mono hk2.up) (hk2.up _ _ (sat_cell (i := 2) hS rfl)) fa0_2_ fa0_3_ H_⟩) h_t67) Tryz.call9 rfl rfl rfl ?_
         refine l_val rfl rfl rfl (r_not rfl) ?_
         refine l_nil ?_
         refine c_sel [0, 1, 2] [poolC noH hp_4, rowO 32 4 (.slice p_2.1 css_2.length p_2.2) css_2.length (css_2.map idC), cellsC b3 [.int .i64 t63.Id, str t63.Name, (List.getD (List.getD css_2 (Int.toNat x61_2) []) 2 undef), (List.getD (List.getD css_2 (Int.toNat x61_2) []) 3 undef)] 32] rfl (by decide) ?_
         refine c_if (b := (!t67)) rfl (fun hb => ?_) (fun hb => ?_)
         ·have H91 := cnd_t hb H90; clear H90
          refine c_region ?_
          refine l_val rfl rfl rfl (r_field Tryz.runUnderlying32 rfl Tryz.sizeOf3 rfl rfl) ?_
          refine l_load1 (i := 2) (v := .int .i64 t63.Id) Tryz.isAgg3 rfl rfl rfl rfl rfl ?_
          refine l_val rfl rfl rfl (r_assign (v := .int .i64 t63.Id) rfl) ?_
          refine l_nil ?_
          refine c_sel [0, 1, 2] [poolC noH hp_4, rowO 32 4 (.slice p_2.1 css_2.length p_2.2) css_2.length (css_2.map idC), cellsC b3 [.int .i64 t63.Id, str t63.Name, (List.getD (List.getD css_2 (Int.toNat x61_2) []) 2 undef), (List.getD (List.getD css_2 (Int.toNat x61_2) []) 3 undef)] 32] rfl (by decide) ?_
          refine c_close t63.Id () 0 [0, 1] (by exact ⟨rfl, rfl, rfl, rfl, rfl, rfl, rfl, rfl, trivial⟩) (by decide) rfl (by exact ⟨H91, trivial⟩) (Nat.lt_succ_self _)
         ·have H92 := cnd_f hb H90; clear H90
          refine c_skip ?_
          refine c_close x14_3 () 0 [0, 1] (by exact ⟨rfl, rfl, rfl, rfl, rfl, rfl, rfl, rfl, trivial⟩) (by decide) rfl (by exact ⟨H92, trivial⟩) (Nat.lt_succ_self _)
        ·rintro x14_4 _ gg H87 _
         replace H87 : Keep_FaceSplits_j5 x61_2 next4 x14_4 = some r := H87
         refine c_tidyF [(0, v0), (1, v1), (2, .int .i64 a2), (13, .slice p_2.1 css_2.length p_2.2), (14, .int .i64 x14_4), (59, .slice p_2.1 css_2.length p_2.2), (60, .int .i64 (t42.1.length : Int)), (61, .int .i64 x61_2)] [poolC noH hp_4, rowO 32 4 (.slice p_2.1 css_2.length p_2.2) css_2.length (css_2.map idC)] rfl rfl ?_
         refine c_region ?_
         obtain ⟨t71, h_t71, H88⟩ := bnd_some H87; clear H87
         refine l_val rfl rfl rfl (r_addG rfl rfl h_t71) ?_
         refine l_val rfl rfl rfl (r_move (v := .int .i64 t71) rfl) ?_
         refine l_nil ?_
         refine c_close (x14_4, t71) () m4 [0, 1] (by exact ⟨rfl, rfl, rfl, rfl, rfl, rfl, rfl, rfl, trivial⟩) (by decide) rfl (by exact ⟨(by subst hn4; exact H88), trivial⟩) (Nat.lt_succ_self _)
       ·have H93 := cnd_f hb H85; clear H85
        refine c_exit ?_
        refine c_close x14_3 () 0 [0, 1] (by exact ⟨rfl, rfl, rfl, rfl, rfl, trivial⟩) (by decide) rfl (by exact ⟨H93, (pf_2.mono hle_4)⟩) (Nat.lt_succ_self _)
      ·rintro x14 _ gg H64 pf_3
       replace H64 : Keep_FaceSplits_j2 a0 a1 a2 t42 x14 = some r := H64
       refine c_tidyF [(0, v0), (1, v1), (2, .int .i64 a2), (13, .slice p_2.1 css_2.length p_2.2), (14, .int .i64 x14)] [poolC noH hp_4, rowO 32 4 (.slice p_2.1 css_2.length p_2.2) css_2.length (css_2.map idC)] rfl rfl ?_
       refine c_seq ?_
       refine c_region ?_
       refine l_val rfl rfl rfl (r_move (v := v0) rfl) ?_
       refine l_val rfl rfl rfl (r_move (v := .slice p_2.1 css_2.length p_2.2) rfl) ?_
       refine l_val rfl rfl rfl (r_move (v := .int .i64 a2) rfl) ?_
       refine l_val rfl rfl rfl (r_move (v := .int .i64 x14) rfl) ?_
       obtain ⟨t77, h_t77, H65⟩ := bnd_some H64; clear H64
       refine l_make (makes_call (rds := [0, 1]) (G := fun x : (Option Addr × Nat) => .tuple #[.slice x.1 t77.1.length x.2, .int .i64 t77.2]) (C := fun x : (Option Addr × Nat) => rofD true 32 4 g_face_Person (.slice x.1 t77.1.length x.2) t77.1.length t77.1) (fun w L' hF hS hi => k11 (know_all w) (f0.mono (hw.now hF)) (frn_of (xs := t42.1) (frs_off (i := 1) rfl hS ((hi 1 (by simp)).trans rfl)) (pf_3.mono (pool_now (i := 0) hS ((hi 0 (by simp)).trans rfl) noH_le))) h_t77) Tryz.call11 rfl) rfl rfl rfl (fun p_3 => ?_)
       refine c_rofD 2 rfl (fun hp_5 css_4 hn_3 hc_3 pf_4 => ?_)
       rw [hn_3]
       refine c_split 2 rfl ?_
       refine c_poolJoin 0 2 rfl rfl (by decide) (fun _ _ => noH_le) (fun hp_6 hle_5 hle_6 => ?_)
       refine l_val rfl rfl rfl (r_move (v := .tuple #[.slice p_3.1 css_4.length p_3.2, .int .i64 t77.2]) rfl) ?_
       refine l_val rfl rfl rfl (r_extract (v := .slice p_3.1 css_4.length p_3.2) rfl rfl) ?_
       refine l_val rfl rfl rfl (r_extract (v := .int .i64 t77.2) rfl rfl) ?_
       refine l_val rfl rfl rfl (r_assign (v := .slice p_3.1 css_4.length p_3.2) rfl) ?_
       refine l_val rfl rfl rfl (r_assign (v := .int .i64 t77.2) rfl) ?_
       refine l_nil ?_
       refine c_sel [0, 1, 2, 3] [poolC noH hp_6, rowO 32 4 (.slice p_2.1 css_2.length p_2.2) css_2.length (css_2.map idC), _, rowO 32 4 (.slice p_3.1 css_4.length p_3.2) css_4.length (css_4.map idC)] rfl (by decide) ?_
       refine c_seq ?_
       refine c_seq ?_
       refine c_region ?_
       refine l_val rfl rfl rfl (r_move (v := .int .i64 t77.2) rfl) ?_
       refine l_val rfl rfl rfl (r_neq rfl rfl) ?_
       refine l_val rfl rfl rfl (r_move (v := .bool (decide (t77.2 ≠ 0))) rfl) ?_
       refine split (fun hb => ?_) (fun hb => ?_)
       ·have H66 := cnd_t hb H65; clear H65
        refine l_passed rfl rfl rfl ?_
        refine l_passed rfl rfl rfl ?_
        refine l_passed rfl rfl rfl ?_
        refine l_passed rfl rfl rfl ?_
        refine l_passed rfl rfl rfl ?_
        refine l_val rfl rfl rfl (r_pickT (v := .bool true) rfl rfl) ?_
        refine l_val rfl rfl rfl (r_move (v := .bool true) rfl) ?_
        refine l_passed rfl rfl rfl ?_
        refine l_passed rfl rfl rfl ?_
        refine l_passed rfl rfl rfl ?_
        refine l_passed rfl rfl rfl ?_
        refine l_val rfl rfl rfl (r_pickT (v := .bool true) rfl rfl) ?_
        refine l_nil ?_
        refine c_sel [0, 1, 2, 3] [poolC noH hp_6, rowO 32 4 (.slice p_2.1 css_2.length p_2.2) css_2.length (css_2.map idC), _, rowO 32 4 (.slice p_3.1 css_4.length p_3.2) css_4.length (css_4.map idC)] rfl (by decide) ?_
        refine c_true rfl ?_
        refine c_seq ?_
        refine c_region ?_
        refine l_val rfl rfl rfl (r_assign (v := .bool false) rfl) ?_
        refine l_nil ?_
        refine c_sel [0, 1, 2, 3] [poolC noH hp_6, rowO 32 4 (.slice p_2.1 css_2.length p_2.2) css_2.length (css_2.map idC), _, rowO 32 4 (.slice p_3.1 css_4.length p_3.2) css_4.length (css_4.map idC)] rfl (by decide) ?_
        refine c_ret ?_
        obtain rfl := Option.some.inj H66
        refine ret1 (v := .bool false) rfl rfl (fin rfl)
       ·have H67 := cnd_f hb H65; clear H65
        refine l_val rfl rfl rfl (r_move (v := .slice p_3.1 css_4.length p_3.2) rfl) ?_
        refine l_val rfl rfl rfl (r_lenN Tryz.underlying23 rfl hn_3.symm) ?_
        refine l_val rfl rfl rfl (r_move (v := v1) rfl) ?_
        refine l_val rfl rfl rfl (r_lenFN Tryz.underlying23 rfl f1) ?_
        refine l_val rfl rfl rfl (r_neq rfl rfl) ?_
        refine l_val rfl rfl rfl (r_pickF (v := .bool (decide ((t77.1.length : Int) ≠ (a1.length : Int)))) rfl rfl) ?_
        refine l_val rfl rfl rfl (r_move (v := .bool (decide ((t77.1.length : Int) ≠ (a1.length : Int)))) rfl) ?_
        refine split (fun hb => ?_) (fun hb => ?_)
        ·have H68 := cnd_t hb H67; clear H67
         refine l_passed rfl rfl rfl ?_
         refine l_passed rfl rfl rfl ?_
         refine l_passed rfl rfl rfl ?_
         refine l_passed rfl rfl rfl ?_
         refine l_val rfl rfl rfl (r_pickT (v := .bool true) rfl rfl) ?_
         refine l_nil ?_
         refine c_sel [0, 1, 2, 3] [poolC noH hp_6, rowO 32 4 (.slice p_2.1 css_2.length p_2.2) css_2.length (css_2.map idC), _, rowO 32 4 (.slice p_3.1 css_4.length p_3.2) css_4.length (css_4.map idC)] rfl (by decide) ?_
         refine c_true rfl ?_
         refine c_seq ?_
         refine c_region ?_
         refine l_val rfl rfl rfl (r_assign (v := .bool false) rfl) ?_
         refine l_nil ?_
         refine c_sel [0, 1, 2, 3] [poolC noH hp_6, rowO 32 4 (.slice p_2.1 css_2.length p_2.2) css_2.length (css_2.map idC), _, rowO 32 4 (.slice p_3.1 css_4.length p_3.2) css_4.length (css_4.map idC)] rfl (by decide) ?_
         refine c_ret ?_
         obtain rfl := Option.some.inj H68
         refine ret1 (v := .bool false) rfl rfl (fin rfl)
        ·have H69 := cnd_f hb H67; clear H67
         refine l_val rfl rfl rfl (r_move (v := v0) rfl) ?_
         refine l_val rfl rfl rfl (r_move (v := .slice p_3.1 css_4.length p_3.2) rfl) ?_
         obtain ⟨t92, h_t92, H70⟩ := bnd_some H69; clear H69
         refine l_callG (fun w hF hS => k7 (know_all w) (f0.mono (hw.now hF)) (frn_of (xs := t77.1) (frs_off (i := 3) rfl hS rfl) ((pf_4.mono hle_6).mono (pool_now (i := 0) hS rfl noH_le))) h_t92) Tryz.call7 rfl rfl rfl ?_
         refine l_val rfl rfl rfl (r_neq rfl rfl) ?_
         refine l_val rfl rfl rfl (r_pickF (v := .bool (decide (t92 ≠ 0))) rfl rfl) ?_
         refine l_nil ?_
         refine c_sel [0, 1, 2, 3] [poolC noH hp_6, rowO 32 4 (.slice p_2.1 css_2.length p_2.2) css_2.length (css_2.map idC), _, rowO 32 4 (.slice p_3.1 css_4.length p_3.2) css_4.length (css_4.map idC)] rfl (by decide) ?_
         refine c_if (b := (decide (t92 ≠ 0))) rfl (fun hb => ?_) (fun hb => ?_)
         ·have H71 := cnd_t hb H70; clear H70
          refine c_seq ?_
          refine c_region ?_
          refine l_val rfl rfl rfl (r_assign (v := .bool false) rfl) ?_
          refine l_nil ?_
          refine c_sel [0, 1, 2, 3] [poolC noH hp_6, rowO 32 4 (.slice p_2.1 css_2.length p_2.2) css_2.length (css_2.map idC), _, rowO 32 4 (.slice p_3.1 css_4.length p_3.2) css_4.length (css_4.map idC)] rfl (by decide) ?_
          refine c_ret ?_
          obtain rfl := Option.some.inj H71
          refine ret1 (v := .bool false) rfl rfl (fin rfl)
         ·have H72 := cnd_f hb H70; clear H70
          refine c_skip ?_
          refine c_seq ?_
          refine c_seq ?_
          refine c_region ?_
          refine l_val rfl rfl rfl (r_move (v := .slice p_3.1 css_4.length p_3.2) rfl) ?_
          refine l_val rfl rfl rfl (r_lenN Tryz.underlying23 rfl hn_3.symm) ?_
          refine l_val rfl rfl rfl (r_move (v := .int .i64 0) rfl) ?_
          refine l_nil ?_
          refine c_sel [0, 1, 2, 3] [poolC noH hp_6, rowO 32 4 (.slice p_2.1 css_2.length p_2.2) css_2.length (css_2.map idC), _, rowO 32 4 (.slice p_3.1 css_4.length p_3.2) css_4.length (css_4.map idC)] rfl (by decide) ?_
          refine c_block ?_
          refine c_sel [0, 3] [poolC noH hp_6, rowO 32 4 (.slice p_3.1 css_4.length p_3.2) css_4.length (css_4.map idC)] rfl (by decide) ?_
          refine c_fix (σ := Int) (τ := Unit) (fun next3 s => Keep_FaceSplits_l3 a1 t77 next3 s) (fun s t => [(1, v1), (95, .slice p_3.1 css_4.length p_3.2), (96, .int .i64 (t77.1.length : Int)), (97, .int .i64 s)]) (fun s t => [poolC noH hp_6, rowO 32 4 (.slice p_3.1 css_4.length p_3.2) css_4.length (css_4.map idC)]) (fun s t => True) 0 () [0, 1] H72 (by exact trivial) (by exact ⟨rfl, rfl, rfl, rfl, trivial⟩) (by decide) rfl ?_
          rintro x97_2 _ m3 gg H73 _
          clear H72
          replace H73 : Keep_FaceSplits_l3 a1 t77 (it (fun next3 s => Keep_FaceSplits_l3 a1 t77 next3 s) m3) x97_2 = some r := H73
          generalize hn3 : it (fun next3 s => Keep_FaceSplits_l3 a1 t77 next3 s) m3 = next3 at H73
          refine c_tidyF [(1, v1), (95, .slice p_3.1 css_4.length p_3.2), (96, .int .i64 (t77.1.length : Int)), (97, .int .i64 x97_2)] [poolC noH hp_6, rowO 32 4 (.slice p_3.1 css_4.length p_3.2) css_4.length (css_4.map idC)] rfl rfl ?_
          refine c_seq ?_
          refine c_region ?_
          refine l_val rfl rfl rfl (r_lss rfl rfl) ?_
          refine l_nil ?_
          refine c_seq ?_
          refine c_if (b := (decide (x97_2 < (t77.1.length : Int)))) rfl (fun hb => ?_) (fun hb => ?_)
          ·have H74 := cnd_t hb H73; clear H73
           refine c_skip ?_
           refine c_seq ?_
           refine c_block ?_
           refine c_seq ?_
           refine c_region ?_
           refine l_val rfl rfl rfl (r_move (v := .int .i64 x97_2) rfl) ?_
           obtain ⟨t100, h_t100, H75⟩ := bnd_some H74; clear H74
           refine l_read (fun w hF hS => run_indexO Tryz.underlying23 Tryz.sizeOf32 rfl rfl (offOf (i := 1) hS rfl) rfl ((pf_4.mono hle_6).ix h_t100)) rfl rfl rfl ?_
           refine l_read (fun w hF hS => run_loadGN (f := idC) (i := x97_2) (sz := 4) (j := 0) (vs := [.int .i64 t100.Id, str t100.Name, (List.getD (List.getD css_4 (Int.toNat x97_2) []) 2 undef), (List.getD (List.getD css_4 (Int.toNat x97_2) []) 3 undef)]) Tryz.isAgg32 Tryz.sizeOf32 rfl rfl (offOf (i := 1) hS rfl) ((pf_4.mono hle_6).ix h_t100) (rd_of (((pf_4.mono hle_6).eta h_t100).trans (cg_face_Person ((pf_4.mono hle_6).at h_t100))) rfl)) rfl rfl rfl ?_
           refine l_alloc (cs := [.int .i64 0, str [], .slice none 0 0, .slice none 0 0]) Tryz.zeroValue32 rfl rfl rfl (fun b2 => ?_)
           refine l_val rfl rfl rfl (r_assign (v := .int .i64 x97_2) rfl) ?_
           refine l_store (i := 2) (vs := [.int .i64 t100.Id, str t100.Name, (List.getD (List.getD css_4 (Int.toNat x97_2) []) 2 undef), (List.getD (List.getD css_4 (Int.toNat x97_2) []) 3 undef)]) (cs' := [.int .i64 t100.Id, str t100.Name, (List.getD (List.getD css_4 (Int.toNat x97_2) []) 2 undef), (List.getD (List.getD css_4 (Int.toNat x97_2) []) 3 undef)]) Tryz.sizeOf32 rfl rfl rfl rfl rfl rfl (by simp only [List.all_cons, List.all_nil, (show FrS hp_6 1 (List.getD (List.getD css_4 (Int.toNat x97_2) []) 2 undef) (t100.Likes.map e_i64) from (g_face_Person_p2 ((pf_4.mono hle_6).at h_t100))).one, (show FrS hp_6 1 (List.getD (List.getD css_4 (Int.toNat x97_2) []) 3 undef) (t100.Nots.map e_i64) from (g_face_Person_p3 ((pf_4.mono hle_6).at h_t100))).one] <;> rfl) rfl rfl ?_
           refine l_nil ?_
           refine c_sel [0, 1, 2] [poolC noH hp_6, rowO 32 4 (.slice p_3.1 css_4.length p_3.2) css_4.length (css_4.map idC), cellsC b2 [.int .i64 t100.Id, str t100.Name, (List.getD (List.getD css_4 (Int.toNat x97_2) []) 2 undef), (List.getD (List.getD css_4 (Int.toNat x97_2) []) 3 undef)] 32] rfl (by decide) ?_
           refine c_seq ?_
           exact c_regionD (Kd.p :: Kd.d [2] _ :: Kd.p :: Kd.p :: Kd.p :: Kd.p :: Kd.d [] _ :: Kd.p :: Kd.p :: Kd.p :: Kd.d [2] _ :: Kd.p :: Kd.p :: Kd.p :: Kd.p :: Kd.d [] _ :: Kd.d [0] _ :: Kd.p :: Kd.p :: []) 0 mixed (by
            refine d_val rfl rfl (r_field Tryz.runUnderlying32 rfl Tryz.sizeOf3 rfl rfl) ?_
            refine d_load1 (i := 2) (v := .int .i64 t100.Id) Tryz.isAgg3 rfl rfl rfl rfl ?_
            refine d_val rfl rfl (r_move (v := v1) rfl) ?_
            refine d_val rfl rfl (r_move (v := .int .i64 x97_2) rfl) ?_
            have h_t106 := bnd_val H75
            have H76 := bnd_rest H75
            refine d_val rfl rfl (r_indexF Tryz.underlying23 Tryz.sizeOf32 rfl rfl f1.frs (f1.ix h_t106)) ?_
            refine d_val rfl rfl (r_fieldP Tryz.runUnderlying32 rfl Tryz.sizeOf3 rfl rfl (some_of_at f1.frs (f1.ix h_t106))) ?_
            refine d_read (fun w hF => run_loadG1 (f := (elC h v1 4)) (i := x97_2) (sz := 4) (j := 0) (v := .int .i64 (val (gAt a1 x97_2)).Id) Tryz.isAgg3 rfl rfl (f1.frs.row (hw.now hF)) (f1.ix h_t106) (rg_of (cg_face_Person (f1.at h_t106)) rfl)) rfl rfl ?_
            refine d_val rfl rfl (r_neq rfl rfl) ?_
            refine d_val rfl rfl (r_move (v := .bool (decide (t100.Id ≠ (val (gAt a1 x97_2)).Id))) rfl) ?_
            refine splitS (fun hb => ?_) (fun hb => ?_)
            ·have H77 := cnd_t hb H76
             refine d_pass rfl rfl ?_
             refine d_pass rfl rfl ?_
             refine d_pass rfl rfl ?_
             refine d_pass rfl rfl ?_
             refine d_pass rfl rfl ?_
             refine d_pass rfl rfl ?_
             refine d_pass rfl rfl ?_
             refine d_pass rfl rfl ?_
             refine d_pass rfl rfl ?_
             refine d_val rfl rfl (r_pickT (v := .bool true) rfl rfl) ?_
             refine d_nil ?_
             refine c_sel [0, 1, 2] [poolC noH hp_6, rowO 32 4 (.slice p_3.1 css_4.length p_3.2) css_4.length (css_4.map idC), cellsC b2 [.int .i64 t100.Id, str t100.Name, (List.getD (List.getD css_4 (Int.toNat x97_2) []) 2 undef), (List.getD (List.getD css_4 (Int.toNat x97_2) []) 3 undef)] 32] rfl (by decide) ?_
             refine c_true rfl ?_
             refine c_seq ?_
             refine c_region ?_
             refine l_val rfl rfl rfl (r_assign (v := .bool false) rfl) ?_
             refine l_nil ?_
             refine c_sel [0, 1, 2] [poolC noH hp_6, rowO 32 4 (.slice p_3.1 css_4.length p_3.2) css_4.length (css_4.map idC), cellsC b2 [.int .i64 t100.Id, str t100.Name, (List.getD (List.getD css_4 (Int.toNat x97_2) []) 2 undef), (List.getD (List.getD css_4 (Int.toNat x97_2) []) 3 undef)] 32] rfl (by decide) ?_
             refine c_ret ?_
             obtain rfl := Option.some.inj H77
             refine ret1 (v := .bool false) rfl rfl (fin rfl)
            ·have H78 := cnd_f hb H76
             refine d_val rfl rfl (r_field Tryz.runUnderlying32 rfl Tryz.sizeOf24 rfl rfl) ?_
             refine d_load1 (i := 2) (v := (List.getD (List.getD css_4 (Int.toNat x97_2) []) 2 undef)) Tryz.isAgg24 rfl rfl rfl rfl ?_
             refine d_val rfl rfl (r_move (v := v1) rfl) ?_
             refine d_val rfl rfl (r_move (v := .int .i64 x97_2) rfl) ?_
             have h_t115 := bnd_val H78
             have H79 := bnd_rest H78
             refine d_val rfl rfl (r_indexF Tryz.underlying23 Tryz.sizeOf32 rfl rfl f1.frs (f1.ix h_t115)) ?_
             refine d_val rfl rfl (r_fieldP Tryz.runUnderlying32 rfl Tryz.sizeOf24 rfl rfl (some_of_at f1.frs (f1.ix h_t115))) ?_
             refine d_read (fun w hF => run_loadG1 (f := (elC h v1 4)) (i := x97_2) (sz := 4) (j := 2) (v := (elH h v1 4 (Int.toNat x97_2) 2)) Tryz.isAgg24 rfl rfl (f1.frs.row (hw.now hF)) (f1.ix h_t115) (rg_of (cg_face_Person (f1.at h_t115)) rfl)) rfl rfl ?_
             have h_t118 := bnd_val H79
             have H80 := bnd_rest H79
             refine d_callD (fun w L' hF hS hi => k12 (know_all w) ((show FrS hp_6 1 (List.getD (List.getD css_4 (Int.toNat x97_2) []) 2 undef) (t100.Likes.map e_i64) from (g_face_Person_p2 ((pf_4.mono hle_6).at h_t100))).mono (pool_now (i := 0) hS ((hi 0 (by simp)).trans rfl) noH_le)) ((show FrS h 1 (elH h v1 4 (Int.toNat x97_2) 2) ((val (gAt a1 x97_2)).Likes.map e_i64) from (g_face_Person_p2 (f1.at h_t115))).mono (hw.now hF)) h_t118) Tryz.call12 rfl rfl ?_
             refine d_val rfl rfl (r_not rfl) ?_
             refine d_val rfl rfl (r_pickF (v := .bool (!(val (slices_Equal_int t100.Likes (val (gAt a1 x97_2)).Likes)))) rfl rfl) ?_
             refine d_nil ?_
             refine c_sel [0, 1, 2] [poolC noH hp_6, rowO 32 4 (.slice p_3.1 css_4.length p_3.2) css_4.length (css_4.map idC), cellsC b2 [.int .i64 t100.Id, str t100.Name, (List.getD (List.getD css_4 (Int.toNat x97_2) []) 2 undef), (List.getD (List.getD css_4 (Int.toNat x97_2) []) 3 undef)] 32] rfl (by decide) ?_
             refine c_if (b := (!(val (slices_Equal_int t100.Likes (val (gAt a1 x97_2)).Likes)))) rfl (fun hb => ?_) (fun hb => ?_)
             ·have H81 := cnd_t hb H80; clear H80
              refine c_seq ?_
              refine c_region ?_
              refine l_val rfl rfl rfl (r_assign (v := .bool false) rfl) ?_
              refine l_nil ?_
              refine c_sel [0, 1, 2] [poolC noH hp_6, rowO 32 4 (.slice p_3.1 css_4.length p_3.2) css_4.length (css_4.map idC), cellsC b2 [.int .i64 t100.Id, str t100.Name, (List.getD (List.getD css_4 (Int.toNat x97_2) []) 2 undef), (List.getD (List.getD css_4 (Int.toNat x97_2) []) 3 undef)] 32] rfl (by decide) ?_
              refine c_ret ?_
              obtain rfl := Option.some.inj H81
              refine ret1 (v := .bool false) rfl rfl (fin rfl)
             ·have H82 := cnd_f hb H80; clear H80
              refine c_skip ?_
              refine c_region ?_
              obtain ⟨t121, h_t121, H83⟩ := bnd_some H82; clear H82
              refine l_val rfl rfl rfl (r_addG rfl rfl h_t121) ?_
              refine l_val rfl rfl rfl (r_move (v := .int .i64 t121) rfl) ?_
              refine l_nil ?_
              refine c_sel [0, 1, 2] [poolC noH hp_6, rowO 32 4 (.slice p_3.1 css_4.length p_3.2) css_4.length (css_4.map idC), cellsC b2 [.int .i64 t100.Id, str t100.Name, (List.getD (List.getD css_4 (Int.toNat x97_2) []) 2 undef), (List.getD (List.getD css_4 (Int.toNat x97_2) []) 3 undef)] 32] rfl (by decide) ?_
              refine c_close t121 () m3 [0, 1] (by exact ⟨rfl, rfl, rfl, rfl, trivial⟩) (by decide) rfl (by exact ⟨(by subst hn3; exact H83), trivial⟩) (Nat.lt_succ_self _)
            ) (by kernel_rfl)
          ·have H84 := cnd_f hb H73; clear H73
           refine c_exit ?_
           refine c_seq ?_
           refine c_region ?_
           refine l_val rfl rfl rfl (r_assign (v := .bool true) rfl) ?_
           refine l_nil ?_
           refine c_ret ?_
           obtain rfl := Option.some.inj H84
           refine ret1 (v := .bool true) rfl rfl (fin rfl)
end Go.Proofs.YthhaabhnlndnoaaGreat
