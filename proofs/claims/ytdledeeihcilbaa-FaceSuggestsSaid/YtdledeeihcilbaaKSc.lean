/- FaceSuggests, the rest: the walks, printed by our generator; each follows its model. Conditions: the model yields a value. -/
import Derived.Test.YtdledeeihcilbaaKSa
namespace Go.Proofs.Ytdledeeihcilbaa
open Go Go.Vc Go.Md Go.M Go.Lx
set_option maxRecDepth 100000
set_option maxHeartbeats 4000000
set_option linter.unusedVariables false

theorem k29 {a0 : (List (Nat → Int))} {v0 : Value} {r : Int} {w : World} {h : Heap} (hw : Know h w noS) (f0 : FrS h 12 v0 (a0.map e_face_Vec)) (H : face_checkVecs a0 = some r) : Does Try.prog 29 (List.toArray [v0]) w (fun v w' => v = (.int .i64 r) ∧ Grow w w') := by
 refine enter (n := 18) Try.func29 rfl rfl rfl noS [] (Sat.nil _ _) ?_
 refine c_seq ?_
 refine c_region ?_
 refine l_val rfl rfl rfl (r_assign (v := .int .i64 0) rfl) ?_
 refine l_nil ?_
 refine c_seq ?_
 refine c_seq ?_
 refine c_region ?_
 refine l_val rfl rfl rfl (r_move (v := v0) rfl) ?_
 refine l_val rfl rfl rfl (r_lenF Try.underlying87 rfl f0 rfl) ?_
 refine l_val rfl rfl rfl (r_move (v := .int .i64 0) rfl) ?_
 refine l_nil ?_
 refine c_block ?_
 refine c_fix (σ := Int) (τ := Unit) (fun next1 s => face_checkVecs_l1 a0 next1 s) (fun s t => [(6, v0), (7, .int .i64 (a0.length : Int)), (8, .int .i64 s)]) (fun s t => []) (fun s t => True) 0 () [] H (by exact trivial) (by exact ⟨rfl, rfl, rfl, trivial⟩) (by decide) rfl ?_
 rintro x8_2 _ m1 gg H9 _
 clear H
 replace H9 : face_checkVecs_l1 a0 (it (fun next1 s => face_checkVecs_l1 a0 next1 s) m1) x8_2 = some r := H9
 generalize hn1 : it (fun next1 s => face_checkVecs_l1 a0 next1 s) m1 = next1 at H9
 refine c_tidyF [(6, v0), (7, .int .i64 (a0.length : Int)), (8, .int .i64 x8_2)] [] rfl rfl ?_
 refine c_seq ?_
 refine c_region ?_
 refine l_val rfl rfl rfl (r_lss rfl rfl) ?_
 refine l_nil ?_
 refine c_seq ?_
 refine c_if (b := (decide (x8_2 < (a0.length : Int)))) rfl (fun hb => ?_) (fun hb => ?_)
 ·have H10 := cnd_t hb H9; clear H9
  refine c_skip ?_
  refine c_seq ?_
  refine c_block ?_
  refine c_seq ?_
  refine c_region ?_
  obtain ⟨t10, h_t10, H11⟩ := bnd_some H10; clear H10
  refine l_val rfl rfl rfl (r_indexF Try.underlying87 Try.sizeOf40 rfl rfl f0 h_t10) ?_
  refine l_read (fun w hF hS => run_loadGN (f := e_face_Vec) (i := x8_2) (sz := 12) (j := 0) (vs := [.int .i64 (t10 0), .int .i64 (t10 1), .int .i64 (t10 2), .int .i64 (t10 3), .int .i64 (t10 4), .int .i64 (t10 5), .int .i64 (t10 6), .int .i64 (t10 7), .int .i64 (t10 8), .int .i64 (t10 9), .int .i64 (t10 10), .int .i64 (t10 11)]) Try.isAgg40 Try.sizeOf40 rfl rfl (f0.row (hw.now hF)) h_t10 rfl) rfl rfl rfl ?_
  refine l_alloc (cs := [.int .i64 0, .int .i64 0, .int .i64 0, .int .i64 0, .int .i64 0, .int .i64 0, .int .i64 0, .int .i64 0, .int .i64 0, .int .i64 0, .int .i64 0, .int .i64 0]) Try.zeroValue40 rfl rfl rfl (fun b1 => ?_)
  refine l_store (i := 0) (vs := [.int .i64 (t10 0), .int .i64 (t10 1), .int .i64 (t10 2), .int .i64 (t10 3), .int .i64 (t10 4), .int .i64 (t10 5), .int .i64 (t10 6), .int .i64 (t10 7), .int .i64 (t10 8), .int .i64 (t10 9), .int .i64 (t10 10), .int .i64 (t10 11)]) (cs' := [.int .i64 (t10 0), .int .i64 (t10 1), .int .i64 (t10 2), .int .i64 (t10 3), .int .i64 (t10 4), .int .i64 (t10 5), .int .i64 (t10 6), .int .i64 (t10 7), .int .i64 (t10 8), .int .i64 (t10 9), .int .i64 (t10 10), .int .i64 (t10 11)]) Try.sizeOf40 rfl rfl rfl rfl rfl rfl rfl rfl rfl ?_
  refine l_nil ?_
  refine c_seq ?_
  refine c_region ?_
  refine l_loadN (i := 0) (vs := [.int .i64 (t10 0), .int .i64 (t10 1), .int .i64 (t10 2), .int .i64 (t10 3), .int .i64 (t10 4), .int .i64 (t10 5), .int .i64 (t10 6), .int .i64 (t10 7), .int .i64 (t10 8), .int .i64 (t10 9), .int .i64 (t10 10), .int .i64 (t10 11)]) Try.isAgg40 Try.sizeOf40 rfl rfl rfl rfl rfl ?_
  obtain ⟨t13, h_t13, H12⟩ := bnd_some H11; clear H11
  refine l_call (k51 h_t13) Try.call51 rfl rfl rfl ?_
  refine l_val rfl rfl rfl (r_assign (v := .int .i64 t13) rfl) ?_
  refine l_nil ?_
  refine c_seq ?_
  refine c_region ?_
  refine l_val rfl rfl rfl (r_move (v := .int .i64 t13) rfl) ?_
  refine l_val rfl rfl rfl (r_neq rfl rfl) ?_
  refine l_nil ?_
  refine c_if (b := (decide (t13 ≠ 0))) rfl (fun hb => ?_) (fun hb => ?_)
  ·have H13 := cnd_t hb H12; clear H12
   refine c_seq ?_
   refine c_region ?_
   refine l_val rfl rfl rfl (r_move (v := .int .i64 t13) rfl) ?_
   refine l_val rfl rfl rfl (r_assign (v := .int .i64 t13) rfl) ?_
   refine l_nil ?_
   refine c_ret ?_
   obtain rfl := Option.some.inj H13
   refine ret1 (v := .int .i64 t13) rfl rfl (fin rfl)
  ·have H14 := cnd_f hb H12; clear H12
   refine c_skip ?_
   refine c_region ?_
   obtain ⟨t17, h_t17, H15⟩ := bnd_some H14; clear H14
   refine l_val rfl rfl rfl (r_addG rfl rfl h_t17) ?_
   refine l_val rfl rfl rfl (r_move (v := .int .i64 t17) rfl) ?_
   refine l_nil ?_
   refine c_close t17 () m1 [] (by exact ⟨rfl, rfl, rfl, trivial⟩) (by decide) rfl (by exact ⟨(by subst hn1; exact H15), trivial⟩) (Nat.lt_succ_self _)
 ·have H16 := cnd_f hb H9; clear H9
  refine c_exit ?_
  refine c_seq ?_
  refine c_region ?_
  refine l_val rfl rfl rfl (r_assign (v := .int .i64 0) rfl) ?_
  refine l_nil ?_
  refine c_ret ?_
  obtain rfl := Option.some.inj H16
  refine ret1 (v := .int .i64 0) rfl rfl (fin rfl)
theorem k11 {a0 : (Nat → Int)} {a1 : (Nat → Int)} {r : Int × Int} (H : face_Far a0 a1 = some r) : Ret Try.prog 11 [.agg #[.int .i64 (a0 0), .int .i64 (a0 1), .int .i64 (a0 2), .int .i64 (a0 3), .int .i64 (a0 4), .int .i64 (a0 5), .int .i64 (a0 6), .int .i64 (a0 7), .int .i64 (a0 8), .int .i64 (a0 9), .int .i64 (a0 10), .int .i64 (a0 11)], .agg #[.int .i64 (a1 0), .int .i64 (a1 1), .int .i64 (a1 2), .int .i64 (a1 3), .int .i64 (a1 4), .int .i64 (a1 5), .int .i64 (a1 6), .int .i64 (a1 7), .int .i64 (a1 8), .int .i64 (a1 9), .int .i64 (a1 10), .int .i64 (a1 11)]] (.tuple #[.int .i64 r.1, .int .i64 r.2]) := by
 refine enterRet (n := 17) Try.func11 rfl rfl rfl (fun wd => ?_)
 refine c_seq ?_
 refine c_region ?_
 refine l_box (cs := [.int .i64 (a0 0), .int .i64 (a0 1), .int .i64 (a0 2), .int .i64 (a0 3), .int .i64 (a0 4), .int .i64 (a0 5), .int .i64 (a0 6), .int .i64 (a0 7), .int .i64 (a0 8), .int .i64 (a0 9), .int .i64 (a0 10), .int .i64 (a0 11)]) rfl rfl rfl rfl (fun b3 => ?_)
 refine l_box (cs := [.int .i64 (a1 0), .int .i64 (a1 1), .int .i64 (a1 2), .int .i64 (a1 3), .int .i64 (a1 4), .int .i64 (a1 5), .int .i64 (a1 6), .int .i64 (a1 7), .int .i64 (a1 8), .int .i64 (a1 9), .int .i64 (a1 10), .int .i64 (a1 11)]) rfl rfl rfl rfl (fun b4 => ?_)
 refine l_val rfl rfl rfl (r_assign (v := .int .i64 0) rfl) ?_
 refine l_val rfl rfl rfl (r_assign (v := .int .i64 0) rfl) ?_
 refine l_nil ?_
 refine c_seq ?_
 refine c_seq ?_
 refine c_region ?_
 refine l_loadN (i := 0) (vs := [.int .i64 (a0 0), .int .i64 (a0 1), .int .i64 (a0 2), .int .i64 (a0 3), .int .i64 (a0 4), .int .i64 (a0 5), .int .i64 (a0 6), .int .i64 (a0 7), .int .i64 (a0 8), .int .i64 (a0 9), .int .i64 (a0 10), .int .i64 (a0 11)]) Try.isAgg40 Try.sizeOf40 rfl rfl rfl rfl rfl ?_
 refine l_loadN (i := 1) (vs := [.int .i64 (a1 0), .int .i64 (a1 1), .int .i64 (a1 2), .int .i64 (a1 3), .int .i64 (a1 4), .int .i64 (a1 5), .int .i64 (a1 6), .int .i64 (a1 7), .int .i64 (a1 8), .int .i64 (a1 9), .int .i64 (a1 10), .int .i64 (a1 11)]) Try.isAgg40 Try.sizeOf40 rfl rfl rfl rfl rfl ?_
 refine l_buildSlice (vs := [.agg #[.int .i64 (a0 0), .int .i64 (a0 1), .int .i64 (a0 2), .int .i64 (a0 3), .int .i64 (a0 4), .int .i64 (a0 5), .int .i64 (a0 6), .int .i64 (a0 7), .int .i64 (a0 8), .int .i64 (a0 9), .int .i64 (a0 10), .int .i64 (a0 11)], .agg #[.int .i64 (a1 0), .int .i64 (a1 1), .int .i64 (a1 2), .int .i64 (a1 3), .int .i64 (a1 4), .int .i64 (a1 5), .int .i64 (a1 6), .int .i64 (a1 7), .int .i64 (a1 8), .int .i64 (a1 9), .int .i64 (a1 10), .int .i64 (a1 11)]]) (cs := [.int .i64 (a0 0), .int .i64 (a0 1), .int .i64 (a0 2), .int .i64 (a0 3), .int .i64 (a0 4), .int .i64 (a0 5), .int .i64 (a0 6), .int .i64 (a0 7), .int .i64 (a0 8), .int .i64 (a0 9), .int .i64 (a0 10), .int .i64 (a0 11), .int .i64 (a1 0), .int .i64 (a1 1), .int .i64 (a1 2), .int .i64 (a1 3), .int .i64 (a1 4), .int .i64 (a1 5), .int .i64 (a1 6), .int .i64 (a1 7), .int .i64 (a1 8), .int .i64 (a1 9), .int .i64 (a1 10), .int .i64 (a1 11)]) Try.underlying87 Try.sizeOf40 Try.zeroValue40 rfl rfl rfl rfl rfl rfl rfl (fun b5 => ?_)
 obtain ⟨t10, h_t10, H5⟩ := bnd_some H; clear H
 refine l_callG (fun w hF hS => k29 (know_all w) (frs_box (i := 2) (xs := ([a0, a1] : List (Nat → Int))) (f := e_face_Vec) hS rfl rfl rfl rfl rfl) h_t10) Try.call29 rfl rfl rfl ?_
 refine l_val rfl rfl rfl (r_assign (v := .int .i64 t10) rfl) ?_
 refine l_nil ?_
 refine c_seq ?_
 refine c_region ?_
 refine l_val rfl rfl rfl (r_move (v := .int .i64 t10) rfl) ?_
 refine l_val rfl rfl rfl (r_neq rfl rfl) ?_
 refine l_nil ?_
 refine c_if (b := (decide (t10 ≠ 0))) rfl (fun hb => ?_) (fun hb => ?_)
 ·have H6 := cnd_t hb H5; clear H5
  refine c_seq ?_
  refine c_region ?_
  refine l_val rfl rfl rfl (r_move (v := .int .i64 t10) rfl) ?_
  refine l_val rfl rfl rfl (r_assign (v := .int .i64 0) rfl) ?_
  refine l_val rfl rfl rfl (r_assign (v := .int .i64 t10) rfl) ?_
  refine l_nil ?_
  refine c_ret ?_
  obtain rfl := Option.some.inj H6
  refine ret2 (v1 := .int .i64 0) (v2 := .int .i64 t10) rfl rfl rfl (fin rfl)
 ·have H7 := cnd_f hb H5; clear H5
  refine c_skip ?_
  refine c_seq ?_
  refine c_region ?_
  refine l_loadN (i := 0) (vs := [.int .i64 (a0 0), .int .i64 (a0 1), .int .i64 (a0 2), .int .i64 (a0 3), .int .i64 (a0 4), .int .i64 (a0 5), .int .i64 (a0 6), .int .i64 (a0 7), .int .i64 (a0 8), .int .i64 (a0 9), .int .i64 (a0 10), .int .i64 (a0 11)]) Try.isAgg40 Try.sizeOf40 rfl rfl rfl rfl rfl ?_
  refine l_loadN (i := 1) (vs := [.int .i64 (a1 0), .int .i64 (a1 1), .int .i64 (a1 2), .int .i64 (a1 3), .int .i64 (a1 4), .int .i64 (a1 5), .int .i64 (a1 6), .int .i64 (a1 7), .int .i64 (a1 8), .int .i64 (a1 9), .int .i64 (a1 10), .int .i64 (a1 11)]) Try.isAgg40 Try.sizeOf40 rfl rfl rfl rfl rfl ?_
  obtain ⟨t16, h_t16, H8⟩ := bnd_some H7; clear H7
  refine l_call (k30 h_t16) Try.call30 rfl rfl rfl ?_
  refine l_val rfl rfl rfl (r_assign (v := .int .i64 t16) rfl) ?_
  refine l_val rfl rfl rfl (r_assign (v := .int .i64 0) rfl) ?_
  refine l_nil ?_
  refine c_ret ?_
  obtain rfl := Option.some.inj H8
  refine ret2 (v1 := .int .i64 t16) (v2 := .int .i64 0) rfl rfl rfl (fin rfl)
theorem k4 {r : Bool} (H : Keep_awakeFace = some r) : Ret Try.prog 4 [] (.bool r) := by
 refine enterRet (n := 15) Try.func4 rfl rfl rfl (fun wd => ?_)
 refine c_seq ?_
 refine c_region ?_
 refine l_val rfl rfl rfl (r_assign (v := .bool false) rfl) ?_
 refine l_nil ?_
 refine c_seq ?_
 refine c_region ?_
 refine l_val rfl rfl rfl (r_buildA (ps := []) (cells := #[.int .i64 0, .int .i64 0, .int .i64 0, .int .i64 0, .int .i64 0, .int .i64 0, .int .i64 0, .int .i64 0, .int .i64 0, .int .i64 0, .int .i64 0, .int .i64 0]) Try.zeroValue40 Try.runUnderlying40 Try.sizeOf3 rfl rfl) ?_
 refine l_val rfl rfl rfl (r_buildA (ps := [(0, .int .i64 3)]) (cells := #[.int .i64 3, .int .i64 0, .int .i64 0, .int .i64 0, .int .i64 0, .int .i64 0, .int .i64 0, .int .i64 0, .int .i64 0, .int .i64 0, .int .i64 0, .int .i64 0]) Try.zeroValue40 Try.runUnderlying40 Try.sizeOf3 rfl rfl) ?_
 obtain ⟨t6, h_t6, H4⟩ := bnd_some H; clear H
 refine l_call (k11 h_t6) Try.call11 rfl rfl rfl ?_
 refine l_val rfl rfl rfl (r_move (v := .tuple #[.int .i64 t6.1, .int .i64 t6.2]) rfl) ?_
 refine l_val rfl rfl rfl (r_extract (v := .int .i64 t6.1) rfl rfl) ?_
 refine l_val rfl rfl rfl (r_extract (v := .int .i64 t6.2) rfl rfl) ?_
 refine l_val rfl rfl rfl (r_assign (v := .int .i64 t6.1) rfl) ?_
 refine l_val rfl rfl rfl (r_assign (v := .int .i64 t6.2) rfl) ?_
 refine l_nil ?_
 refine c_seq ?_
 refine c_region ?_
 refine l_val rfl rfl rfl (r_move (v := .int .i64 t6.2) rfl) ?_
 refine l_val rfl rfl rfl (r_eql rfl rfl) ?_
 refine l_val rfl rfl rfl (r_move (v := .bool (decide (t6.2 = 0))) rfl) ?_
 refine split (fun hb => ?_) (fun hb => ?_)
 ·have H5 := cnd_t hb H4; clear H4
  refine l_val rfl rfl rfl (r_move (v := .int .i64 t6.1) rfl) ?_
  refine l_val rfl rfl rfl (r_eql rfl rfl) ?_
  refine l_val rfl rfl rfl (r_pickT (v := .bool (decide (t6.1 = 9))) rfl rfl) ?_
  refine l_val rfl rfl rfl (r_assign (v := .bool (decide (t6.1 = 9))) rfl) ?_
  refine l_nil ?_
  refine c_ret ?_
  obtain rfl := Option.some.inj H5
  refine ret1 (v := .bool (decide (t6.1 = 9))) rfl rfl (fin rfl)
 ·have H6 := cnd_f hb H4; clear H4
  refine l_passed rfl rfl rfl ?_
  refine l_passed rfl rfl rfl ?_
  refine l_val rfl rfl rfl (r_pickF (v := .bool false) rfl rfl) ?_
  refine l_val rfl rfl rfl (r_assign (v := .bool false) rfl) ?_
  refine l_nil ?_
  refine c_ret ?_
  obtain rfl := Option.some.inj H6
  refine ret1 (v := .bool false) rfl rfl (fin rfl)
theorem k60 {a0 : (List T_face_Person)} {v0 : Value} {a1 : Int} {a2 : (T_face_Person → Int → Option (Int))} {v2 : Value} {r : Int × Bool} {w : World} {h : Heap} (hw : Know h w noS) (f0 : FrN h 4 v0 g_face_Person a0) (f2 : FnH Try.prog h v2 (fnR_func_face_Person_int_int a2)) (H : slices_BinarySearchFunc_face_Person_int a0 a1 a2 = some r) : Does Try.prog 60 (List.toArray [v0, .int .i64 a1, v2]) w (fun v w' => v = (.tuple #[.int .i64 r.1, .bool r.2]) ∧ Grow w w') := by
 refine enter (n := 49) Try.func60 rfl rfl rfl noS [] (Sat.nil _ _) ?_
 refine c_seq ?_
 refine c_region ?_
 refine l_val rfl rfl rfl (r_assign (v := .int .i64 0) rfl) ?_
 refine l_val rfl rfl rfl (r_assign (v := .bool false) rfl) ?_
 refine l_nil ?_
 refine c_seq ?_
 refine c_region ?_
 refine l_val rfl rfl rfl (r_move (v := v0) rfl) ?_
 refine l_val rfl rfl rfl (r_lenFN Try.underlying23 rfl f0) ?_
 refine l_val rfl rfl rfl (r_assign (v := .int .i64 (a0.length : Int)) rfl) ?_
 refine l_nil ?_
 refine c_seq ?_
 refine c_region ?_
 refine l_val rfl rfl rfl (r_move (v := .int .i64 (a0.length : Int)) rfl) ?_
 refine l_val rfl rfl rfl (r_assign (v := .int .i64 0) rfl) ?_
 refine l_val rfl rfl rfl (r_assign (v := .int .i64 (a0.length : Int)) rfl) ?_
 refine l_nil ?_
 refine c_meet (r := r) (σ := Int) (τ := Unit) (fun s => slices_BinarySearchFunc_face_Person_int_j1 a0 a1 a2 s) (fun s t => [(0, v0), (1, .int .i64 a1), (2, v2), (8, .int .i64 (a0.length : Int)), (9, .int .i64 s)]) (fun s t => []) (fun s t => True) ?_ ?_
 ·refine c_block ?_
  refine c_fix (σ := Int × Int) (τ := Unit) (fun next2 s => slices_BinarySearchFunc_face_Person_int_l2 a0 a1 a2 next2 s.1 s.2) (fun s t => [(0, v0), (1, .int .i64 a1), (2, v2), (8, .int .i64 (a0.length : Int)), (9, .int .i64 s.1), (10, .int .i64 s.2)]) (fun s t => []) (fun s t => True) (0, (a0.length : Int)) () [] H (by exact trivial) (by exact ⟨rfl, rfl, rfl, rfl, rfl, rfl, trivial⟩) (by decide) rfl ?_
  rintro ⟨x9_3, x10_2⟩ _ m2 gg H21 _
  clear H
  replace H21 : slices_BinarySearchFunc_face_Person_int_l2 a0 a1 a2 (it (fun next2 s => slices_BinarySearchFunc_face_Person_int_l2 a0 a1 a2 next2 s.1 s.2) m2) x9_3 x10_2 = some r := H21
  generalize hn2 : it (fun next2 s => slices_BinarySearchFunc_face_Person_int_l2 a0 a1 a2 next2 s.1 s.2) m2 = next2 at H21
  refine c_tidyF [(0, v0), (1, .int .i64 a1), (2, v2), (8, .int .i64 (a0.length : Int)), (9, .int .i64 x9_3), (10, .int .i64 x10_2)] [] rfl rfl ?_
  refine c_seq ?_
  refine c_seq ?_
  refine c_region ?_
  refine l_val rfl rfl rfl (r_move (v := .int .i64 x9_3) rfl) ?_
  refine l_val rfl rfl rfl (r_move (v := .int .i64 x10_2) rfl) ?_
  refine l_val rfl rfl rfl (r_lss rfl rfl) ?_
  refine l_nil ?_
  refine c_if (b := (decide (x9_3 < x10_2))) rfl (fun hb => ?_) (fun hb => ?_)
  ·have H22 := cnd_t hb H21; clear H21
   refine c_skip ?_
   refine c_block ?_
   refine c_seq ?_
   refine c_region ?_
   refine l_val rfl rfl rfl (r_move (v := .int .i64 x9_3) rfl) ?_
   refine l_val rfl rfl rfl (r_move (v := .int .i64 x10_2) rfl) ?_
   obtain ⟨t20, h_t20, H23⟩ := bnd_some H22; clear H22
   refine l_val rfl rfl rfl (r_addG rfl rfl h_t20) ?_
   refine l_val rfl rfl rfl (r_convG Try.runUnderlying3 Try.runUnderlying88 rfl (wr_u64 _)) ?_
   obtain ⟨t22, h_t22, H24⟩ := bnd_some H23; clear H23
   refine l_val rfl rfl rfl (r_shrG rfl rfl rfl h_t22) ?_
   refine l_val rfl rfl rfl (r_convG Try.runUnderlying88 Try.runUnderlying3 rfl (wr_i64 _)) ?_
   refine l_val rfl rfl rfl (r_assign (v := .int .i64 (wI64 t22)) rfl) ?_
   refine l_nil ?_
   refine c_seq ?_
   refine c_region ?_
   refine l_val rfl rfl rfl (r_move (v := v2) rfl) ?_
   refine l_val rfl rfl rfl (r_move (v := v0) rfl) ?_
   refine l_val rfl rfl rfl (r_move (v := .int .i64 (wI64 t22)) rfl) ?_
   obtain ⟨t27, h_t27, H25⟩ := bnd_some H24; clear H24
   refine l_val rfl rfl rfl (r_indexF Try.underlying23 Try.sizeOf50 rfl rfl f0.frs (f0.ix h_t27)) ?_
   refine l_read (fun w hF hS => run_loadGN (f := (elC h v0 4)) (i := (wI64 t22)) (sz := 4) (j := 0) (vs := [.int .i64 t27.Id, str t27.Name, (elH h v0 4 (Int.toNat (wI64 t22)) 2), (elH h v0 4 (Int.toNat (wI64 t22)) 3)]) Try.isAgg50 Try.sizeOf50 rfl rfl (f0.frs.row (hw.now hF)) (f0.ix h_t27) (rd_of (cg_face_Person (f0.at h_t27)) rfl)) rfl rfl rfl ?_
   refine l_val rfl rfl rfl (r_move (v := .int .i64 a1) rfl) ?_
   obtain ⟨t30, h_t30, H26⟩ := bnd_some H25; clear H25
   refine l_callV (R := fnR_func_face_Person_int_int a2) (r := .int .i64 t30) (v := v2) (fun w hF hS => ⟨(f2.mono (hw.now hF)), ⟨t27, _, _, a1, _, ((show FrS h 1 (elH h v0 4 (Int.toNat (wI64 t22)) 2) (t27.Likes.map e_i64) from (g_face_Person_p2 (f0.at h_t27))).mono (hw.now hF)), ((show FrS h 1 (elH h v0 4 (Int.toNat (wI64 t22)) 3) (t27.Nots.map e_i64) from (g_face_Person_p3 (f0.at h_t27))).mono (hw.now hF)), rfl, h_t30, rfl⟩⟩) rfl rfl rfl rfl ?_
   refine l_val rfl rfl rfl (r_lss rfl rfl) ?_
   refine l_nil ?_
   refine c_if (b := (decide (t30 < 0))) rfl (fun hb => ?_) (fun hb => ?_)
   ·have H27 := cnd_t hb H26; clear H26
    refine c_region ?_
    refine l_val rfl rfl rfl (r_move (v := .int .i64 (wI64 t22)) rfl) ?_
    obtain ⟨t33, h_t33, H28⟩ := bnd_some H27; clear H27
    refine l_val rfl rfl rfl (r_addG rfl rfl h_t33) ?_
    refine l_val rfl rfl rfl (r_assign (v := .int .i64 t33) rfl) ?_
    refine l_nil ?_
    refine c_close (t33, x10_2) () m2 [] (by exact ⟨rfl, rfl, rfl, rfl, rfl, rfl, trivial⟩) (by decide) rfl (by exact ⟨(by subst hn2; exact H28), trivial⟩) (Nat.lt_succ_self _)
   ·have H29 := cnd_f hb H26; clear H26
    refine c_region ?_
    refine l_val rfl rfl rfl (r_move (v := .int .i64 (wI64 t22)) rfl) ?_
    refine l_val rfl rfl rfl (r_assign (v := .int .i64 (wI64 t22)) rfl) ?_
    refine l_nil ?_
    refine c_close (x9_3, (wI64 t22)) () m2 [] (by exact ⟨rfl, rfl, rfl, rfl, rfl, rfl, trivial⟩) (by decide) rfl (by exact ⟨(by subst hn2; exact H29), trivial⟩) (Nat.lt_succ_self _)
  ·have H30 := cnd_f hb H21; clear H21
   refine c_exit ?_
   refine c_close x9_3 () 0 [] (by exact ⟨rfl, rfl, rfl, rfl, rfl, trivial⟩) (by decide) rfl (by exact ⟨H30, trivial⟩) (Nat.lt_succ_self _)
 ·rintro x9 _ gg H16 _
  replace H16 : slices_BinarySearchFunc_face_Person_int_j1 a0 a1 a2 x9 = some r := H16
  refine c_tidyF [(0, v0), (1, .int .i64 a1), (2, v2), (8, .int .i64 (a0.length : Int)), (9, .int .i64 x9)] [] rfl rfl ?_
  refine c_seq ?_
  refine c_region ?_
  refine l_val rfl rfl rfl (r_move (v := .int .i64 x9) rfl) ?_
  refine l_val rfl rfl rfl (r_move (v := .int .i64 x9) rfl) ?_
  refine l_val rfl rfl rfl (r_move (v := .int .i64 (a0.length : Int)) rfl) ?_
  refine l_val rfl rfl rfl (r_lss rfl rfl) ?_
  refine l_val rfl rfl rfl (r_move (v := .bool (decide (x9 < (a0.length : Int)))) rfl) ?_
  refine split (fun hb => ?_) (fun hb => ?_)
  ·have H17 := cnd_t hb H16; clear H16
   refine l_val rfl rfl rfl (r_move (v := v2) rfl) ?_
   refine l_val rfl rfl rfl (r_move (v := v0) rfl) ?_
   refine l_val rfl rfl rfl (r_move (v := .int .i64 x9) rfl) ?_
   obtain ⟨t43, h_t43, H18⟩ := bnd_some H17; clear H17
   refine l_val rfl rfl rfl (r_indexF Try.underlying23 Try.sizeOf50 rfl rfl f0.frs (f0.ix h_t43)) ?_
   refine l_read (fun w hF hS => run_loadGN (f := (elC h v0 4)) (i := x9) (sz := 4) (j := 0) (vs := [.int .i64 t43.Id, str t43.Name, (elH h v0 4 (Int.toNat x9) 2), (elH h v0 4 (Int.toNat x9) 3)]) Try.isAgg50 Try.sizeOf50 rfl rfl (f0.frs.row (hw.now hF)) (f0.ix h_t43) (rd_of (cg_face_Person (f0.at h_t43)) rfl)) rfl rfl rfl ?_
   refine l_val rfl rfl rfl (r_move (v := .int .i64 a1) rfl) ?_
   obtain ⟨t46, h_t46, H19⟩ := bnd_some H18; clear H18
   refine l_callV (R := fnR_func_face_Person_int_int a2) (r := .int .i64 t46) (v := v2) (fun w hF hS => ⟨(f2.mono (hw.now hF)), ⟨t43, _, _, a1, _, ((show FrS h 1 (elH h v0 4 (Int.toNat x9) 2) (t43.Likes.map e_i64) from (g_face_Person_p2 (f0.at h_t43))).mono (hw.now hF)), ((show FrS h 1 (elH h v0 4 (Int.toNat x9) 3) (t43.Nots.map e_i64) from (g_face_Person_p3 (f0.at h_t43))).mono (hw.now hF)), rfl, h_t46, rfl⟩⟩) rfl rfl rfl rfl ?_
   refine l_val rfl rfl rfl (r_eql rfl rfl) ?_
   refine l_val rfl rfl rfl (r_pickT (v := .bool (decide (t46 = 0))) rfl rfl) ?_
   refine l_val rfl rfl rfl (r_assign (v := .int .i64 x9) rfl) ?_
   refine l_val rfl rfl rfl (r_assign (v := .bool (decide (t46 = 0))) rfl) ?_
   refine l_nil ?_
   refine c_ret ?_
   obtain rfl := Option.some.inj H19
   refine ret2 (v1 := .int .i64 x9) (v2 := .bool (decide (t46 = 0))) rfl rfl rfl (fin rfl)
  ·have H20 := cnd_f hb H16; clear H16
   refine l_passed rfl rfl rfl ?_
   refine l_passed rfl rfl rfl ?_
   refine l_passed rfl rfl rfl ?_
   refine l_passed rfl rfl rfl ?_
   refine l_passed rfl rfl rfl ?_
   refine l_passed rfl rfl rfl ?_
   refine l_passed rfl rfl rfl ?_
   refine l_passed rfl rfl rfl ?_
   refine l_val rfl rfl rfl (r_pickF (v := .bool false) rfl rfl) ?_
   refine l_val rfl rfl rfl (r_assign (v := .int .i64 x9) rfl) ?_
   refine l_val rfl rfl rfl (r_assign (v := .bool false) rfl) ?_
   refine l_nil ?_
   refine c_ret ?_
   obtain rfl := Option.some.inj H20
   refine ret2 (v1 := .int .i64 x9) (v2 := .bool false) rfl rfl rfl (fin rfl)
theorem k61 {a0 : T_face_Person} {v0_2 : Value} {v0_3 : Value} {a1 : Int} {r : Int} {w : World} {h : Heap} (hw : Know h w noS) (f0_2 : FrS h 1 v0_2 (a0.Likes.map e_i64)) (f0_3 : FrS h 1 v0_3 (a0.Nots.map e_i64)) (H : face_personAt_1 a0 a1 = some r) : Does Try.prog 61 (List.toArray [.agg #[.int .i64 a0.Id, str a0.Name, v0_2, v0_3], .int .i64 a1]) w (fun v w' => v = (.int .i64 r) ∧ Grow w w') := by
 refine enter (n := 9) Try.func61 rfl rfl rfl noS [] (Sat.nil _ _) ?_
 refine c_seq ?_
 refine c_region ?_
 refine l_box (cs := [.int .i64 a0.Id, str a0.Name, v0_2, v0_3]) rfl rfl rfl rfl (fun b1 => ?_)
 refine l_val rfl rfl rfl (r_assign (v := .int .i64 0) rfl) ?_
 refine l_nil ?_
 refine c_seq ?_
 refine c_region ?_
 refine l_val rfl rfl rfl (r_field Try.runUnderlying50 rfl Try.sizeOf3 rfl rfl) ?_
 refine l_load1 (i := 0) (v := .int .i64 a0.Id) Try.isAgg3 rfl rfl rfl rfl rfl ?_
 refine l_val rfl rfl rfl (r_move (v := .int .i64 a1) rfl) ?_
 obtain ⟨t8, h_t8, H2⟩ := bnd_some H; clear H
 refine l_call (k39 h_t8) Try.call39 rfl rfl rfl ?_
 refine l_val rfl rfl rfl (r_assign (v := .int .i64 t8) rfl) ?_
 refine l_nil ?_
 refine c_ret ?_
 obtain rfl := Option.some.inj H2
 refine ret1 (v := .int .i64 t8) rfl rfl (fin rfl)
theorem k40 {a0 : (List T_face_Person)} {v0 : Value} {a1 : Int} {r : Int × Bool} {w : World} {h : Heap} (hw : Know h w noS) (f0 : FrN h 4 v0 g_face_Person a0) (H : face_personAt a0 a1 = some r) : Does Try.prog 40 (List.toArray [v0, .int .i64 a1]) w (fun v w' => v = (.tuple #[.int .i64 r.1, .bool r.2]) ∧ Grow w w') := by
 refine enter (n := 11) Try.func40 rfl rfl rfl noS [] (Sat.nil _ _) ?_
 refine c_seq ?_
 refine c_region ?_
 refine l_val rfl rfl rfl (r_assign (v := .int .i64 0) rfl) ?_
 refine l_val rfl rfl rfl (r_assign (v := .bool false) rfl) ?_
 refine l_nil ?_
 refine c_seq ?_
 refine c_region ?_
 refine l_val rfl rfl rfl (r_move (v := v0) rfl) ?_
 refine l_val rfl rfl rfl (r_move (v := .int .i64 a1) rfl) ?_
 obtain ⟨t8, h_t8, H2⟩ := bnd_some H; clear H
 refine l_callG (fun w hF hS => k60 (know_all w) (f0.mono (hw.now hF)) (FnH.mk ⟨61, #[], #[], rfl, Try.call61, fun args2 post2 w2 hk2 hR2 => by obtain ⟨a0_, v0_2_, v0_3_, a1_, r_, fa0_2_, fa0_3_, rfl, H_, rfl⟩ := hR2; exact k61 (know_all w2) fa0_2_ fa0_3_ H_⟩) h_t8) Try.call60 rfl rfl rfl ?_
 refine l_val rfl rfl rfl (r_extract (v := .int .i64 t8.1) rfl rfl) ?_
 refine l_val rfl rfl rfl (r_extract (v := .bool t8.2) rfl rfl) ?_
 refine l_val rfl rfl rfl (r_assign (v := .int .i64 t8.1) rfl) ?_
 refine l_val rfl rfl rfl (r_assign (v := .bool t8.2) rfl) ?_
 refine l_nil ?_
 refine c_ret ?_
 obtain rfl := Option.some.inj H2
 refine ret2 (v1 := .int .i64 t8.1) (v2 := .bool t8.2) rfl rfl rfl (fin rfl)
theorem k16 {a0 : (List T_face_Likeness)} {v0 : Value} {a1 : (List T_face_Person)} {v1 : Value} {a2 : Int} {a3 : Int} {r : Int × Int} {w : World} {h : Heap} (hw : Know h w noS) (f0 : FrS h 14 v0 (a0.map e_face_Likeness)) (f1 : FrN h 4 v1 g_face_Person a1) (H : face_checkBoth a0 a1 a2 a3 = some r) : Does Try.prog 16 (List.toArray [v0, v1, .int .i64 a2, .int .i64 a3]) w (fun v w' => v = (.tuple #[.int .i64 r.1, .int .i64 r.2]) ∧ Grow w w') := by
 refine enter (n := 39) Try.func16 rfl rfl rfl noS [] (Sat.nil _ _) ?_
 refine c_seq ?_
 refine c_region ?_
 refine l_val rfl rfl rfl (r_assign (v := .int .i64 0) rfl) ?_
 refine l_val rfl rfl rfl (r_assign (v := .int .i64 0) rfl) ?_
 refine l_nil ?_
 refine c_seq ?_
 refine c_seq ?_
 refine c_region ?_
 refine l_val rfl rfl rfl (r_move (v := v0) rfl) ?_
 refine l_val rfl rfl rfl (r_move (v := v1) rfl) ?_
 obtain ⟨t16, h_t16, H10⟩ := bnd_some H; clear H
 refine l_callG (fun w hF hS => k7 (know_all w) (f0.mono (hw.now hF)) (f1.mono (hw.now hF)) h_t16) Try.call7 rfl rfl rfl ?_
 refine l_val rfl rfl rfl (r_assign (v := .int .i64 t16) rfl) ?_
 refine l_nil ?_
 refine c_seq ?_
 refine c_region ?_
 refine l_val rfl rfl rfl (r_move (v := .int .i64 t16) rfl) ?_
 refine l_val rfl rfl rfl (r_neq rfl rfl) ?_
 refine l_nil ?_
 refine c_if (b := (decide (t16 ≠ 0))) rfl (fun hb => ?_) (fun hb => ?_)
 ·have H11 := cnd_t hb H10; clear H10
  refine c_seq ?_
  refine c_region ?_
  refine l_val rfl rfl rfl (r_move (v := .int .i64 t16) rfl) ?_
  refine l_val rfl rfl rfl (r_assign (v := .int .i64 0) rfl) ?_
  refine l_val rfl rfl rfl (r_assign (v := .int .i64 t16) rfl) ?_
  refine l_nil ?_
  refine c_ret ?_
  obtain rfl := Option.some.inj H11
  refine ret2 (v1 := .int .i64 0) (v2 := .int .i64 t16) rfl rfl rfl (fin rfl)
 ·have H12 := cnd_f hb H10; clear H10
  refine c_skip ?_
  refine c_seq ?_
  refine c_region ?_
  refine l_val rfl rfl rfl (r_move (v := v1) rfl) ?_
  refine l_val rfl rfl rfl (r_move (v := .int .i64 a2) rfl) ?_
  obtain ⟨t23, h_t23, H13⟩ := bnd_some H12; clear H12
  refine l_callG (fun w hF hS => k40 (know_all w) (f1.mono (hw.now hF)) h_t23) Try.call40 rfl rfl rfl ?_
  refine l_val rfl rfl rfl (r_move (v := .tuple #[.int .i64 t23.1, .bool t23.2]) rfl) ?_
  refine l_val rfl rfl rfl (r_extract (v := .int .i64 t23.1) rfl rfl) ?_
  refine l_val rfl rfl rfl (r_extract (v := .bool t23.2) rfl rfl) ?_
  refine l_val rfl rfl rfl (r_assign (v := .int .i64 t23.1) rfl) ?_
  refine l_val rfl rfl rfl (r_assign (v := .bool t23.2) rfl) ?_
  refine l_nil ?_
  refine c_seq ?_
  refine c_seq ?_
  refine c_region ?_
  refine l_val rfl rfl rfl (r_move (v := v0) rfl) ?_
  refine l_val rfl rfl rfl (r_move (v := .int .i64 a3) rfl) ?_
  obtain ⟨t29, h_t29, H14⟩ := bnd_some H13; clear H13
  refine l_callG (fun w hF hS => k12 (know_all w) (f0.mono (hw.now hF)) h_t29) Try.call12 rfl rfl rfl ?_
  refine l_val rfl rfl rfl (r_move (v := .tuple #[.int .i64 t29.1, .bool t29.2]) rfl) ?_
  refine l_val rfl rfl rfl (r_extract (v := .int .i64 t29.1) rfl rfl) ?_
  refine l_val rfl rfl rfl (r_extract (v := .bool t29.2) rfl rfl) ?_
  refine l_val rfl rfl rfl (r_assign (v := .int .i64 t29.1) rfl) ?_
  refine l_val rfl rfl rfl (r_assign (v := .bool t29.2) rfl) ?_
  refine l_nil ?_
  refine c_seq ?_
  refine c_region ?_
  refine l_val rfl rfl rfl (r_move (v := .bool t23.2) rfl) ?_
  refine l_val rfl rfl rfl (r_not rfl) ?_
  refine l_val rfl rfl rfl (r_move (v := .bool (!t23.2)) rfl) ?_
  refine split (fun hb => ?_) (fun hb => ?_)
  ·have H15 := cnd_t hb H14; clear H14
   refine l_passed rfl rfl rfl ?_
   refine l_passed rfl rfl rfl ?_
   refine l_val rfl rfl rfl (r_pickT (v := .bool true) rfl rfl) ?_
   refine l_nil ?_
   refine c_true rfl ?_
   refine c_seq ?_
   refine c_region ?_
   refine l_val rfl rfl rfl (r_assign (v := .int .i64 0) rfl) ?_
   refine l_val rfl rfl rfl (r_assign (v := .int .i64 7) rfl) ?_
   refine l_nil ?_
   refine c_ret ?_
   obtain rfl := Option.some.inj H15
   refine ret2 (v1 := .int .i64 0) (v2 := .int .i64 7) rfl rfl rfl (fin rfl)
  ·have H16 := cnd_f hb H14; clear H14
   refine l_val rfl rfl rfl (r_move (v := .bool t29.2) rfl) ?_
   refine l_val rfl rfl rfl (r_not rfl) ?_
   refine l_val rfl rfl rfl (r_pickF (v := .bool (!t29.2)) rfl rfl) ?_
   refine l_nil ?_
   refine c_if (b := (!t29.2)) rfl (fun hb => ?_) (fun hb => ?_)
   ·have H17 := cnd_t hb H16; clear H16
    refine c_seq ?_
    refine c_region ?_
    refine l_val rfl rfl rfl (r_assign (v := .int .i64 0) rfl) ?_
    refine l_val rfl rfl rfl (r_assign (v := .int .i64 7) rfl) ?_
    refine l_nil ?_
    refine c_ret ?_
    obtain rfl := Option.some.inj H17
    refine ret2 (v1 := .int .i64 0) (v2 := .int .i64 7) rfl rfl rfl (fin rfl)
   ·have H18 := cnd_f hb H16; clear H16
    refine c_skip ?_
    refine c_seq ?_
    refine c_region ?_
    refine l_val rfl rfl rfl (r_move (v := .int .i64 t23.1) rfl) ?_
    refine l_val rfl rfl rfl (r_assign (v := .int .i64 t23.1) rfl) ?_
    refine l_val rfl rfl rfl (r_assign (v := .int .i64 0) rfl) ?_
    refine l_nil ?_
    refine c_ret ?_
    obtain rfl := Option.some.inj H18
    refine ret2 (v1 := .int .i64 t23.1) (v2 := .int .i64 0) rfl rfl rfl (fin rfl)
theorem k43 {a : Option Addr} {n c : Nat} (hc : n ≤ c) : Ret Try.prog 43 [.slice a n c] (.slice (cutA a 0 n 4) n n) := by
  refine enterRet (n := 9) Try.func43 rfl rfl rfl (fun wd => ?_)
  refine c_seq ?_
  refine c_region ?_
  refine l_val rfl rfl rfl (r_assign (v := .slice none 0 0) rfl) ?_
  refine l_nil ?_
  refine c_seq ?_
  refine c_region ?_
  refine l_val rfl rfl rfl (r_move (v := .slice a n c) rfl) ?_
  refine l_val rfl rfl rfl (r_move (v := .slice a n c) rfl) ?_
  refine l_val rfl rfl rfl (r_len Try.underlying23 rfl) ?_
  refine l_val rfl rfl rfl (r_move (v := .slice a n c) rfl) ?_
  refine l_val rfl rfl rfl (r_len Try.underlying23 rfl) ?_
  refine l_val rfl rfl rfl (r_sliceHM (a := a) (m := n) (c := c) (h := (n : Int)) (q := (n : Int)) Try.underlying23 Try.sizeOf50 rfl rfl rfl (Int.natCast_nonneg n) (Int.le_refl _) (Int.ofNat_le.2 hc)) ?_
  refine l_val rfl rfl rfl (r_assign (v := .slice (cutA a 0 n 4) n n) rfl) ?_
  refine l_nil ?_
  refine c_ret ?_
  exact ret1 (v := .slice (cutA a 0 n 4) n n) rfl rfl (fin rfl)

theorem k18 {a0 : (List T_face_Person)} {v0 : Value} {r : (List T_face_Person)} {w : World} {h : Heap} (hw : Know h w noS) (f0 : FrN h 4 v0 g_face_Person a0) (H : face_copyPeople a0 = some r) : Does Try.prog 18 (List.toArray [v0]) w (fun v w' => ∃ x : (Option Addr × Nat), v = (.slice x.1 r.length x.2) ∧ Turn w w' noS (rofD 50 4 g_face_Person (.slice x.1 r.length x.2) r.length r)) := by
 refine enter (n := 27) Try.func18 rfl rfl rfl noS [] (Sat.nil _ _) ?_
 refine c_poolNew noH ?_
 refine c_seq ?_
 refine c_region ?_
 refine l_val rfl rfl rfl (r_assign (v := .slice none 0 0) rfl) ?_
 refine l_nil ?_
 refine c_seq ?_
 refine c_region ?_
 refine l_val rfl rfl rfl (r_assign (v := .slice none 0 0) rfl) ?_
 refine l_nil ?_
 refine c_meet (r := r) (σ := (List T_face_Person)) (τ := Heap × (List (List Value)) × (Option Addr × Nat)) (fun s => face_copyPeople_j1 s) (fun s t => [(3, .slice t.2.2.1 t.2.1.length t.2.2.2)]) (fun s t => [poolC noH t.1, rowV 50 4 (.slice t.2.2.1 t.2.1.length t.2.2.2) t.2.1.length (t.2.1.map idC)]) (fun s t => AllC g_face_Person t.1 4 t.2.1 s) ?_ ?_
 ·refine c_seq ?_
  refine c_region ?_
  refine l_val rfl rfl rfl (r_move (v := v0) rfl) ?_
  refine l_val rfl rfl rfl (r_lenFN Try.underlying23 rfl f0) ?_
  refine l_val rfl rfl rfl (r_move (v := .int .i64 0) rfl) ?_
  refine l_nil ?_
  refine c_block ?_
  refine c_nilRow 50 4 ?_
  refine c_fix (σ := Int × Int × (List T_face_Person)) (τ := Heap × (List (List Value)) × (Option Addr × Nat)) (fun next2 s => face_copyPeople_l2 a0 next2 s.1 s.2.1 s.2.2) (fun s t => [(3, .slice t.2.2.1 t.2.1.length t.2.2.2), (6, v0), (7, .int .i64 s.1), (8, .int .i64 s.2.1)]) (fun s t => [poolC noH t.1, rowV 50 4 (.slice t.2.2.1 t.2.1.length t.2.2.2) t.2.1.length (t.2.1.map idC)]) (fun s t => AllC g_face_Person t.1 4 t.2.1 s.2.2) ((a0.length : Int), 0, ([] : List T_face_Person)) (noH, ([] : List (List Value)), ((none, 0) : Option Addr × Nat)) [0, 1] H (by exact (AllC.nil (G := g_face_Person) (h := noH) (sz := 4))) (by exact ⟨rfl, rfl, rfl, rfl, trivial⟩) (by decide) rfl ?_
  rintro ⟨x7_2, x8_2, l_3⟩ ⟨hp_2, css_2, p_2⟩ m2 gg H20 pf_3
  clear H
  replace H20 : face_copyPeople_l2 a0 (it (fun next2 s => face_copyPeople_l2 a0 next2 s.1 s.2.1 s.2.2) m2) x7_2 x8_2 l_3 = some r := H20
  generalize hn2 : it (fun next2 s => face_copyPeople_l2 a0 next2 s.1 s.2.1 s.2.2) m2 = next2 at H20
  refine c_tidyF [(3, .slice p_2.1 css_2.length p_2.2), (6, v0), (7, .int .i64 x7_2), (8, .int .i64 x8_2)] [poolC noH hp_2, rowV 50 4 (.slice p_2.1 css_2.length p_2.2) css_2.length (css_2.map idC)] rfl rfl ?_
  refine c_seq ?_
  refine c_region ?_
  refine l_val rfl rfl rfl (r_lss rfl rfl) ?_
  refine l_nil ?_
  refine c_seq ?_
  refine c_if (b := (decide (x8_2 < x7_2))) rfl (fun hb => ?_) (fun hb => ?_)
  ·have H21 := cnd_t hb H20; clear H20
   refine c_skip ?_
   refine c_seq ?_
   refine c_block ?_
   refine c_seq ?_
   refine c_region ?_
   obtain ⟨t10, h_t10, H22⟩ := bnd_some H21; clear H21
   refine l_val rfl rfl rfl (r_indexF Try.underlying23 Try.sizeOf50 rfl rfl f0.frs (f0.ix h_t10)) ?_
   refine l_read (fun w hF hS => run_loadGN (f := (elC h v0 4)) (i := x8_2) (sz := 4) (j := 0) (vs := [.int .i64 t10.Id, str t10.Name, (elH h v0 4 (Int.toNat x8_2) 2), (elH h v0 4 (Int.toNat x8_2) 3)]) Try.isAgg50 Try.sizeOf50 rfl rfl (f0.frs.row (hw.now hF)) (f0.ix h_t10) (rd_of (cg_face_Person (f0.at h_t10)) rfl)) rfl rfl rfl ?_
   refine l_alloc (cs := [.int .i64 0, str [], .slice none 0 0, .slice none 0 0]) Try.zeroValue50 rfl rfl rfl (fun b4 => ?_)
   refine l_store (i := 2) (vs := [.int .i64 t10.Id, str t10.Name, (elH h v0 4 (Int.toNat x8_2) 2), (elH h v0 4 (Int.toNat x8_2) 3)]) (cs' := [.int .i64 t10.Id, str t10.Name, (elH h v0 4 (Int.toNat x8_2) 2), (elH h v0 4 (Int.toNat x8_2) 3)]) Try.sizeOf50 rfl rfl rfl rfl rfl rfl (by simp only [List.all_cons, List.all_nil, (show FrS h 1 (elH h v0 4 (Int.toNat x8_2) 2) (t10.Likes.map e_i64) from (g_face_Person_p2 (f0.at h_t10))).one, (show FrS h 1 (elH h v0 4 (Int.toNat x8_2) 3) (t10.Nots.map e_i64) from (g_face_Person_p3 (f0.at h_t10))).one] <;> rfl) rfl rfl ?_
   refine l_nil ?_
   refine c_sel [0, 1, 2] [poolC noH hp_2, rowV 50 4 (.slice p_2.1 css_2.length p_2.2) css_2.length (css_2.map idC), cellsC b4 [.int .i64 t10.Id, str t10.Name, (elH h v0 4 (Int.toNat x8_2) 2), (elH h v0 4 (Int.toNat x8_2) 3)] 50] rfl (by decide) ?_
   refine c_seq ?_
   exact c_regionD (Kd.p :: Kd.d [2] _ :: Kd.t 3 [0] _ _ :: Kd.p :: Kd.d [2] _ :: Kd.t 4 [0] _ _ :: Kd.p :: Kd.sv 18 14 2 _ 50 :: Kd.p :: Kd.stk 19 17 2 :: []) 2 mixed (by
    refine d_val rfl rfl (r_field Try.runUnderlying50 rfl Try.sizeOf48 rfl rfl) ?_
    refine d_load1 (i := 2) (v := (elH h v0 4 (Int.toNat x8_2) 2)) Try.isAgg48 rfl rfl rfl rfl ?_
    have h_t14 := bnd_val H22
    have H23 := bnd_rest H22
    refine d_make (Cv := fun v => roV 1 v (val (face_with t10.Likes ([] : (List Int)))).length ((val (face_with t10.Likes ([] : (List Int)))).map e_i64)) (none, 0) (makes_call (G := fun x : (Option Addr × Nat) => .slice x.1 (val (face_with t10.Likes ([] : (List Int)))).length x.2) (C := fun x : (Option Addr × Nat) => roV 1 (.slice x.1 (val (face_with t10.Likes ([] : (List Int)))).length x.2) (val (face_with t10.Likes ([] : (List Int)))).length ((val (face_with t10.Likes ([] : (List Int)))).map e_i64)) (fun w L' hF hS hi => k19 (know_all w) ((show FrS h 1 (elH h v0 4 (Int.toNat x8_2) 2) (t10.Likes.map e_i64) from (g_face_Person_p2 (f0.at h_t10))).mono (hw.now hF)) (FrS.nil _ _) h_t14) Try.call19 rfl) (fun _ => rfl) rfl rfl rfl (fun p_3 => ?_)
    refine d_val rfl rfl (r_field Try.runUnderlying50 rfl Try.sizeOf48 rfl rfl) ?_
    refine d_load1 (i := 2) (v := (elH h v0 4 (Int.toNat x8_2) 3)) Try.isAgg48 rfl rfl rfl rfl ?_
    have h_t17 := bnd_val H23
    have H24 := bnd_rest H23
    refine d_make (Cv := fun v => roV 1 v (val (face_with t10.Nots ([] : (List Int)))).length ((val (face_with t10.Nots ([] : (List Int)))).map e_i64)) (none, 0) (makes_call (G := fun x : (Option Addr × Nat) => .slice x.1 (val (face_with t10.Nots ([] : (List Int)))).length x.2) (C := fun x : (Option Addr × Nat) => roV 1 (.slice x.1 (val (face_with t10.Nots ([] : (List Int)))).length x.2) (val (face_with t10.Nots ([] : (List Int)))).length ((val (face_with t10.Nots ([] : (List Int)))).map e_i64)) (fun w L' hF hS hi => k19 (know_all w) ((show FrS h 1 (elH h v0 4 (Int.toNat x8_2) 3) (t10.Nots.map e_i64) from (g_face_Person_p3 (f0.at h_t10))).mono (hw.now hF)) (FrS.nil _ _) h_t17) Try.call19 rfl) (fun _ => rfl) rfl rfl rfl (fun p_4 => ?_)
    refine d_val rfl rfl (r_field Try.runUnderlying50 rfl Try.sizeOf48 rfl rfl) ?_
    refine d_storeV (i := 2) (vs := [.slice p_3.1 (val (face_with t10.Likes ([] : (List Int)))).length p_3.2]) (cs' := fun v_ => [.int .i64 t10.Id, str t10.Name, v_, (elH h v0 4 (Int.toNat x8_2) 3)]) Try.sizeOf48 rfl rfl rfl rfl rfl rfl rfl rfl rfl ?_
    refine d_val rfl rfl (r_field Try.runUnderlying50 rfl Try.sizeOf48 rfl rfl) ?_
    refine d_storeC (i := 2) (x := .slice p_4.1 (val (face_with t10.Nots ([] : (List Int)))).length p_4.2) (va := .pointer (some ⟨b4, 3, none⟩)) Try.sizeOf48 rfl rfl rfl rfl rfl rfl (blk_box (b := b4) (o := 3) (T := 50) (cs := [.int .i64 t10.Id, str t10.Name, .slice p_3.1 (val (face_with t10.Likes ([] : (List Int)))).length p_3.2, (elH h v0 4 (Int.toNat x8_2) 3)]) (Imp.refl _) rfl rfl) ?_
    refine d_nil ?_
    refine c_imp 2 rfl (imp_stB (cs := [.int .i64 t10.Id, str t10.Name, .slice p_3.1 (val (face_with t10.Likes ([] : (List Int)))).length p_3.2, (elH h v0 4 (Int.toNat x8_2) 3)]) (cs' := [.int .i64 t10.Id, str t10.Name, .slice p_3.1 (val (face_with t10.Likes ([] : (List Int)))).length p_3.2, .slice p_4.1 (val (face_with t10.Nots ([] : (List Int)))).length p_4.2]) (Imp.refl _) rfl) ?_
    refine c_sel [0, 1, 2, 3, 4] [poolC noH hp_2, rowV 50 4 (.slice p_2.1 css_2.length p_2.2) css_2.length (css_2.map idC), cellsC b4 [.int .i64 t10.Id, str t10.Name, .slice p_3.1 (val (face_with t10.Likes ([] : (List Int)))).length p_3.2, .slice p_4.1 (val (face_with t10.Nots ([] : (List Int)))).length p_4.2] 50, roV 1 (.slice p_3.1 (val (face_with t10.Likes ([] : (List Int)))).length p_3.2) (val (face_with t10.Likes ([] : (List Int)))).length ((val (face_with t10.Likes ([] : (List Int)))).map e_i64), roV 1 (.slice p_4.1 (val (face_with t10.Nots ([] : (List Int)))).length p_4.2) (val (face_with t10.Nots ([] : (List Int)))).length ((val (face_with t10.Nots ([] : (List Int)))).map e_i64)] rfl (by decide) ?_
    refine c_region ?_
    refine l_val rfl rfl rfl (r_move (v := .slice p_2.1 css_2.length p_2.2) rfl) ?_
    refine l_loadN (i := 2) (vs := [.int .i64 t10.Id, str t10.Name, .slice p_3.1 (val (face_with t10.Likes ([] : (List Int)))).length p_3.2, .slice p_4.1 (val (face_with t10.Nots ([] : (List Int)))).length p_4.2]) Try.isAgg50 Try.sizeOf50 rfl rfl rfl rfl rfl ?_
    refine l_buildSlice (vs := [.agg #[.int .i64 t10.Id, str t10.Name, .slice p_3.1 (val (face_with t10.Likes ([] : (List Int)))).length p_3.2, .slice p_4.1 (val (face_with t10.Nots ([] : (List Int)))).length p_4.2]]) (cs := [.int .i64 t10.Id, str t10.Name, .slice p_3.1 (val (face_with t10.Likes ([] : (List Int)))).length p_3.2, .slice p_4.1 (val (face_with t10.Nots ([] : (List Int)))).length p_4.2]) Try.underlying23 Try.sizeOf50 Try.zeroValue50 rfl rfl rfl rfl rfl rfl rfl (fun b5 => ?_)
    refine c_freeze (Φ := fun H_ => FrS H_ 1 (.slice p_3.1 (val (face_with t10.Likes ([] : (List Int)))).length p_3.2) ((val (face_with t10.Likes ([] : (List Int)))).map e_i64)) 0 3 rfl rfl (by decide) (fun _ _ => noH_le) (fz_ro _) (fun hp_3 hle hf => ?_)
    refine c_freeze (Φ := fun H_ => FrS H_ 1 (.slice p_4.1 (val (face_with t10.Nots ([] : (List Int)))).length p_4.2) ((val (face_with t10.Nots ([] : (List Int)))).map e_i64)) 0 4 rfl rfl (by decide) (fun _ _ => noH_le) (fz_ro _) (fun hp_4 hle_2 hf_2 => ?_)
    obtain ⟨l23, h_l23, H25⟩ := bnd_some H24; clear H24
    refine l_turn (turns_appendM (i := 1) (k := 5) (p := p_2) (f := idC) (ys := css_2) (ls := [[.int .i64 t10.Id, str t10.Name, .slice p_3.1 (val (face_with t10.Likes ([] : (List Int)))).length p_3.2, .slice p_4.1 (val (face_with t10.Nots ([] : (List Int)))).length p_4.2]]) Try.underlying23 (info_of Try.typeInfo50) rfl rfl rfl rfl rfl rfl rfl rfl rfl rfl rfl rfl rfl rfl (by simp only [idC, List.map_cons, List.map_nil, List.all_cons, List.all_nil, (hf.mono hle_2).one, hf_2.one] <;> rfl) (app63 (((pf_3.mono hle).mono hle_2).app h_l23 (nc := [[.int .i64 t10.Id, str t10.Name, .slice p_3.1 (val (face_with t10.Likes ([] : (List Int)))).length p_3.2, .slice p_4.1 (val (face_with t10.Nots ([] : (List Int)))).length p_4.2]]) rfl)) rfl) rfl rfl rfl (fun p_5 => ?_)
    have pf_4 : AllC g_face_Person hp_4 4 (css_2 ++ [[.int .i64 t10.Id, str t10.Name, .slice p_3.1 (val (face_with t10.Likes ([] : (List Int)))).length p_3.2, .slice p_4.1 (val (face_with t10.Nots ([] : (List Int)))).length p_4.2]]) l23 := AllC.snocG ((pf_3.mono hle).mono hle_2) h_l23 rfl (⟨rfl, rfl, (hf.mono hle_2), hf_2⟩)
    refine l_val rfl rfl rfl (r_assign (v := .slice p_5.1 ((css_2 ++ [[.int .i64 t10.Id, str t10.Name, .slice p_3.1 (val (face_with t10.Likes ([] : (List Int)))).length p_3.2, .slice p_4.1 (val (face_with t10.Nots ([] : (List Int)))).length p_4.2]]).length) p_5.2) rfl) ?_
    refine l_nil ?_
    refine c_sel [0, 1, 2, 3, 4, 5] [poolC noH hp_4, rowV 50 4 (.slice p_5.1 ((css_2 ++ [[.int .i64 t10.Id, str t10.Name, .slice p_3.1 (val (face_with t10.Likes ([] : (List Int)))).length p_3.2, .slice p_4.1 (val (face_with t10.Nots ([] : (List Int)))).length p_4.2]]).length) p_5.2) ((css_2 ++ [[.int .i64 t10.Id, str t10.Name, .slice p_3.1 (val (face_with t10.Likes ([] : (List Int)))).length p_3.2, .slice p_4.1 (val (face_with t10.Nots ([] : (List Int)))).length p_4.2]]).length) ((css_2 ++ [[.int .i64 t10.Id, str t10.Name, .slice p_3.1 (val (face_with t10.Likes ([] : (List Int)))).length p_3.2, .slice p_4.1 (val (face_with t10.Nots ([] : (List Int)))).length p_4.2]]).map idC), cellsC b4 [.int .i64 t10.Id, str t10.Name, (.slice p_3.1 (val (face_with t10.Likes ([] : (List Int)))).length p_3.2), (.slice p_4.1 (val (face_with t10.Nots ([] : (List Int)))).length p_4.2)] 50, _, _, cellsC b5 [.int .i64 t10.Id, str t10.Name, .slice p_3.1 (val (face_with t10.Likes ([] : (List Int)))).length p_3.2, .slice p_4.1 (val (face_with t10.Nots ([] : (List Int)))).length p_4.2] 50] rfl (by decide) ?_
    refine c_region ?_
    obtain ⟨t24, h_t24, H26⟩ := bnd_some H25; clear H25
    refine l_val rfl rfl rfl (r_addG rfl rfl h_t24) ?_
    refine l_val rfl rfl rfl (r_move (v := .int .i64 t24) rfl) ?_
    refine l_nil ?_
    refine c_sel [0, 1, 2, 3, 4, 5] [poolC noH hp_4, rowV 50 4 (.slice p_5.1 ((css_2 ++ [[.int .i64 t10.Id, str t10.Name, .slice p_3.1 (val (face_with t10.Likes ([] : (List Int)))).length p_3.2, .slice p_4.1 (val (face_with t10.Nots ([] : (List Int)))).length p_4.2]]).length) p_5.2) ((css_2 ++ [[.int .i64 t10.Id, str t10.Name, .slice p_3.1 (val (face_with t10.Likes ([] : (List Int)))).length p_3.2, .slice p_4.1 (val (face_with t10.Nots ([] : (List Int)))).length p_4.2]]).length) ((css_2 ++ [[.int .i64 t10.Id, str t10.Name, .slice p_3.1 (val (face_with t10.Likes ([] : (List Int)))).length p_3.2, .slice p_4.1 (val (face_with t10.Nots ([] : (List Int)))).length p_4.2]]).map idC), cellsC b4 [.int .i64 t10.Id, str t10.Name, (.slice p_3.1 (val (face_with t10.Likes ([] : (List Int)))).length p_3.2), (.slice p_4.1 (val (face_with t10.Nots ([] : (List Int)))).length p_4.2)] 50, _, _, cellsC b5 [.int .i64 t10.Id, str t10.Name, .slice p_3.1 (val (face_with t10.Likes ([] : (List Int)))).length p_3.2, .slice p_4.1 (val (face_with t10.Nots ([] : (List Int)))).length p_4.2] 50] rfl (by decide) ?_
    refine c_close (x7_2, t24, l23) (hp_4, (css_2 ++ [[.int .i64 t10.Id, str t10.Name, .slice p_3.1 (val (face_with t10.Likes ([] : (List Int)))).length p_3.2, .slice p_4.1 (val (face_with t10.Nots ([] : (List Int)))).length p_4.2]]), p_5) m2 [0, 1] (by exact ⟨rfl, rfl, rfl, rfl, trivial⟩) (by decide) rfl (by exact ⟨(by subst hn2; exact H26), pf_4⟩) (Nat.lt_succ_self _)
    ) (by kernel_rfl)
  ·have H27 := cnd_f hb H20; clear H20
   refine c_exit ?_
   refine c_close l_3 (hp_2, css_2, p_2) 0 [0, 1] (by exact ⟨rfl, trivial⟩) (by decide) rfl (by exact ⟨H27, pf_3⟩) (Nat.lt_succ_self _)
 ·rintro l ⟨hp, css, p⟩ gg H19 pf
  replace H19 : face_copyPeople_j1 l = some r := H19
  refine c_tidyF [(3, .slice p.1 css.length p.2)] [poolC noH hp, rowV 50 4 (.slice p.1 css.length p.2) css.length (css.map idC)] rfl rfl ?_
  refine c_seq ?_
  refine c_region ?_
  refine l_val rfl rfl rfl (r_move (v := .slice p.1 css.length p.2) rfl) ?_
  refine l_callG (fun w hF hS => k43 (capOf (i := 1) hS rfl) w) Try.call43 rfl rfl rfl ?_
  refine l_val rfl rfl rfl (r_assign (v := .slice (cutA p.1 0 css.length 4) css.length css.length) rfl) ?_
  refine l_nil ?_
  refine c_ret ?_
  obtain rfl := Option.some.inj H19
  refine c_imp 1 rfl (imp_clipR _ _ _ _ _ _) ?_
  refine c_both 0 1 rfl rfl (by decide) ?_
  refine c_imp 0 rfl (imp_rofD (p := (cutA p.1 0 css.length 4, css.length)) rfl pf) ?_
  refine ret1 (v := .slice (cutA p.1 0 css.length 4) css.length css.length) rfl rfl (finX (cutA p.1 0 css.length 4, css.length) (i := 0) rfl (by first | rfl | rw [(show css.length = l.length from pf.len)]) (by first | exact Imp.refl _ | exact Imp.of (by rw [(show css.length = l.length from pf.len)])))
theorem k48 {a0 : (List Int)} {p0 : Option Addr × Nat} {n0 : Nat} {a1 : (Int → Option (Bool))} {v1 : Value} {r : (List Int)} {w : World} {h : Heap} {S : Nat → Prop} (hcs : (rowV 3 1 (.slice p0.1 n0 p0.2) n0 (a0.map e_i64)).P S w) (hlt : ∀ b, S b → b < w.heap.size) (hw : Know h w S) (hn0 : n0 = a0.length) (f1 : FnH Try.prog h v1 (fnR_func_int_bool a1)) (H : slices_DeleteFunc_int a0 a1 = some r) : Does Try.prog 48 (List.toArray [.slice p0.1 n0 p0.2, v1]) w (fun v w' => ∃ x : (Option Addr × Nat), v = (.slice x.1 r.length x.2) ∧ Turn w w' S (rowV 3 1 (.slice x.1 r.length x.2) r.length (r.map e_i64))) := by
 refine enter (n := 42) Try.func48 rfl rfl rfl S [rowV 3 1 (.slice p0.1 n0 p0.2) n0 (a0.map e_i64)] (Sat.one hcs hlt) ?_
 refine c_seq ?_
 refine c_region ?_
 refine l_val rfl rfl rfl (r_assign (v := .slice none 0 0) rfl) ?_
 refine l_nil ?_
 refine c_seq ?_
 refine c_region ?_
 refine l_val rfl rfl rfl (r_move (v := .slice p0.1 n0 p0.2) rfl) ?_
 refine l_val rfl rfl rfl (r_move (v := v1) rfl) ?_
 obtain ⟨t10, h_t10, H20⟩ := bnd_some H; clear H
 refine l_callG (fun w hF hS => k55 (know_all w) (frs_own (i := 0) hn0 hS rfl) (f1.mono (hw.now hF)) h_t10) Try.call55 rfl rfl rfl ?_
 refine l_val rfl rfl rfl (r_assign (v := .int .i64 t10) rfl) ?_
 refine l_nil ?_
 refine c_seq ?_
 refine c_seq ?_
 refine c_region ?_
 refine l_val rfl rfl rfl (r_move (v := .int .i64 t10) rfl) ?_
 refine l_val rfl rfl rfl (r_eql rfl rfl) ?_
 refine l_nil ?_
 refine c_if (b := (decide (t10 = (-1)))) rfl (fun hb => ?_) (fun hb => ?_)
 ·have H21 := cnd_t hb H20; clear H20
  refine c_seq ?_
  refine c_region ?_
  refine l_val rfl rfl rfl (r_move (v := .slice p0.1 n0 p0.2) rfl) ?_
  refine l_val rfl rfl rfl (r_assign (v := .slice p0.1 n0 p0.2) rfl) ?_
  refine l_nil ?_
  refine c_ret ?_
  obtain rfl := Option.some.inj H21
  refine ret1 (v := .slice p0.1 n0 p0.2) rfl rfl (finX p0 (i := 0) rfl (by first | rfl | rw [(show n0 = a0.length from hn0)]) (by first | exact Imp.refl _ | exact Imp.of (by rw [(show n0 = a0.length from hn0)])))
 ·have H22 := cnd_f hb H20; clear H20
  refine c_skip ?_
  refine c_meet (r := r) (σ := Int × (List Int)) (τ := Unit) (fun s => slices_DeleteFunc_int_j1 s.1 s.2) (fun s t => [(0, .slice p0.1 n0 p0.2), (5, .int .i64 s.1)]) (fun s t => [rowV 3 1 (.slice p0.1 n0 p0.2) n0 (s.2.map e_i64)]) (fun s t => n0 = s.2.length) ?_ ?_
  ·refine c_seq ?_
   refine c_region ?_
   refine l_val rfl rfl rfl (r_move (v := .int .i64 t10) rfl) ?_
   obtain ⟨t15, h_t15, H26⟩ := bnd_some H22; clear H22
   refine l_val rfl rfl rfl (r_addG rfl rfl h_t15) ?_
   refine l_val rfl rfl rfl (r_assign (v := .int .i64 t15) rfl) ?_
   refine l_nil ?_
   refine c_block ?_
   refine c_fix (σ := Int × Int × (List Int)) (τ := Unit) (fun next2 s => slices_DeleteFunc_int_l2 a1 next2 s.1 s.2.1 s.2.2) (fun s t => [(0, .slice p0.1 n0 p0.2), (1, v1), (5, .int .i64 s.1), (6, .int .i64 s.2.1)]) (fun s t => [rowV 3 1 (.slice p0.1 n0 p0.2) n0 (s.2.2.map e_i64)]) (fun s t => n0 = s.2.2.length) (t10, t15, a0) () [0] H26 (by exact hn0) (by exact ⟨rfl, rfl, rfl, rfl, trivial⟩) (by decide) rfl ?_
   rintro ⟨x5_3, x6_2, l_3⟩ _ m2 gg H27 hl_3
   clear H26
   replace H27 : slices_DeleteFunc_int_l2 a1 (it (fun next2 s => slices_DeleteFunc_int_l2 a1 next2 s.1 s.2.1 s.2.2) m2) x5_3 x6_2 l_3 = some r := H27
   generalize hn2 : it (fun next2 s => slices_DeleteFunc_int_l2 a1 next2 s.1 s.2.1 s.2.2) m2 = next2 at H27
   refine c_tidyF [(0, .slice p0.1 n0 p0.2), (1, v1), (5, .int .i64 x5_3), (6, .int .i64 x6_2)] [rowV 3 1 (.slice p0.1 n0 p0.2) n0 (l_3.map e_i64)] rfl rfl ?_
   refine c_seq ?_
   refine c_seq ?_
   refine c_region ?_
   refine l_val rfl rfl rfl (r_move (v := .int .i64 x6_2) rfl) ?_
   refine l_val rfl rfl rfl (r_move (v := .slice p0.1 n0 p0.2) rfl) ?_
   refine l_val rfl rfl rfl (r_lenN Try.underlying48 rfl hl_3) ?_
   refine l_val rfl rfl rfl (r_lss rfl rfl) ?_
   refine l_nil ?_
   refine c_if (b := (decide (x6_2 < (l_3.length : Int)))) rfl (fun hb => ?_) (fun hb => ?_)
   ·have H28 := cnd_t hb H27; clear H27
    refine c_skip ?_
    refine c_meet (r := r) (σ := Int × (List Int)) (τ := Unit) (fun s => slices_DeleteFunc_int_j3 x6_2 next2 s.1 s.2) (fun s t => [(0, .slice p0.1 n0 p0.2), (1, v1), (5, .int .i64 s.1), (6, .int .i64 x6_2)]) (fun s t => [rowV 3 1 (.slice p0.1 n0 p0.2) n0 (s.2.map e_i64)]) (fun s t => n0 = s.2.length) ?_ ?_
    ·refine c_block ?_
     refine c_seq ?_
     refine c_region ?_
     refine l_val rfl rfl rfl (r_move (v := .slice p0.1 n0 p0.2) rfl) ?_
     refine l_val rfl rfl rfl (r_move (v := .int .i64 x6_2) rfl) ?_
     obtain ⟨t24, h_t24, H31⟩ := bnd_some H28; clear H28
     refine l_read (fun w hF hS => run_indexO Try.underlying48 Try.sizeOf3 rfl rfl (rowOf (i := 0) hS rfl) hl_3 h_t24) rfl rfl rfl ?_
     refine l_read (fun w hF hS => run_loadG1 (f := e_i64) (i := x6_2) (sz := 1) (j := 0) (v := .int .i64 t24) Try.isAgg3 rfl rfl (rowOf (i := 0) hS rfl) h_t24 rfl) rfl rfl rfl ?_
     refine l_val rfl rfl rfl (r_assign (v := .int .i64 t24) rfl) ?_
     refine l_nil ?_
     refine c_seq ?_
     refine c_region ?_
     refine l_val rfl rfl rfl (r_move (v := v1) rfl) ?_
     refine l_val rfl rfl rfl (r_move (v := .int .i64 t24) rfl) ?_
     obtain ⟨t28, h_t28, H32⟩ := bnd_some H31; clear H31
     refine l_callV (R := fnR_func_int_bool a1) (r := .bool t28) (v := v1) (fun w hF hS => ⟨(f1.mono (hw.now hF)), ⟨t24, _, rfl, h_t28, rfl⟩⟩) rfl rfl rfl rfl ?_
     refine l_val rfl rfl rfl (r_not rfl) ?_
     refine l_nil ?_
     refine c_if (b := (!t28)) rfl (fun hb => ?_) (fun hb => ?_)
     ·have H33 := cnd_t hb H32; clear H32
      refine c_seq ?_
      refine c_region ?_
      refine l_val rfl rfl rfl (r_move (v := .slice p0.1 n0 p0.2) rfl) ?_
      refine l_val rfl rfl rfl (r_move (v := .int .i64 x5_3) rfl) ?_
      refine l_val rfl rfl rfl (r_move (v := .int .i64 t24) rfl) ?_
      obtain ⟨t33, h_t33, H34⟩ := bnd_some H33; clear H33
      refine l_read (fun w hF hS => run_indexO Try.underlying48 Try.sizeOf3 rfl rfl (rowOf (i := 0) hS rfl) hl_3 h_t33) rfl rfl rfl ?_
      obtain ⟨l0, h_l0, H35⟩ := bnd_some H34; clear H34
      refine l_storeG (q := 0) (j := 0) (i := x5_3) (sz := 1) (hm := hl_3) (f := e_i64) (vs := [.int .i64 t24]) Try.sizeOf3 rfl rfl rfl rfl rfl rfl rfl rfl rfl (fun y_ hy_ => by first | rfl | (cases hy_.symm.trans h_t33; rfl)) h_l0 ?_
      refine l_nil ?_
      refine c_region ?_
      refine l_val rfl rfl rfl (r_move (v := .int .i64 x5_3) rfl) ?_
      obtain ⟨t35, h_t35, H36⟩ := bnd_some H35; clear H35
      refine l_val rfl rfl rfl (r_addG rfl rfl h_t35) ?_
      refine l_val rfl rfl rfl (r_assign (v := .int .i64 t35) rfl) ?_
      refine l_nil ?_
      refine c_close (t35, l0) () 0 [0] (by exact ⟨rfl, rfl, rfl, rfl, trivial⟩) (by decide) rfl (by exact ⟨H36, (gSet_n hl_3 h_l0)⟩) (Nat.lt_succ_self _)
     ·have H37 := cnd_f hb H32; clear H32
      refine c_skip ?_
      refine c_close (x5_3, l_3) () 0 [0] (by exact ⟨rfl, rfl, rfl, rfl, trivial⟩) (by decide) rfl (by exact ⟨H37, hl_3⟩) (Nat.lt_succ_self _)
    ·rintro ⟨x5_4, l_4⟩ _ gg H29 hl_4
     replace H29 : slices_DeleteFunc_int_j3 x6_2 next2 x5_4 l_4 = some r := H29
     refine c_tidyF [(0, .slice p0.1 n0 p0.2), (1, v1), (5, .int .i64 x5_4), (6, .int .i64 x6_2)] [rowV 3 1 (.slice p0.1 n0 p0.2) n0 (l_4.map e_i64)] rfl rfl ?_
     refine c_region ?_
     refine l_val rfl rfl rfl (r_move (v := .int .i64 x6_2) rfl) ?_
     obtain ⟨t21, h_t21, H30⟩ := bnd_some H29; clear H29
     refine l_val rfl rfl rfl (r_addG rfl rfl h_t21) ?_
     refine l_val rfl rfl rfl (r_assign (v := .int .i64 t21) rfl) ?_
     refine l_nil ?_
     refine c_close (x5_4, t21, l_4) () m2 [0] (by exact ⟨rfl, rfl, rfl, rfl, trivial⟩) (by decide) rfl (by exact ⟨(by subst hn2; exact H30), hl_4⟩) (Nat.lt_succ_self _)
   ·have H38 := cnd_f hb H27; clear H27
    refine c_exit ?_
    refine c_close (x5_3, l_3) () 0 [0] (by exact ⟨rfl, rfl, trivial⟩) (by decide) rfl (by exact ⟨H38, hl_3⟩) (Nat.lt_succ_self _)
  ·rintro ⟨x5, l⟩ _ gg H23 hl
   replace H23 : slices_DeleteFunc_int_j1 x5 l = some r := H23
   refine c_tidyF [(0, .slice p0.1 n0 p0.2), (5, .int .i64 x5)] [rowV 3 1 (.slice p0.1 n0 p0.2) n0 (l.map e_i64)] rfl rfl ?_
   refine c_seq ?_
   refine c_region ?_
   refine l_val rfl rfl rfl (r_move (v := .slice p0.1 n0 p0.2) rfl) ?_
   refine l_val rfl rfl rfl (r_move (v := .int .i64 x5) rfl) ?_
   obtain ⟨t38, h_t38, H24⟩ := bnd_some H23; clear H23
   refine l_read (v := .slice (cutA p0.1 (Int.toNat x5) p0.2 1) t38.length (p0.2 - Int.toNat x5)) (fun w hF hS => run_sliceLO (xs := l) Try.underlying48 Try.sizeOf3 rfl rfl hl (capOf (i := 0) hS rfl) h_t38) rfl rfl rfl ?_
   refine l_turn0 (turns_clearV (i := 0) (rds := []) (f := e_i64) (z0 := 0) (ys := l) (a := x5) (q := l.length) hl Try.underlying48 Try.zeroValue3 rfl (fun _ => rfl) (fun _ => rfl) rfl h_t38 rfl) rfl rfl (fun _ => ?_)
   refine l_nil ?_
   refine c_seq ?_
   refine c_region ?_
   refine l_val rfl rfl rfl (r_move (v := .slice p0.1 n0 p0.2) rfl) ?_
   refine l_val rfl rfl rfl (r_move (v := .int .i64 x5) rfl) ?_
   obtain ⟨t41, h_t41, H25⟩ := bnd_some H24; clear H24
   refine l_read (v := .slice p0.1 t41.length p0.2) (fun w hF hS => run_sliceHO0 (xs := (clrL l x5 l.length 0)) Try.underlying48 Try.sizeOf3 rfl rfl (clrL_n hl h_t38) (capOf (i := 0) hS rfl) h_t41) rfl rfl rfl ?_
   refine l_val rfl rfl rfl (r_assign (v := .slice p0.1 t41.length p0.2) rfl) ?_
   refine l_nil ?_
   refine c_ret ?_
   refine c_imp 0 rfl (imp_shrink (clrL_n hl h_t38) h_t41) ?_
   obtain rfl := Option.some.inj H25
   refine c_imp 0 rfl (imp_rowC _ _ _ _ _ _) ?_
   refine ret1 (v := .slice p0.1 t41.length p0.2) rfl rfl (finX p0 (i := 0) rfl rfl (Imp.refl _))
theorem k49 {a0 : (List Int)} {v0 : Value} {r : (List Int)} {w : World} {h : Heap} (hw : Know h w noS) (f0 : FrS h 1 v0 (a0.map e_i64)) (H : slices_Clone_int a0 = some r) : Does Try.prog 49 (List.toArray [v0]) w (fun v w' => ∃ x : (Option Addr × Nat), v = (.slice x.1 r.length x.2) ∧ Turn w w' noS (rowV 3 1 (.slice x.1 r.length x.2) r.length (r.map e_i64))) := by
 refine enter (n := 8) Try.func49 rfl rfl rfl noS [] (Sat.nil _ _) ?_
 refine c_seq ?_
 refine c_region ?_
 refine l_val rfl rfl rfl (r_assign (v := .slice none 0 0) rfl) ?_
 refine l_nil ?_
 refine c_seq ?_
 refine c_seq ?_
 refine c_region ?_
 refine l_val rfl rfl rfl (r_move (v := v0) rfl) ?_
 refine l_val rfl rfl rfl (r_eqlNilS Try.underlying48 f0 rfl rfl) ?_
 refine l_nil ?_
 refine c_if (b := isNilV v0) rfl (fun hb => ?_) (fun hb => ?_)
 ·have hn_ : a0 = [] := f0.nilV hb
  have H3 : some ([] : List Int) = some r := by have h_ := H; rw [hn_] at h_; exact h_
  refine c_seq ?_
  refine c_region ?_
  refine l_val rfl rfl rfl (r_assign (v := .slice none 0 0) rfl) ?_
  refine l_nil ?_
  refine c_ret ?_
  refine c_nilRow 3 1 ?_
  obtain rfl := Option.some.inj H3
  refine ret1 (v := .slice ((none, 0) : Option Addr × Nat).1 ([] : List Int).length ((none, 0) : Option Addr × Nat).2) rfl rfl (finX ((none, 0) : Option Addr × Nat) (i := 0) rfl rfl (Imp.refl _))
 ·skip
  refine c_skip ?_
  refine c_seq ?_
  refine c_region ?_
  refine l_buildSlice (vs := []) (cs := []) Try.underlying48 Try.sizeOf3 Try.zeroValue3 rfl rfl rfl rfl rfl rfl rfl (fun b1 => ?_)
  refine l_val rfl rfl rfl (r_move (v := v0) rfl) ?_
  refine c_imp 0 rfl (imp_box (m := 0) (E := 3) (sz := 1) (xs := (([] : List Int)).map e_i64) rfl rfl rfl ⟨rfl, by decide⟩) ?_
  obtain ⟨l7, h_l7, H4⟩ := bnd_some H; clear H
  refine l_turn (turns_appG (i := 0) (hn := rfl) (rds := []) (p := ((some ⟨b1, 0, none⟩, 0) : Option Addr × Nat)) (sz := 1) (by_ := 8) (f := e_i64) (ys := ([] : List Int)) (ls := a0) (V := v0) Try.underlying48 (info_of Try.typeInfo3) rfl rfl rfl rfl rfl rfl rfl rfl f0.eq (List.length_map _) (fun w L' hF hS hi => (f0).row (hw.now hF)) (fun _ => rfl) (fun _ => rfl) h_l7) rfl rfl rfl (fun p => ?_)
  refine l_val rfl rfl rfl (r_assign (v := .slice p.1 l7.length p.2) rfl) ?_
  refine l_nil ?_
  refine c_ret ?_
  obtain rfl := Option.some.inj H4
  refine ret1 (v := .slice p.1 l7.length p.2) rfl rfl (finX p (i := 0) rfl rfl (Imp.refl _))
theorem k50 {q0 : (List Int)} {vq0 : Value} {c0 : Nat} {a0 : Int} {r : Bool} {w : World} {h : Heap} (hw : Know h w noS) (fq0 : FrS h 1 vq0 (q0.map e_i64)) (hc0 : h c0 = some (.cells (List.toArray [vq0]) 48 (0, 0))) (H : face_without_1 q0 a0 = some r) : Does Try.prog 50 (List.toArray [.int .i64 a0, .pointer (some ⟨c0, 0, none⟩)]) w (fun v w' => v = (.bool r) ∧ Grow w w') := by
 refine enter (n := 7) Try.func50 rfl rfl rfl noS [] (Sat.nil _ _) ?_
 refine c_seq ?_
 refine c_region ?_
 refine l_val rfl rfl rfl (r_assign (v := .bool false) rfl) ?_
 refine l_nil ?_
 refine c_seq ?_
 refine c_region ?_
 refine l_read (fun w hF hS => run_loadK1 (v := vq0) Try.isAgg48 rfl (hw.now hF _ _ hc0) rfl) rfl rfl rfl ?_
 refine l_val rfl rfl rfl (r_move (v := .int .i64 a0) rfl) ?_
 obtain ⟨t6, h_t6, H2⟩ := bnd_some H; clear H
 refine l_callG (fun w hF hS => k41 (know_all w) (fq0.mono (hw.now hF)) h_t6) Try.call41 rfl rfl rfl ?_
 refine l_val rfl rfl rfl (r_assign (v := .bool t6) rfl) ?_
 refine l_nil ?_
 refine c_ret ?_
 obtain rfl := Option.some.inj H2
 refine ret1 (v := .bool t6) rfl rfl (fin rfl)
theorem k20 {a0 : (List Int)} {v0 : Value} {a1 : (List Int)} {v1 : Value} {r : (List Int)} {w : World} {h : Heap} (hw : Know h w noS) (f0 : FrS h 1 v0 (a0.map e_i64)) (f1 : FrS h 1 v1 (a1.map e_i64)) (H : face_without a0 a1 = some r) : Does Try.prog 20 (List.toArray [v0, v1]) w (fun v w' => ∃ x : (Option Addr × Nat), v = (.slice x.1 r.length x.2) ∧ Turn w w' noS (roV 1 (.slice x.1 r.length x.2) r.length (r.map e_i64))) := by
 refine enter (n := 12) Try.func20 rfl rfl rfl noS [] (Sat.nil _ _) ?_
 refine c_seq ?_
 refine c_region ?_
 refine l_box (cs := [v1]) rfl rfl rfl f1.cells (fun b2 => ?_)
 refine l_val rfl rfl rfl (r_assign (v := .slice none 0 0) rfl) ?_
 refine l_nil ?_
 refine c_seq ?_
 refine c_region ?_
 refine l_val rfl rfl rfl (r_move (v := v0) rfl) ?_
 obtain ⟨t7, h_t7, H5⟩ := bnd_some H; clear H
 refine l_make (makes_call (rds := []) (G := fun x : (Option Addr × Nat) => .slice x.1 t7.length x.2) (C := fun x : (Option Addr × Nat) => rowV 3 1 (.slice x.1 t7.length x.2) t7.length (t7.map e_i64)) (fun w L' hF hS hi => k49 (know_all w) (f0.mono (hw.now hF)) h_t7) Try.call49 rfl) rfl rfl rfl (fun p => ?_)
 refine l_val rfl rfl rfl (r_makeFn (caps := #[.pointer (some ⟨b2, 0, none⟩)]) rfl) ?_
 obtain ⟨t9, h_t9, H6⟩ := bnd_some H5; clear H5
 refine l_turn (turns_callB (i := 1) (rds := [0]) (G := fun x : (Option Addr × Nat) => .slice x.1 t9.length x.2) (C := fun x : (Option Addr × Nat) => rowV 3 1 (.slice x.1 t9.length x.2) t9.length (t9.map e_i64)) rfl (fun w L' S hF hS hi hp hlt ho hA => k48 hp hlt (know_but w S) rfl (FnH.mk ⟨50, #[], #[.pointer (some ⟨b2, 0, none⟩)], rfl, Try.call50, fun args2 post2 w2 hk2 hR2 => by obtain ⟨a0_, r_, rfl, H_, rfl⟩ := hR2; exact k50 (know_all w2) ((f1.mono (hw.but hF ho)).mono hk2.up) (hk2.up _ _ (cell_but (j := 0) hA hS (by decide) ((hi 0 (by simp)).trans rfl))) H_⟩) h_t9) Try.call48 rfl) rfl rfl rfl (fun p_2 => ?_)
 refine l_val rfl rfl rfl (r_assign (v := .slice p_2.1 t9.length p_2.2) rfl) ?_
 refine l_nil ?_
 refine c_seq ?_
 refine c_region ?_
 refine l_val rfl rfl rfl (r_move (v := .slice p_2.1 t9.length p_2.2) rfl) ?_
 refine l_callG (fun w hF hS => k46 (capOf (i := 1) hS rfl) w) Try.call46 rfl rfl rfl ?_
 refine l_val rfl rfl rfl (r_assign (v := .slice (cutA p_2.1 0 t9.length 1) t9.length t9.length) rfl) ?_
 refine l_nil ?_
 refine c_ret ?_
 obtain rfl := Option.some.inj H6
 refine c_imp 1 rfl (imp_clipO _ _ _ _ _ _) ?_
 refine ret1 (v := .slice (cutA p_2.1 0 t9.length 1) t9.length t9.length) rfl rfl (finX (cutA p_2.1 0 t9.length 1, t9.length) (i := 1) rfl rfl (Imp.refl _))
theorem k6 {a0 : (List T_face_Likeness)} {v0 : Value} {a1 : (List T_face_Person)} {v1 : Value} {a2 : Int} {a3 : Int} {r : (List T_face_Person) × Int} {w : World} {h : Heap} (hw : Know h w noS) (f0 : FrS h 14 v0 (a0.map e_face_Likeness)) (f1 : FrN h 4 v1 g_face_Person a1) (H : face_Confirm a0 a1 a2 a3 = some r) : Does Try.prog 6 (List.toArray [v0, v1, .int .i64 a2, .int .i64 a3]) w (fun v w' => ∃ x : (Option Addr × Nat), v = (.tuple #[.slice x.1 r.1.length x.2, .int .i64 r.2]) ∧ Turn w w' noS (rofD 50 4 g_face_Person (.slice x.1 r.1.length x.2) r.1.length r.1)) := by
 refine enter (n := 65) Try.func6 rfl rfl rfl noS [] (Sat.nil _ _) ?_
 refine c_poolNew noH ?_
 refine c_seq ?_
 refine c_region ?_
 refine l_val rfl rfl rfl (r_assign (v := .slice none 0 0) rfl) ?_
 refine l_val rfl rfl rfl (r_assign (v := .int .i64 0) rfl) ?_
 refine l_nil ?_
 refine c_seq ?_
 refine c_region ?_
 refine l_val rfl rfl rfl (r_move (v := v0) rfl) ?_
 refine l_val rfl rfl rfl (r_move (v := v1) rfl) ?_
 refine l_val rfl rfl rfl (r_move (v := .int .i64 a2) rfl) ?_
 refine l_val rfl rfl rfl (r_move (v := .int .i64 a3) rfl) ?_
 obtain ⟨t18, h_t18, H39⟩ := bnd_some H; clear H
 refine l_callG (fun w hF hS => k16 (know_all w) (f0.mono (hw.now hF)) (f1.mono (hw.now hF)) h_t18) Try.call16 rfl rfl rfl ?_
 refine l_val rfl rfl rfl (r_move (v := .tuple #[.int .i64 t18.1, .int .i64 t18.2]) rfl) ?_
 refine l_val rfl rfl rfl (r_extract (v := .int .i64 t18.1) rfl rfl) ?_
 refine l_val rfl rfl rfl (r_extract (v := .int .i64 t18.2) rfl rfl) ?_
 refine l_val rfl rfl rfl (r_assign (v := .int .i64 t18.1) rfl) ?_
 refine l_val rfl rfl rfl (r_assign (v := .int .i64 t18.2) rfl) ?_
 refine l_nil ?_
 refine c_seq ?_
 refine c_block ?_
 refine c_seq ?_
 refine c_region ?_
 refine l_val rfl rfl rfl (r_move (v := .int .i64 t18.2) rfl) ?_
 refine l_val rfl rfl rfl (r_neq rfl rfl) ?_
 refine l_val rfl rfl rfl (r_assign (v := .bool (decide (t18.2 ≠ 0))) rfl) ?_
 refine l_nil ?_
 refine c_if (b := (decide (t18.2 ≠ 0))) rfl (fun hb => ?_) (fun hb => ?_)
 ·have H40 := cnd_t hb H39; clear H39
  refine c_seq ?_
  refine c_region ?_
  refine l_val rfl rfl rfl (r_move (v := .int .i64 t18.2) rfl) ?_
  refine l_val rfl rfl rfl (r_assign (v := .slice none 0 0) rfl) ?_
  refine l_val rfl rfl rfl (r_assign (v := .int .i64 t18.2) rfl) ?_
  refine l_nil ?_
  refine c_ret ?_
  refine c_nilRow 50 4 ?_
  obtain rfl := Option.some.inj H40
  refine c_imp 1 rfl (imp_rowO _ _ _ _ _) ?_
  refine c_both 0 1 rfl rfl (by decide) ?_
  refine c_imp 0 rfl (imp_rofD (p := ((none, 0) : Option Addr × Nat)) rfl (AllC.nil (G := g_face_Person) (h := noH) (sz := 4))) ?_
  refine ret2 (v1 := .slice ((none, 0) : Option Addr × Nat).1 (([] : List (List Value)).length) ((none, 0) : Option Addr × Nat).2) (v2 := .int .i64 t18.2) rfl rfl rfl (finX ((none, 0) : Option Addr × Nat) (i := 0) rfl (by first | rfl | rw [(show (([] : List (List Value)).length) = ([] : List T_face_Person).length from (AllC.nil (G := g_face_Person) (h := noH) (sz := 4)).len)]) (by first | exact Imp.refl _ | exact Imp.of (by rw [(show (([] : List (List Value)).length) = ([] : List T_face_Person).length from (AllC.nil (G := g_face_Person) (h := noH) (sz := 4)).len)])))
 ·have H41 := cnd_f hb H39; clear H39
  refine c_seq ?_
  refine c_region ?_
  refine l_val rfl rfl rfl (r_move (v := v1) rfl) ?_
  refine l_val rfl rfl rfl (r_move (v := .int .i64 a3) rfl) ?_
  obtain ⟨t28, h_t28, H42⟩ := bnd_some H41; clear H41
  refine l_callG (fun w hF hS => k13 (know_all w) (f1.mono (hw.now hF)) h_t28) Try.call13 rfl rfl rfl ?_
  refine l_val rfl rfl rfl (r_geq rfl rfl) ?_
  refine l_val rfl rfl rfl (r_assign (v := .bool (decide (0 ≤ t28))) rfl) ?_
  refine l_nil ?_
  refine c_if (b := (decide (0 ≤ t28))) rfl (fun hb => ?_) (fun hb => ?_)
  ·have H43 := cnd_t hb H42; clear H42
   refine c_seq ?_
   refine c_region ?_
   refine l_val rfl rfl rfl (r_assign (v := .slice none 0 0) rfl) ?_
   refine l_val rfl rfl rfl (r_assign (v := .int .i64 6) rfl) ?_
   refine l_nil ?_
   refine c_ret ?_
   refine c_nilRow 50 4 ?_
   obtain rfl := Option.some.inj H43
   refine c_imp 1 rfl (imp_rowO _ _ _ _ _) ?_
   refine c_both 0 1 rfl rfl (by decide) ?_
   refine c_imp 0 rfl (imp_rofD (p := ((none, 0) : Option Addr × Nat)) rfl (AllC.nil (G := g_face_Person) (h := noH) (sz := 4))) ?_
   refine ret2 (v1 := .slice ((none, 0) : Option Addr × Nat).1 (([] : List (List Value)).length) ((none, 0) : Option Addr × Nat).2) (v2 := .int .i64 6) rfl rfl rfl (finX ((none, 0) : Option Addr × Nat) (i := 0) rfl (by first | rfl | rw [(show (([] : List (List Value)).length) = ([] : List T_face_Person).length from (AllC.nil (G := g_face_Person) (h := noH) (sz := 4)).len)]) (by first | exact Imp.refl _ | exact Imp.of (by rw [(show (([] : List (List Value)).length) = ([] : List T_face_Person).length from (AllC.nil (G := g_face_Person) (h := noH) (sz := 4)).len)])))
  ·have H44 := cnd_f hb H42; clear H42
   refine c_seq ?_
   refine c_region ?_
   refine l_val rfl rfl rfl (r_move (v := v0) rfl) ?_
   refine l_val rfl rfl rfl (r_move (v := v1) rfl) ?_
   refine l_val rfl rfl rfl (r_move (v := .int .i64 t18.1) rfl) ?_
   obtain ⟨t34, h_t34, H45⟩ := bnd_some H44; clear H44
   refine l_val rfl rfl rfl (r_indexF Try.underlying23 Try.sizeOf50 rfl rfl f1.frs (f1.ix h_t34)) ?_
   refine l_read (fun w hF hS => run_loadGN (f := (elC h v1 4)) (i := t18.1) (sz := 4) (j := 0) (vs := [.int .i64 t34.Id, str t34.Name, (elH h v1 4 (Int.toNat t18.1) 2), (elH h v1 4 (Int.toNat t18.1) 3)]) Try.isAgg50 Try.sizeOf50 rfl rfl (f1.frs.row (hw.now hF)) (f1.ix h_t34) (rd_of (cg_face_Person (f1.at h_t34)) rfl)) rfl rfl rfl ?_
   refine l_val rfl rfl rfl (r_move (v := .int .i64 a3) rfl) ?_
   obtain ⟨t37, h_t37, H46⟩ := bnd_some H45; clear H45
   refine l_callG (fun w hF hS => k17 (know_all w) (f0.mono (hw.now hF)) ((show FrS h 1 (elH h v1 4 (Int.toNat t18.1) 2) (t34.Likes.map e_i64) from (g_face_Person_p2 (f1.at h_t34))).mono (hw.now hF)) ((show FrS h 1 (elH h v1 4 (Int.toNat t18.1) 3) (t34.Nots.map e_i64) from (g_face_Person_p3 (f1.at h_t34))).mono (hw.now hF)) h_t37) Try.call17 rfl rfl rfl ?_
   refine l_val rfl rfl rfl (r_assign (v := .bool t37) rfl) ?_
   refine l_nil ?_
   refine c_if (b := t37) rfl (fun hb => ?_) (fun hb => ?_)
   ·have H47 := cnd_t hb H46; clear H46
    refine c_seq ?_
    refine c_region ?_
    refine l_val rfl rfl rfl (r_assign (v := .slice none 0 0) rfl) ?_
    refine l_val rfl rfl rfl (r_assign (v := .int .i64 11) rfl) ?_
    refine l_nil ?_
    refine c_ret ?_
    refine c_nilRow 50 4 ?_
    obtain rfl := Option.some.inj H47
    refine c_imp 1 rfl (imp_rowO _ _ _ _ _) ?_
    refine c_both 0 1 rfl rfl (by decide) ?_
    refine c_imp 0 rfl (imp_rofD (p := ((none, 0) : Option Addr × Nat)) rfl (AllC.nil (G := g_face_Person) (h := noH) (sz := 4))) ?_
    refine ret2 (v1 := .slice ((none, 0) : Option Addr × Nat).1 (([] : List (List Value)).length) ((none, 0) : Option Addr × Nat).2) (v2 := .int .i64 11) rfl rfl rfl (finX ((none, 0) : Option Addr × Nat) (i := 0) rfl (by first | rfl | rw [(show (([] : List (List Value)).length) = ([] : List T_face_Person).length from (AllC.nil (G := g_face_Person) (h := noH) (sz := 4)).len)]) (by first | exact Imp.refl _ | exact Imp.of (by rw [(show (([] : List (List Value)).length) = ([] : List T_face_Person).length from (AllC.nil (G := g_face_Person) (h := noH) (sz := 4)).len)])))
   ·have H48 := cnd_f hb H46; clear H46
    refine c_skip ?_
    refine c_seq ?_
    refine c_region ?_
    refine l_val rfl rfl rfl (r_move (v := v1) rfl) ?_
    obtain ⟨t39, h_t39, H49⟩ := bnd_some H48; clear H48
    refine l_make (makes_call (rds := []) (G := fun x : (Option Addr × Nat) => .slice x.1 t39.length x.2) (C := fun x : (Option Addr × Nat) => rofD 50 4 g_face_Person (.slice x.1 t39.length x.2) t39.length t39) (fun w L' hF hS hi => k18 (know_all w) (f1.mono (hw.now hF)) h_t39) Try.call18 rfl) rfl rfl rfl (fun p => ?_)
    refine c_rofD 1 rfl (fun hp css hn pf => ?_)
    rw [hn]
    refine c_split 1 rfl ?_
    refine c_poolJoin 0 1 rfl rfl (by decide) (fun _ _ => noH_le) (fun hp_2 hle hle_2 => ?_)
    refine l_val rfl rfl rfl (r_assign (v := .slice p.1 css.length p.2) rfl) ?_
    refine l_nil ?_
    refine c_sel [0, 1, 2] [poolC noH hp_2, _, rowO 50 4 (.slice p.1 css.length p.2) css.length (css.map idC)] rfl (by decide) ?_
    refine c_seq ?_
    exact c_regionD (Kd.p :: Kd.p :: Kd.p :: Kd.p :: Kd.p :: Kd.p :: Kd.d [2] _ :: Kd.d [2] _ :: Kd.d [2] _ :: Kd.p :: Kd.ns 3 [_] 3 1 :: Kd.t 4 [0, 3] _ _ :: Kd.p :: Kd.p :: Kd.d [2] _ :: Kd.d [2] _ :: Kd.d [2] _ :: Kd.p :: Kd.ns 5 [_] 3 1 :: Kd.t 6 [0, 5] _ _ :: Kd.d [2] _ :: Kd.d [2] _ :: Kd.stk 61 51 2 :: Kd.d [2] _ :: Kd.d [2] _ :: Kd.stk 63 59 2 :: []) 4 mixed (by
     refine d_val rfl rfl (r_move (v := .slice p.1 css.length p.2) rfl) ?_
     refine d_val rfl rfl (r_move (v := .int .i64 t18.1) rfl) ?_
     refine d_val rfl rfl (r_move (v := .slice p.1 css.length p.2) rfl) ?_
     refine d_val rfl rfl (r_move (v := .int .i64 t18.1) rfl) ?_
     refine d_val rfl rfl (r_move (v := .slice p.1 css.length p.2) rfl) ?_
     refine d_val rfl rfl (r_move (v := .int .i64 t18.1) rfl) ?_
     have h_t46 := bnd_val H49
     have H50 := bnd_rest H49
     refine d_readD (fun w L' hF hS hi => run_indexO Try.underlying23 Try.sizeOf50 rfl rfl (offOf (i := 2) (E := 50) (sz := 4) (n := css.length) (a := p.1) (c := p.2) hS ((hi 2 (by simp)).trans rfl)) rfl ((pf.mono hle_2).ix h_t46)) rfl rfl ?_
     refine d_readE rfl rfl (fun w L' hF hS hi => run_fieldG Try.runUnderlying50 rfl Try.sizeOf48 rfl rfl (offOf (i := 2) (E := 50) (sz := 4) (n := css.length) (a := p.1) (c := p.2) hS ((hi 2 (by simp)).trans rfl)) ((pf.mono hle_2).ix h_t46)) ?_
     refine d_readD (fun w L' hF hS hi => run_loadG1 (f := idC) (i := t18.1) (sz := 4) (j := 2) (v := (List.getD (List.getD css (Int.toNat t18.1) []) 2 undef)) Try.isAgg48 rfl rfl (offOf (i := 2) (E := 50) (sz := 4) (n := css.length) (a := p.1) (c := p.2) hS ((hi 2 (by simp)).trans rfl)) ((pf.mono hle_2).ix h_t46) (rg_of (((pf.mono hle_2).eta h_t46).trans (cg_face_Person ((pf.mono hle_2).at h_t46))) rfl)) rfl rfl ?_
     refine d_val rfl rfl (r_move (v := .int .i64 a3) rfl) ?_
     refine d_newS rfl rfl (run_buildSlice (vs := [.int .i64 a3]) (cs := [.int .i64 a3]) Try.underlying48 Try.sizeOf3 Try.zeroValue3 rfl rfl rfl rfl rfl) rfl (fun b4 => ?_)
     have h_t51 := bnd_val H50
     have H51 := bnd_rest H50
     refine d_make (Cv := fun v => roV 1 v (val (face_with (val (gAt t39 t18.1)).Likes ([a3] : List Int))).length ((val (face_with (val (gAt t39 t18.1)).Likes ([a3] : List Int))).map e_i64)) (none, 0) (makes_call (G := fun x : (Option Addr × Nat) => .slice x.1 (val (face_with (val (gAt t39 t18.1)).Likes ([a3] : List Int))).length x.2) (C := fun x : (Option Addr × Nat) => roV 1 (.slice x.1 (val (face_with (val (gAt t39 t18.1)).Likes ([a3] : List Int))).length x.2) (val (face_with (val (gAt t39 t18.1)).Likes ([a3] : List Int))).length ((val (face_with (val (gAt t39 t18.1)).Likes ([a3] : List Int))).map e_i64)) (fun w L' hF hS hi => k19 (know_all w) ((show FrS hp_2 1 (List.getD (List.getD css (Int.toNat t18.1) []) 2 undef) ((val (gAt t39 t18.1)).Likes.map e_i64) from (g_face_Person_p2 ((pf.mono hle_2).at h_t46))).mono (pool_now (i := 0) hS ((hi 0 (by simp)).trans rfl) noH_le)) (frs_box (i := 3) (xs := ([a3] : List Int)) (f := e_i64) hS ((hi 3 (by simp)).trans rfl) rfl rfl rfl rfl) h_t51) Try.call19 rfl) (fun _ => rfl) rfl rfl rfl (fun p_2 => ?_)
     refine d_val rfl rfl (r_move (v := .slice p.1 css.length p.2) rfl) ?_
     refine d_val rfl rfl (r_move (v := .int .i64 t18.1) rfl) ?_
     have h_t54 := bnd_val H51
     have H52 := bnd_rest H51
     refine d_readD (fun w L' hF hS hi => run_indexO Try.underlying23 Try.sizeOf50 rfl rfl (offOf (i := 2) (E := 50) (sz := 4) (n := css.length) (a := p.1) (c := p.2) hS ((hi 2 (by simp)).trans rfl)) rfl ((pf.mono hle_2).ix h_t54)) rfl rfl ?_
     refine d_readE rfl rfl (fun w L' hF hS hi => run_fieldG Try.runUnderlying50 rfl Try.sizeOf48 rfl rfl (offOf (i := 2) (E := 50) (sz := 4) (n := css.length) (a := p.1) (c := p.2) hS ((hi 2 (by simp)).trans rfl)) ((pf.mono hle_2).ix h_t54)) ?_
     refine d_readD (fun w L' hF hS hi => run_loadG1 (f := idC) (i := t18.1) (sz := 4) (j := 3) (v := (List.getD (List.getD css (Int.toNat t18.1) []) 3 undef)) Try.isAgg48 rfl rfl (offOf (i := 2) (E := 50) (sz := 4) (n := css.length) (a := p.1) (c := p.2) hS ((hi 2 (by simp)).trans rfl)) ((pf.mono hle_2).ix h_t54) (rg_of (((pf.mono hle_2).eta h_t54).trans (cg_face_Person ((pf.mono hle_2).at h_t54))) rfl)) rfl rfl ?_
     refine d_val rfl rfl (r_move (v := .int .i64 a3) rfl) ?_
     refine d_newS rfl rfl (run_buildSlice (vs := [.int .i64 a3]) (cs := [.int .i64 a3]) Try.underlying48 Try.sizeOf3 Try.zeroValue3 rfl rfl rfl rfl rfl) rfl (fun b5 => ?_)
     have h_t59 := bnd_val H52
     have H53 := bnd_rest H52
     refine d_make (Cv := fun v => roV 1 v (val (face_without (val (gAt t39 t18.1)).Nots ([a3] : List Int))).length ((val (face_without (val (gAt t39 t18.1)).Nots ([a3] : List Int))).map e_i64)) (none, 0) (makes_call (G := fun x : (Option Addr × Nat) => .slice x.1 (val (face_without (val (gAt t39 t18.1)).Nots ([a3] : List Int))).length x.2) (C := fun x : (Option Addr × Nat) => roV 1 (.slice x.1 (val (face_without (val (gAt t39 t18.1)).Nots ([a3] : List Int))).length x.2) (val (face_without (val (gAt t39 t18.1)).Nots ([a3] : List Int))).length ((val (face_without (val (gAt t39 t18.1)).Nots ([a3] : List Int))).map e_i64)) (fun w L' hF hS hi => k20 (know_all w) ((show FrS hp_2 1 (List.getD (List.getD css (Int.toNat t18.1) []) 3 undef) ((val (gAt t39 t18.1)).Nots.map e_i64) from (g_face_Person_p3 ((pf.mono hle_2).at h_t54))).mono (pool_now (i := 0) hS ((hi 0 (by simp)).trans rfl) noH_le)) (frs_box (i := 5) (xs := ([a3] : List Int)) (f := e_i64) hS ((hi 5 (by simp)).trans rfl) rfl rfl rfl rfl) h_t59) Try.call20 rfl) (fun _ => rfl) rfl rfl rfl (fun p_3 => ?_)
     have h_t60 := bnd_val H53
     have H54 := bnd_rest H53
     refine d_readD (fun w L' hF hS hi => run_indexO Try.underlying23 Try.sizeOf50 rfl rfl (offOf (i := 2) (E := 50) (sz := 4) (n := css.length) (a := p.1) (c := p.2) hS ((hi 2 (by simp)).trans rfl)) rfl ((pf.mono hle_2).ix h_t60)) rfl rfl ?_
     refine d_readE rfl rfl (fun w L' hF hS hi => run_fieldG Try.runUnderlying50 rfl Try.sizeOf48 rfl rfl (offOf (i := 2) (E := 50) (sz := 4) (n := css.length) (a := p.1) (c := p.2) hS ((hi 2 (by simp)).trans rfl)) ((pf.mono hle_2).ix h_t60)) ?_
     have h_l2 := bnd_val H54
     have H55 := bnd_rest H54
     refine d_storeC (i := 2) (x := .slice p_2.1 (val (face_with (val (gAt t39 t18.1)).Likes ([a3] : List Int))).length p_2.2) (va := (ptrAt p.1 (Int.toNat t18.1 * 4 + 2))) Try.sizeOf48 rfl rfl rfl rfl rfl rfl (blk_row (E := 50) (sz := 4) (n := css.length) (a := p.1) (c := p.2) (css := css) (Imp.refl _) rfl (pf.mono hle_2).len h_t60 rfl rfl) ?_
     have h_t62 := bnd_val H55
     have H56 := bnd_rest H55
     refine d_readD (fun w L' hF hS hi => run_indexO Try.underlying23 Try.sizeOf50 rfl rfl (offOfI (imp_stO (E := 50) (sz := 4) (n := css.length) (a := p.1) (c := p.2) (css := css) (j := 2) (x := .slice p_2.1 (val (face_with (val (gAt t39 t18.1)).Likes ([a3] : List Int))).length p_2.2) (Imp.refl _) (pf.mono hle_2).len h_t60 rfl rfl) hS ((hi 2 (by simp)).trans rfl)) (rfl.trans (setR_len _ _ _ _).symm) (ixR (lenR (pf.mono hle_2).len h_l2) h_t62)) rfl rfl ?_
     refine d_readE rfl rfl (fun w L' hF hS hi => run_fieldG Try.runUnderlying50 rfl Try.sizeOf48 rfl rfl (offOfI (imp_stO (E := 50) (sz := 4) (n := css.length) (a := p.1) (c := p.2) (css := css) (j := 2) (x := .slice p_2.1 (val (face_with (val (gAt t39 t18.1)).Likes ([a3] : List Int))).length p_2.2) (Imp.refl _) (pf.mono hle_2).len h_t60 rfl rfl) hS ((hi 2 (by simp)).trans rfl)) (ixR (lenR (pf.mono hle_2).len h_l2) h_t62)) ?_
     have h_l2_2 := bnd_val H56
     have H57 := bnd_rest H56
     refine d_storeC (i := 2) (x := .slice p_3.1 (val (face_without (val (gAt t39 t18.1)).Nots ([a3] : List Int))).length p_3.2) (va := (ptrAt p.1 (Int.toNat t18.1 * 4 + 3))) Try.sizeOf48 rfl rfl rfl rfl rfl rfl (blk_row (E := 50) (sz := 4) (n := css.length) (a := p.1) (c := p.2) (css := (setR css t18.1 2 (.slice p_2.1 (val (face_with (val (gAt t39 t18.1)).Likes ([a3] : List Int))).length p_2.2))) (imp_stO (E := 50) (sz := 4) (n := css.length) (a := p.1) (c := p.2) (css := css) (j := 2) (x := .slice p_2.1 (val (face_with (val (gAt t39 t18.1)).Likes ([a3] : List Int))).length p_2.2) (Imp.refl _) (pf.mono hle_2).len h_t60 rfl rfl) (rfl.trans (setR_len _ _ _ _).symm) (lenR (pf.mono hle_2).len h_l2) h_t62 rfl rfl) ?_
     refine d_nil ?_
     refine c_imp 2 rfl (imp_stO (E := 50) (sz := 4) (n := css.length) (a := p.1) (c := p.2) (css := (setR css t18.1 2 (.slice p_2.1 (val (face_with (val (gAt t39 t18.1)).Likes ([a3] : List Int))).length p_2.2))) (j := 3) (x := .slice p_3.1 (val (face_without (val (gAt t39 t18.1)).Nots ([a3] : List Int))).length p_3.2) (imp_stO (E := 50) (sz := 4) (n := css.length) (a := p.1) (c := p.2) (css := css) (j := 2) (x := .slice p_2.1 (val (face_with (val (gAt t39 t18.1)).Likes ([a3] : List Int))).length p_2.2) (Imp.refl _) (pf.mono hle_2).len h_t60 rfl rfl) (lenR (pf.mono hle_2).len h_l2) h_t62 rfl rfl) ?_
     refine c_freeze (Φ := fun H_ => FrS H_ 1 (.slice p_2.1 (val (face_with (val (gAt t39 t18.1)).Likes ([a3] : List Int))).length p_2.2) ((val (face_with (val (gAt t39 t18.1)).Likes ([a3] : List Int))).map e_i64)) 0 4 rfl rfl (by decide) (fun _ _ => noH_le) (fz_ro _) (fun hp_3 hle_3 hf => ?_)
     have pf_2 : AllC g_face_Person hp_3 4 (setR css t18.1 2 (.slice p_2.1 (val (face_with (val (gAt t39 t18.1)).Likes ([a3] : List Int))).length p_2.2)) (val (gSet t39 t18.1 (⟨(val (gAt t39 t18.1)).Id, (val (gAt t39 t18.1)).Name, (val (face_with (val (gAt t39 t18.1)).Likes ([a3] : List Int))), (val (gAt t39 t18.1)).Nots⟩ : T_face_Person))) := AllC.setR ((pf.mono hle_2).mono hle_3) h_t60 h_l2 rfl (by obtain ⟨q0_, q1_, q2_, q3_⟩ := ((pf.mono hle_2).mono hle_3).at h_t60; exact ⟨q0_, q1_, hf, q3_⟩)
     refine c_freeze (Φ := fun H_ => FrS H_ 1 (.slice p_3.1 (val (face_without (val (gAt t39 t18.1)).Nots ([a3] : List Int))).length p_3.2) ((val (face_without (val (gAt t39 t18.1)).Nots ([a3] : List Int))).map e_i64)) 0 6 rfl rfl (by decide) (fun _ _ => noH_le) (fz_ro _) (fun hp_4 hle_4 hf_2 => ?_)
     have pf_3 : AllC g_face_Person hp_4 4 (setR (setR css t18.1 2 (.slice p_2.1 (val (face_with (val (gAt t39 t18.1)).Likes ([a3] : List Int))).length p_2.2)) t18.1 3 (.slice p_3.1 (val (face_without (val (gAt t39 t18.1)).Nots ([a3] : List Int))).length p_3.2)) (val (gSet (val (gSet t39 t18.1 (⟨(val (gAt t39 t18.1)).Id, (val (gAt t39 t18.1)).Name, (val (face_with (val (gAt t39 t18.1)).Likes ([a3] : List Int))), (val (gAt t39 t18.1)).Nots⟩ : T_face_Person))) t18.1 (⟨(val (gAt (val (gSet t39 t18.1 (⟨(val (gAt t39 t18.1)).Id, (val (gAt t39 t18.1)).Name, (val (face_with (val (gAt t39 t18.1)).Likes ([a3] : List Int))), (val (gAt t39 t18.1)).Nots⟩ : T_face_Person))) t18.1)).Id, (val (gAt (val (gSet t39 t18.1 (⟨(val (gAt t39 t18.1)).Id, (val (gAt t39 t18.1)).Name, (val (face_with (val (gAt t39 t18.1)).Likes ([a3] : List Int))), (val (gAt t39 t18.1)).Nots⟩ : T_face_Person))) t18.1)).Name, (val (gAt (val (gSet t39 t18.1 (⟨(val (gAt t39 t18.1)).Id, (val (gAt t39 t18.1)).Name, (val (face_with (val (gAt t39 t18.1)).Likes ([a3] : List Int))), (val (gAt t39 t18.1)).Nots⟩ : T_face_Person))) t18.1)).Likes, (val (face_without (val (gAt t39 t18.1)).Nots ([a3] : List Int)))⟩ : T_face_Person))) := AllC.setR (pf_2.mono hle_4) h_t62 h_l2_2 rfl (by obtain ⟨q0_, q1_, q2_, q3_⟩ := (pf_2.mono hle_4).at h_t62; exact ⟨q0_, q1_, q2_, hf_2⟩)
     refine c_sel [0, 1, 2, 3, 4, 5, 6] [poolC noH hp_4, _, rowO 50 4 (.slice p.1 css.length p.2) css.length ((setR (setR css t18.1 2 (.slice p_2.1 (val (face_with (val (gAt t39 t18.1)).Likes ([a3] : List Int))).length p_2.2)) t18.1 3 (.slice p_3.1 (val (face_without (val (gAt t39 t18.1)).Nots ([a3] : List Int))).length p_3.2)).map idC), cellsC b4 [.int .i64 a3] 3, _, cellsC b5 [.int .i64 a3] 3, _] rfl (by decide) ?_
     refine c_seq ?_
     refine c_region ?_
     refine l_val rfl rfl rfl (r_move (v := .slice p.1 css.length p.2) rfl) ?_
     refine l_val rfl rfl rfl (r_assign (v := .slice p.1 css.length p.2) rfl) ?_
     refine l_val rfl rfl rfl (r_assign (v := .int .i64 0) rfl) ?_
     refine l_nil ?_
     refine c_sel [0, 1, 2, 3, 4, 5, 6] [poolC noH hp_4, _, rowO 50 4 (.slice p.1 css.length p.2) css.length ((setR (setR css t18.1 2 (.slice p_2.1 (val (face_with (val (gAt t39 t18.1)).Likes ([a3] : List Int))).length p_2.2)) t18.1 3 (.slice p_3.1 (val (face_without (val (gAt t39 t18.1)).Nots ([a3] : List Int))).length p_3.2)).map idC), cellsC b4 [.int .i64 a3] 3, _, cellsC b5 [.int .i64 a3] 3, _] rfl (by decide) ?_
     refine c_ret ?_
     obtain rfl := Option.some.inj H57
     refine c_both 0 2 rfl rfl (by decide) ?_
     refine c_imp 0 rfl (imp_rofD (p := p) ((rfl.trans (setR_len _ _ _ _).symm).trans (setR_len _ _ _ _).symm) pf_3) ?_
     refine ret2 (v1 := .slice p.1 css.length p.2) (v2 := .int .i64 0) rfl rfl rfl (finX p (i := 0) rfl (by first | rfl | rw [(show css.length = (val (gSet (val (gSet t39 t18.1 (⟨(val (gAt t39 t18.1)).Id, (val (gAt t39 t18.1)).Name, (val (face_with (val (gAt t39 t18.1)).Likes ([a3] : List Int))), (val (gAt t39 t18.1)).Nots⟩ : T_face_Person))) t18.1 (⟨(val (gAt (val (gSet t39 t18.1 (⟨(val (gAt t39 t18.1)).Id, (val (gAt t39 t18.1)).Name, (val (face_with (val (gAt t39 t18.1)).Likes ([a3] : List Int))), (val (gAt t39 t18.1)).Nots⟩ : T_face_Person))) t18.1)).Id, (val (gAt (val (gSet t39 t18.1 (⟨(val (gAt t39 t18.1)).Id, (val (gAt t39 t18.1)).Name, (val (face_with (val (gAt t39 t18.1)).Likes ([a3] : List Int))), (val (gAt t39 t18.1)).Nots⟩ : T_face_Person))) t18.1)).Name, (val (gAt (val (gSet t39 t18.1 (⟨(val (gAt t39 t18.1)).Id, (val (gAt t39 t18.1)).Name, (val (face_with (val (gAt t39 t18.1)).Likes ([a3] : List Int))), (val (gAt t39 t18.1)).Nots⟩ : T_face_Person))) t18.1)).Likes, (val (face_without (val (gAt t39 t18.1)).Nots ([a3] : List Int)))⟩ : T_face_Person))).length from (((rfl.trans (setR_len _ _ _ _).symm).trans (setR_len _ _ _ _).symm).trans pf_3.len))]) (by first | exact Imp.refl _ | exact Imp.of (by rw [(show css.length = (val (gSet (val (gSet t39 t18.1 (⟨(val (gAt t39 t18.1)).Id, (val (gAt t39 t18.1)).Name, (val (face_with (val (gAt t39 t18.1)).Likes ([a3] : List Int))), (val (gAt t39 t18.1)).Nots⟩ : T_face_Person))) t18.1 (⟨(val (gAt (val (gSet t39 t18.1 (⟨(val (gAt t39 t18.1)).Id, (val (gAt t39 t18.1)).Name, (val (face_with (val (gAt t39 t18.1)).Likes ([a3] : List Int))), (val (gAt t39 t18.1)).Nots⟩ : T_face_Person))) t18.1)).Id, (val (gAt (val (gSet t39 t18.1 (⟨(val (gAt t39 t18.1)).Id, (val (gAt t39 t18.1)).Name, (val (face_with (val (gAt t39 t18.1)).Likes ([a3] : List Int))), (val (gAt t39 t18.1)).Nots⟩ : T_face_Person))) t18.1)).Name, (val (gAt (val (gSet t39 t18.1 (⟨(val (gAt t39 t18.1)).Id, (val (gAt t39 t18.1)).Name, (val (face_with (val (gAt t39 t18.1)).Likes ([a3] : List Int))), (val (gAt t39 t18.1)).Nots⟩ : T_face_Person))) t18.1)).Likes, (val (face_without (val (gAt t39 t18.1)).Nots ([a3] : List Int)))⟩ : T_face_Person))).length from (((rfl.trans (setR_len _ _ _ _).symm).trans (setR_len _ _ _ _).symm).trans pf_3.len))])))
     ) (by kernel_rfl)
theorem k8 {a0 : (List T_face_Likeness)} {v0 : Value} {a1 : (List T_face_Person)} {v1 : Value} {a2 : Int} {a3 : Int} {r : (List T_face_Person) × Int} {w : World} {h : Heap} (hw : Know h w noS) (f0 : FrS h 14 v0 (a0.map e_face_Likeness)) (f1 : FrN h 4 v1 g_face_Person a1) (H : face_Deny a0 a1 a2 a3 = some r) : Does Try.prog 8 (List.toArray [v0, v1, .int .i64 a2, .int .i64 a3]) w (fun v w' => ∃ x : (Option Addr × Nat), v = (.tuple #[.slice x.1 r.1.length x.2, .int .i64 r.2]) ∧ Turn w w' noS (rofD 50 4 g_face_Person (.slice x.1 r.1.length x.2) r.1.length r.1)) := by
 refine enter (n := 60) Try.func8 rfl rfl rfl noS [] (Sat.nil _ _) ?_
 refine c_poolNew noH ?_
 refine c_seq ?_
 refine c_region ?_
 refine l_val rfl rfl rfl (r_assign (v := .slice none 0 0) rfl) ?_
 refine l_val rfl rfl rfl (r_assign (v := .int .i64 0) rfl) ?_
 refine l_nil ?_
 refine c_seq ?_
 refine c_region ?_
 refine l_val rfl rfl rfl (r_move (v := v0) rfl) ?_
 refine l_val rfl rfl rfl (r_move (v := v1) rfl) ?_
 refine l_val rfl rfl rfl (r_move (v := .int .i64 a2) rfl) ?_
 refine l_val rfl rfl rfl (r_move (v := .int .i64 a3) rfl) ?_
 obtain ⟨t18, h_t18, H33⟩ := bnd_some H; clear H
 refine l_callG (fun w hF hS => k16 (know_all w) (f0.mono (hw.now hF)) (f1.mono (hw.now hF)) h_t18) Try.call16 rfl rfl rfl ?_
 refine l_val rfl rfl rfl (r_move (v := .tuple #[.int .i64 t18.1, .int .i64 t18.2]) rfl) ?_
 refine l_val rfl rfl rfl (r_extract (v := .int .i64 t18.1) rfl rfl) ?_
 refine l_val rfl rfl rfl (r_extract (v := .int .i64 t18.2) rfl rfl) ?_
 refine l_val rfl rfl rfl (r_assign (v := .int .i64 t18.1) rfl) ?_
 refine l_val rfl rfl rfl (r_assign (v := .int .i64 t18.2) rfl) ?_
 refine l_nil ?_
 refine c_seq ?_
 refine c_block ?_
 refine c_seq ?_
 refine c_region ?_
 refine l_val rfl rfl rfl (r_move (v := .int .i64 t18.2) rfl) ?_
 refine l_val rfl rfl rfl (r_neq rfl rfl) ?_
 refine l_val rfl rfl rfl (r_assign (v := .bool (decide (t18.2 ≠ 0))) rfl) ?_
 refine l_nil ?_
 refine c_if (b := (decide (t18.2 ≠ 0))) rfl (fun hb => ?_) (fun hb => ?_)
 ·have H34 := cnd_t hb H33; clear H33
  refine c_seq ?_
  refine c_region ?_
  refine l_val rfl rfl rfl (r_move (v := .int .i64 t18.2) rfl) ?_
  refine l_val rfl rfl rfl (r_assign (v := .slice none 0 0) rfl) ?_
  refine l_val rfl rfl rfl (r_assign (v := .int .i64 t18.2) rfl) ?_
  refine l_nil ?_
  refine c_ret ?_
  refine c_nilRow 50 4 ?_
  obtain rfl := Option.some.inj H34
  refine c_imp 1 rfl (imp_rowO _ _ _ _ _) ?_
  refine c_both 0 1 rfl rfl (by decide) ?_
  refine c_imp 0 rfl (imp_rofD (p := ((none, 0) : Option Addr × Nat)) rfl (AllC.nil (G := g_face_Person) (h := noH) (sz := 4))) ?_
  refine ret2 (v1 := .slice ((none, 0) : Option Addr × Nat).1 (([] : List (List Value)).length) ((none, 0) : Option Addr × Nat).2) (v2 := .int .i64 t18.2) rfl rfl rfl (finX ((none, 0) : Option Addr × Nat) (i := 0) rfl (by first | rfl | rw [(show (([] : List (List Value)).length) = ([] : List T_face_Person).length from (AllC.nil (G := g_face_Person) (h := noH) (sz := 4)).len)]) (by first | exact Imp.refl _ | exact Imp.of (by rw [(show (([] : List (List Value)).length) = ([] : List T_face_Person).length from (AllC.nil (G := g_face_Person) (h := noH) (sz := 4)).len)])))
 ·have H35 := cnd_f hb H33; clear H33
  refine c_seq ?_
  refine c_region ?_
  refine l_val rfl rfl rfl (r_move (v := v1) rfl) ?_
  refine l_val rfl rfl rfl (r_move (v := .int .i64 t18.1) rfl) ?_
  obtain ⟨t28, h_t28, H36⟩ := bnd_some H35; clear H35
  refine l_val rfl rfl rfl (r_indexF Try.underlying23 Try.sizeOf50 rfl rfl f1.frs (f1.ix h_t28)) ?_
  refine l_val rfl rfl rfl (r_fieldP Try.runUnderlying50 rfl Try.sizeOf48 rfl rfl (some_of_at f1.frs (f1.ix h_t28))) ?_
  refine l_read (fun w hF hS => run_loadG1 (f := (elC h v1 4)) (i := t18.1) (sz := 4) (j := 3) (v := (elH h v1 4 (Int.toNat t18.1) 3)) Try.isAgg48 rfl rfl (f1.frs.row (hw.now hF)) (f1.ix h_t28) (rg_of (cg_face_Person (f1.at h_t28)) rfl)) rfl rfl rfl ?_
  refine l_val rfl rfl rfl (r_move (v := .int .i64 a3) rfl) ?_
  obtain ⟨t32, h_t32, H37⟩ := bnd_some H36; clear H36
  refine l_callG (fun w hF hS => k27 (know_all w) ((show FrS h 1 (elH h v1 4 (Int.toNat t18.1) 3) (t28.Nots.map e_i64) from (g_face_Person_p3 (f1.at h_t28))).mono (hw.now hF)) h_t32) Try.call27 rfl rfl rfl ?_
  refine l_val rfl rfl rfl (r_assign (v := .bool t32) rfl) ?_
  refine l_nil ?_
  refine c_if (b := t32) rfl (fun hb => ?_) (fun hb => ?_)
  ·have H38 := cnd_t hb H37; clear H37
   refine c_seq ?_
   refine c_region ?_
   refine l_val rfl rfl rfl (r_assign (v := .slice none 0 0) rfl) ?_
   refine l_val rfl rfl rfl (r_assign (v := .int .i64 6) rfl) ?_
   refine l_nil ?_
   refine c_ret ?_
   refine c_nilRow 50 4 ?_
   obtain rfl := Option.some.inj H38
   refine c_imp 1 rfl (imp_rowO _ _ _ _ _) ?_
   refine c_both 0 1 rfl rfl (by decide) ?_
   refine c_imp 0 rfl (imp_rofD (p := ((none, 0) : Option Addr × Nat)) rfl (AllC.nil (G := g_face_Person) (h := noH) (sz := 4))) ?_
   refine ret2 (v1 := .slice ((none, 0) : Option Addr × Nat).1 (([] : List (List Value)).length) ((none, 0) : Option Addr × Nat).2) (v2 := .int .i64 6) rfl rfl rfl (finX ((none, 0) : Option Addr × Nat) (i := 0) rfl (by first | rfl | rw [(show (([] : List (List Value)).length) = ([] : List T_face_Person).length from (AllC.nil (G := g_face_Person) (h := noH) (sz := 4)).len)]) (by first | exact Imp.refl _ | exact Imp.of (by rw [(show (([] : List (List Value)).length) = ([] : List T_face_Person).length from (AllC.nil (G := g_face_Person) (h := noH) (sz := 4)).len)])))
  ·have H39 := cnd_f hb H37; clear H37
   refine c_skip ?_
   refine c_seq ?_
   refine c_region ?_
   refine l_val rfl rfl rfl (r_move (v := v1) rfl) ?_
   obtain ⟨t34, h_t34, H40⟩ := bnd_some H39; clear H39
   refine l_make (makes_call (rds := []) (G := fun x : (Option Addr × Nat) => .slice x.1 t34.length x.2) (C := fun x : (Option Addr × Nat) => rofD 50 4 g_face_Person (.slice x.1 t34.length x.2) t34.length t34) (fun w L' hF hS hi => k18 (know_all w) (f1.mono (hw.now hF)) h_t34) Try.call18 rfl) rfl rfl rfl (fun p => ?_)
   refine c_rofD 1 rfl (fun hp css hn pf => ?_)
   rw [hn]
   refine c_split 1 rfl ?_
   refine c_poolJoin 0 1 rfl rfl (by decide) (fun _ _ => noH_le) (fun hp_2 hle hle_2 => ?_)
   refine l_val rfl rfl rfl (r_assign (v := .slice p.1 css.length p.2) rfl) ?_
   refine l_nil ?_
   refine c_sel [0, 1, 2] [poolC noH hp_2, _, rowO 50 4 (.slice p.1 css.length p.2) css.length (css.map idC)] rfl (by decide) ?_
   refine c_seq ?_
   exact c_regionD (Kd.p :: Kd.p :: Kd.p :: Kd.p :: Kd.p :: Kd.p :: Kd.d [2] _ :: Kd.d [2] _ :: Kd.d [2] _ :: Kd.p :: Kd.ns 3 [_] 3 1 :: Kd.t 4 [0, 3] _ _ :: Kd.p :: Kd.p :: Kd.d [2] _ :: Kd.d [2] _ :: Kd.d [2] _ :: Kd.p :: Kd.ns 5 [_] 3 1 :: Kd.t 6 [0, 5] _ _ :: Kd.d [2] _ :: Kd.d [2] _ :: Kd.stk 56 46 2 :: Kd.d [2] _ :: Kd.d [2] _ :: Kd.stk 58 54 2 :: []) 4 mixed (by
    refine d_val rfl rfl (r_move (v := .slice p.1 css.length p.2) rfl) ?_
    refine d_val rfl rfl (r_move (v := .int .i64 t18.1) rfl) ?_
    refine d_val rfl rfl (r_move (v := .slice p.1 css.length p.2) rfl) ?_
    refine d_val rfl rfl (r_move (v := .int .i64 t18.1) rfl) ?_
    refine d_val rfl rfl (r_move (v := .slice p.1 css.length p.2) rfl) ?_
    refine d_val rfl rfl (r_move (v := .int .i64 t18.1) rfl) ?_
    have h_t41 := bnd_val H40
    have H41 := bnd_rest H40
    refine d_readD (fun w L' hF hS hi => run_indexO Try.underlying23 Try.sizeOf50 rfl rfl (offOf (i := 2) (E := 50) (sz := 4) (n := css.length) (a := p.1) (c := p.2) hS ((hi 2 (by simp)).trans rfl)) rfl ((pf.mono hle_2).ix h_t41)) rfl rfl ?_
    refine d_readE rfl rfl (fun w L' hF hS hi => run_fieldG Try.runUnderlying50 rfl Try.sizeOf48 rfl rfl (offOf (i := 2) (E := 50) (sz := 4) (n := css.length) (a := p.1) (c := p.2) hS ((hi 2 (by simp)).trans rfl)) ((pf.mono hle_2).ix h_t41)) ?_
    refine d_readD (fun w L' hF hS hi => run_loadG1 (f := idC) (i := t18.1) (sz := 4) (j := 3) (v := (List.getD (List.getD css (Int.toNat t18.1) []) 3 undef)) Try.isAgg48 rfl rfl (offOf (i := 2) (E := 50) (sz := 4) (n := css.length) (a := p.1) (c := p.2) hS ((hi 2 (by simp)).trans rfl)) ((pf.mono hle_2).ix h_t41) (rg_of (((pf.mono hle_2).eta h_t41).trans (cg_face_Person ((pf.mono hle_2).at h_t41))) rfl)) rfl rfl ?_
    refine d_val rfl rfl (r_move (v := .int .i64 a3) rfl) ?_
    refine d_newS rfl rfl (run_buildSlice (vs := [.int .i64 a3]) (cs := [.int .i64 a3]) Try.underlying48 Try.sizeOf3 Try.zeroValue3 rfl rfl rfl rfl rfl) rfl (fun b4 => ?_)
    have h_t46 := bnd_val H41
    have H42 := bnd_rest H41
    refine d_make (Cv := fun v => roV 1 v (val (face_with (val (gAt t34 t18.1)).Nots ([a3] : List Int))).length ((val (face_with (val (gAt t34 t18.1)).Nots ([a3] : List Int))).map e_i64)) (none, 0) (makes_call (G := fun x : (Option Addr × Nat) => .slice x.1 (val (face_with (val (gAt t34 t18.1)).Nots ([a3] : List Int))).length x.2) (C := fun x : (Option Addr × Nat) => roV 1 (.slice x.1 (val (face_with (val (gAt t34 t18.1)).Nots ([a3] : List Int))).length x.2) (val (face_with (val (gAt t34 t18.1)).Nots ([a3] : List Int))).length ((val (face_with (val (gAt t34 t18.1)).Nots ([a3] : List Int))).map e_i64)) (fun w L' hF hS hi => k19 (know_all w) ((show FrS hp_2 1 (List.getD (List.getD css (Int.toNat t18.1) []) 3 undef) ((val (gAt t34 t18.1)).Nots.map e_i64) from (g_face_Person_p3 ((pf.mono hle_2).at h_t41))).mono (pool_now (i := 0) hS ((hi 0 (by simp)).trans rfl) noH_le)) (frs_box (i := 3) (xs := ([a3] : List Int)) (f := e_i64) hS ((hi 3 (by simp)).trans rfl) rfl rfl rfl rfl) h_t46) Try.call19 rfl) (fun _ => rfl) rfl rfl rfl (fun p_2 => ?_)
    refine d_val rfl rfl (r_move (v := .slice p.1 css.length p.2) rfl) ?_
    refine d_val rfl rfl (r_move (v := .int .i64 t18.1) rfl) ?_
    have h_t49 := bnd_val H42
    have H43 := bnd_rest H42
    refine d_readD (fun w L' hF hS hi => run_indexO Try.underlying23 Try.sizeOf50 rfl rfl (offOf (i := 2) (E := 50) (sz := 4) (n := css.length) (a := p.1) (c := p.2) hS ((hi 2 (by simp)).trans rfl)) rfl ((pf.mono hle_2).ix h_t49)) rfl rfl ?_
    refine d_readE rfl rfl (fun w L' hF hS hi => run_fieldG Try.runUnderlying50 rfl Try.sizeOf48 rfl rfl (offOf (i := 2) (E := 50) (sz := 4) (n := css.length) (a := p.1) (c := p.2) hS ((hi 2 (by simp)).trans rfl)) ((pf.mono hle_2).ix h_t49)) ?_
    refine d_readD (fun w L' hF hS hi => run_loadG1 (f := idC) (i := t18.1) (sz := 4) (j := 2) (v := (List.getD (List.getD css (Int.toNat t18.1) []) 2 undef)) Try.isAgg48 rfl rfl (offOf (i := 2) (E := 50) (sz := 4) (n := css.length) (a := p.1) (c := p.2) hS ((hi 2 (by simp)).trans rfl)) ((pf.mono hle_2).ix h_t49) (rg_of (((pf.mono hle_2).eta h_t49).trans (cg_face_Person ((pf.mono hle_2).at h_t49))) rfl)) rfl rfl ?_
    refine d_val rfl rfl (r_move (v := .int .i64 a3) rfl) ?_
    refine d_newS rfl rfl (run_buildSlice (vs := [.int .i64 a3]) (cs := [.int .i64 a3]) Try.underlying48 Try.sizeOf3 Try.zeroValue3 rfl rfl rfl rfl rfl) rfl (fun b5 => ?_)
    have h_t54 := bnd_val H43
    have H44 := bnd_rest H43
    refine d_make (Cv := fun v => roV 1 v (val (face_without (val (gAt t34 t18.1)).Likes ([a3] : List Int))).length ((val (face_without (val (gAt t34 t18.1)).Likes ([a3] : List Int))).map e_i64)) (none, 0) (makes_call (G := fun x : (Option Addr × Nat) => .slice x.1 (val (face_without (val (gAt t34 t18.1)).Likes ([a3] : List Int))).length x.2) (C := fun x : (Option Addr × Nat) => roV 1 (.slice x.1 (val (face_without (val (gAt t34 t18.1)).Likes ([a3] : List Int))).length x.2) (val (face_without (val (gAt t34 t18.1)).Likes ([a3] : List Int))).length ((val (face_without (val (gAt t34 t18.1)).Likes ([a3] : List Int))).map e_i64)) (fun w L' hF hS hi => k20 (know_all w) ((show FrS hp_2 1 (List.getD (List.getD css (Int.toNat t18.1) []) 2 undef) ((val (gAt t34 t18.1)).Likes.map e_i64) from (g_face_Person_p2 ((pf.mono hle_2).at h_t49))).mono (pool_now (i := 0) hS ((hi 0 (by simp)).trans rfl) noH_le)) (frs_box (i := 5) (xs := ([a3] : List Int)) (f := e_i64) hS ((hi 5 (by simp)).trans rfl) rfl rfl rfl rfl) h_t54) Try.call20 rfl) (fun _ => rfl) rfl rfl rfl (fun p_3 => ?_)
    have h_t55 := bnd_val H44
    have H45 := bnd_rest H44
    refine d_readD (fun w L' hF hS hi => run_indexO Try.underlying23 Try.sizeOf50 rfl rfl (offOf (i := 2) (E := 50) (sz := 4) (n := css.length) (a := p.1) (c := p.2) hS ((hi 2 (by simp)).trans rfl)) rfl ((pf.mono hle_2).ix h_t55)) rfl rfl ?_
    refine d_readE rfl rfl (fun w L' hF hS hi => run_fieldG Try.runUnderlying50 rfl Try.sizeOf48 rfl rfl (offOf (i := 2) (E := 50) (sz := 4) (n := css.length) (a := p.1) (c := p.2) hS ((hi 2 (by simp)).trans rfl)) ((pf.mono hle_2).ix h_t55)) ?_
    have h_l2 := bnd_val H45
    have H46 := bnd_rest H45
    refine d_storeC (i := 2) (x := .slice p_2.1 (val (face_with (val (gAt t34 t18.1)).Nots ([a3] : List Int))).length p_2.2) (va := (ptrAt p.1 (Int.toNat t18.1 * 4 + 3))) Try.sizeOf48 rfl rfl rfl rfl rfl rfl (blk_row (E := 50) (sz := 4) (n := css.length) (a := p.1) (c := p.2) (css := css) (Imp.refl _) rfl (pf.mono hle_2).len h_t55 rfl rfl) ?_
    have h_t57 := bnd_val H46
    have H47 := bnd_rest H46
    refine d_readD (fun w L' hF hS hi => run_indexO Try.underlying23 Try.sizeOf50 rfl rfl (offOfI (imp_stO (E := 50) (sz := 4) (n := css.length) (a := p.1) (c := p.2) (css := css) (j := 3) (x := .slice p_2.1 (val (face_with (val (gAt t34 t18.1)).Nots ([a3] : List Int))).length p_2.2) (Imp.refl _) (pf.mono hle_2).len h_t55 rfl rfl) hS ((hi 2 (by simp)).trans rfl)) (rfl.trans (setR_len _ _ _ _).symm) (ixR (lenR (pf.mono hle_2).len h_l2) h_t57)) rfl rfl ?_
    refine d_readE rfl rfl (fun w L' hF hS hi => run_fieldG Try.runUnderlying50 rfl Try.sizeOf48 rfl rfl (offOfI (imp_stO (E := 50) (sz := 4) (n := css.length) (a := p.1) (c := p.2) (css := css) (j := 3) (x := .slice p_2.1 (val (face_with (val (gAt t34 t18.1)).Nots ([a3] : List Int))).length p_2.2) (Imp.refl _) (pf.mono hle_2).len h_t55 rfl rfl) hS ((hi 2 (by simp)).trans rfl)) (ixR (lenR (pf.mono hle_2).len h_l2) h_t57)) ?_
    have h_l2_2 := bnd_val H47
    have H48 := bnd_rest H47
    refine d_storeC (i := 2) (x := .slice p_3.1 (val (face_without (val (gAt t34 t18.1)).Likes ([a3] : List Int))).length p_3.2) (va := (ptrAt p.1 (Int.toNat t18.1 * 4 + 2))) Try.sizeOf48 rfl rfl rfl rfl rfl rfl (blk_row (E := 50) (sz := 4) (n := css.length) (a := p.1) (c := p.2) (css := (setR css t18.1 3 (.slice p_2.1 (val (face_with (val (gAt t34 t18.1)).Nots ([a3] : List Int))).length p_2.2))) (imp_stO (E := 50) (sz := 4) (n := css.length) (a := p.1) (c := p.2) (css := css) (j := 3) (x := .slice p_2.1 (val (face_with (val (gAt t34 t18.1)).Nots ([a3] : List Int))).length p_2.2) (Imp.refl _) (pf.mono hle_2).len h_t55 rfl rfl) (rfl.trans (setR_len _ _ _ _).symm) (lenR (pf.mono hle_2).len h_l2) h_t57 rfl rfl) ?_
    refine d_nil ?_
    refine c_imp 2 rfl (imp_stO (E := 50) (sz := 4) (n := css.length) (a := p.1) (c := p.2) (css := (setR css t18.1 3 (.slice p_2.1 (val (face_with (val (gAt t34 t18.1)).Nots ([a3] : List Int))).length p_2.2))) (j := 2) (x := .slice p_3.1 (val (face_without (val (gAt t34 t18.1)).Likes ([a3] : List Int))).length p_3.2) (imp_stO (E := 50) (sz := 4) (n := css.length) (a := p.1) (c := p.2) (css := css) (j := 3) (x := .slice p_2.1 (val (face_with (val (gAt t34 t18.1)).Nots ([a3] : List Int))).length p_2.2) (Imp.refl _) (pf.mono hle_2).len h_t55 rfl rfl) (lenR (pf.mono hle_2).len h_l2) h_t57 rfl rfl) ?_
    refine c_freeze (Φ := fun H_ => FrS H_ 1 (.slice p_2.1 (val (face_with (val (gAt t34 t18.1)).Nots ([a3] : List Int))).length p_2.2) ((val (face_with (val (gAt t34 t18.1)).Nots ([a3] : List Int))).map e_i64)) 0 4 rfl rfl (by decide) (fun _ _ => noH_le) (fz_ro _) (fun hp_3 hle_3 hf => ?_)
    have pf_2 : AllC g_face_Person hp_3 4 (setR css t18.1 3 (.slice p_2.1 (val (face_with (val (gAt t34 t18.1)).Nots ([a3] : List Int))).length p_2.2)) (val (gSet t34 t18.1 (⟨(val (gAt t34 t18.1)).Id, (val (gAt t34 t18.1)).Name, (val (gAt t34 t18.1)).Likes, (val (face_with (val (gAt t34 t18.1)).Nots ([a3] : List Int)))⟩ : T_face_Person))) := AllC.setR ((pf.mono hle_2).mono hle_3) h_t55 h_l2 rfl (by obtain ⟨q0_, q1_, q2_, q3_⟩ := ((pf.mono hle_2).mono hle_3).at h_t55; exact ⟨q0_, q1_, q2_, hf⟩)
    refine c_freeze (Φ := fun H_ => FrS H_ 1 (.slice p_3.1 (val (face_without (val (gAt t34 t18.1)).Likes ([a3] : List Int))).length p_3.2) ((val (face_without (val (gAt t34 t18.1)).Likes ([a3] : List Int))).map e_i64)) 0 6 rfl rfl (by decide) (fun _ _ => noH_le) (fz_ro _) (fun hp_4 hle_4 hf_2 => ?_)
    have pf_3 : AllC g_face_Person hp_4 4 (setR (setR css t18.1 3 (.slice p_2.1 (val (face_with (val (gAt t34 t18.1)).Nots ([a3] : List Int))).length p_2.2)) t18.1 2 (.slice p_3.1 (val (face_without (val (gAt t34 t18.1)).Likes ([a3] : List Int))).length p_3.2)) (val (gSet (val (gSet t34 t18.1 (⟨(val (gAt t34 t18.1)).Id, (val (gAt t34 t18.1)).Name, (val (gAt t34 t18.1)).Likes, (val (face_with (val (gAt t34 t18.1)).Nots ([a3] : List Int)))⟩ : T_face_Person))) t18.1 (⟨(val (gAt (val (gSet t34 t18.1 (⟨(val (gAt t34 t18.1)).Id, (val (gAt t34 t18.1)).Name, (val (gAt t34 t18.1)).Likes, (val (face_with (val (gAt t34 t18.1)).Nots ([a3] : List Int)))⟩ : T_face_Person))) t18.1)).Id, (val (gAt (val (gSet t34 t18.1 (⟨(val (gAt t34 t18.1)).Id, (val (gAt t34 t18.1)).Name, (val (gAt t34 t18.1)).Likes, (val (face_with (val (gAt t34 t18.1)).Nots ([a3] : List Int)))⟩ : T_face_Person))) t18.1)).Name, (val (face_without (val (gAt t34 t18.1)).Likes ([a3] : List Int))), (val (gAt (val (gSet t34 t18.1 (⟨(val (gAt t34 t18.1)).Id, (val (gAt t34 t18.1)).Name, (val (gAt t34 t18.1)).Likes, (val (face_with (val (gAt t34 t18.1)).Nots ([a3] : List Int)))⟩ : T_face_Person))) t18.1)).Nots⟩ : T_face_Person))) := AllC.setR (pf_2.mono hle_4) h_t57 h_l2_2 rfl (by obtain ⟨q0_, q1_, q2_, q3_⟩ := (pf_2.mono hle_4).at h_t57; exact ⟨q0_, q1_, hf_2, q3_⟩)
    refine c_sel [0, 1, 2, 3, 4, 5, 6] [poolC noH hp_4, _, rowO 50 4 (.slice p.1 css.length p.2) css.length ((setR (setR css t18.1 3 (.slice p_2.1 (val (face_with (val (gAt t34 t18.1)).Nots ([a3] : List Int))).length p_2.2)) t18.1 2 (.slice p_3.1 (val (face_without (val (gAt t34 t18.1)).Likes ([a3] : List Int))).length p_3.2)).map idC), cellsC b4 [.int .i64 a3] 3, _, cellsC b5 [.int .i64 a3] 3, _] rfl (by decide) ?_
    refine c_seq ?_
    refine c_region ?_
    refine l_val rfl rfl rfl (r_move (v := .slice p.1 css.length p.2) rfl) ?_
    refine l_val rfl rfl rfl (r_assign (v := .slice p.1 css.length p.2) rfl) ?_
    refine l_val rfl rfl rfl (r_assign (v := .int .i64 0) rfl) ?_
    refine l_nil ?_
    refine c_sel [0, 1, 2, 3, 4, 5, 6] [poolC noH hp_4, _, rowO 50 4 (.slice p.1 css.length p.2) css.length ((setR (setR css t18.1 3 (.slice p_2.1 (val (face_with (val (gAt t34 t18.1)).Nots ([a3] : List Int))).length p_2.2)) t18.1 2 (.slice p_3.1 (val (face_without (val (gAt t34 t18.1)).Likes ([a3] : List Int))).length p_3.2)).map idC), cellsC b4 [.int .i64 a3] 3, _, cellsC b5 [.int .i64 a3] 3, _] rfl (by decide) ?_
    refine c_ret ?_
    obtain rfl := Option.some.inj H48
    refine c_both 0 2 rfl rfl (by decide) ?_
    refine c_imp 0 rfl (imp_rofD (p := p) ((rfl.trans (setR_len _ _ _ _).symm).trans (setR_len _ _ _ _).symm) pf_3) ?_
    refine ret2 (v1 := .slice p.1 css.length p.2) (v2 := .int .i64 0) rfl rfl rfl (finX p (i := 0) rfl (by first | rfl | rw [(show css.length = (val (gSet (val (gSet t34 t18.1 (⟨(val (gAt t34 t18.1)).Id, (val (gAt t34 t18.1)).Name, (val (gAt t34 t18.1)).Likes, (val (face_with (val (gAt t34 t18.1)).Nots ([a3] : List Int)))⟩ : T_face_Person))) t18.1 (⟨(val (gAt (val (gSet t34 t18.1 (⟨(val (gAt t34 t18.1)).Id, (val (gAt t34 t18.1)).Name, (val (gAt t34 t18.1)).Likes, (val (face_with (val (gAt t34 t18.1)).Nots ([a3] : List Int)))⟩ : T_face_Person))) t18.1)).Id, (val (gAt (val (gSet t34 t18.1 (⟨(val (gAt t34 t18.1)).Id, (val (gAt t34 t18.1)).Name, (val (gAt t34 t18.1)).Likes, (val (face_with (val (gAt t34 t18.1)).Nots ([a3] : List Int)))⟩ : T_face_Person))) t18.1)).Name, (val (face_without (val (gAt t34 t18.1)).Likes ([a3] : List Int))), (val (gAt (val (gSet t34 t18.1 (⟨(val (gAt t34 t18.1)).Id, (val (gAt t34 t18.1)).Name, (val (gAt t34 t18.1)).Likes, (val (face_with (val (gAt t34 t18.1)).Nots ([a3] : List Int)))⟩ : T_face_Person))) t18.1)).Nots⟩ : T_face_Person))).length from (((rfl.trans (setR_len _ _ _ _).symm).trans (setR_len _ _ _ _).symm).trans pf_3.len))]) (by first | exact Imp.refl _ | exact Imp.of (by rw [(show css.length = (val (gSet (val (gSet t34 t18.1 (⟨(val (gAt t34 t18.1)).Id, (val (gAt t34 t18.1)).Name, (val (gAt t34 t18.1)).Likes, (val (face_with (val (gAt t34 t18.1)).Nots ([a3] : List Int)))⟩ : T_face_Person))) t18.1 (⟨(val (gAt (val (gSet t34 t18.1 (⟨(val (gAt t34 t18.1)).Id, (val (gAt t34 t18.1)).Name, (val (gAt t34 t18.1)).Likes, (val (face_with (val (gAt t34 t18.1)).Nots ([a3] : List Int)))⟩ : T_face_Person))) t18.1)).Id, (val (gAt (val (gSet t34 t18.1 (⟨(val (gAt t34 t18.1)).Id, (val (gAt t34 t18.1)).Name, (val (gAt t34 t18.1)).Likes, (val (face_with (val (gAt t34 t18.1)).Nots ([a3] : List Int)))⟩ : T_face_Person))) t18.1)).Name, (val (face_without (val (gAt t34 t18.1)).Likes ([a3] : List Int))), (val (gAt (val (gSet t34 t18.1 (⟨(val (gAt t34 t18.1)).Id, (val (gAt t34 t18.1)).Name, (val (gAt t34 t18.1)).Likes, (val (face_with (val (gAt t34 t18.1)).Nots ([a3] : List Int)))⟩ : T_face_Person))) t18.1)).Nots⟩ : T_face_Person))).length from (((rfl.trans (setR_len _ _ _ _).symm).trans (setR_len _ _ _ _).symm).trans pf_3.len))])))
    ) (by kernel_rfl)
theorem k28 {a0 : (List T_face_Match)} {v0 : Value} {a1 : (T_face_Match → Option (Bool))} {v1 : Value} {r : Int} {w : World} {h : Heap} (hw : Know h w noS) (f0 : FrS h 2 v0 (a0.map e_face_Match)) (f1 : FnH Try.prog h v1 (fnR_func_face_Match_bool a1)) (H : slices_IndexFunc_face_Match a0 a1 = some r) : Does Try.prog 28 (List.toArray [v0, v1]) w (fun v w' => v = (.int .i64 r) ∧ Grow w w') := by
 refine enter (n := 19) Try.func28 rfl rfl rfl noS [] (Sat.nil _ _) ?_
 refine c_seq ?_
 refine c_region ?_
 refine l_val rfl rfl rfl (r_assign (v := .int .i64 0) rfl) ?_
 refine l_nil ?_
 refine c_seq ?_
 refine c_seq ?_
 refine c_region ?_
 refine l_val rfl rfl rfl (r_move (v := v0) rfl) ?_
 refine l_val rfl rfl rfl (r_lenF Try.underlying25 rfl f0 rfl) ?_
 refine l_val rfl rfl rfl (r_move (v := .int .i64 0) rfl) ?_
 refine l_nil ?_
 refine c_block ?_
 refine c_fix (σ := Int) (τ := Unit) (fun next1 s => slices_IndexFunc_face_Match_l1 a0 a1 next1 s) (fun s t => [(0, v0), (1, v1), (7, .int .i64 (a0.length : Int)), (8, .int .i64 s)]) (fun s t => []) (fun s t => True) 0 () [] H (by exact trivial) (by exact ⟨rfl, rfl, rfl, rfl, trivial⟩) (by decide) rfl ?_
 rintro x8_2 _ m1 gg H9 _
 clear H
 replace H9 : slices_IndexFunc_face_Match_l1 a0 a1 (it (fun next1 s => slices_IndexFunc_face_Match_l1 a0 a1 next1 s) m1) x8_2 = some r := H9
 generalize hn1 : it (fun next1 s => slices_IndexFunc_face_Match_l1 a0 a1 next1 s) m1 = next1 at H9
 refine c_tidyF [(0, v0), (1, v1), (7, .int .i64 (a0.length : Int)), (8, .int .i64 x8_2)] [] rfl rfl ?_
 refine c_seq ?_
 refine c_region ?_
 refine l_val rfl rfl rfl (r_lss rfl rfl) ?_
 refine l_nil ?_
 refine c_seq ?_
 refine c_if (b := (decide (x8_2 < (a0.length : Int)))) rfl (fun hb => ?_) (fun hb => ?_)
 ·have H10 := cnd_t hb H9; clear H9
  refine c_skip ?_
  refine c_seq ?_
  refine c_block ?_
  refine c_seq ?_
  refine c_region ?_
  refine l_val rfl rfl rfl (r_move (v := .int .i64 x8_2) rfl) ?_
  refine l_val rfl rfl rfl (r_assign (v := .int .i64 x8_2) rfl) ?_
  refine l_nil ?_
  refine c_seq ?_
  refine c_region ?_
  refine l_val rfl rfl rfl (r_move (v := v1) rfl) ?_
  refine l_val rfl rfl rfl (r_move (v := v0) rfl) ?_
  refine l_val rfl rfl rfl (r_move (v := .int .i64 x8_2) rfl) ?_
  obtain ⟨t14, h_t14, H11⟩ := bnd_some H10; clear H10
  refine l_val rfl rfl rfl (r_indexF Try.underlying25 Try.sizeOf30 rfl rfl f0 h_t14) ?_
  refine l_read (fun w hF hS => run_loadGN (f := e_face_Match) (i := x8_2) (sz := 2) (j := 0) (vs := [.int .i64 t14.Person, .int .i64 t14.Far]) Try.isAgg30 Try.sizeOf30 rfl rfl (f0.row (hw.now hF)) h_t14 rfl) rfl rfl rfl ?_
  obtain ⟨t16, h_t16, H12⟩ := bnd_some H11; clear H11
  refine l_callV (R := fnR_func_face_Match_bool a1) (r := .bool t16) (v := v1) (fun w hF hS => ⟨(f1.mono (hw.now hF)), ⟨t14, _, rfl, h_t16, rfl⟩⟩) rfl rfl rfl rfl ?_
  refine l_nil ?_
  refine c_if (b := t16) rfl (fun hb => ?_) (fun hb => ?_)
  ·have H13 := cnd_t hb H12; clear H12
   refine c_seq ?_
   refine c_region ?_
   refine l_val rfl rfl rfl (r_move (v := .int .i64 x8_2) rfl) ?_
   refine l_val rfl rfl rfl (r_assign (v := .int .i64 x8_2) rfl) ?_
   refine l_nil ?_
   refine c_ret ?_
   obtain rfl := Option.some.inj H13
   refine ret1 (v := .int .i64 x8_2) rfl rfl (fin rfl)
  ·have H14 := cnd_f hb H12; clear H12
   refine c_skip ?_
   refine c_region ?_
   obtain ⟨t18, h_t18, H15⟩ := bnd_some H14; clear H14
   refine l_val rfl rfl rfl (r_addG rfl rfl h_t18) ?_
   refine l_val rfl rfl rfl (r_move (v := .int .i64 t18) rfl) ?_
   refine l_nil ?_
   refine c_close t18 () m1 [] (by exact ⟨rfl, rfl, rfl, rfl, trivial⟩) (by decide) rfl (by exact ⟨(by subst hn1; exact H15), trivial⟩) (Nat.lt_succ_self _)
 ·have H16 := cnd_f hb H9; clear H9
  refine c_exit ?_
  refine c_seq ?_
  refine c_region ?_
  refine l_val rfl rfl rfl (r_assign (v := .int .i64 (-1)) rfl) ?_
  refine l_nil ?_
  refine c_ret ?_
  obtain rfl := Option.some.inj H16
  refine ret1 (v := .int .i64 (-1)) rfl rfl (fin rfl)
theorem k9 {a0 : (List T_face_Match)} {v0 : Value} {a1 : (T_face_Match → Option (Bool))} {v1 : Value} {r : Bool} {w : World} {h : Heap} (hw : Know h w noS) (f0 : FrS h 2 v0 (a0.map e_face_Match)) (f1 : FnH Try.prog h v1 (fnR_func_face_Match_bool a1)) (H : slices_ContainsFunc_face_Match a0 a1 = some r) : Does Try.prog 9 (List.toArray [v0, v1]) w (fun v w' => v = (.bool r) ∧ Grow w w') := by
 refine enter (n := 9) Try.func9 rfl rfl rfl noS [] (Sat.nil _ _) ?_
 refine c_seq ?_
 refine c_region ?_
 refine l_val rfl rfl rfl (r_assign (v := .bool false) rfl) ?_
 refine l_nil ?_
 refine c_seq ?_
 refine c_region ?_
 refine l_val rfl rfl rfl (r_move (v := v0) rfl) ?_
 refine l_val rfl rfl rfl (r_move (v := v1) rfl) ?_
 obtain ⟨t7, h_t7, H2⟩ := bnd_some H; clear H
 refine l_callG (fun w hF hS => k28 (know_all w) (f0.mono (hw.now hF)) (f1.mono (hw.now hF)) h_t7) Try.call28 rfl rfl rfl ?_
 refine l_val rfl rfl rfl (r_geq rfl rfl) ?_
 refine l_val rfl rfl rfl (r_assign (v := .bool (decide (0 ≤ t7))) rfl) ?_
 refine l_nil ?_
 refine c_ret ?_
 obtain rfl := Option.some.inj H2
 refine ret1 (v := .bool (decide (0 ≤ t7))) rfl rfl (fin rfl)
theorem k10 {q0 : T_face_Match} {c0 : Nat} {a0 : T_face_Match} {r : Bool} {w : World} {h : Heap} (hw : Know h w noS) (hc0 : h c0 = some (.cells (List.toArray [.int .i64 q0.Person, .int .i64 q0.Far]) 30 (0, 0))) (H : Keep_FaceSuggests_1 q0 a0 = some r) : Does Try.prog 10 (List.toArray [.agg #[.int .i64 a0.Person, .int .i64 a0.Far], .pointer (some ⟨c0, 0, none⟩)]) w (fun v w' => v = (.bool r) ∧ Grow w w') := by
 refine enter (n := 9) Try.func10 rfl rfl rfl noS [] (Sat.nil _ _) ?_
 refine c_seq ?_
 refine c_region ?_
 refine l_box (cs := [.int .i64 a0.Person, .int .i64 a0.Far]) rfl rfl rfl rfl (fun b1 => ?_)
 refine l_val rfl rfl rfl (r_assign (v := .bool false) rfl) ?_
 refine l_nil ?_
 refine c_seq ?_
 refine c_region ?_
 refine l_val rfl rfl rfl (r_field Try.runUnderlying30 rfl Try.sizeOf3 rfl rfl) ?_
 refine l_load1 (i := 0) (v := .int .i64 a0.Person) Try.isAgg3 rfl rfl rfl rfl rfl ?_
 refine l_val rfl rfl rfl (r_field Try.runUnderlying30 rfl Try.sizeOf3 rfl rfl) ?_
 refine l_read (fun w hF hS => run_loadK1 (v := .int .i64 q0.Person) Try.isAgg3 rfl (hw.now hF _ _ hc0) rfl) rfl rfl rfl ?_
 refine l_val rfl rfl rfl (r_eql rfl rfl) ?_
 refine l_val rfl rfl rfl (r_assign (v := .bool (decide (a0.Person = q0.Person))) rfl) ?_
 refine l_nil ?_
 refine c_ret ?_
 obtain rfl := Option.some.inj H
 refine ret1 (v := .bool (decide (a0.Person = q0.Person))) rfl rfl (fin rfl)
theorem k3 {a0 : (List T_face_Likeness)} {v0 : Value} {a1 : (List T_face_Person)} {v1 : Value} {a2 : Int} {r : Bool} {w : World} {h : Heap} (hw : Know h w noS) (f0 : FrS h 14 v0 (a0.map e_face_Likeness)) (f1 : FrN h 4 v1 g_face_Person a1) (H : Keep_FaceSuggests a0 a1 a2 = some r) : Does Try.prog 3 (List.toArray [v0, v1, .int .i64 a2]) w (fun v w' => v = (.bool r) ∧ Grow w w') := by
 refine enter (n := 120) Try.func3 rfl rfl rfl noS [] (Sat.nil _ _) ?_
 refine c_poolNew noH ?_
 refine c_seq ?_
 refine c_region ?_
 refine l_val rfl rfl rfl (r_assign (v := .bool false) rfl) ?_
 refine l_nil ?_
 refine c_seq ?_
 refine c_seq ?_
 refine c_region ?_
 obtain ⟨t15, h_t15, H46⟩ := bnd_some H; clear H
 refine l_call (k4 h_t15) Try.call4 rfl rfl rfl ?_
 refine l_val rfl rfl rfl (r_not rfl) ?_
 refine l_nil ?_
 refine c_if (b := (!t15)) rfl (fun hb => ?_) (fun hb => ?_)
 ·have H47 := cnd_t hb H46; clear H46
  refine c_seq ?_
  refine c_region ?_
  refine l_val rfl rfl rfl (r_assign (v := .bool false) rfl) ?_
  refine l_nil ?_
  refine c_ret ?_
  obtain rfl := Option.some.inj H47
  refine ret1 (v := .bool false) rfl rfl (fin rfl)
 ·have H48 := cnd_f hb H46; clear H46
  refine c_skip ?_
  refine c_seq ?_
  refine c_region ?_
  refine l_val rfl rfl rfl (r_move (v := v0) rfl) ?_
  refine l_val rfl rfl rfl (r_move (v := v1) rfl) ?_
  refine l_val rfl rfl rfl (r_move (v := .int .i64 a2) rfl) ?_
  obtain ⟨t21, h_t21, H49⟩ := bnd_some H48; clear H48
  refine l_make (makes_call (rds := []) (G := fun x : (Option Addr × Nat) => .tuple #[.slice x.1 t21.1.length x.2, .int .i64 t21.2]) (C := fun x : (Option Addr × Nat) => roV 2 (.slice x.1 t21.1.length x.2) t21.1.length (t21.1.map e_face_Match)) (fun w L' hF hS hi => k5 (know_all w) (f0.mono (hw.now hF)) (f1.mono (hw.now hF)) h_t21) Try.call5 rfl) rfl rfl rfl (fun p => ?_)
  refine l_val rfl rfl rfl (r_move (v := .tuple #[.slice p.1 t21.1.length p.2, .int .i64 t21.2]) rfl) ?_
  refine l_val rfl rfl rfl (r_extract (v := .slice p.1 t21.1.length p.2) rfl rfl) ?_
  refine l_val rfl rfl rfl (r_extract (v := .int .i64 t21.2) rfl rfl) ?_
  refine l_val rfl rfl rfl (r_assign (v := .slice p.1 t21.1.length p.2) rfl) ?_
  refine l_val rfl rfl rfl (r_assign (v := .int .i64 t21.2) rfl) ?_
  refine l_nil ?_
  refine c_seq ?_
  refine c_seq ?_
  refine c_region ?_
  refine l_val rfl rfl rfl (r_move (v := .int .i64 t21.2) rfl) ?_
  refine l_val rfl rfl rfl (r_neq rfl rfl) ?_
  refine l_nil ?_
  refine c_if (b := (decide (t21.2 ≠ 0))) rfl (fun hb => ?_) (fun hb => ?_)
  ·have H50 := cnd_t hb H49; clear H49
   refine c_seq ?_
   refine c_region ?_
   refine l_val rfl rfl rfl (r_assign (v := .bool true) rfl) ?_
   refine l_nil ?_
   refine c_ret ?_
   obtain rfl := Option.some.inj H50
   refine ret1 (v := .bool true) rfl rfl (fin rfl)
  ·have H51 := cnd_f hb H49; clear H49
   refine c_skip ?_
   refine c_meet (r := r) (σ := Unit) (τ := Heap) (fun s => Keep_FaceSuggests_j1 t21) (fun s t => [(7, .slice p.1 t21.1.length p.2)]) (fun s t => [poolC noH t, roV 2 (.slice p.1 t21.1.length p.2) t21.1.length (t21.1.map e_face_Match)]) (fun s t => True) ?_ ?_
   ·refine c_seq ?_
    refine c_region ?_
    refine l_val rfl rfl rfl (r_move (v := .slice p.1 t21.1.length p.2) rfl) ?_
    refine l_val rfl rfl rfl (r_len Try.underlying25 rfl) ?_
    refine l_val rfl rfl rfl (r_move (v := .int .i64 0) rfl) ?_
    refine l_nil ?_
    refine c_block ?_
    refine c_fix (σ := Int) (τ := Heap) (fun next2 s => Keep_FaceSuggests_l2 a0 a1 a2 t21 next2 s) (fun s t => [(0, v0), (1, v1), (2, .int .i64 a2), (7, .slice p.1 t21.1.length p.2), (26, .slice p.1 t21.1.length p.2), (27, .int .i64 (t21.1.length : Int)), (28, .int .i64 s)]) (fun s t => [poolC noH t, roV 2 (.slice p.1 t21.1.length p.2) t21.1.length (t21.1.map e_face_Match)]) (fun s t => True) 0 noH [0, 1] H51 (by exact trivial) (by exact ⟨rfl, rfl, rfl, rfl, rfl, rfl, rfl, trivial⟩) (by decide) rfl ?_
    rintro x28_2 hp_2 m2 gg H53 _
    clear H51
    replace H53 : Keep_FaceSuggests_l2 a0 a1 a2 t21 (it (fun next2 s => Keep_FaceSuggests_l2 a0 a1 a2 t21 next2 s) m2) x28_2 = some r := H53
    generalize hn2 : it (fun next2 s => Keep_FaceSuggests_l2 a0 a1 a2 t21 next2 s) m2 = next2 at H53
    refine c_tidyF [(0, v0), (1, v1), (2, .int .i64 a2), (7, .slice p.1 t21.1.length p.2), (26, .slice p.1 t21.1.length p.2), (27, .int .i64 (t21.1.length : Int)), (28, .int .i64 x28_2)] [poolC noH hp_2, roV 2 (.slice p.1 t21.1.length p.2) t21.1.length (t21.1.map e_face_Match)] rfl rfl ?_
    refine c_seq ?_
    refine c_region ?_
    refine l_val rfl rfl rfl (r_lss rfl rfl) ?_
    refine l_nil ?_
    refine c_seq ?_
    refine c_if (b := (decide (x28_2 < (t21.1.length : Int)))) rfl (fun hb => ?_) (fun hb => ?_)
    ·have H54 := cnd_t hb H53; clear H53
     refine c_skip ?_
     refine c_seq ?_
     refine c_block ?_
     refine c_seq ?_
     refine c_region ?_
     refine l_val rfl rfl rfl (r_move (v := .int .i64 x28_2) rfl) ?_
     obtain ⟨t31, h_t31, H55⟩ := bnd_some H54; clear H54
     refine l_read (fun w hF hS => run_indexO Try.underlying25 Try.sizeOf30 rfl rfl (roOf (i := 1) hS rfl) rfl h_t31) rfl rfl rfl ?_
     refine l_read (fun w hF hS => run_loadGN (f := e_face_Match) (i := x28_2) (sz := 2) (j := 0) (vs := [.int .i64 t31.Person, .int .i64 t31.Far]) Try.isAgg30 Try.sizeOf30 rfl rfl (roOf (i := 1) hS rfl) h_t31 rfl) rfl rfl rfl ?_
     refine l_alloc (cs := [.int .i64 0, .int .i64 0]) Try.zeroValue30 rfl rfl rfl (fun b1 => ?_)
     refine l_val rfl rfl rfl (r_assign (v := .int .i64 x28_2) rfl) ?_
     refine l_store (i := 2) (vs := [.int .i64 t31.Person, .int .i64 t31.Far]) (cs' := [.int .i64 t31.Person, .int .i64 t31.Far]) Try.sizeOf30 rfl rfl rfl rfl rfl rfl rfl rfl rfl ?_
     refine l_nil ?_
     refine c_meet (r := r) (σ := Unit) (τ := Unit) (fun s => Keep_FaceSuggests_j3 a0 a1 a2 x28_2 next2 t31) (fun s t => [(0, v0), (1, v1), (2, .int .i64 a2), (7, .slice p.1 t21.1.length p.2), (10, .pointer (some ⟨b1, 0, none⟩)), (26, .slice p.1 t21.1.length p.2), (27, .int .i64 (t21.1.length : Int)), (28, .int .i64 x28_2)]) (fun s t => [poolC noH hp_2, roV 2 (.slice p.1 t21.1.length p.2) t21.1.length (t21.1.map e_face_Match), cellsC b1 [.int .i64 t31.Person, .int .i64 t31.Far] 30]) (fun s t => True) ?_ ?_
     ·refine c_seq ?_
      exact c_regionD (Kd.p :: Kd.p :: Kd.p :: Kd.p :: Kd.p :: Kd.p :: Kd.d [1] _ :: Kd.d [1] _ :: Kd.d [1] _ :: Kd.p :: Kd.d [2] _ :: Kd.p :: Kd.p :: Kd.p :: Kd.p :: Kd.p :: Kd.d [1] _ :: Kd.d [1] _ :: Kd.d [1] _ :: Kd.p :: Kd.d [2] _ :: Kd.p :: Kd.p :: Kd.p :: Kd.p :: Kd.p :: Kd.d [1] _ :: Kd.d [1] _ :: Kd.d [1] _ :: Kd.p :: Kd.d [2] _ :: Kd.p :: Kd.p :: Kd.p :: Kd.p :: []) 0 mixed (by
       refine d_val rfl rfl (r_move (v := .int .i64 x28_2) rfl) ?_
       refine d_val rfl rfl (r_gtr rfl rfl) ?_
       refine d_val rfl rfl (r_move (v := .bool (decide (0 < x28_2))) rfl) ?_
       refine splitS (fun hb => ?_) (fun hb => ?_)
       ·have H76 := cnd_t hb H55
        refine d_val rfl rfl (r_move (v := .slice p.1 t21.1.length p.2) rfl) ?_
        refine d_val rfl rfl (r_move (v := .int .i64 x28_2) rfl) ?_
        have h_t38 := bnd_val H76
        have H77 := bnd_rest H76
        refine d_val rfl rfl (r_subG rfl rfl h_t38) ?_
        have h_t39 := bnd_val H77
        have H78 := bnd_rest H77
        refine d_readD (fun w L' hF hS hi => run_indexO Try.underlying25 Try.sizeOf30 rfl rfl (roOf (i := 1) hS ((hi 1 (by simp)).trans rfl)) rfl h_t39) rfl rfl ?_
        refine d_readE rfl rfl (fun w L' hF hS hi => run_fieldG Try.runUnderlying30 rfl Try.sizeOf3 rfl rfl (roOf (i := 1) hS ((hi 1 (by simp)).trans rfl)) h_t39) ?_
        refine d_readD (fun w L' hF hS hi => run_loadG1 (f := e_face_Match) (i := (val (gI (x28_2 - 1)))) (sz := 2) (j := 1) (v := .int .i64 (val (gAt t21.1 (val (gI (x28_2 - 1))))).Far) Try.isAgg3 rfl rfl (roOf (i := 1) hS ((hi 1 (by simp)).trans rfl)) h_t39 rfl) rfl rfl ?_
        refine d_val rfl rfl (r_field Try.runUnderlying30 rfl Try.sizeOf3 rfl rfl) ?_
        refine d_load1 (i := 2) (v := .int .i64 t31.Far) Try.isAgg3 rfl rfl rfl rfl ?_
        refine d_val rfl rfl (r_gtr rfl rfl) ?_
        refine d_val rfl rfl (r_move (v := .bool (decide (t31.Far < (val (gAt t21.1 (val (gI (x28_2 - 1))))).Far))) rfl) ?_
        refine splitS (fun hb => ?_) (fun hb => ?_)
        ·have H79 := cnd_t hb H78
         refine d_pass rfl rfl ?_
         refine d_pass rfl rfl ?_
         refine d_pass rfl rfl ?_
         refine d_pass rfl rfl ?_
         refine d_pass rfl rfl ?_
         refine d_pass rfl rfl ?_
         refine d_pass rfl rfl ?_
         refine d_pass rfl rfl ?_
         refine d_pass rfl rfl ?_
         refine d_pass rfl rfl ?_
         refine d_pass rfl rfl ?_
         refine d_pass rfl rfl ?_
         refine d_pass rfl rfl ?_
         refine d_pass rfl rfl ?_
         refine d_pass rfl rfl ?_
         refine d_pass rfl rfl ?_
         refine d_pass rfl rfl ?_
         refine d_pass rfl rfl ?_
         refine d_pass rfl rfl ?_
         refine d_pass rfl rfl ?_
         refine d_val rfl rfl (r_pickT (v := .bool true) rfl rfl) ?_
         refine d_val rfl rfl (r_pickT (v := .bool true) rfl rfl) ?_
         refine d_nil ?_
         refine c_true rfl ?_
         refine c_seq ?_
         refine c_region ?_
         refine l_val rfl rfl rfl (r_assign (v := .bool false) rfl) ?_
         refine l_nil ?_
         refine c_ret ?_
         obtain rfl := Option.some.inj H79
         refine ret1 (v := .bool false) rfl rfl (fin rfl)
        ·have H80 := cnd_f hb H78
         refine d_val rfl rfl (r_move (v := .slice p.1 t21.1.length p.2) rfl) ?_
         refine d_val rfl rfl (r_move (v := .int .i64 x28_2) rfl) ?_
         have h_t48 := bnd_val H80
         have H81 := bnd_rest H80
         refine d_val rfl rfl (r_subG rfl rfl h_t48) ?_
         have h_t49 := bnd_val H81
         have H82 := bnd_rest H81
         refine d_readD (fun w L' hF hS hi => run_indexO Try.underlying25 Try.sizeOf30 rfl rfl (roOf (i := 1) hS ((hi 1 (by simp)).trans rfl)) rfl h_t49) rfl rfl ?_
         refine d_readE rfl rfl (fun w L' hF hS hi => run_fieldG Try.runUnderlying30 rfl Try.sizeOf3 rfl rfl (roOf (i := 1) hS ((hi 1 (by simp)).trans rfl)) h_t49) ?_
         refine d_readD (fun w L' hF hS hi => run_loadG1 (f := e_face_Match) (i := (val (gI (x28_2 - 1)))) (sz := 2) (j := 1) (v := .int .i64 (val (gAt t21.1 (val (gI (x28_2 - 1))))).Far) Try.isAgg3 rfl rfl (roOf (i := 1) hS ((hi 1 (by simp)).trans rfl)) h_t49 rfl) rfl rfl ?_
         refine d_val rfl rfl (r_field Try.runUnderlying30 rfl Try.sizeOf3 rfl rfl) ?_
         refine d_load1 (i := 2) (v := .int .i64 t31.Far) Try.isAgg3 rfl rfl rfl rfl ?_
         refine d_val rfl rfl (r_eql rfl rfl) ?_
         refine d_val rfl rfl (r_move (v := .bool (decide ((val (gAt t21.1 (val (gI (x28_2 - 1))))).Far = t31.Far))) rfl) ?_
         refine splitS (fun hb => ?_) (fun hb => ?_)
         ·have H83 := cnd_t hb H82
          refine d_val rfl rfl (r_move (v := .slice p.1 t21.1.length p.2) rfl) ?_
          refine d_val rfl rfl (r_move (v := .int .i64 x28_2) rfl) ?_
          have h_t58 := bnd_val H83
          have H84 := bnd_rest H83
          refine d_val rfl rfl (r_subG rfl rfl h_t58) ?_
          have h_t59 := bnd_val H84
          have H85 := bnd_rest H84
          refine d_readD (fun w L' hF hS hi => run_indexO Try.underlying25 Try.sizeOf30 rfl rfl (roOf (i := 1) hS ((hi 1 (by simp)).trans rfl)) rfl h_t59) rfl rfl ?_
          refine d_readE rfl rfl (fun w L' hF hS hi => run_fieldG Try.runUnderlying30 rfl Try.sizeOf3 rfl rfl (roOf (i := 1) hS ((hi 1 (by simp)).trans rfl)) h_t59) ?_
          refine d_readD (fun w L' hF hS hi => run_loadG1 (f := e_face_Match) (i := (val (gI (x28_2 - 1)))) (sz := 2) (j := 0) (v := .int .i64 (val (gAt t21.1 (val (gI (x28_2 - 1))))).Person) Try.isAgg3 rfl rfl (roOf (i := 1) hS ((hi 1 (by simp)).trans rfl)) h_t59 rfl) rfl rfl ?_
          refine d_val rfl rfl (r_field Try.runUnderlying30 rfl Try.sizeOf3 rfl rfl) ?_
          refine d_load1 (i := 2) (v := .int .i64 t31.Person) Try.isAgg3 rfl rfl rfl rfl ?_
          refine d_val rfl rfl (r_geq rfl rfl) ?_
          refine d_val rfl rfl (r_pickT (v := .bool (decide (t31.Person ≤ (val (gAt t21.1 (val (gI (x28_2 - 1))))).Person))) rfl rfl) ?_
          refine d_val rfl rfl (r_pickF (v := .bool (decide (t31.Person ≤ (val (gAt t21.1 (val (gI (x28_2 - 1))))).Person))) rfl rfl) ?_
          refine d_val rfl rfl (r_pickT (v := .bool (decide (t31.Person ≤ (val (gAt t21.1 (val (gI (x28_2 - 1))))).Person))) rfl rfl) ?_
          refine d_nil ?_
          refine c_if (b := (decide (t31.Person ≤ (val (gAt t21.1 (val (gI (x28_2 - 1))))).Person))) rfl (fun hb => ?_) (fun hb => ?_)
          ·have H86 := cnd_t hb H85; clear H85
           refine c_seq ?_
           refine c_region ?_
           refine l_val rfl rfl rfl (r_assign (v := .bool false) rfl) ?_
           refine l_nil ?_
           refine c_ret ?_
           obtain rfl := Option.some.inj H86
           refine ret1 (v := .bool false) rfl rfl (fin rfl)
          ·have H87 := cnd_f hb H85; clear H85
           refine c_skip ?_
           refine c_close () () 0 [0, 1, 2] (by exact ⟨rfl, rfl, rfl, rfl, rfl, rfl, rfl, rfl, trivial⟩) (by decide) rfl (by exact ⟨H87, trivial⟩) (Nat.lt_succ_self _)
         ·have H88 := cnd_f hb H82
          refine d_pass rfl rfl ?_
          refine d_pass rfl rfl ?_
          refine d_pass rfl rfl ?_
          refine d_pass rfl rfl ?_
          refine d_pass rfl rfl ?_
          refine d_pass rfl rfl ?_
          refine d_pass rfl rfl ?_
          refine d_pass rfl rfl ?_
          refine d_pass rfl rfl ?_
          refine d_val rfl rfl (r_pickF (v := .bool false) rfl rfl) ?_
          refine d_val rfl rfl (r_pickF (v := .bool false) rfl rfl) ?_
          refine d_val rfl rfl (r_pickT (v := .bool false) rfl rfl) ?_
          refine d_nil ?_
          refine c_false rfl ?_
          refine c_skip ?_
          refine c_close () () 0 [0, 1, 2] (by exact ⟨rfl, rfl, rfl, rfl, rfl, rfl, rfl, rfl, trivial⟩) (by decide) rfl (by exact ⟨H88, trivial⟩) (Nat.lt_succ_self _)
       ·have H89 := cnd_f hb H55
        refine d_pass rfl rfl ?_
        refine d_pass rfl rfl ?_
        refine d_pass rfl rfl ?_
        refine d_pass rfl rfl ?_
        refine d_pass rfl rfl ?_
        refine d_pass rfl rfl ?_
        refine d_pass rfl rfl ?_
        refine d_pass rfl rfl ?_
        refine d_pass rfl rfl ?_
        refine d_pass rfl rfl ?_
        refine d_pass rfl rfl ?_
        refine d_pass rfl rfl ?_
        refine d_pass rfl rfl ?_
        refine d_pass rfl rfl ?_
        refine d_pass rfl rfl ?_
        refine d_pass rfl rfl ?_
        refine d_pass rfl rfl ?_
        refine d_pass rfl rfl ?_
        refine d_pass rfl rfl ?_
        refine d_pass rfl rfl ?_
        refine d_pass rfl rfl ?_
        refine d_pass rfl rfl ?_
        refine d_pass rfl rfl ?_
        refine d_pass rfl rfl ?_
        refine d_pass rfl rfl ?_
        refine d_pass rfl rfl ?_
        refine d_pass rfl rfl ?_
        refine d_pass rfl rfl ?_
        refine d_pass rfl rfl ?_
        refine d_pass rfl rfl ?_
        refine d_pass rfl rfl ?_
        refine d_val rfl rfl (r_pickF (v := .bool false) rfl rfl) ?_
        refine d_nil ?_
        refine c_false rfl ?_
        refine c_skip ?_
        refine c_close () () 0 [0, 1, 2] (by exact ⟨rfl, rfl, rfl, rfl, rfl, rfl, rfl, rfl, trivial⟩) (by decide) rfl (by exact ⟨H89, trivial⟩) (Nat.lt_succ_self _)
       ) (by kernel_rfl)
     ·rintro _ _ gg H56 _
      replace H56 : Keep_FaceSuggests_j3 a0 a1 a2 x28_2 next2 t31 = some r := H56
      refine c_tidyF [(0, v0), (1, v1), (2, .int .i64 a2), (7, .slice p.1 t21.1.length p.2), (10, .pointer (some ⟨b1, 0, none⟩)), (26, .slice p.1 t21.1.length p.2), (27, .int .i64 (t21.1.length : Int)), (28, .int .i64 x28_2)] [poolC noH hp_2, roV 2 (.slice p.1 t21.1.length p.2) t21.1.length (t21.1.map e_face_Match), cellsC b1 [.int .i64 t31.Person, .int .i64 t31.Far] 30] rfl rfl ?_
      refine c_seq ?_
      refine c_region ?_
      refine l_val rfl rfl rfl (r_move (v := v0) rfl) ?_
      refine l_val rfl rfl rfl (r_move (v := v1) rfl) ?_
      refine l_val rfl rfl rfl (r_field Try.runUnderlying30 rfl Try.sizeOf3 rfl rfl) ?_
      refine l_load1 (i := 2) (v := .int .i64 t31.Person) Try.isAgg3 rfl rfl rfl rfl rfl ?_
      refine l_val rfl rfl rfl (r_move (v := .int .i64 a2) rfl) ?_
      obtain ⟨t74, h_t74, H57⟩ := bnd_some H56; clear H56
      refine l_make (makes_call (rds := []) (G := fun x : (Option Addr × Nat) => .tuple #[.slice x.1 t74.1.length x.2, .int .i64 t74.2]) (C := fun x : (Option Addr × Nat) => rofD 50 4 g_face_Person (.slice x.1 t74.1.length x.2) t74.1.length t74.1) (fun w L' hF hS hi => k6 (know_all w) (f0.mono (hw.now hF)) (f1.mono (hw.now hF)) h_t74) Try.call6 rfl) rfl rfl rfl (fun p_2 => ?_)
      refine c_rofD 3 rfl (fun hp_3 css hn pf => ?_)
      rw [hn]
      refine c_split 3 rfl ?_
      refine c_poolJoin 0 3 rfl rfl (by decide) (fun _ _ => noH_le) (fun hp_4 hle hle_2 => ?_)
      refine l_val rfl rfl rfl (r_move (v := .tuple #[.slice p_2.1 css.length p_2.2, .int .i64 t74.2]) rfl) ?_
      refine l_val rfl rfl rfl (r_extract (v := .slice p_2.1 css.length p_2.2) rfl rfl) ?_
      refine l_val rfl rfl rfl (r_extract (v := .int .i64 t74.2) rfl rfl) ?_
      refine l_val rfl rfl rfl (r_assign (v := .slice p_2.1 css.length p_2.2) rfl) ?_
      refine l_val rfl rfl rfl (r_assign (v := .int .i64 t74.2) rfl) ?_
      refine l_nil ?_
      refine c_sel [0, 1, 2, 3, 4] [poolC noH hp_4, roV 2 (.slice p.1 t21.1.length p.2) t21.1.length (t21.1.map e_face_Match), cellsC b1 [.int .i64 t31.Person, .int .i64 t31.Far] 30, _, rowO 50 4 (.slice p_2.1 css.length p_2.2) css.length (css.map idC)] rfl (by decide) ?_
      refine c_seq ?_
      refine c_seq ?_
      refine c_region ?_
      refine l_val rfl rfl rfl (r_move (v := .int .i64 t74.2) rfl) ?_
      refine l_val rfl rfl rfl (r_neq rfl rfl) ?_
      refine l_val rfl rfl rfl (r_move (v := .bool (decide (t74.2 ≠ 0))) rfl) ?_
      refine split (fun hb => ?_) (fun hb => ?_)
      ·have H58 := cnd_t hb H57; clear H57
       refine l_passed rfl rfl rfl ?_
       refine l_passed rfl rfl rfl ?_
       refine l_passed rfl rfl rfl ?_
       refine l_passed rfl rfl rfl ?_
       refine l_val rfl rfl rfl (r_pickT (v := .bool true) rfl rfl) ?_
       refine l_nil ?_
       refine c_sel [0, 1, 2, 3, 4] [poolC noH hp_4, roV 2 (.slice p.1 t21.1.length p.2) t21.1.length (t21.1.map e_face_Match), cellsC b1 [.int .i64 t31.Person, .int .i64 t31.Far] 30, _, rowO 50 4 (.slice p_2.1 css.length p_2.2) css.length (css.map idC)] rfl (by decide) ?_
       refine c_true rfl ?_
       refine c_seq ?_
       refine c_region ?_
       refine l_val rfl rfl rfl (r_assign (v := .bool false) rfl) ?_
       refine l_nil ?_
       refine c_sel [0, 1, 2, 3, 4] [poolC noH hp_4, roV 2 (.slice p.1 t21.1.length p.2) t21.1.length (t21.1.map e_face_Match), cellsC b1 [.int .i64 t31.Person, .int .i64 t31.Far] 30, _, rowO 50 4 (.slice p_2.1 css.length p_2.2) css.length (css.map idC)] rfl (by decide) ?_
       refine c_ret ?_
       obtain rfl := Option.some.inj H58
       refine ret1 (v := .bool false) rfl rfl (fin rfl)
      ·have H59 := cnd_f hb H57; clear H57
       refine l_val rfl rfl rfl (r_move (v := v0) rfl) ?_
       refine l_val rfl rfl rfl (r_move (v := .slice p_2.1 css.length p_2.2) rfl) ?_
       obtain ⟨t82, h_t82, H60⟩ := bnd_some H59; clear H59
       refine l_callG (fun w hF hS => k7 (know_all w) (f0.mono (hw.now hF)) (frn_of (xs := t74.1) (frs_off (i := 4) rfl hS rfl) ((pf.mono hle_2).mono (pool_now (i := 0) hS rfl noH_le))) h_t82) Try.call7 rfl rfl rfl ?_
       refine l_val rfl rfl rfl (r_neq rfl rfl) ?_
       refine l_val rfl rfl rfl (r_pickF (v := .bool (decide (t82 ≠ 0))) rfl rfl) ?_
       refine l_nil ?_
       refine c_sel [0, 1, 2, 3, 4] [poolC noH hp_4, roV 2 (.slice p.1 t21.1.length p.2) t21.1.length (t21.1.map e_face_Match), cellsC b1 [.int .i64 t31.Person, .int .i64 t31.Far] 30, _, rowO 50 4 (.slice p_2.1 css.length p_2.2) css.length (css.map idC)] rfl (by decide) ?_
       refine c_if (b := (decide (t82 ≠ 0))) rfl (fun hb => ?_) (fun hb => ?_)
       ·have H61 := cnd_t hb H60; clear H60
        refine c_seq ?_
        refine c_region ?_
        refine l_val rfl rfl rfl (r_assign (v := .bool false) rfl) ?_
        refine l_nil ?_
        refine c_sel [0, 1, 2, 3, 4] [poolC noH hp_4, roV 2 (.slice p.1 t21.1.length p.2) t21.1.length (t21.1.map e_face_Match), cellsC b1 [.int .i64 t31.Person, .int .i64 t31.Far] 30, _, rowO 50 4 (.slice p_2.1 css.length p_2.2) css.length (css.map idC)] rfl (by decide) ?_
        refine c_ret ?_
        obtain rfl := Option.some.inj H61
        refine ret1 (v := .bool false) rfl rfl (fin rfl)
       ·have H62 := cnd_f hb H60; clear H60
        refine c_skip ?_
        refine c_seq ?_
        refine c_region ?_
        refine l_val rfl rfl rfl (r_move (v := v0) rfl) ?_
        refine l_val rfl rfl rfl (r_move (v := .slice p_2.1 css.length p_2.2) rfl) ?_
        refine l_val rfl rfl rfl (r_field Try.runUnderlying30 rfl Try.sizeOf3 rfl rfl) ?_
        refine l_load1 (i := 2) (v := .int .i64 t31.Person) Try.isAgg3 rfl rfl rfl rfl rfl ?_
        refine l_val rfl rfl rfl (r_move (v := .int .i64 a2) rfl) ?_
        obtain ⟨t91, h_t91, H63⟩ := bnd_some H62; clear H62
        refine l_make (makes_call (rds := [0, 4]) (G := fun x : (Option Addr × Nat) => .tuple #[.slice x.1 t91.1.length x.2, .int .i64 t91.2]) (C := fun x : (Option Addr × Nat) => rofD 50 4 g_face_Person (.slice x.1 t91.1.length x.2) t91.1.length t91.1) (fun w L' hF hS hi => k8 (know_all w) (f0.mono (hw.now hF)) (frn_of (xs := t74.1) (frs_off (i := 4) rfl hS ((hi 4 (by simp)).trans rfl)) ((pf.mono hle_2).mono (pool_now (i := 0) hS ((hi 0 (by simp)).trans rfl) noH_le))) h_t91) Try.call8 rfl) rfl rfl rfl (fun p_3 => ?_)
        refine c_rofD 5 rfl (fun hp_5 css_2 hn_2 pf_2 => ?_)
        rw [hn_2]
        refine c_split 5 rfl ?_
        refine c_poolJoin 0 5 rfl rfl (by decide) (fun _ _ => noH_le) (fun hp_6 hle_3 hle_4 => ?_)
        refine l_val rfl rfl rfl (r_move (v := .tuple #[.slice p_3.1 css_2.length p_3.2, .int .i64 t91.2]) rfl) ?_
        refine l_val rfl rfl rfl (r_extract (v := .slice p_3.1 css_2.length p_3.2) rfl rfl) ?_
        refine l_val rfl rfl rfl (r_extract (v := .int .i64 t91.2) rfl rfl) ?_
        refine l_val rfl rfl rfl (r_assign (v := .slice p_3.1 css_2.length p_3.2) rfl) ?_
        refine l_val rfl rfl rfl (r_assign (v := .int .i64 t91.2) rfl) ?_
        refine l_nil ?_
        refine c_sel [0, 1, 2, 3, 4, 5, 6] [poolC noH hp_6, roV 2 (.slice p.1 t21.1.length p.2) t21.1.length (t21.1.map e_face_Match), cellsC b1 [.int .i64 t31.Person, .int .i64 t31.Far] 30, _, rowO 50 4 (.slice p_2.1 css.length p_2.2) css.length (css.map idC), _, rowO 50 4 (.slice p_3.1 css_2.length p_3.2) css_2.length (css_2.map idC)] rfl (by decide) ?_
        refine c_seq ?_
        refine c_seq ?_
        refine c_region ?_
        refine l_val rfl rfl rfl (r_move (v := .int .i64 t91.2) rfl) ?_
        refine l_val rfl rfl rfl (r_neq rfl rfl) ?_
        refine l_val rfl rfl rfl (r_move (v := .bool (decide (t91.2 ≠ 0))) rfl) ?_
        refine split (fun hb => ?_) (fun hb => ?_)
        ·have H64 := cnd_t hb H63; clear H63
         refine l_passed rfl rfl rfl ?_
         refine l_passed rfl rfl rfl ?_
         refine l_passed rfl rfl rfl ?_
         refine l_passed rfl rfl rfl ?_
         refine l_val rfl rfl rfl (r_pickT (v := .bool true) rfl rfl) ?_
         refine l_nil ?_
         refine c_sel [0, 1, 2, 3, 4, 5, 6] [poolC noH hp_6, roV 2 (.slice p.1 t21.1.length p.2) t21.1.length (t21.1.map e_face_Match), cellsC b1 [.int .i64 t31.Person, .int .i64 t31.Far] 30, _, rowO 50 4 (.slice p_2.1 css.length p_2.2) css.length (css.map idC), _, rowO 50 4 (.slice p_3.1 css_2.length p_3.2) css_2.length (css_2.map idC)] rfl (by decide) ?_
         refine c_true rfl ?_
         refine c_seq ?_
         refine c_region ?_
         refine l_val rfl rfl rfl (r_assign (v := .bool false) rfl) ?_
         refine l_nil ?_
         refine c_sel [0, 1, 2, 3, 4, 5, 6] [poolC noH hp_6, roV 2 (.slice p.1 t21.1.length p.2) t21.1.length (t21.1.map e_face_Match), cellsC b1 [.int .i64 t31.Person, .int .i64 t31.Far] 30, _, rowO 50 4 (.slice p_2.1 css.length p_2.2) css.length (css.map idC), _, rowO 50 4 (.slice p_3.1 css_2.length p_3.2) css_2.length (css_2.map idC)] rfl (by decide) ?_
         refine c_ret ?_
         obtain rfl := Option.some.inj H64
         refine ret1 (v := .bool false) rfl rfl (fin rfl)
        ·have H65 := cnd_f hb H63; clear H63
         refine l_val rfl rfl rfl (r_move (v := v0) rfl) ?_
         refine l_val rfl rfl rfl (r_move (v := .slice p_3.1 css_2.length p_3.2) rfl) ?_
         obtain ⟨t99, h_t99, H66⟩ := bnd_some H65; clear H65
         refine l_callG (fun w hF hS => k7 (know_all w) (f0.mono (hw.now hF)) (frn_of (xs := t91.1) (frs_off (i := 6) rfl hS rfl) ((pf_2.mono hle_4).mono (pool_now (i := 0) hS rfl noH_le))) h_t99) Try.call7 rfl rfl rfl ?_
         refine l_val rfl rfl rfl (r_neq rfl rfl) ?_
         refine l_val rfl rfl rfl (r_pickF (v := .bool (decide (t99 ≠ 0))) rfl rfl) ?_
         refine l_nil ?_
         refine c_sel [0, 1, 2, 3, 4, 5, 6] [poolC noH hp_6, roV 2 (.slice p.1 t21.1.length p.2) t21.1.length (t21.1.map e_face_Match), cellsC b1 [.int .i64 t31.Person, .int .i64 t31.Far] 30, _, rowO 50 4 (.slice p_2.1 css.length p_2.2) css.length (css.map idC), _, rowO 50 4 (.slice p_3.1 css_2.length p_3.2) css_2.length (css_2.map idC)] rfl (by decide) ?_
         refine c_if (b := (decide (t99 ≠ 0))) rfl (fun hb => ?_) (fun hb => ?_)
         ·have H67 := cnd_t hb H66; clear H66
          refine c_seq ?_
          refine c_region ?_
          refine l_val rfl rfl rfl (r_assign (v := .bool false) rfl) ?_
          refine l_nil ?_
          refine c_sel [0, 1, 2, 3, 4, 5, 6] [poolC noH hp_6, roV 2 (.slice p.1 t21.1.length p.2) t21.1.length (t21.1.map e_face_Match), cellsC b1 [.int .i64 t31.Person, .int .i64 t31.Far] 30, _, rowO 50 4 (.slice p_2.1 css.length p_2.2) css.length (css.map idC), _, rowO 50 4 (.slice p_3.1 css_2.length p_3.2) css_2.length (css_2.map idC)] rfl (by decide) ?_
          refine c_ret ?_
          obtain rfl := Option.some.inj H67
          refine ret1 (v := .bool false) rfl rfl (fin rfl)
         ·have H68 := cnd_f hb H66; clear H66
          refine c_skip ?_
          refine c_seq ?_
          refine c_region ?_
          refine l_val rfl rfl rfl (r_move (v := v0) rfl) ?_
          refine l_val rfl rfl rfl (r_move (v := .slice p_3.1 css_2.length p_3.2) rfl) ?_
          refine l_val rfl rfl rfl (r_move (v := .int .i64 a2) rfl) ?_
          obtain ⟨t106, h_t106, H69⟩ := bnd_some H68; clear H68
          refine l_make (makes_call (rds := [0, 6]) (G := fun x : (Option Addr × Nat) => .tuple #[.slice x.1 t106.1.length x.2, .int .i64 t106.2]) (C := fun x : (Option Addr × Nat) => roV 2 (.slice x.1 t106.1.length x.2) t106.1.length (t106.1.map e_face_Match)) (fun w L' hF hS hi => k5 (know_all w) (f0.mono (hw.now hF)) (frn_of (xs := t91.1) (frs_off (i := 6) rfl hS ((hi 6 (by simp)).trans rfl)) ((pf_2.mono hle_4).mono (pool_now (i := 0) hS ((hi 0 (by simp)).trans rfl) noH_le))) h_t106) Try.call5 rfl) rfl rfl rfl (fun p_4 => ?_)
          refine l_val rfl rfl rfl (r_move (v := .tuple #[.slice p_4.1 t106.1.length p_4.2, .int .i64 t106.2]) rfl) ?_
          refine l_val rfl rfl rfl (r_extract (v := .slice p_4.1 t106.1.length p_4.2) rfl rfl) ?_
          refine l_val rfl rfl rfl (r_extract (v := .int .i64 t106.2) rfl rfl) ?_
          refine l_val rfl rfl rfl (r_assign (v := .slice p_4.1 t106.1.length p_4.2) rfl) ?_
          refine l_val rfl rfl rfl (r_assign (v := .int .i64 t106.2) rfl) ?_
          refine l_nil ?_
          refine c_sel [0, 1, 2, 3, 4, 5, 6, 7] [poolC noH hp_6, roV 2 (.slice p.1 t21.1.length p.2) t21.1.length (t21.1.map e_face_Match), cellsC b1 [.int .i64 t31.Person, .int .i64 t31.Far] 30, _, rowO 50 4 (.slice p_2.1 css.length p_2.2) css.length (css.map idC), _, rowO 50 4 (.slice p_3.1 css_2.length p_3.2) css_2.length (css_2.map idC), roV 2 (.slice p_4.1 t106.1.length p_4.2) t106.1.length (t106.1.map e_face_Match)] rfl (by decide) ?_
          refine c_seq ?_
          refine c_region ?_
          refine l_val rfl rfl rfl (r_move (v := .int .i64 t106.2) rfl) ?_
          refine l_val rfl rfl rfl (r_neq rfl rfl) ?_
          refine l_val rfl rfl rfl (r_move (v := .bool (decide (t106.2 ≠ 0))) rfl) ?_
          refine split (fun hb => ?_) (fun hb => ?_)
          ·have H70 := cnd_t hb H69; clear H69
           refine l_passed rfl rfl rfl ?_
           refine l_passed rfl rfl rfl ?_
           refine l_passed rfl rfl rfl ?_
           refine l_val rfl rfl rfl (r_pickT (v := .bool true) rfl rfl) ?_
           refine l_nil ?_
           refine c_sel [0, 1, 2, 3, 4, 5, 6, 7] [poolC noH hp_6, roV 2 (.slice p.1 t21.1.length p.2) t21.1.length (t21.1.map e_face_Match), cellsC b1 [.int .i64 t31.Person, .int .i64 t31.Far] 30, _, rowO 50 4 (.slice p_2.1 css.length p_2.2) css.length (css.map idC), _, rowO 50 4 (.slice p_3.1 css_2.length p_3.2) css_2.length (css_2.map idC), roV 2 (.slice p_4.1 t106.1.length p_4.2) t106.1.length (t106.1.map e_face_Match)] rfl (by decide) ?_
           refine c_true rfl ?_
           refine c_seq ?_
           refine c_region ?_
           refine l_val rfl rfl rfl (r_assign (v := .bool false) rfl) ?_
           refine l_nil ?_
           refine c_sel [0, 1, 2, 3, 4, 5, 6, 7] [poolC noH hp_6, roV 2 (.slice p.1 t21.1.length p.2) t21.1.length (t21.1.map e_face_Match), cellsC b1 [.int .i64 t31.Person, .int .i64 t31.Far] 30, _, rowO 50 4 (.slice p_2.1 css.length p_2.2) css.length (css.map idC), _, rowO 50 4 (.slice p_3.1 css_2.length p_3.2) css_2.length (css_2.map idC), roV 2 (.slice p_4.1 t106.1.length p_4.2) t106.1.length (t106.1.map e_face_Match)] rfl (by decide) ?_
           refine c_ret ?_
           obtain rfl := Option.some.inj H70
           refine ret1 (v := .bool false) rfl rfl (fin rfl)
          ·have H71 := cnd_f hb H69; clear H69
           refine l_val rfl rfl rfl (r_move (v := .slice p_4.1 t106.1.length p_4.2) rfl) ?_
           refine l_val rfl rfl rfl (r_makeFn (caps := #[.pointer (some ⟨b1, 0, none⟩)]) rfl) ?_
           obtain ⟨t114, h_t114, H72⟩ := bnd_some H71; clear H71
           refine l_callG (fun w hF hS => k9 (know_all w) (frs_rd (i := 7) hS rfl) (FnH.mk ⟨10, #[], #[.pointer (some ⟨b1, 0, none⟩)], rfl, Try.call10, fun args2 post2 w2 hk2 hR2 => by obtain ⟨a0_, r_, rfl, H_, rfl⟩ := hR2; exact k10 (know_all w2) (hk2.up _ _ (sat_cell (i := 2) hS rfl)) H_⟩) h_t114) Try.call9 rfl rfl rfl ?_
           refine l_val rfl rfl rfl (r_pickF (v := .bool t114) rfl rfl) ?_
           refine l_nil ?_
           refine c_sel [0, 1, 2, 3, 4, 5, 6, 7] [poolC noH hp_6, roV 2 (.slice p.1 t21.1.length p.2) t21.1.length (t21.1.map e_face_Match), cellsC b1 [.int .i64 t31.Person, .int .i64 t31.Far] 30, _, rowO 50 4 (.slice p_2.1 css.length p_2.2) css.length (css.map idC), _, rowO 50 4 (.slice p_3.1 css_2.length p_3.2) css_2.length (css_2.map idC), roV 2 (.slice p_4.1 t106.1.length p_4.2) t106.1.length (t106.1.map e_face_Match)] rfl (by decide) ?_
           refine c_if (b := t114) rfl (fun hb => ?_) (fun hb => ?_)
           ·have H73 := cnd_t hb H72; clear H72
            refine c_seq ?_
            refine c_region ?_
            refine l_val rfl rfl rfl (r_assign (v := .bool false) rfl) ?_
            refine l_nil ?_
            refine c_sel [0, 1, 2, 3, 4, 5, 6, 7] [poolC noH hp_6, roV 2 (.slice p.1 t21.1.length p.2) t21.1.length (t21.1.map e_face_Match), cellsC b1 [.int .i64 t31.Person, .int .i64 t31.Far] 30, _, rowO 50 4 (.slice p_2.1 css.length p_2.2) css.length (css.map idC), _, rowO 50 4 (.slice p_3.1 css_2.length p_3.2) css_2.length (css_2.map idC), roV 2 (.slice p_4.1 t106.1.length p_4.2) t106.1.length (t106.1.map e_face_Match)] rfl (by decide) ?_
            refine c_ret ?_
            obtain rfl := Option.some.inj H73
            refine ret1 (v := .bool false) rfl rfl (fin rfl)
           ·have H74 := cnd_f hb H72; clear H72
            refine c_skip ?_
            refine c_region ?_
            obtain ⟨t116, h_t116, H75⟩ := bnd_some H74; clear H74
            refine l_val rfl rfl rfl (r_addG rfl rfl h_t116) ?_
            refine l_val rfl rfl rfl (r_move (v := .int .i64 t116) rfl) ?_
            refine l_nil ?_
            refine c_sel [0, 1, 2, 3, 4, 5, 6, 7] [poolC noH hp_6, roV 2 (.slice p.1 t21.1.length p.2) t21.1.length (t21.1.map e_face_Match), cellsC b1 [.int .i64 t31.Person, .int .i64 t31.Far] 30, _, rowO 50 4 (.slice p_2.1 css.length p_2.2) css.length (css.map idC), _, rowO 50 4 (.slice p_3.1 css_2.length p_3.2) css_2.length (css_2.map idC), roV 2 (.slice p_4.1 t106.1.length p_4.2) t106.1.length (t106.1.map e_face_Match)] rfl (by decide) ?_
            refine c_close t116 hp_6 m2 [0, 1] (by exact ⟨rfl, rfl, rfl, rfl, rfl, rfl, rfl, trivial⟩) (by decide) rfl (by exact ⟨(by subst hn2; exact H75), trivial⟩) (Nat.lt_succ_self _)
    ·have H90 := cnd_f hb H53; clear H53
     refine c_exit ?_
     refine c_close () hp_2 0 [0, 1] (by exact ⟨rfl, trivial⟩) (by decide) rfl (by exact ⟨H90, trivial⟩) (Nat.lt_succ_self _)
   ·rintro _ hp gg H52 _
    replace H52 : Keep_FaceSuggests_j1 t21 = some r := H52
    refine c_tidyF [(7, .slice p.1 t21.1.length p.2)] [poolC noH hp, roV 2 (.slice p.1 t21.1.length p.2) t21.1.length (t21.1.map e_face_Match)] rfl rfl ?_
    refine c_seq ?_
    refine c_region ?_
    refine l_val rfl rfl rfl (r_move (v := .slice p.1 t21.1.length p.2) rfl) ?_
    refine l_val rfl rfl rfl (r_len Try.underlying25 rfl) ?_
    refine l_val rfl rfl rfl (r_leq rfl rfl) ?_
    refine l_val rfl rfl rfl (r_assign (v := .bool (decide ((t21.1.length : Int) ≤ 5))) rfl) ?_
    refine l_nil ?_
    refine c_ret ?_
    obtain rfl := Option.some.inj H52
    refine ret1 (v := .bool (decide ((t21.1.length : Int) ≤ 5))) rfl rfl (fin rfl)
end Go.Proofs.Ytdledeeihcilbaa
