/- FaceSplits, Sort: the walks, printed by our generator; each follows its model. Conditions: the model yields a value. -/
import Derived.Test.YthhaabhnlndnoaaGreatKCa
namespace Go.Proofs.YthhaabhnlndnoaaGreat
open Go Go.Vc Go.Md Go.M Go.Lx
set_option maxRecDepth 100000
set_option maxHeartbeats 4000000
set_option linter.unusedVariables false

theorem k71 {a0 : (Nat → Int)} {a1 : (Nat → Int)} {r : Int} (H : face_far a0 a1 = some r) : Ret Tryz.prog 71 [.agg #[.int .i64 (a0 0), .int .i64 (a0 1), .int .i64 (a0 2), .int .i64 (a0 3), .int .i64 (a0 4), .int .i64 (a0 5), .int .i64 (a0 6), .int .i64 (a0 7), .int .i64 (a0 8), .int .i64 (a0 9), .int .i64 (a0 10), .int .i64 (a0 11)], .agg #[.int .i64 (a1 0), .int .i64 (a1 1), .int .i64 (a1 2), .int .i64 (a1 3), .int .i64 (a1 4), .int .i64 (a1 5), .int .i64 (a1 6), .int .i64 (a1 7), .int .i64 (a1 8), .int .i64 (a1 9), .int .i64 (a1 10), .int .i64 (a1 11)]] (.int .i64 r) := by
 refine enterRet (n := 28) Tryz.func71 rfl rfl rfl (fun wd => ?_)
 refine c_seq ?_
 refine c_region ?_
 refine l_box (cs := [.int .i64 (a0 0), .int .i64 (a0 1), .int .i64 (a0 2), .int .i64 (a0 3), .int .i64 (a0 4), .int .i64 (a0 5), .int .i64 (a0 6), .int .i64 (a0 7), .int .i64 (a0 8), .int .i64 (a0 9), .int .i64 (a0 10), .int .i64 (a0 11)]) rfl rfl rfl rfl (fun b2 => ?_)
 refine l_box (cs := [.int .i64 (a1 0), .int .i64 (a1 1), .int .i64 (a1 2), .int .i64 (a1 3), .int .i64 (a1 4), .int .i64 (a1 5), .int .i64 (a1 6), .int .i64 (a1 7), .int .i64 (a1 8), .int .i64 (a1 9), .int .i64 (a1 10), .int .i64 (a1 11)]) rfl rfl rfl rfl (fun b3 => ?_)
 refine l_val rfl rfl rfl (r_assign (v := .int .i64 0) rfl) ?_
 refine l_nil ?_
 refine c_seq ?_
 refine c_region ?_
 refine l_val rfl rfl rfl (r_assign (v := .int .i64 0) rfl) ?_
 refine l_nil ?_
 refine c_seq ?_
 refine c_seq ?_
 refine c_region ?_
 refine l_loadN (i := 0) (vs := [.int .i64 (a0 0), .int .i64 (a0 1), .int .i64 (a0 2), .int .i64 (a0 3), .int .i64 (a0 4), .int .i64 (a0 5), .int .i64 (a0 6), .int .i64 (a0 7), .int .i64 (a0 8), .int .i64 (a0 9), .int .i64 (a0 10), .int .i64 (a0 11)]) Tryz.isAgg47 Tryz.sizeOf47 rfl rfl rfl rfl rfl ?_
 refine l_val rfl rfl rfl (r_move (v := .int .i64 0) rfl) ?_
 refine l_nil ?_
 refine c_block ?_
 refine c_sel [1] [cellsC b3 [.int .i64 (a1 0), .int .i64 (a1 1), .int .i64 (a1 2), .int .i64 (a1 3), .int .i64 (a1 4), .int .i64 (a1 5), .int .i64 (a1 6), .int .i64 (a1 7), .int .i64 (a1 8), .int .i64 (a1 9), .int .i64 (a1 10), .int .i64 (a1 11)] 47] rfl (by decide) ?_
 refine c_fix (σ := Int × Int) (τ := Unit) (fun next1 s => face_far_l1 a0 a1 next1 s.1 s.2) (fun s t => [(3, .pointer (some ⟨b3, 0, none⟩)), (5, .int .i64 s.1), (8, .agg #[.int .i64 (a0 0), .int .i64 (a0 1), .int .i64 (a0 2), .int .i64 (a0 3), .int .i64 (a0 4), .int .i64 (a0 5), .int .i64 (a0 6), .int .i64 (a0 7), .int .i64 (a0 8), .int .i64 (a0 9), .int .i64 (a0 10), .int .i64 (a0 11)]), (9, .int .i64 s.2)]) (fun s t => [cellsC b3 [.int .i64 (a1 0), .int .i64 (a1 1), .int .i64 (a1 2), .int .i64 (a1 3), .int .i64 (a1 4), .int .i64 (a1 5), .int .i64 (a1 6), .int .i64 (a1 7), .int .i64 (a1 8), .int .i64 (a1 9), .int .i64 (a1 10), .int .i64 (a1 11)] 47]) (fun s t => True) (0, 0) () [0] H (by exact trivial) (by exact ⟨rfl, rfl, rfl, rfl, trivial⟩) (by decide) rfl ?_
 rintro ⟨x5_2, x9_2⟩ _ m1 gg H12 _
 clear H
 replace H12 : face_far_l1 a0 a1 (it (fun next1 s => face_far_l1 a0 a1 next1 s.1 s.2) m1) x5_2 x9_2 = some r := H12
 generalize hn1 : it (fun next1 s => face_far_l1 a0 a1 next1 s.1 s.2) m1 = next1 at H12
 refine c_tidyF [(3, .pointer (some ⟨b3, 0, none⟩)), (5, .int .i64 x5_2), (8, .agg #[.int .i64 (a0 0), .int .i64 (a0 1), .int .i64 (a0 2), .int .i64 (a0 3), .int .i64 (a0 4), .int .i64 (a0 5), .int .i64 (a0 6), .int .i64 (a0 7), .int .i64 (a0 8), .int .i64 (a0 9), .int .i64 (a0 10), .int .i64 (a0 11)]), (9, .int .i64 x9_2)] [cellsC b3 [.int .i64 (a1 0), .int .i64 (a1 1), .int .i64 (a1 2), .int .i64 (a1 3), .int .i64 (a1 4), .int .i64 (a1 5), .int .i64 (a1 6), .int .i64 (a1 7), .int .i64 (a1 8), .int .i64 (a1 9), .int .i64 (a1 10), .int .i64 (a1 11)] 47] rfl rfl ?_
 refine c_seq ?_
 refine c_region ?_
 refine l_val rfl rfl rfl (r_lss rfl rfl) ?_
 refine l_nil ?_
 refine c_seq ?_
 refine c_if (b := (decide (x9_2 < 12))) rfl (fun hb => ?_) (fun hb => ?_)
 ·have H13 := cnd_t hb H12; clear H12
  refine c_skip ?_
  refine c_seq ?_
  refine c_block ?_
  refine c_seq ?_
  refine c_region ?_
  refine l_val rfl rfl rfl (r_move (v := .int .i64 x9_2) rfl) ?_
  obtain ⟨k12, h_k12, H14⟩ := bnd_some H13; clear H13
  refine l_val rfl rfl rfl (r_indexAG (f := fun j_ => .int .i64 (a0 j_)) Tryz.runUnderlying47 Tryz.isAgg3 Tryz.sizeOf3 rfl rfl rfl h_k12) ?_
  refine l_val rfl rfl rfl (r_assign (v := .int .i64 x9_2) rfl) ?_
  refine l_val rfl rfl rfl (r_assign (v := .int .i64 (a0 k12)) rfl) ?_
  refine l_nil ?_
  exact c_regionD (Kd.p :: Kd.p :: Kd.p :: Kd.p :: Kd.d [0] _ :: Kd.p :: Kd.p :: Kd.p :: Kd.p :: Kd.d [0] _ :: Kd.p :: Kd.p :: Kd.p :: Kd.p :: []) 0 mixed (by
   refine d_val rfl rfl (r_move (v := .int .i64 x5_2) rfl) ?_
   refine d_val rfl rfl (r_move (v := .int .i64 (a0 k12)) rfl) ?_
   refine d_val rfl rfl (r_move (v := .int .i64 x9_2) rfl) ?_
   have h_k16 := bnd_val H14
   have H15 := bnd_rest H14
   refine d_val rfl rfl (r_indexPG Tryz.runUnderlying47 Tryz.sizeOf3 rfl rfl h_k16) ?_
   refine d_load1 (i := 0) (v := .int .i64 (a1 (val (gIx 12 x9_2)))) Tryz.isAgg3 rfl rfl rfl (rg_arr (pre := []) (post := []) (f := fun j_ => [.int .i64 (a1 j_)]) (n := 12) (sz := 1) (q := 0) rfl rfl (fun _ => rfl) (gIx_lt h_k16) rfl) ?_
   have h_t18 := bnd_val H15
   have H16 := bnd_rest H15
   refine d_val rfl rfl (r_subG rfl rfl h_t18) ?_
   refine d_val rfl rfl (r_move (v := .int .i64 (a0 k12)) rfl) ?_
   refine d_val rfl rfl (r_move (v := .int .i64 x9_2) rfl) ?_
   have h_k21 := bnd_val H16
   have H17 := bnd_rest H16
   refine d_val rfl rfl (r_indexPG Tryz.runUnderlying47 Tryz.sizeOf3 rfl rfl h_k21) ?_
   refine d_load1 (i := 0) (v := .int .i64 (a1 (val (gIx 12 x9_2)))) Tryz.isAgg3 rfl rfl rfl (rg_arr (pre := []) (post := []) (f := fun j_ => [.int .i64 (a1 j_)]) (n := 12) (sz := 1) (q := 0) rfl rfl (fun _ => rfl) (gIx_lt h_k21) rfl) ?_
   have h_t23 := bnd_val H17
   have H18 := bnd_rest H17
   refine d_val rfl rfl (r_subG rfl rfl h_t23) ?_
   have h_t24 := bnd_val H18
   have H19 := bnd_rest H18
   refine d_val rfl rfl (r_mulG rfl rfl h_t24) ?_
   have h_t25 := bnd_val H19
   have H20 := bnd_rest H19
   refine d_val rfl rfl (r_addG rfl rfl h_t25) ?_
   refine d_val rfl rfl (r_assign (v := .int .i64 (val (gI (x5_2 + (val (gI ((val (gI ((a0 k12) - (a1 (val (gIx 12 x9_2)))))) * (val (gI ((a0 k12) - (a1 (val (gIx 12 x9_2))))))))))))) rfl) ?_
   refine d_nil ?_
   refine c_region ?_
   obtain ⟨t26, h_t26, H21⟩ := bnd_some H20; clear H20
   refine l_val rfl rfl rfl (r_addG rfl rfl h_t26) ?_
   refine l_val rfl rfl rfl (r_move (v := .int .i64 t26) rfl) ?_
   refine l_nil ?_
   refine c_close ((val (gI (x5_2 + (val (gI ((val (gI ((a0 k12) - (a1 (val (gIx 12 x9_2)))))) * (val (gI ((a0 k12) - (a1 (val (gIx 12 x9_2)))))))))))), t26) () m1 [0] (by exact ⟨rfl, rfl, rfl, rfl, trivial⟩) (by decide) rfl (by exact ⟨(by subst hn1; exact H21), trivial⟩) (Nat.lt_succ_self _)
   ) (by kernel_rfl)
 ·have H22 := cnd_f hb H12; clear H12
  refine c_exit ?_
  refine c_seq ?_
  refine c_region ?_
  refine l_val rfl rfl rfl (r_move (v := .int .i64 x5_2) rfl) ?_
  refine l_val rfl rfl rfl (r_assign (v := .int .i64 x5_2) rfl) ?_
  refine l_nil ?_
  refine c_ret ?_
  obtain rfl := Option.some.inj H22
  refine ret1 (v := .int .i64 x5_2) rfl rfl (fin rfl)
theorem k99 {a0 : (List T_face_Likeness)} {v0 : Value} {a1 : (T_face_Likeness → Option (Bool))} {v1 : Value} {r : Int} {w : World} {h : Heap} (hw : Know h w noS) (f0 : FrS h 14 v0 (a0.map e_face_Likeness)) (f1 : FnH Tryz.prog h v1 (fnR_func_face_Likeness_bool a1)) (H : slices_IndexFunc_face_Likeness a0 a1 = some r) : Does Tryz.prog 99 (List.toArray [v0, v1]) w (fun v w' => v = (.int .i64 r) ∧ Grow w w') := by
 refine enter (n := 19) Tryz.func99 rfl rfl rfl noS [] (Sat.nil _ _) ?_
 refine c_seq ?_
 refine c_region ?_
 refine l_val rfl rfl rfl (r_assign (v := .int .i64 0) rfl) ?_
 refine l_nil ?_
 refine c_seq ?_
 refine c_seq ?_
 refine c_region ?_
 refine l_val rfl rfl rfl (r_move (v := v0) rfl) ?_
 refine l_val rfl rfl rfl (r_lenF Tryz.underlying22 rfl f0 rfl) ?_
 refine l_val rfl rfl rfl (r_move (v := .int .i64 0) rfl) ?_
 refine l_nil ?_
 refine c_block ?_
 refine c_fix (σ := Int) (τ := Unit) (fun next1 s => slices_IndexFunc_face_Likeness_l1 a0 a1 next1 s) (fun s t => [(0, v0), (1, v1), (7, .int .i64 (a0.length : Int)), (8, .int .i64 s)]) (fun s t => []) (fun s t => True) 0 () [] H (by exact trivial) (by exact ⟨rfl, rfl, rfl, rfl, trivial⟩) (by decide) rfl ?_
 rintro x8_2 _ m1 gg H9 _
 clear H
 replace H9 : slices_IndexFunc_face_Likeness_l1 a0 a1 (it (fun next1 s => slices_IndexFunc_face_Likeness_l1 a0 a1 next1 s) m1) x8_2 = some r := H9
 generalize hn1 : it (fun next1 s => slices_IndexFunc_face_Likeness_l1 a0 a1 next1 s) m1 = next1 at H9
 refine c_tidyF [(0, v0), (1, v1), (7, .int .i64 (a0.length : Int)), (8, .int .i64 x8_2)] [] rfl rfl ?_
 refine c_seq ?_
 refine c_region ?_
 refine l_val rfl rfl rfl (r_lss rfl rfl) ?_
 refine l_nil ?_
 refine c_seq ?_
 refine c_if (b := (decide (x8_2 < (a0.length : Int)))) rfl (fun hb => ?_) (fun hb => ?_)
 ·have H10 := cnd_t hb H9; clear H9
  refine c_skip ?_
  refine c_seq ?_
  refine c_block ?_
  refine c_seq ?_
  refine c_region ?_
  refine l_val rfl rfl rfl (r_move (v := .int .i64 x8_2) rfl) ?_
  refine l_val rfl rfl rfl (r_assign (v := .int .i64 x8_2) rfl) ?_
  refine l_nil ?_
  refine c_seq ?_
  refine c_region ?_
  refine l_val rfl rfl rfl (r_move (v := v1) rfl) ?_
  refine l_val rfl rfl rfl (r_move (v := v0) rfl) ?_
  refine l_val rfl rfl rfl (r_move (v := .int .i64 x8_2) rfl) ?_
  obtain ⟨t14, h_t14, H11⟩ := bnd_some H10; clear H10
  refine l_val rfl rfl rfl (r_indexF Tryz.underlying22 Tryz.sizeOf52 rfl rfl f0 h_t14) ?_
  refine l_read (fun w hF hS => run_loadGN (f := e_face_Likeness) (i := x8_2) (sz := 14) (j := 0) (vs := [.int .i64 t14.Id, .int .i64 t14.Photo, .int .i64 (t14.Vec 0), .int .i64 (t14.Vec 1), .int .i64 (t14.Vec 2), .int .i64 (t14.Vec 3), .int .i64 (t14.Vec 4), .int .i64 (t14.Vec 5), .int .i64 (t14.Vec 6), .int .i64 (t14.Vec 7), .int .i64 (t14.Vec 8), .int .i64 (t14.Vec 9), .int .i64 (t14.Vec 10), .int .i64 (t14.Vec 11)]) Tryz.isAgg52 Tryz.sizeOf52 rfl rfl (f0.row (hw.now hF)) h_t14 rfl) rfl rfl rfl ?_
  obtain ⟨t16, h_t16, H12⟩ := bnd_some H11; clear H11
  refine l_callV (R := fnR_func_face_Likeness_bool a1) (r := .bool t16) (v := v1) (fun w hF hS => ⟨(f1.mono (hw.now hF)), ⟨t14, _, rfl, h_t16, rfl⟩⟩) rfl rfl rfl rfl ?_
  refine l_nil ?_
  refine c_if (b := t16) rfl (fun hb => ?_) (fun hb => ?_)
  ·have H13 := cnd_t hb H12; clear H12
   refine c_seq ?_
   refine c_region ?_
   refine l_val rfl rfl rfl (r_move (v := .int .i64 x8_2) rfl) ?_
   refine l_val rfl rfl rfl (r_assign (v := .int .i64 x8_2) rfl) ?_
   refine l_nil ?_
   refine c_ret ?_
   obtain rfl := Option.some.inj H13
   refine ret1 (v := .int .i64 x8_2) rfl rfl (fin rfl)
  ·have H14 := cnd_f hb H12; clear H12
   refine c_skip ?_
   refine c_region ?_
   obtain ⟨t18, h_t18, H15⟩ := bnd_some H14; clear H14
   refine l_val rfl rfl rfl (r_addG rfl rfl h_t18) ?_
   refine l_val rfl rfl rfl (r_move (v := .int .i64 t18) rfl) ?_
   refine l_nil ?_
   refine c_close t18 () m1 [] (by exact ⟨rfl, rfl, rfl, rfl, trivial⟩) (by decide) rfl (by exact ⟨(by subst hn1; exact H15), trivial⟩) (Nat.lt_succ_self _)
 ·have H16 := cnd_f hb H9; clear H9
  refine c_exit ?_
  refine c_seq ?_
  refine c_region ?_
  refine l_val rfl rfl rfl (r_assign (v := .int .i64 (-1)) rfl) ?_
  refine l_nil ?_
  refine c_ret ?_
  obtain rfl := Option.some.inj H16
  refine ret1 (v := .int .i64 (-1)) rfl rfl (fin rfl)
theorem k72 {a0 : (List T_face_Likeness)} {p0 : Option Addr × Nat} {n0 : Nat} {a1 : (T_face_Likeness → Option (Bool))} {v1 : Value} {r : (List T_face_Likeness)} {w : World} {h : Heap} {S : Nat → Prop} (hcs : (rowV 52 14 (.slice p0.1 n0 p0.2) n0 (a0.map e_face_Likeness)).P S w) (hlt : ∀ b, S b → b < w.heap.size) (hw : Know h w S) (hn0 : n0 = a0.length) (f1 : FnH Tryz.prog h v1 (fnR_func_face_Likeness_bool a1)) (H : slices_DeleteFunc_face_Likeness a0 a1 = some r) : Does Tryz.prog 72 (List.toArray [.slice p0.1 n0 p0.2, v1]) w (fun v w' => ∃ x : (Option Addr × Nat), v = (.slice x.1 r.length x.2) ∧ Turn w w' S (rowV 52 14 (.slice x.1 r.length x.2) r.length (r.map e_face_Likeness))) := by
 refine enter (n := 42) Tryz.func72 rfl rfl rfl S [rowV 52 14 (.slice p0.1 n0 p0.2) n0 (a0.map e_face_Likeness)] (Sat.one hcs hlt) ?_
 refine c_seq ?_
 refine c_region ?_
 refine l_val rfl rfl rfl (r_assign (v := .slice none 0 0) rfl) ?_
 refine l_nil ?_
 refine c_seq ?_
 refine c_region ?_
 refine l_val rfl rfl rfl (r_move (v := .slice p0.1 n0 p0.2) rfl) ?_
 refine l_val rfl rfl rfl (r_move (v := v1) rfl) ?_
 obtain ⟨t10, h_t10, H20⟩ := bnd_some H; clear H
 refine l_callG (fun w hF hS => k99 (know_all w) (frs_own (i := 0) hn0 hS rfl) (f1.mono (hw.now hF)) h_t10) Tryz.call99 rfl rfl rfl ?_
 refine l_val rfl rfl rfl (r_assign (v := .int .i64 t10) rfl) ?_
 refine l_nil ?_
 refine c_seq ?_
 refine c_seq ?_
 refine c_region ?_
 refine l_val rfl rfl rfl (r_move (v := .int .i64 t10) rfl) ?_
 refine l_val rfl rfl rfl (r_eql rfl rfl) ?_
 refine l_nil ?_
 refine c_if (b := (decide (t10 = (-1)))) rfl (fun hb => ?_) (fun hb => ?_)
 ·have H21 := cnd_t hb H20; clear H20
  refine c_seq ?_
  refine c_region ?_
  refine l_val rfl rfl rfl (r_move (v := .slice p0.1 n0 p0.2) rfl) ?_
  refine l_val rfl rfl rfl (r_assign (v := .slice p0.1 n0 p0.2) rfl) ?_
  refine l_nil ?_
  refine c_ret ?_
  obtain rfl := Option.some.inj H21
  refine ret1 (v := .slice p0.1 n0 p0.2) rfl rfl (finX p0 (i := 0) rfl (by first | rfl | rw [(show n0 = a0.length from hn0)]) (by first | exact Imp.refl _ | exact Imp.of (by rw [(show n0 = a0.length from hn0)])))
 ·have H22 := cnd_f hb H20; clear H20
  refine c_skip ?_
  refine c_meet (r := r) (σ := Int × (List T_face_Likeness)) (τ := Unit) (fun s => slices_DeleteFunc_face_Likeness_j1 s.1 s.2) (fun s t => [(0, .slice p0.1 n0 p0.2), (5, .int .i64 s.1)]) (fun s t => [rowV 52 14 (.slice p0.1 n0 p0.2) n0 (s.2.map e_face_Likeness)]) (fun s t => n0 = s.2.length) ?_ ?_
  ·refine c_seq ?_
   refine c_region ?_
   refine l_val rfl rfl rfl (r_move (v := .int .i64 t10) rfl) ?_
   obtain ⟨t15, h_t15, H26⟩ := bnd_some H22; clear H22
   refine l_val rfl rfl rfl (r_addG rfl rfl h_t15) ?_
   refine l_val rfl rfl rfl (r_assign (v := .int .i64 t15) rfl) ?_
   refine l_nil ?_
   refine c_block ?_
   refine c_fix (σ := Int × Int × (List T_face_Likeness)) (τ := Unit) (fun next2 s => slices_DeleteFunc_face_Likeness_l2 a1 next2 s.1 s.2.1 s.2.2) (fun s t => [(0, .slice p0.1 n0 p0.2), (1, v1), (5, .int .i64 s.1), (6, .int .i64 s.2.1)]) (fun s t => [rowV 52 14 (.slice p0.1 n0 p0.2) n0 (s.2.2.map e_face_Likeness)]) (fun s t => n0 = s.2.2.length) (t10, t15, a0) () [0] H26 (by exact hn0) (by exact ⟨rfl, rfl, rfl, rfl, trivial⟩) (by decide) rfl ?_
   rintro ⟨x5_3, x6_2, l_3⟩ _ m2 gg H27 hl_3
   clear H26
   replace H27 : slices_DeleteFunc_face_Likeness_l2 a1 (it (fun next2 s => slices_DeleteFunc_face_Likeness_l2 a1 next2 s.1 s.2.1 s.2.2) m2) x5_3 x6_2 l_3 = some r := H27
   generalize hn2 : it (fun next2 s => slices_DeleteFunc_face_Likeness_l2 a1 next2 s.1 s.2.1 s.2.2) m2 = next2 at H27
   refine c_tidyF [(0, .slice p0.1 n0 p0.2), (1, v1), (5, .int .i64 x5_3), (6, .int .i64 x6_2)] [rowV 52 14 (.slice p0.1 n0 p0.2) n0 (l_3.map e_face_Likeness)] rfl rfl ?_
   refine c_seq ?_
   refine c_seq ?_
   refine c_region ?_
   refine l_val rfl rfl rfl (r_move (v := .int .i64 x6_2) rfl) ?_
   refine l_val rfl rfl rfl (r_move (v := .slice p0.1 n0 p0.2) rfl) ?_
   refine l_val rfl rfl rfl (r_lenN Tryz.underlying22 rfl hl_3) ?_
   refine l_val rfl rfl rfl (r_lss rfl rfl) ?_
   refine l_nil ?_
   refine c_if (b := (decide (x6_2 < (l_3.length : Int)))) rfl (fun hb => ?_) (fun hb => ?_)
   ·have H28 := cnd_t hb H27; clear H27
    refine c_skip ?_
    refine c_meet (r := r) (σ := Int × (List T_face_Likeness)) (τ := Unit) (fun s => slices_DeleteFunc_face_Likeness_j3 x6_2 next2 s.1 s.2) (fun s t => [(0, .slice p0.1 n0 p0.2), (1, v1), (5, .int .i64 s.1), (6, .int .i64 x6_2)]) (fun s t => [rowV 52 14 (.slice p0.1 n0 p0.2) n0 (s.2.map e_face_Likeness)]) (fun s t => n0 = s.2.length) ?_ ?_
    ·refine c_block ?_
     refine c_seq ?_
     refine c_region ?_
     refine l_val rfl rfl rfl (r_move (v := .slice p0.1 n0 p0.2) rfl) ?_
     refine l_val rfl rfl rfl (r_move (v := .int .i64 x6_2) rfl) ?_
     obtain ⟨t24, h_t24, H31⟩ := bnd_some H28; clear H28
     refine l_read (fun w hF hS => run_indexO Tryz.underlying22 Tryz.sizeOf52 rfl rfl (rowOf (i := 0) hS rfl) hl_3 h_t24) rfl rfl rfl ?_
     refine l_read (fun w hF hS => run_loadGN (f := e_face_Likeness) (i := x6_2) (sz := 14) (j := 0) (vs := [.int .i64 t24.Id, .int .i64 t24.Photo, .int .i64 (t24.Vec 0), .int .i64 (t24.Vec 1), .int .i64 (t24.Vec 2), .int .i64 (t24.Vec 3), .int .i64 (t24.Vec 4), .int .i64 (t24.Vec 5), .int .i64 (t24.Vec 6), .int .i64 (t24.Vec 7), .int .i64 (t24.Vec 8), .int .i64 (t24.Vec 9), .int .i64 (t24.Vec 10), .int .i64 (t24.Vec 11)]) Tryz.isAgg52 Tryz.sizeOf52 rfl rfl (rowOf (i := 0) hS rfl) h_t24 rfl) rfl rfl rfl ?_
     refine l_alloc (cs := [.int .i64 0, .int .i64 0, .int .i64 0, .int .i64 0, .int .i64 0, .int .i64 0, .int .i64 0, .int .i64 0, .int .i64 0, .int .i64 0, .int .i64 0, .int .i64 0, .int .i64 0, .int .i64 0]) Tryz.zeroValue52 rfl rfl rfl (fun b1 => ?_)
     refine l_store (i := 1) (vs := [.int .i64 t24.Id, .int .i64 t24.Photo, .int .i64 (t24.Vec 0), .int .i64 (t24.Vec 1), .int .i64 (t24.Vec 2), .int .i64 (t24.Vec 3), .int .i64 (t24.Vec 4), .int .i64 (t24.Vec 5), .int .i64 (t24.Vec 6), .int .i64 (t24.Vec 7), .int .i64 (t24.Vec 8), .int .i64 (t24.Vec 9), .int .i64 (t24.Vec 10), .int .i64 (t24.Vec 11)]) (cs' := [.int .i64 t24.Id, .int .i64 t24.Photo, .int .i64 (t24.Vec 0), .int .i64 (t24.Vec 1), .int .i64 (t24.Vec 2), .int .i64 (t24.Vec 3), .int .i64 (t24.Vec 4), .int .i64 (t24.Vec 5), .int .i64 (t24.Vec 6), .int .i64 (t24.Vec 7), .int .i64 (t24.Vec 8), .int .i64 (t24.Vec 9), .int .i64 (t24.Vec 10), .int .i64 (t24.Vec 11)]) Tryz.sizeOf52 rfl rfl rfl rfl rfl rfl rfl rfl rfl ?_
     refine l_nil ?_
     refine c_seq ?_
     refine c_region ?_
     refine l_val rfl rfl rfl (r_move (v := v1) rfl) ?_
     refine l_loadN (i := 1) (vs := [.int .i64 t24.Id, .int .i64 t24.Photo, .int .i64 (t24.Vec 0), .int .i64 (t24.Vec 1), .int .i64 (t24.Vec 2), .int .i64 (t24.Vec 3), .int .i64 (t24.Vec 4), .int .i64 (t24.Vec 5), .int .i64 (t24.Vec 6), .int .i64 (t24.Vec 7), .int .i64 (t24.Vec 8), .int .i64 (t24.Vec 9), .int .i64 (t24.Vec 10), .int .i64 (t24.Vec 11)]) Tryz.isAgg52 Tryz.sizeOf52 rfl rfl rfl rfl rfl ?_
     obtain ⟨t28, h_t28, H32⟩ := bnd_some H31; clear H31
     refine l_callV (R := fnR_func_face_Likeness_bool a1) (r := .bool t28) (v := v1) (fun w hF hS => ⟨(f1.mono (hw.now hF)), ⟨t24, _, rfl, h_t28, rfl⟩⟩) rfl rfl rfl rfl ?_
     refine l_val rfl rfl rfl (r_not rfl) ?_
     refine l_nil ?_
     refine c_if (b := (!t28)) rfl (fun hb => ?_) (fun hb => ?_)
     ·have H33 := cnd_t hb H32; clear H32
      refine c_seq ?_
      refine c_region ?_
      refine l_val rfl rfl rfl (r_move (v := .slice p0.1 n0 p0.2) rfl) ?_
      refine l_val rfl rfl rfl (r_move (v := .int .i64 x5_3) rfl) ?_
      refine l_loadN (i := 1) (vs := [.int .i64 t24.Id, .int .i64 t24.Photo, .int .i64 (t24.Vec 0), .int .i64 (t24.Vec 1), .int .i64 (t24.Vec 2), .int .i64 (t24.Vec 3), .int .i64 (t24.Vec 4), .int .i64 (t24.Vec 5), .int .i64 (t24.Vec 6), .int .i64 (t24.Vec 7), .int .i64 (t24.Vec 8), .int .i64 (t24.Vec 9), .int .i64 (t24.Vec 10), .int .i64 (t24.Vec 11)]) Tryz.isAgg52 Tryz.sizeOf52 rfl rfl rfl rfl rfl ?_
      obtain ⟨t33, h_t33, H34⟩ := bnd_some H33; clear H33
      refine l_read (fun w hF hS => run_indexO Tryz.underlying22 Tryz.sizeOf52 rfl rfl (rowOf (i := 0) hS rfl) hl_3 h_t33) rfl rfl rfl ?_
      obtain ⟨l0, h_l0, H35⟩ := bnd_some H34; clear H34
      refine l_storeG (q := 0) (j := 0) (i := x5_3) (sz := 14) (hm := hl_3) (f := e_face_Likeness) (vs := [.int .i64 t24.Id, .int .i64 t24.Photo, .int .i64 (t24.Vec 0), .int .i64 (t24.Vec 1), .int .i64 (t24.Vec 2), .int .i64 (t24.Vec 3), .int .i64 (t24.Vec 4), .int .i64 (t24.Vec 5), .int .i64 (t24.Vec 6), .int .i64 (t24.Vec 7), .int .i64 (t24.Vec 8), .int .i64 (t24.Vec 9), .int .i64 (t24.Vec 10), .int .i64 (t24.Vec 11)]) Tryz.sizeOf52 rfl rfl rfl rfl rfl rfl rfl rfl rfl (fun y_ hy_ => by first | rfl | (cases hy_.symm.trans h_t33; rfl)) h_l0 ?_
      refine l_nil ?_
      refine c_region ?_
      refine l_val rfl rfl rfl (r_move (v := .int .i64 x5_3) rfl) ?_
      obtain ⟨t35, h_t35, H36⟩ := bnd_some H35; clear H35
      refine l_val rfl rfl rfl (r_addG rfl rfl h_t35) ?_
      refine l_val rfl rfl rfl (r_assign (v := .int .i64 t35) rfl) ?_
      refine l_nil ?_
      refine c_close (t35, l0) () 0 [0] (by exact ⟨rfl, rfl, rfl, rfl, trivial⟩) (by decide) rfl (by exact ⟨H36, (gSet_n hl_3 h_l0)⟩) (Nat.lt_succ_self _)
     ·have H37 := cnd_f hb H32; clear H32
      refine c_skip ?_
      refine c_close (x5_3, l_3) () 0 [0] (by exact ⟨rfl, rfl, rfl, rfl, trivial⟩) (by decide) rfl (by exact ⟨H37, hl_3⟩) (Nat.lt_succ_self _)
    ·rintro ⟨x5_4, l_4⟩ _ gg H29 hl_4
     replace H29 : slices_DeleteFunc_face_Likeness_j3 x6_2 next2 x5_4 l_4 = some r := H29
     refine c_tidyF [(0, .slice p0.1 n0 p0.2), (1, v1), (5, .int .i64 x5_4), (6, .int .i64 x6_2)] [rowV 52 14 (.slice p0.1 n0 p0.2) n0 (l_4.map e_face_Likeness)] rfl rfl ?_
     refine c_region ?_
     refine l_val rfl rfl rfl (r_move (v := .int .i64 x6_2) rfl) ?_
     obtain ⟨t21, h_t21, H30⟩ := bnd_some H29; clear H29
     refine l_val rfl rfl rfl (r_addG rfl rfl h_t21) ?_
     refine l_val rfl rfl rfl (r_assign (v := .int .i64 t21) rfl) ?_
     refine l_nil ?_
     refine c_close (x5_4, t21, l_4) () m2 [0] (by exact ⟨rfl, rfl, rfl, rfl, trivial⟩) (by decide) rfl (by exact ⟨(by subst hn2; exact H30), hl_4⟩) (Nat.lt_succ_self _)
   ·have H38 := cnd_f hb H27; clear H27
    refine c_exit ?_
    refine c_close (x5_3, l_3) () 0 [0] (by exact ⟨rfl, rfl, trivial⟩) (by decide) rfl (by exact ⟨H38, hl_3⟩) (Nat.lt_succ_self _)
  ·rintro ⟨x5, l⟩ _ gg H23 hl
   replace H23 : slices_DeleteFunc_face_Likeness_j1 x5 l = some r := H23
   refine c_tidyF [(0, .slice p0.1 n0 p0.2), (5, .int .i64 x5)] [rowV 52 14 (.slice p0.1 n0 p0.2) n0 (l.map e_face_Likeness)] rfl rfl ?_
   refine c_seq ?_
   refine c_region ?_
   refine l_val rfl rfl rfl (r_move (v := .slice p0.1 n0 p0.2) rfl) ?_
   refine l_val rfl rfl rfl (r_move (v := .int .i64 x5) rfl) ?_
   obtain ⟨t38, h_t38, H24⟩ := bnd_some H23; clear H23
   refine l_read (v := .slice (cutA p0.1 (Int.toNat x5) p0.2 14) t38.length (p0.2 - Int.toNat x5)) (fun w hF hS => run_sliceLO (xs := l) Tryz.underlying22 Tryz.sizeOf52 rfl rfl hl (capOf (i := 0) hS rfl) h_t38) rfl rfl rfl ?_
   refine l_turn0 (turns_clearV (i := 0) (rds := []) (f := e_face_Likeness) (z0 := (⟨0, 0, (fun _ => 0)⟩ : T_face_Likeness)) (ys := l) (a := x5) (q := l.length) hl Tryz.underlying22 Tryz.zeroValue52 rfl (fun _ => rfl) (fun _ => rfl) rfl h_t38 rfl) rfl rfl (fun _ => ?_)
   refine l_nil ?_
   refine c_seq ?_
   refine c_region ?_
   refine l_val rfl rfl rfl (r_move (v := .slice p0.1 n0 p0.2) rfl) ?_
   refine l_val rfl rfl rfl (r_move (v := .int .i64 x5) rfl) ?_
   obtain ⟨t41, h_t41, H25⟩ := bnd_some H24; clear H24
   refine l_read (v := .slice p0.1 t41.length p0.2) (fun w hF hS => run_sliceHO0 (xs := (clrL l x5 l.length (⟨0, 0, (fun _ => 0)⟩ : T_face_Likeness))) Tryz.underlying22 Tryz.sizeOf52 rfl rfl (clrL_n hl h_t38) (capOf (i := 0) hS rfl) h_t41) rfl rfl rfl ?_
   refine l_val rfl rfl rfl (r_assign (v := .slice p0.1 t41.length p0.2) rfl) ?_
   refine l_nil ?_
   refine c_ret ?_
   refine c_imp 0 rfl (imp_shrink (clrL_n hl h_t38) h_t41) ?_
   obtain rfl := Option.some.inj H25
   refine c_imp 0 rfl (imp_rowC _ _ _ _ _ _) ?_
   refine ret1 (v := .slice p0.1 t41.length p0.2) rfl rfl (finX p0 (i := 0) rfl rfl (Imp.refl _))
theorem k73 {a0 : (List T_face_Likeness)} {v0 : Value} {r : (List T_face_Likeness)} {w : World} {h : Heap} (hw : Know h w noS) (f0 : FrS h 14 v0 (a0.map e_face_Likeness)) (H : slices_Clone_face_Likeness a0 = some r) : Does Tryz.prog 73 (List.toArray [v0]) w (fun v w' => ∃ x : (Option Addr × Nat), v = (.slice x.1 r.length x.2) ∧ Turn w w' noS (rowV 52 14 (.slice x.1 r.length x.2) r.length (r.map e_face_Likeness))) := by
 refine enter (n := 8) Tryz.func73 rfl rfl rfl noS [] (Sat.nil _ _) ?_
 refine c_seq ?_
 refine c_region ?_
 refine l_val rfl rfl rfl (r_assign (v := .slice none 0 0) rfl) ?_
 refine l_nil ?_
 refine c_seq ?_
 refine c_seq ?_
 refine c_region ?_
 refine l_val rfl rfl rfl (r_move (v := v0) rfl) ?_
 refine l_val rfl rfl rfl (r_eqlNilS Tryz.underlying22 f0 rfl rfl) ?_
 refine l_nil ?_
 refine c_if (b := isNilV v0) rfl (fun hb => ?_) (fun hb => ?_)
 ·have hn_ : a0 = [] := f0.nilV hb
  have H3 : some ([] : List T_face_Likeness) = some r := by have h_ := H; rw [hn_] at h_; exact h_
  refine c_seq ?_
  refine c_region ?_
  refine l_val rfl rfl rfl (r_assign (v := .slice none 0 0) rfl) ?_
  refine l_nil ?_
  refine c_ret ?_
  refine c_nilRow 52 14 ?_
  obtain rfl := Option.some.inj H3
  refine ret1 (v := .slice ((none, 0) : Option Addr × Nat).1 ([] : List T_face_Likeness).length ((none, 0) : Option Addr × Nat).2) rfl rfl (finX ((none, 0) : Option Addr × Nat) (i := 0) rfl rfl (Imp.refl _))
 ·skip
  refine c_skip ?_
  refine c_seq ?_
  refine c_region ?_
  refine l_buildSlice (vs := []) (cs := []) Tryz.underlying22 Tryz.sizeOf52 Tryz.zeroValue52 rfl rfl rfl rfl rfl rfl rfl (fun b1 => ?_)
  refine l_val rfl rfl rfl (r_move (v := v0) rfl) ?_
  refine c_imp 0 rfl (imp_box (m := 0) (E := 52) (sz := 14) (xs := (([] : List T_face_Likeness)).map e_face_Likeness) rfl rfl rfl ⟨rfl, by decide⟩) ?_
  obtain ⟨l7, h_l7, H4⟩ := bnd_some H; clear H
  refine l_turn (turns_appG (i := 0) (hn := rfl) (rds := []) (p := ((some ⟨b1, 0, none⟩, 0) : Option Addr × Nat)) (sz := 14) (by_ := 112) (f := e_face_Likeness) (ys := ([] : List T_face_Likeness)) (ls := a0) (V := v0) Tryz.underlying22 (info_of Tryz.typeInfo52) rfl rfl rfl rfl rfl rfl rfl rfl f0.eq (List.length_map _) (fun w L' hF hS hi => (f0).row (hw.now hF)) (fun _ => rfl) (fun _ => rfl) h_l7) rfl rfl rfl (fun p => ?_)
  refine l_val rfl rfl rfl (r_assign (v := .slice p.1 l7.length p.2) rfl) ?_
  refine l_nil ?_
  refine c_ret ?_
  obtain rfl := Option.some.inj H4
  refine ret1 (v := .slice p.1 l7.length p.2) rfl rfl (finX p (i := 0) rfl rfl (Imp.refl _))
theorem k74 {q0 : (List T_face_Person)} {vq0 : Value} {c0 : Nat} {a0 : T_face_Likeness} {r : Bool} {w : World} {h : Heap} (hw : Know h w noS) (fq0 : FrN h 4 vq0 g_face_Person q0) (hc0 : h c0 = some (.cells (List.toArray [vq0]) 23 (0, 0))) (H : face_free_1 q0 a0 = some r) : Does Tryz.prog 74 (List.toArray [.agg #[.int .i64 a0.Id, .int .i64 a0.Photo, .int .i64 (a0.Vec 0), .int .i64 (a0.Vec 1), .int .i64 (a0.Vec 2), .int .i64 (a0.Vec 3), .int .i64 (a0.Vec 4), .int .i64 (a0.Vec 5), .int .i64 (a0.Vec 6), .int .i64 (a0.Vec 7), .int .i64 (a0.Vec 8), .int .i64 (a0.Vec 9), .int .i64 (a0.Vec 10), .int .i64 (a0.Vec 11)], .pointer (some ⟨c0, 0, none⟩)]) w (fun v w' => v = (.bool r) ∧ Grow w w') := by
 refine enter (n := 9) Tryz.func74 rfl rfl rfl noS [] (Sat.nil _ _) ?_
 refine c_seq ?_
 refine c_region ?_
 refine l_box (cs := [.int .i64 a0.Id, .int .i64 a0.Photo, .int .i64 (a0.Vec 0), .int .i64 (a0.Vec 1), .int .i64 (a0.Vec 2), .int .i64 (a0.Vec 3), .int .i64 (a0.Vec 4), .int .i64 (a0.Vec 5), .int .i64 (a0.Vec 6), .int .i64 (a0.Vec 7), .int .i64 (a0.Vec 8), .int .i64 (a0.Vec 9), .int .i64 (a0.Vec 10), .int .i64 (a0.Vec 11)]) rfl rfl rfl rfl (fun b1 => ?_)
 refine l_val rfl rfl rfl (r_assign (v := .bool false) rfl) ?_
 refine l_nil ?_
 refine c_seq ?_
 refine c_region ?_
 refine l_read (fun w hF hS => run_loadK1 (v := vq0) Tryz.isAgg23 rfl (hw.now hF _ _ hc0) rfl) rfl rfl rfl ?_
 refine l_val rfl rfl rfl (r_field Tryz.runUnderlying52 rfl Tryz.sizeOf3 rfl rfl) ?_
 refine l_load1 (i := 0) (v := .int .i64 a0.Id) Tryz.isAgg3 rfl rfl rfl rfl rfl ?_
 obtain ⟨t7, h_t7, H2⟩ := bnd_some H; clear H
 refine l_callG (fun w hF hS => k34 (know_all w) (fq0.mono (hw.now hF)) h_t7) Tryz.call34 rfl rfl rfl ?_
 refine l_val rfl rfl rfl (r_geq rfl rfl) ?_
 refine l_val rfl rfl rfl (r_assign (v := .bool (decide (0 ≤ t7))) rfl) ?_
 refine l_nil ?_
 refine c_ret ?_
 obtain rfl := Option.some.inj H2
 refine ret1 (v := .bool (decide (0 ≤ t7))) rfl rfl (fin rfl)
theorem k26 {a0 : (List T_face_Likeness)} {v0 : Value} {a1 : (List T_face_Person)} {v1 : Value} {r : (List T_face_Likeness)} {w : World} {h : Heap} (hw : Know h w noS) (f0 : FrS h 14 v0 (a0.map e_face_Likeness)) (f1 : FrN h 4 v1 g_face_Person a1) (H : face_free a0 a1 = some r) : Does Tryz.prog 26 (List.toArray [v0, v1]) w (fun v w' => ∃ x : (Option Addr × Nat), v = (.slice x.1 r.length x.2) ∧ Turn w w' noS (rowV 52 14 (.slice x.1 r.length x.2) r.length (r.map e_face_Likeness))) := by
 refine enter (n := 9) Tryz.func26 rfl rfl rfl noS [] (Sat.nil _ _) ?_
 refine c_seq ?_
 refine c_region ?_
 refine l_box (cs := [v1]) rfl rfl rfl f1.cells (fun b1 => ?_)
 refine l_val rfl rfl rfl (r_assign (v := .slice none 0 0) rfl) ?_
 refine l_nil ?_
 refine c_seq ?_
 refine c_region ?_
 refine l_val rfl rfl rfl (r_move (v := v0) rfl) ?_
 obtain ⟨t6, h_t6, H3⟩ := bnd_some H; clear H
 refine l_make (makes_call (rds := []) (G := fun x : (Option Addr × Nat) => .slice x.1 t6.length x.2) (C := fun x : (Option Addr × Nat) => rowV 52 14 (.slice x.1 t6.length x.2) t6.length (t6.map e_face_Likeness)) (fun w L' hF hS hi => k73 (know_all w) (f0.mono (hw.now hF)) h_t6) Tryz.call73 rfl) rfl rfl rfl (fun p => ?_)
 refine l_val rfl rfl rfl (r_makeFn (caps := #[.pointer (some ⟨b1, 0, none⟩)]) rfl) ?_
 obtain ⟨t8, h_t8, H4⟩ := bnd_some H3; clear H3
 refine l_turn (turns_callB (i := 1) (rds := [0]) (G := fun x : (Option Addr × Nat) => .slice x.1 t8.length x.2) (C := fun x : (Option Addr × Nat) => rowV 52 14 (.slice x.1 t8.length x.2) t8.length (t8.map e_face_Likeness)) rfl (fun w L' S hF hS hi hp hlt ho hA => k72 hp hlt (know_but w S) rfl (FnH.mk ⟨74, #[], #[.pointer (some ⟨b1, 0, none⟩)], rfl, Tryz.call74, fun args2 post2 w2 hk2 hR2 => by obtain ⟨a0_, r_, rfl, H_, rfl⟩ := hR2; exact k74 (know_all w2) ((f1.mono (hw.but hF ho)).mono hk2.up) (hk2.up _ _ (cell_but (j := 0) hA hS (by decide) ((hi 0 (by simp)).trans rfl))) H_⟩) h_t8) Tryz.call72 rfl) rfl rfl rfl (fun p_2 => ?_)
 refine l_val rfl rfl rfl (r_assign (v := .slice p_2.1 t8.length p_2.2) rfl) ?_
 refine l_nil ?_
 refine c_ret ?_
 obtain rfl := Option.some.inj H4
 refine ret1 (v := .slice p_2.1 t8.length p_2.2) rfl rfl (finX p_2 (i := 1) rfl rfl (Imp.refl _))
theorem k75 {a0 : (List T_face_Likeness)} {v0 : Value} {a1 : T_face_Person} {v1_2 : Value} {v1_3 : Value} {a2 : Int} {r : Int} {w : World} {h : Heap} (hw : Know h w noS) (f0 : FrS h 14 v0 (a0.map e_face_Likeness)) (f1_2 : FrS h 1 v1_2 (a1.Likes.map e_i64)) (f1_3 : FrS h 1 v1_3 (a1.Nots.map e_i64)) (H : face_score a0 a1 a2 = some r) : Does Tryz.prog 75 (List.toArray [v0, .agg #[.int .i64 a1.Id, str a1.Name, v1_2, v1_3], .int .i64 a2]) w (fun v w' => v = (.int .i64 r) ∧ Grow w w') := by
 refine enter (n := 78) Tryz.func75 rfl rfl rfl noS [] (Sat.nil _ _) ?_
 refine c_seq ?_
 refine c_region ?_
 refine l_box (cs := [.int .i64 a1.Id, str a1.Name, v1_2, v1_3]) rfl rfl rfl rfl (fun b2 => ?_)
 refine l_val rfl rfl rfl (r_assign (v := .int .i64 0) rfl) ?_
 refine l_nil ?_
 refine c_seq ?_
 refine c_region ?_
 refine l_val rfl rfl rfl (r_move (v := v0) rfl) ?_
 refine l_val rfl rfl rfl (r_move (v := .int .i64 a2) rfl) ?_
 obtain ⟨t20, h_t20, H28⟩ := bnd_some H; clear H
 refine l_callG (fun w hF hS => k102 (know_all w) (f0.mono (hw.now hF)) h_t20) Tryz.call102 rfl rfl rfl ?_
 refine l_val rfl rfl rfl (r_move (v := .tuple #[.int .i64 t20.1, .bool t20.2]) rfl) ?_
 refine l_val rfl rfl rfl (r_extract (v := .int .i64 t20.1) rfl rfl) ?_
 refine l_val rfl rfl rfl (r_extract (v := .bool t20.2) rfl rfl) ?_
 refine l_val rfl rfl rfl (r_assign (v := .int .i64 t20.1) rfl) ?_
 refine l_val rfl rfl rfl (r_assign (v := .bool t20.2) rfl) ?_
 refine l_nil ?_
 refine c_seq ?_
 refine c_region ?_
 refine l_val rfl rfl rfl (r_assign (v := .slice none 0 0) rfl) ?_
 refine l_nil ?_
 refine c_meet (r := r) (σ := (List Int)) (τ := (Option Addr × Nat)) (fun s => face_score_j1 s) (fun s t => [(9, .slice t.1 s.length t.2)]) (fun s t => [rowV 3 1 (.slice t.1 s.length t.2) s.length (s.map e_i64)]) (fun s t => True) ?_ ?_
 ·refine c_seq ?_
  refine c_region ?_
  refine l_val rfl rfl rfl (r_field Tryz.runUnderlying32 rfl Tryz.sizeOf24 rfl rfl) ?_
  refine l_load1 (i := 0) (v := v1_2) Tryz.isAgg24 rfl rfl rfl rfl rfl ?_
  refine l_val rfl rfl rfl (r_lenF Tryz.underlying24 rfl f1_2 rfl) ?_
  refine l_val rfl rfl rfl (r_move (v := .int .i64 0) rfl) ?_
  refine l_nil ?_
  refine c_block ?_
  refine c_sel [] [] rfl (by decide) ?_
  refine c_nilRow 3 1 ?_
  refine c_fix (σ := Int × (List Int)) (τ := (Option Addr × Nat)) (fun next4 s => face_score_l4 a0 a1 a2 t20 next4 s.1 s.2) (fun s t => [(0, v0), (2, .int .i64 a2), (7, .int .i64 t20.1), (9, .slice t.1 s.2.length t.2), (24, v1_2), (25, .int .i64 (a1.Likes.length : Int)), (26, .int .i64 s.1)]) (fun s t => [rowV 3 1 (.slice t.1 s.2.length t.2) s.2.length (s.2.map e_i64)]) (fun s t => True) (0, ([] : List Int)) ((none, 0) : Option Addr × Nat) [0] H28 (by exact trivial) (by exact ⟨rfl, rfl, rfl, rfl, rfl, rfl, rfl, trivial⟩) (by decide) rfl ?_
  rintro ⟨x26_2, l_3⟩ p_2 m4 gg H42 _
  clear H28
  replace H42 : face_score_l4 a0 a1 a2 t20 (it (fun next4 s => face_score_l4 a0 a1 a2 t20 next4 s.1 s.2) m4) x26_2 l_3 = some r := H42
  generalize hn4 : it (fun next4 s => face_score_l4 a0 a1 a2 t20 next4 s.1 s.2) m4 = next4 at H42
  refine c_tidyF [(0, v0), (2, .int .i64 a2), (7, .int .i64 t20.1), (9, .slice p_2.1 l_3.length p_2.2), (24, v1_2), (25, .int .i64 (a1.Likes.length : Int)), (26, .int .i64 x26_2)] [rowV 3 1 (.slice p_2.1 l_3.length p_2.2) l_3.length (l_3.map e_i64)] rfl rfl ?_
  refine c_seq ?_
  refine c_region ?_
  refine l_val rfl rfl rfl (r_lss rfl rfl) ?_
  refine l_nil ?_
  refine c_seq ?_
  refine c_if (b := (decide (x26_2 < (a1.Likes.length : Int)))) rfl (fun hb => ?_) (fun hb => ?_)
  ·have H43 := cnd_t hb H42; clear H42
   refine c_skip ?_
   refine c_meet (r := r) (σ := (List Int)) (τ := (Option Addr × Nat)) (fun s => face_score_j5 x26_2 next4 s) (fun s t => [(0, v0), (2, .int .i64 a2), (7, .int .i64 t20.1), (9, .slice t.1 s.length t.2), (24, v1_2), (25, .int .i64 (a1.Likes.length : Int)), (26, .int .i64 x26_2)]) (fun s t => [rowV 3 1 (.slice t.1 s.length t.2) s.length (s.map e_i64)]) (fun s t => True) ?_ ?_
   ·refine c_block ?_
    refine c_seq ?_
    refine c_region ?_
    obtain ⟨t28, h_t28, H46⟩ := bnd_some H43; clear H43
    refine l_val rfl rfl rfl (r_indexF Tryz.underlying24 Tryz.sizeOf3 rfl rfl f1_2 h_t28) ?_
    refine l_read (fun w hF hS => run_loadG1 (f := e_i64) (i := x26_2) (sz := 1) (j := 0) (v := .int .i64 t28) Tryz.isAgg3 rfl rfl (f1_2.row (hw.now hF)) h_t28 rfl) rfl rfl rfl ?_
    refine l_val rfl rfl rfl (r_assign (v := .int .i64 t28) rfl) ?_
    refine l_nil ?_
    refine c_seq ?_
    refine c_region ?_
    refine l_val rfl rfl rfl (r_move (v := .int .i64 t28) rfl) ?_
    refine l_val rfl rfl rfl (r_move (v := .int .i64 a2) rfl) ?_
    refine l_val rfl rfl rfl (r_neq rfl rfl) ?_
    refine l_nil ?_
    refine c_if (b := (decide (t28 ≠ a2))) rfl (fun hb => ?_) (fun hb => ?_)
    ·have H47 := cnd_t hb H46; clear H46
     refine c_seq ?_
     refine c_region ?_
     refine l_val rfl rfl rfl (r_move (v := v0) rfl) ?_
     refine l_val rfl rfl rfl (r_move (v := .int .i64 t28) rfl) ?_
     obtain ⟨t36, h_t36, H48⟩ := bnd_some H47; clear H47
     refine l_callG (fun w hF hS => k102 (know_all w) (f0.mono (hw.now hF)) h_t36) Tryz.call102 rfl rfl rfl ?_
     refine l_val rfl rfl rfl (r_move (v := .tuple #[.int .i64 t36.1, .bool t36.2]) rfl) ?_
     refine l_val rfl rfl rfl (r_extract (v := .int .i64 t36.1) rfl rfl) ?_
     refine l_val rfl rfl rfl (r_extract (v := .bool t36.2) rfl rfl) ?_
     refine l_val rfl rfl rfl (r_assign (v := .int .i64 t36.1) rfl) ?_
     refine l_val rfl rfl rfl (r_assign (v := .bool t36.2) rfl) ?_
     refine l_nil ?_
     exact c_regionD (Kd.p :: Kd.p :: Kd.p :: Kd.p :: Kd.p :: Kd.d [] _ :: Kd.p :: Kd.p :: Kd.p :: Kd.p :: Kd.d [] _ :: Kd.d [] _ :: Kd.ns 1 [_] 3 1 :: Kd.t 0 [1] _ _ :: Kd.p :: []) 1 mixed (by
      refine d_val rfl rfl (r_move (v := .slice p_2.1 l_3.length p_2.2) rfl) ?_
      refine d_val rfl rfl (r_move (v := v0) rfl) ?_
      refine d_val rfl rfl (r_move (v := .int .i64 t20.1) rfl) ?_
      have h_t42 := bnd_val H48
      have H49 := bnd_rest H48
      refine d_val rfl rfl (r_indexF Tryz.underlying22 Tryz.sizeOf52 rfl rfl f0 h_t42) ?_
      refine d_val rfl rfl (r_fieldP Tryz.runUnderlying52 rfl Tryz.sizeOf47 rfl rfl (some_of_at f0 h_t42)) ?_
      refine d_read (fun w hF => run_loadGN (f := e_face_Likeness) (i := t20.1) (sz := 14) (j := 2) (vs := [.int .i64 ((val (gAt a0 t20.1)).Vec 0), .int .i64 ((val (gAt a0 t20.1)).Vec 1), .int .i64 ((val (gAt a0 t20.1)).Vec 2), .int .i64 ((val (gAt a0 t20.1)).Vec 3), .int .i64 ((val (gAt a0 t20.1)).Vec 4), .int .i64 ((val (gAt a0 t20.1)).Vec 5), .int .i64 ((val (gAt a0 t20.1)).Vec 6), .int .i64 ((val (gAt a0 t20.1)).Vec 7), .int .i64 ((val (gAt a0 t20.1)).Vec 8), .int .i64 ((val (gAt a0 t20.1)).Vec 9), .int .i64 ((val (gAt a0 t20.1)).Vec 10), .int .i64 ((val (gAt a0 t20.1)).Vec 11)]) Tryz.isAgg47 Tryz.sizeOf47 rfl rfl (f0.row (hw.now hF)) h_t42 rfl) rfl rfl ?_
      refine d_val rfl rfl (r_move (v := v0) rfl) ?_
      refine d_val rfl rfl (r_move (v := .int .i64 t36.1) rfl) ?_
      have h_t47 := bnd_val H49
      have H50 := bnd_rest H49
      refine d_val rfl rfl (r_indexF Tryz.underlying22 Tryz.sizeOf52 rfl rfl f0 h_t47) ?_
      refine d_val rfl rfl (r_fieldP Tryz.runUnderlying52 rfl Tryz.sizeOf47 rfl rfl (some_of_at f0 h_t47)) ?_
      refine d_read (fun w hF => run_loadGN (f := e_face_Likeness) (i := t36.1) (sz := 14) (j := 2) (vs := [.int .i64 ((val (gAt a0 t36.1)).Vec 0), .int .i64 ((val (gAt a0 t36.1)).Vec 1), .int .i64 ((val (gAt a0 t36.1)).Vec 2), .int .i64 ((val (gAt a0 t36.1)).Vec 3), .int .i64 ((val (gAt a0 t36.1)).Vec 4), .int .i64 ((val (gAt a0 t36.1)).Vec 5), .int .i64 ((val (gAt a0 t36.1)).Vec 6), .int .i64 ((val (gAt a0 t36.1)).Vec 7), .int .i64 ((val (gAt a0 t36.1)).Vec 8), .int .i64 ((val (gAt a0 t36.1)).Vec 9), .int .i64 ((val (gAt a0 t36.1)).Vec 10), .int .i64 ((val (gAt a0 t36.1)).Vec 11)]) Tryz.isAgg47 Tryz.sizeOf47 rfl rfl (f0.row (hw.now hF)) h_t47 rfl) rfl rfl ?_
      have h_t50 := bnd_val H50
      have H51 := bnd_rest H50
      refine d_call (k71 h_t50) Tryz.call71 rfl rfl ?_
      refine d_newS rfl rfl (run_buildSlice (vs := [.int .i64 (val (face_far (val (gAt a0 t20.1)).Vec (val (gAt a0 t36.1)).Vec))]) (cs := [.int .i64 (val (face_far (val (gAt a0 t20.1)).Vec (val (gAt a0 t36.1)).Vec))]) Tryz.underlying24 Tryz.sizeOf3 Tryz.zeroValue3 rfl rfl rfl rfl rfl) rfl (fun b3 => ?_)
      have h_l52 := bnd_val H51
      have H52 := bnd_rest H51
      refine d_turn (Cv := fun v => rowV 3 1 v (val (gApp 8 l_3 ([(val (face_far (val (gAt a0 t20.1)).Vec (val (gAt a0 t36.1)).Vec))] : List Int))).length ((val (gApp 8 l_3 ([(val (face_far (val (gAt a0 t20.1)).Vec (val (gAt a0 t36.1)).Vec))] : List Int))).map e_i64)) (none, 0) (turns_appG (i := 0) (hn := rfl) (rds := [1]) (p := p_2) (sz := 1) (by_ := 8) (f := e_i64) (ys := l_3) (ls := ([(val (face_far (val (gAt a0 t20.1)).Vec (val (gAt a0 t36.1)).Vec))] : List Int)) (V := .slice (some ⟨b3, 0, none⟩) 1 1) Tryz.underlying24 (info_of Tryz.typeInfo3) rfl rfl rfl rfl rfl rfl rfl rfl rfl rfl (fun w L' hF hS hi => row_box (i := 1) hS ((hi 1 (by simp)).trans rfl) rfl rfl) (fun _ => rfl) (fun _ => rfl) h_l52) (fun _ => rfl) rfl rfl (fun p_4 => ?_)
      refine d_val rfl rfl (r_assign (v := .slice p_4.1 (val (gApp 8 l_3 ([(val (face_far (val (gAt a0 t20.1)).Vec (val (gAt a0 t36.1)).Vec))] : List Int))).length p_4.2) rfl) ?_
      refine d_nil ?_
      refine c_close (val (gApp 8 l_3 ([(val (face_far (val (gAt a0 t20.1)).Vec (val (gAt a0 t36.1)).Vec))] : List Int))) p_4 0 [0] (by exact ⟨rfl, rfl, rfl, rfl, rfl, rfl, rfl, trivial⟩) (by decide) rfl (by exact ⟨H52, trivial⟩) (Nat.lt_succ_self _)
      ) (by kernel_rfl)
    ·have H53 := cnd_f hb H46; clear H46
     refine c_skip ?_
     refine c_close l_3 p_2 0 [0] (by exact ⟨rfl, rfl, rfl, rfl, rfl, rfl, rfl, trivial⟩) (by decide) rfl (by exact ⟨H53, trivial⟩) (Nat.lt_succ_self _)
   ·rintro l_4 p_3 gg H44 _
    replace H44 : face_score_j5 x26_2 next4 l_4 = some r := H44
    refine c_tidyF [(0, v0), (2, .int .i64 a2), (7, .int .i64 t20.1), (9, .slice p_3.1 l_4.length p_3.2), (24, v1_2), (25, .int .i64 (a1.Likes.length : Int)), (26, .int .i64 x26_2)] [rowV 3 1 (.slice p_3.1 l_4.length p_3.2) l_4.length (l_4.map e_i64)] rfl rfl ?_
    refine c_region ?_
    obtain ⟨t53, h_t53, H45⟩ := bnd_some H44; clear H44
    refine l_val rfl rfl rfl (r_addG rfl rfl h_t53) ?_
    refine l_val rfl rfl rfl (r_move (v := .int .i64 t53) rfl) ?_
    refine l_nil ?_
    refine c_close (t53, l_4) p_3 m4 [0] (by exact ⟨rfl, rfl, rfl, rfl, rfl, rfl, rfl, trivial⟩) (by decide) rfl (by exact ⟨(by subst hn4; exact H45), trivial⟩) (Nat.lt_succ_self _)
  ·have H54 := cnd_f hb H42; clear H42
   refine c_exit ?_
   refine c_close l_3 p_2 0 [0] (by exact ⟨rfl, trivial⟩) (by decide) rfl (by exact ⟨H54, trivial⟩) (Nat.lt_succ_self _)
 ·rintro l p gg H29 _
  replace H29 : face_score_j1 l = some r := H29
  refine c_tidyF [(9, .slice p.1 l.length p.2)] [rowV 3 1 (.slice p.1 l.length p.2) l.length (l.map e_i64)] rfl rfl ?_
  refine c_seq ?_
  refine c_region ?_
  refine l_val rfl rfl rfl (r_move (v := .slice p.1 l.length p.2) rfl) ?_
  obtain ⟨t55, h_t55, H30⟩ := bnd_some H29; clear H29
  refine l_turn (turns_callB (i := 0) (rds := []) (G := fun x : Unit => .tuple #[]) (C := fun x : Unit => rowV 3 1 (.slice p.1 l.length p.2) l.length (t55.map e_i64)) rfl (fun w L' S hF hS hi hp hlt ho hA => k86 hp hlt (know_but w S) rfl h_t55) Tryz.call86 rfl) rfl rfl rfl (fun _ => ?_)
  refine c_know (fun w hF hS => lenOf (i := 0) hS rfl) (fun hl_ => ?_)
  have hl : l.length = t55.length := by simpa using hl_.symm
  refine l_nil ?_
  refine c_seq ?_
  refine c_region ?_
  refine l_val rfl rfl rfl (r_move (v := .slice p.1 l.length p.2) rfl) ?_
  refine l_val rfl rfl rfl (r_move (v := .slice p.1 l.length p.2) rfl) ?_
  refine l_val rfl rfl rfl (r_lenN Tryz.underlying24 rfl hl) ?_
  refine l_val rfl rfl rfl (r_min rfl rfl) ?_
  obtain ⟨t60, h_t60, H31⟩ := bnd_some H30; clear H30
  refine l_read (v := .slice p.1 t60.length p.2) (fun w hF hS => run_sliceHO0 (xs := t55) Tryz.underlying24 Tryz.sizeOf3 rfl rfl hl (capOf (i := 0) hS rfl) h_t60) rfl rfl rfl ?_
  refine l_val rfl rfl rfl (r_assign (v := .slice p.1 t60.length p.2) rfl) ?_
  refine l_nil ?_
  refine c_seq ?_
  refine c_seq ?_
  refine c_region ?_
  refine l_val rfl rfl rfl (r_move (v := .slice p.1 t60.length p.2) rfl) ?_
  refine l_val rfl rfl rfl (r_len Tryz.underlying24 rfl) ?_
  refine l_val rfl rfl rfl (r_eql rfl rfl) ?_
  refine l_nil ?_
  refine c_if (b := (decide ((t60.length : Int) = 0))) rfl (fun hb => ?_) (fun hb => ?_)
  ·have H32 := cnd_t hb H31; clear H31
   refine c_seq ?_
   refine c_region ?_
   refine l_val rfl rfl rfl (r_assign (v := .int .i64 774192) rfl) ?_
   refine l_nil ?_
   refine c_ret ?_
   obtain rfl := Option.some.inj H32
   refine ret1 (v := .int .i64 774192) rfl rfl (fin rfl)
  ·have H33 := cnd_f hb H31; clear H31
   refine c_skip ?_
   refine c_seq ?_
   refine c_region ?_
   refine l_val rfl rfl rfl (r_assign (v := .int .i64 0) rfl) ?_
   refine l_nil ?_
   refine c_meet (r := r) (σ := Int) (τ := Unit) (fun s => face_score_j2 t60 s) (fun s t => [(9, .slice p.1 t60.length p.2), (14, .int .i64 s)]) (fun s t => [rowV 3 1 (.slice p.1 l.length p.2) l.length (t55.map e_i64)]) (fun s t => True) ?_ ?_
   ·refine c_seq ?_
    refine c_region ?_
    refine l_val rfl rfl rfl (r_move (v := .slice p.1 t60.length p.2) rfl) ?_
    refine l_val rfl rfl rfl (r_len Tryz.underlying24 rfl) ?_
    refine l_val rfl rfl rfl (r_move (v := .int .i64 0) rfl) ?_
    refine l_nil ?_
    refine c_block ?_
    refine c_fix (σ := Int × Int) (τ := Unit) (fun next3 s => face_score_l3 t60 next3 s.1 s.2) (fun s t => [(9, .slice p.1 t60.length p.2), (14, .int .i64 s.1), (64, .slice p.1 t60.length p.2), (65, .int .i64 (t60.length : Int)), (66, .int .i64 s.2)]) (fun s t => [rowV 3 1 (.slice p.1 l.length p.2) l.length (t55.map e_i64)]) (fun s t => True) (0, 0) () [0] H33 (by exact trivial) (by exact ⟨rfl, rfl, rfl, rfl, rfl, trivial⟩) (by decide) rfl ?_
    rintro ⟨x14_3, x66_2⟩ _ m3 gg H36 _
    clear H33
    replace H36 : face_score_l3 t60 (it (fun next3 s => face_score_l3 t60 next3 s.1 s.2) m3) x14_3 x66_2 = some r := H36
    generalize hn3 : it (fun next3 s => face_score_l3 t60 next3 s.1 s.2) m3 = next3 at H36
    refine c_tidyF [(9, .slice p.1 t60.length p.2), (14, .int .i64 x14_3), (64, .slice p.1 t60.length p.2), (65, .int .i64 (t60.length : Int)), (66, .int .i64 x66_2)] [rowV 3 1 (.slice p.1 l.length p.2) l.length (t55.map e_i64)] rfl rfl ?_
    refine c_seq ?_
    refine c_region ?_
    refine l_val rfl rfl rfl (r_lss rfl rfl) ?_
    refine l_nil ?_
    refine c_seq ?_
    refine c_if (b := (decide (x66_2 < (t60.length : Int)))) rfl (fun hb => ?_) (fun hb => ?_)
    ·have H37 := cnd_t hb H36; clear H36
     refine c_skip ?_
     refine c_seq ?_
     refine c_block ?_
     refine c_seq ?_
     refine c_region ?_
     obtain ⟨t68, h_t68, H38⟩ := bnd_some H37; clear H37
     refine l_read (fun w hF hS => run_indexO Tryz.underlying24 Tryz.sizeOf3 rfl rfl (Row.cut0G (rowOf (i := 0) hS rfl) hl (capOf (i := 0) hS rfl) h_t60) rfl h_t68) rfl rfl rfl ?_
     refine l_read (fun w hF hS => run_loadG1 (f := e_i64) (i := x66_2) (sz := 1) (j := 0) (v := .int .i64 t68) Tryz.isAgg3 rfl rfl (Row.cut0G (rowOf (i := 0) hS rfl) hl (capOf (i := 0) hS rfl) h_t60) h_t68 rfl) rfl rfl rfl ?_
     refine l_val rfl rfl rfl (r_assign (v := .int .i64 t68) rfl) ?_
     refine l_nil ?_
     refine c_region ?_
     refine l_val rfl rfl rfl (r_move (v := .int .i64 x14_3) rfl) ?_
     refine l_val rfl rfl rfl (r_move (v := .int .i64 t68) rfl) ?_
     obtain ⟨t72, h_t72, H39⟩ := bnd_some H38; clear H38
     refine l_val rfl rfl rfl (r_addG rfl rfl h_t72) ?_
     refine l_val rfl rfl rfl (r_assign (v := .int .i64 t72) rfl) ?_
     refine l_nil ?_
     refine c_region ?_
     obtain ⟨t73, h_t73, H40⟩ := bnd_some H39; clear H39
     refine l_val rfl rfl rfl (r_addG rfl rfl h_t73) ?_
     refine l_val rfl rfl rfl (r_move (v := .int .i64 t73) rfl) ?_
     refine l_nil ?_
     refine c_close (t72, t73) () m3 [0] (by exact ⟨rfl, rfl, rfl, rfl, rfl, trivial⟩) (by decide) rfl (by exact ⟨(by subst hn3; exact H40), trivial⟩) (Nat.lt_succ_self _)
    ·have H41 := cnd_f hb H36; clear H36
     refine c_exit ?_
     refine c_close x14_3 () 0 [0] (by exact ⟨rfl, rfl, trivial⟩) (by decide) rfl (by exact ⟨H41, trivial⟩) (Nat.lt_succ_self _)
   ·rintro x14 _ gg H34 _
    replace H34 : face_score_j2 t60 x14 = some r := H34
    refine c_tidyF [(9, .slice p.1 t60.length p.2), (14, .int .i64 x14)] [rowV 3 1 (.slice p.1 l.length p.2) l.length (t55.map e_i64)] rfl rfl ?_
    refine c_seq ?_
    refine c_region ?_
    refine l_val rfl rfl rfl (r_move (v := .int .i64 x14) rfl) ?_
    refine l_val rfl rfl rfl (r_move (v := .slice p.1 t60.length p.2) rfl) ?_
    refine l_val rfl rfl rfl (r_len Tryz.underlying24 rfl) ?_
    obtain ⟨t77, h_t77, H35⟩ := bnd_some H34; clear H34
    refine l_val rfl rfl rfl (r_quoG rfl rfl h_t77) ?_
    refine l_val rfl rfl rfl (r_assign (v := .int .i64 t77) rfl) ?_
    refine l_nil ?_
    refine c_ret ?_
    obtain rfl := Option.some.inj H35
    refine ret1 (v := .int .i64 t77) rfl rfl (fin rfl)
theorem k76 {a0 : (List T_face_Match)} {p0 : Option Addr × Nat} {n0 : Nat} {r : (List T_face_Match)} {w : World} {h : Heap} {S : Nat → Prop} (hcs : (rowV 56 2 (.slice p0.1 n0 p0.2) n0 (a0.map e_face_Match)).P S w) (hlt : ∀ b, S b → b < w.heap.size) (_ : Know h w S) (hn0 : n0 = a0.length) (H : gSortF a0 face_matches_1 = some r) : Does Tryz.prog 76 (List.toArray [.slice p0.1 n0 p0.2, .func (.func 77) #[] #[]]) w (fun v w' => ∃ x : Unit, v = (.tuple #[]) ∧ Turn w w' S (rowV 56 2 (.slice p0.1 n0 p0.2) n0 (r.map e_face_Match))) :=
  sort_func (ρ := Go.Proofs.Tryz.sortF52_ren) Go.Proofs.Tryz.sortF52 (k := 2) (fun w => Tryz.isAgg56 w) (fun w => Tryz.sizeOf56 w) e_face_Match (fun _ => rfl) (fun x v hv => by simp [e_face_Match] at hv; rcases hv with rfl | rfl <;> rfl) Go.Proofs.Tryz.enters53 (fun x y v W hv => Go.Proofs.Tryz.cmpM x y v W hv) hcs hlt hn0 H

theorem k30 {a0 : (List Int)} {v0 : Value} {r : Int} {w : World} {h : Heap} (hw : Know h w noS) (f0 : FrS h 1 v0 (a0.map e_i64)) (H : cmp_Or_int a0 = some r) : Does Tryz.prog 30 (List.toArray [v0]) w (fun v w' => v = (.int .i64 r) ∧ Grow w w') := by
 refine enter (n := 18) Tryz.func30 rfl rfl rfl noS [] (Sat.nil _ _) ?_
 refine c_seq ?_
 refine c_region ?_
 refine l_val rfl rfl rfl (r_assign (v := .int .i64 0) rfl) ?_
 refine l_nil ?_
 refine c_seq ?_
 refine c_region ?_
 refine l_val rfl rfl rfl (r_assign (v := .int .i64 0) rfl) ?_
 refine l_nil ?_
 refine c_seq ?_
 refine c_seq ?_
 refine c_region ?_
 refine l_val rfl rfl rfl (r_move (v := v0) rfl) ?_
 refine l_val rfl rfl rfl (r_lenF Tryz.underlying24 rfl f0 rfl) ?_
 refine l_val rfl rfl rfl (r_move (v := .int .i64 0) rfl) ?_
 refine l_nil ?_
 refine c_block ?_
 refine c_fix (σ := Int) (τ := Unit) (fun next1 s => cmp_Or_int_l1 a0 next1 s) (fun s t => [(3, .int .i64 0), (6, v0), (7, .int .i64 (a0.length : Int)), (8, .int .i64 s)]) (fun s t => []) (fun s t => True) 0 () [] H (by exact trivial) (by exact ⟨rfl, rfl, rfl, rfl, trivial⟩) (by decide) rfl ?_
 rintro x8_2 _ m1 gg H8 _
 clear H
 replace H8 : cmp_Or_int_l1 a0 (it (fun next1 s => cmp_Or_int_l1 a0 next1 s) m1) x8_2 = some r := H8
 generalize hn1 : it (fun next1 s => cmp_Or_int_l1 a0 next1 s) m1 = next1 at H8
 refine c_tidyF [(3, .int .i64 0), (6, v0), (7, .int .i64 (a0.length : Int)), (8, .int .i64 x8_2)] [] rfl rfl ?_
 refine c_seq ?_
 refine c_region ?_
 refine l_val rfl rfl rfl (r_lss rfl rfl) ?_
 refine l_nil ?_
 refine c_seq ?_
 refine c_if (b := (decide (x8_2 < (a0.length : Int)))) rfl (fun hb => ?_) (fun hb => ?_)
 ·have H9 := cnd_t hb H8; clear H8
  refine c_skip ?_
  refine c_seq ?_
  refine c_block ?_
  refine c_seq ?_
  refine c_region ?_
  obtain ⟨t10, h_t10, H10⟩ := bnd_some H9; clear H9
  refine l_val rfl rfl rfl (r_indexF Tryz.underlying24 Tryz.sizeOf3 rfl rfl f0 h_t10) ?_
  refine l_read (fun w hF hS => run_loadG1 (f := e_i64) (i := x8_2) (sz := 1) (j := 0) (v := .int .i64 t10) Tryz.isAgg3 rfl rfl (f0.row (hw.now hF)) h_t10 rfl) rfl rfl rfl ?_
  refine l_val rfl rfl rfl (r_assign (v := .int .i64 t10) rfl) ?_
  refine l_nil ?_
  refine c_seq ?_
  refine c_region ?_
  refine l_val rfl rfl rfl (r_move (v := .int .i64 t10) rfl) ?_
  refine l_val rfl rfl rfl (r_move (v := .int .i64 0) rfl) ?_
  refine l_val rfl rfl rfl (r_neq rfl rfl) ?_
  refine l_nil ?_
  refine c_if (b := (decide (t10 ≠ 0))) rfl (fun hb => ?_) (fun hb => ?_)
  ·have H11 := cnd_t hb H10; clear H10
   refine c_seq ?_
   refine c_region ?_
   refine l_val rfl rfl rfl (r_move (v := .int .i64 t10) rfl) ?_
   refine l_val rfl rfl rfl (r_assign (v := .int .i64 t10) rfl) ?_
   refine l_nil ?_
   refine c_ret ?_
   obtain rfl := Option.some.inj H11
   refine ret1 (v := .int .i64 t10) rfl rfl (fin rfl)
  ·have H12 := cnd_f hb H10; clear H10
   refine c_skip ?_
   refine c_region ?_
   obtain ⟨t16, h_t16, H13⟩ := bnd_some H12; clear H12
   refine l_val rfl rfl rfl (r_addG rfl rfl h_t16) ?_
   refine l_val rfl rfl rfl (r_move (v := .int .i64 t16) rfl) ?_
   refine l_nil ?_
   refine c_close t16 () m1 [] (by exact ⟨rfl, rfl, rfl, rfl, trivial⟩) (by decide) rfl (by exact ⟨(by subst hn1; exact H13), trivial⟩) (Nat.lt_succ_self _)
 ·have H14 := cnd_f hb H8; clear H8
  refine c_exit ?_
  refine c_seq ?_
  refine c_region ?_
  refine l_val rfl rfl rfl (r_move (v := .int .i64 0) rfl) ?_
  refine l_val rfl rfl rfl (r_assign (v := .int .i64 0) rfl) ?_
  refine l_nil ?_
  refine c_ret ?_
  obtain rfl := Option.some.inj H14
  refine ret1 (v := .int .i64 0) rfl rfl (fin rfl)
theorem k77 {a0 : T_face_Match} {a1 : T_face_Match} {r : Int} (H : face_matches_1 a0 a1 = some r) : Ret Tryz.prog 77 [.agg #[.int .i64 a0.Person, .int .i64 a0.Far], .agg #[.int .i64 a1.Person, .int .i64 a1.Far]] (.int .i64 r) := by
 refine enterRet (n := 17) Tryz.func77 rfl rfl rfl (fun wd => ?_)
 refine c_seq ?_
 refine c_region ?_
 refine l_box (cs := [.int .i64 a0.Person, .int .i64 a0.Far]) rfl rfl rfl rfl (fun b3 => ?_)
 refine l_box (cs := [.int .i64 a1.Person, .int .i64 a1.Far]) rfl rfl rfl rfl (fun b4 => ?_)
 refine l_val rfl rfl rfl (r_assign (v := .int .i64 0) rfl) ?_
 refine l_nil ?_
 refine c_seq ?_
 exact c_regionD (Kd.p :: Kd.d [0] _ :: Kd.p :: Kd.d [1] _ :: Kd.d [] _ :: Kd.p :: Kd.d [0] _ :: Kd.p :: Kd.d [1] _ :: Kd.d [] _ :: Kd.ns 2 [_, _] 3 2 :: Kd.d [2] _ :: Kd.p :: []) 1 mixed (by
  refine d_val rfl rfl (r_field Tryz.runUnderlying56 rfl Tryz.sizeOf3 rfl rfl) ?_
  refine d_load1 (i := 0) (v := .int .i64 a0.Far) Tryz.isAgg3 rfl rfl rfl rfl ?_
  refine d_val rfl rfl (r_field Tryz.runUnderlying56 rfl Tryz.sizeOf3 rfl rfl) ?_
  refine d_load1 (i := 1) (v := .int .i64 a1.Far) Tryz.isAgg3 rfl rfl rfl rfl ?_
  have h_t9 := bnd_val H
  have H4 := bnd_rest H
  refine d_call (k31 h_t9) Tryz.call31 rfl rfl ?_
  refine d_val rfl rfl (r_field Tryz.runUnderlying56 rfl Tryz.sizeOf3 rfl rfl) ?_
  refine d_load1 (i := 0) (v := .int .i64 a0.Person) Tryz.isAgg3 rfl rfl rfl rfl ?_
  refine d_val rfl rfl (r_field Tryz.runUnderlying56 rfl Tryz.sizeOf3 rfl rfl) ?_
  refine d_load1 (i := 1) (v := .int .i64 a1.Person) Tryz.isAgg3 rfl rfl rfl rfl ?_
  have h_t14 := bnd_val H4
  have H5 := bnd_rest H4
  refine d_call (k31 h_t14) Tryz.call31 rfl rfl ?_
  refine d_newS rfl rfl (run_buildSlice (vs := [.int .i64 (val (cmp_Compare_int a0.Far a1.Far)), .int .i64 (val (cmp_Compare_int a0.Person a1.Person))]) (cs := [.int .i64 (val (cmp_Compare_int a0.Far a1.Far)), .int .i64 (val (cmp_Compare_int a0.Person a1.Person))]) Tryz.underlying24 Tryz.sizeOf3 Tryz.zeroValue3 rfl rfl rfl rfl rfl) rfl (fun b5 => ?_)
  have h_t16 := bnd_val H5
  have H6 := bnd_rest H5
  refine d_callD (fun w L' hF hS hi => k30 (know_all w) (frs_box (i := 2) (xs := ([(val (cmp_Compare_int a0.Far a1.Far)), (val (cmp_Compare_int a0.Person a1.Person))] : List Int)) (f := e_i64) hS ((hi 2 (by simp)).trans rfl) rfl rfl rfl rfl) h_t16) Tryz.call30 rfl rfl ?_
  refine d_val rfl rfl (r_assign (v := .int .i64 (val (cmp_Or_int ([(val (cmp_Compare_int a0.Far a1.Far)), (val (cmp_Compare_int a0.Person a1.Person))] : List Int)))) rfl) ?_
  refine d_nil ?_
  refine c_ret ?_
  obtain rfl := Option.some.inj H6
  refine ret1 (v := .int .i64 (val (cmp_Or_int ([(val (cmp_Compare_int a0.Far a1.Far)), (val (cmp_Compare_int a0.Person a1.Person))] : List Int)))) rfl rfl (fin rfl)
  ) (by kernel_rfl)
theorem k27 {a0 : (List T_face_Likeness)} {v0 : Value} {a1 : (List T_face_Person)} {v1 : Value} {a2 : Int} {r : (List T_face_Match)} {w : World} {h : Heap} (hw : Know h w noS) (f0 : FrS h 14 v0 (a0.map e_face_Likeness)) (f1 : FrN h 4 v1 g_face_Person a1) (H : face_matches a0 a1 a2 = some r) : Does Tryz.prog 27 (List.toArray [v0, v1, .int .i64 a2]) w (fun v w' => ∃ x : (Option Addr × Nat), v = (.slice x.1 r.length x.2) ∧ Turn w w' noS (rowV 56 2 (.slice x.1 r.length x.2) r.length (r.map e_face_Match))) := by
 refine enter (n := 48) Tryz.func27 rfl rfl rfl noS [] (Sat.nil _ _) ?_
 refine c_seq ?_
 refine c_region ?_
 refine l_val rfl rfl rfl (r_assign (v := .slice none 0 0) rfl) ?_
 refine l_nil ?_
 refine c_seq ?_
 refine c_region ?_
 refine l_val rfl rfl rfl (r_assign (v := .slice none 0 0) rfl) ?_
 refine l_nil ?_
 refine c_meet (r := r) (σ := (List T_face_Match)) (τ := (Option Addr × Nat)) (fun s => face_matches_j1 s) (fun s t => [(7, .slice t.1 s.length t.2)]) (fun s t => [rowV 56 2 (.slice t.1 s.length t.2) s.length (s.map e_face_Match)]) (fun s t => True) ?_ ?_
 ·refine c_seq ?_
  refine c_region ?_
  refine l_val rfl rfl rfl (r_move (v := v1) rfl) ?_
  refine l_val rfl rfl rfl (r_lenFN Tryz.underlying23 rfl f1) ?_
  refine l_val rfl rfl rfl (r_move (v := .int .i64 0) rfl) ?_
  refine l_nil ?_
  refine c_block ?_
  refine c_nilRow 56 2 ?_
  refine c_fix (σ := Int × (List T_face_Match)) (τ := (Option Addr × Nat)) (fun next2 s => face_matches_l2 a0 a1 a2 next2 s.1 s.2) (fun s t => [(0, v0), (2, .int .i64 a2), (7, .slice t.1 s.2.length t.2), (10, v1), (11, .int .i64 (a1.length : Int)), (12, .int .i64 s.1)]) (fun s t => [rowV 56 2 (.slice t.1 s.2.length t.2) s.2.length (s.2.map e_face_Match)]) (fun s t => True) (0, ([] : List T_face_Match)) ((none, 0) : Option Addr × Nat) [0] H (by exact trivial) (by exact ⟨rfl, rfl, rfl, rfl, rfl, rfl, trivial⟩) (by decide) rfl ?_
  rintro ⟨x12_2, l_3⟩ p_2 m2 gg H21 _
  clear H
  replace H21 : face_matches_l2 a0 a1 a2 (it (fun next2 s => face_matches_l2 a0 a1 a2 next2 s.1 s.2) m2) x12_2 l_3 = some r := H21
  generalize hn2 : it (fun next2 s => face_matches_l2 a0 a1 a2 next2 s.1 s.2) m2 = next2 at H21
  refine c_tidyF [(0, v0), (2, .int .i64 a2), (7, .slice p_2.1 l_3.length p_2.2), (10, v1), (11, .int .i64 (a1.length : Int)), (12, .int .i64 x12_2)] [rowV 56 2 (.slice p_2.1 l_3.length p_2.2) l_3.length (l_3.map e_face_Match)] rfl rfl ?_
  refine c_seq ?_
  refine c_region ?_
  refine l_val rfl rfl rfl (r_lss rfl rfl) ?_
  refine l_nil ?_
  refine c_seq ?_
  refine c_if (b := (decide (x12_2 < (a1.length : Int)))) rfl (fun hb => ?_) (fun hb => ?_)
  ·have H22 := cnd_t hb H21; clear H21
   refine c_skip ?_
   refine c_meet (r := r) (σ := (List T_face_Match)) (τ := (Option Addr × Nat)) (fun s => face_matches_j3 x12_2 next2 s) (fun s t => [(0, v0), (2, .int .i64 a2), (7, .slice t.1 s.length t.2), (10, v1), (11, .int .i64 (a1.length : Int)), (12, .int .i64 x12_2)]) (fun s t => [rowV 56 2 (.slice t.1 s.length t.2) s.length (s.map e_face_Match)]) (fun s t => True) ?_ ?_
   ·refine c_block ?_
    refine c_seq ?_
    refine c_region ?_
    obtain ⟨t14, h_t14, H25⟩ := bnd_some H22; clear H22
    refine l_val rfl rfl rfl (r_indexF Tryz.underlying23 Tryz.sizeOf32 rfl rfl f1.frs (f1.ix h_t14)) ?_
    refine l_read (fun w hF hS => run_loadGN (f := (elC h v1 4)) (i := x12_2) (sz := 4) (j := 0) (vs := [.int .i64 t14.Id, str t14.Name, (elH h v1 4 (Int.toNat x12_2) 2), (elH h v1 4 (Int.toNat x12_2) 3)]) Tryz.isAgg32 Tryz.sizeOf32 rfl rfl (f1.frs.row (hw.now hF)) (f1.ix h_t14) (rd_of (cg_face_Person (f1.at h_t14)) rfl)) rfl rfl rfl ?_
    refine l_alloc (cs := [.int .i64 0, str [], .slice none 0 0, .slice none 0 0]) Tryz.zeroValue32 rfl rfl rfl (fun b2 => ?_)
    refine l_store (i := 1) (vs := [.int .i64 t14.Id, str t14.Name, (elH h v1 4 (Int.toNat x12_2) 2), (elH h v1 4 (Int.toNat x12_2) 3)]) (cs' := [.int .i64 t14.Id, str t14.Name, (elH h v1 4 (Int.toNat x12_2) 2), (elH h v1 4 (Int.toNat x12_2) 3)]) Tryz.sizeOf32 rfl rfl rfl rfl rfl rfl (by simp only [List.all_cons, List.all_nil, (show FrS h 1 (elH h v1 4 (Int.toNat x12_2) 2) (t14.Likes.map e_i64) from (g_face_Person_p2 (f1.at h_t14))).one, (show FrS h 1 (elH h v1 4 (Int.toNat x12_2) 3) (t14.Nots.map e_i64) from (g_face_Person_p3 (f1.at h_t14))).one] <;> rfl) rfl rfl ?_
    refine l_nil ?_
    refine c_seq ?_
    refine c_region ?_
    refine l_val rfl rfl rfl (r_field Tryz.runUnderlying32 rfl Tryz.sizeOf24 rfl rfl) ?_
    refine l_load1 (i := 1) (v := (elH h v1 4 (Int.toNat x12_2) 2)) Tryz.isAgg24 rfl rfl rfl rfl rfl ?_
    refine l_val rfl rfl rfl (r_lenF Tryz.underlying24 rfl (show FrS h 1 (elH h v1 4 (Int.toNat x12_2) 2) (t14.Likes.map e_i64) from (g_face_Person_p2 (f1.at h_t14))) rfl) ?_
    refine l_val rfl rfl rfl (r_gtr rfl rfl) ?_
    refine l_val rfl rfl rfl (r_move (v := .bool (decide (0 < (t14.Likes.length : Int)))) rfl) ?_
    refine split (fun hb => ?_) (fun hb => ?_)
    ·have H26 := cnd_t hb H25; clear H25
     refine l_val rfl rfl rfl (r_field Tryz.runUnderlying32 rfl Tryz.sizeOf24 rfl rfl) ?_
     refine l_load1 (i := 1) (v := (elH h v1 4 (Int.toNat x12_2) 3)) Tryz.isAgg24 rfl rfl rfl rfl rfl ?_
     refine l_val rfl rfl rfl (r_move (v := .int .i64 a2) rfl) ?_
     obtain ⟨t24, h_t24, H27⟩ := bnd_some H26; clear H26
     refine l_callG (fun w hF hS => k55 (know_all w) ((show FrS h 1 (elH h v1 4 (Int.toNat x12_2) 3) (t14.Nots.map e_i64) from (g_face_Person_p3 (f1.at h_t14))).mono (hw.now hF)) h_t24) Tryz.call55 rfl rfl rfl ?_
     refine l_val rfl rfl rfl (r_not rfl) ?_
     refine l_val rfl rfl rfl (r_pickT (v := .bool (!t24)) rfl rfl) ?_
     refine l_val rfl rfl rfl (r_move (v := .bool (!t24)) rfl) ?_
     refine split (fun hb => ?_) (fun hb => ?_)
     ·have H28 := cnd_t hb H27; clear H27
      refine l_val rfl rfl rfl (r_move (v := v0) rfl) ?_
      refine l_loadN (i := 1) (vs := [.int .i64 t14.Id, str t14.Name, (elH h v1 4 (Int.toNat x12_2) 2), (elH h v1 4 (Int.toNat x12_2) 3)]) Tryz.isAgg32 Tryz.sizeOf32 rfl rfl rfl rfl rfl ?_
      refine l_val rfl rfl rfl (r_move (v := .int .i64 a2) rfl) ?_
      obtain ⟨t31, h_t31, H29⟩ := bnd_some H28; clear H28
      refine l_callG (fun w hF hS => k35 (know_all w) (f0.mono (hw.now hF)) ((show FrS h 1 (elH h v1 4 (Int.toNat x12_2) 2) (t14.Likes.map e_i64) from (g_face_Person_p2 (f1.at h_t14))).mono (hw.now hF)) ((show FrS h 1 (elH h v1 4 (Int.toNat x12_2) 3) (t14.Nots.map e_i64) from (g_face_Person_p3 (f1.at h_t14))).mono (hw.now hF)) h_t31) Tryz.call35 rfl rfl rfl ?_
      refine l_val rfl rfl rfl (r_not rfl) ?_
      refine l_val rfl rfl rfl (r_pickT (v := .bool (!t31)) rfl rfl) ?_
      refine l_nil ?_
      refine c_if (b := (!t31)) rfl (fun hb => ?_) (fun hb => ?_)
      ·have H30 := cnd_t hb H29; clear H29
       exact c_regionD (Kd.p :: Kd.p :: Kd.d [1] _ :: Kd.p :: Kd.d [1] _ :: Kd.p :: Kd.d [] _ :: Kd.p :: Kd.ns 2 [_, _] 56 1 :: Kd.t 0 [2] _ _ :: Kd.p :: []) 1 mixed (by
        refine d_val rfl rfl (r_move (v := .slice p_2.1 l_3.length p_2.2) rfl) ?_
        refine d_val rfl rfl (r_field Tryz.runUnderlying32 rfl Tryz.sizeOf3 rfl rfl) ?_
        refine d_load1 (i := 1) (v := .int .i64 t14.Id) Tryz.isAgg3 rfl rfl rfl rfl ?_
        refine d_val rfl rfl (r_move (v := v0) rfl) ?_
        refine d_loadN (i := 1) (vs := [.int .i64 t14.Id, str t14.Name, (elH h v1 4 (Int.toNat x12_2) 2), (elH h v1 4 (Int.toNat x12_2) 3)]) Tryz.isAgg32 Tryz.sizeOf32 rfl rfl rfl rfl ?_
        refine d_val rfl rfl (r_move (v := .int .i64 a2) rfl) ?_
        have h_t40 := bnd_val H30
        have H31 := bnd_rest H30
        refine d_callD (fun w L' hF hS hi => k75 (know_all w) (f0.mono (hw.now hF)) ((show FrS h 1 (elH h v1 4 (Int.toNat x12_2) 2) (t14.Likes.map e_i64) from (g_face_Person_p2 (f1.at h_t14))).mono (hw.now hF)) ((show FrS h 1 (elH h v1 4 (Int.toNat x12_2) 3) (t14.Nots.map e_i64) from (g_face_Person_p3 (f1.at h_t14))).mono (hw.now hF)) h_t40) Tryz.call75 rfl rfl ?_
        refine d_val rfl rfl (r_build (pl := #[(0, 1), (1, 1)]) (ps := [(0, .int .i64 t14.Id), (1, .int .i64 (val (face_score a0 t14 a2)))]) (cells := #[.int .i64 t14.Id, .int .i64 (val (face_score a0 t14 a2))]) Tryz.zeroValue56 Tryz.runUnderlying56 (fun w => by kernel_rfl) rfl rfl) ?_
        refine d_newS rfl rfl (run_buildSlice (vs := [.agg #[.int .i64 t14.Id, .int .i64 (val (face_score a0 t14 a2))]]) (cs := [.int .i64 t14.Id, .int .i64 (val (face_score a0 t14 a2))]) Tryz.underlying53 Tryz.sizeOf56 Tryz.zeroValue56 rfl rfl rfl rfl rfl) rfl (fun b3 => ?_)
        have h_l43 := bnd_val H31
        have H32 := bnd_rest H31
        refine d_turn (Cv := fun v => rowV 56 2 v (val (gApp 16 l_3 ([(⟨t14.Id, (val (face_score a0 t14 a2))⟩ : T_face_Match)] : List T_face_Match))).length ((val (gApp 16 l_3 ([(⟨t14.Id, (val (face_score a0 t14 a2))⟩ : T_face_Match)] : List T_face_Match))).map e_face_Match)) (none, 0) (turns_appG (i := 0) (hn := rfl) (rds := [2]) (p := p_2) (sz := 2) (by_ := 16) (f := e_face_Match) (ys := l_3) (ls := ([(⟨t14.Id, (val (face_score a0 t14 a2))⟩ : T_face_Match)] : List T_face_Match)) (V := .slice (some ⟨b3, 0, none⟩) 1 1) Tryz.underlying53 (info_of Tryz.typeInfo56) rfl rfl rfl rfl rfl rfl rfl rfl rfl rfl (fun w L' hF hS hi => row_box (i := 2) hS ((hi 2 (by simp)).trans rfl) rfl rfl) (fun _ => rfl) (fun _ => rfl) h_l43) (fun _ => rfl) rfl rfl (fun p_4 => ?_)
        refine d_val rfl rfl (r_assign (v := .slice p_4.1 (val (gApp 16 l_3 ([(⟨t14.Id, (val (face_score a0 t14 a2))⟩ : T_face_Match)] : List T_face_Match))).length p_4.2) rfl) ?_
        refine d_nil ?_
        refine c_close (val (gApp 16 l_3 ([(⟨t14.Id, (val (face_score a0 t14 a2))⟩ : T_face_Match)] : List T_face_Match))) p_4 0 [0] (by exact ⟨rfl, rfl, rfl, rfl, rfl, rfl, trivial⟩) (by decide) rfl (by exact ⟨H32, trivial⟩) (Nat.lt_succ_self _)
        ) (by kernel_rfl)
      ·have H33 := cnd_f hb H29; clear H29
       refine c_skip ?_
       refine c_close l_3 p_2 0 [0] (by exact ⟨rfl, rfl, rfl, rfl, rfl, rfl, trivial⟩) (by decide) rfl (by exact ⟨H33, trivial⟩) (Nat.lt_succ_self _)
     ·have H34 := cnd_f hb H27; clear H27
      refine l_passed rfl rfl rfl ?_
      refine l_passed rfl rfl rfl ?_
      refine l_passed rfl rfl rfl ?_
      refine l_passed rfl rfl rfl ?_
      refine l_passed rfl rfl rfl ?_
      refine l_val rfl rfl rfl (r_pickF (v := .bool false) rfl rfl) ?_
      refine l_nil ?_
      refine c_false rfl ?_
      refine c_skip ?_
      refine c_close l_3 p_2 0 [0] (by exact ⟨rfl, rfl, rfl, rfl, rfl, rfl, trivial⟩) (by decide) rfl (by exact ⟨H34, trivial⟩) (Nat.lt_succ_self _)
    ·have H35 := cnd_f hb H25; clear H25
     refine l_passed rfl rfl rfl ?_
     refine l_passed rfl rfl rfl ?_
     refine l_passed rfl rfl rfl ?_
     refine l_passed rfl rfl rfl ?_
     refine l_passed rfl rfl rfl ?_
     refine l_val rfl rfl rfl (r_pickF (v := .bool false) rfl rfl) ?_
     refine l_val rfl rfl rfl (r_move (v := .bool false) rfl) ?_
     refine l_passed rfl rfl rfl ?_
     refine l_passed rfl rfl rfl ?_
     refine l_passed rfl rfl rfl ?_
     refine l_passed rfl rfl rfl ?_
     refine l_passed rfl rfl rfl ?_
     refine l_val rfl rfl rfl (r_pickF (v := .bool false) rfl rfl) ?_
     refine l_nil ?_
     refine c_false rfl ?_
     refine c_skip ?_
     refine c_close l_3 p_2 0 [0] (by exact ⟨rfl, rfl, rfl, rfl, rfl, rfl, trivial⟩) (by decide) rfl (by exact ⟨H35, trivial⟩) (Nat.lt_succ_self _)
   ·rintro l_4 p_3 gg H23 _
    replace H23 : face_matches_j3 x12_2 next2 l_4 = some r := H23
    refine c_tidyF [(0, v0), (2, .int .i64 a2), (7, .slice p_3.1 l_4.length p_3.2), (10, v1), (11, .int .i64 (a1.length : Int)), (12, .int .i64 x12_2)] [rowV 56 2 (.slice p_3.1 l_4.length p_3.2) l_4.length (l_4.map e_face_Match)] rfl rfl ?_
    refine c_region ?_
    obtain ⟨t44, h_t44, H24⟩ := bnd_some H23; clear H23
    refine l_val rfl rfl rfl (r_addG rfl rfl h_t44) ?_
    refine l_val rfl rfl rfl (r_move (v := .int .i64 t44) rfl) ?_
    refine l_nil ?_
    refine c_close (t44, l_4) p_3 m2 [0] (by exact ⟨rfl, rfl, rfl, rfl, rfl, rfl, trivial⟩) (by decide) rfl (by exact ⟨(by subst hn2; exact H24), trivial⟩) (Nat.lt_succ_self _)
  ·have H36 := cnd_f hb H21; clear H21
   refine c_exit ?_
   refine c_close l_3 p_2 0 [0] (by exact ⟨rfl, trivial⟩) (by decide) rfl (by exact ⟨H36, trivial⟩) (Nat.lt_succ_self _)
 ·rintro l p gg H19 _
  replace H19 : face_matches_j1 l = some r := H19
  refine c_tidyF [(7, .slice p.1 l.length p.2)] [rowV 56 2 (.slice p.1 l.length p.2) l.length (l.map e_face_Match)] rfl rfl ?_
  refine c_seq ?_
  refine c_region ?_
  refine l_val rfl rfl rfl (r_move (v := .slice p.1 l.length p.2) rfl) ?_
  obtain ⟨t46, h_t46, H20⟩ := bnd_some H19; clear H19
  refine l_turn (turns_callB (i := 0) (rds := []) (G := fun x : Unit => .tuple #[]) (C := fun x : Unit => rowV 56 2 (.slice p.1 l.length p.2) l.length (t46.map e_face_Match)) rfl (fun w L' S hF hS hi hp hlt ho hA => k76 hp hlt (know_but w S) rfl h_t46) Tryz.call76 rfl) rfl rfl rfl (fun _ => ?_)
  refine c_know (fun w hF hS => lenOf (i := 0) hS rfl) (fun hl_ => ?_)
  have hl : l.length = t46.length := by simpa using hl_.symm
  refine l_nil ?_
  refine c_seq ?_
  refine c_region ?_
  refine l_val rfl rfl rfl (r_move (v := .slice p.1 l.length p.2) rfl) ?_
  refine l_val rfl rfl rfl (r_assign (v := .slice p.1 l.length p.2) rfl) ?_
  refine l_nil ?_
  refine c_ret ?_
  obtain rfl := Option.some.inj H20
  refine ret1 (v := .slice p.1 l.length p.2) rfl rfl (finX p (i := 0) rfl (by first | rfl | rw [(show l.length = t46.length from hl)]) (by first | exact Imp.refl _ | exact Imp.of (by rw [(show l.length = t46.length from hl)])))
theorem k28 {a0 : (List T_face_offer)} {p0 : Option Addr × Nat} {n0 : Nat} {r : (List T_face_offer)} {w : World} {h : Heap} {S : Nat → Prop} (hcs : (rowV 58 3 (.slice p0.1 n0 p0.2) n0 (a0.map e_face_offer)).P S w) (hlt : ∀ b, S b → b < w.heap.size) (_ : Know h w S) (hn0 : n0 = a0.length) (H : gSortF a0 face_Sort_1 = some r) : Does Tryz.prog 28 (List.toArray [.slice p0.1 n0 p0.2, .func (.func 29) #[] #[]]) w (fun v w' => ∃ x : Unit, v = (.tuple #[]) ∧ Turn w w' S (rowV 58 3 (.slice p0.1 n0 p0.2) n0 (r.map e_face_offer))) :=
  sort_func (ρ := Go.Proofs.Tryz.sortFO_ren) Go.Proofs.Tryz.sortFO (k := 3) (fun w => Tryz.isAgg58 w) (fun w => Tryz.sizeOf58 w) e_face_offer (fun _ => rfl) (fun x v hv => by simp [e_face_offer] at hv; rcases hv with rfl | rfl | rfl <;> rfl) Go.Proofs.Tryz.entersO (fun x y v W hv => Go.Proofs.Tryz.cmpO x y v W hv) hcs hlt hn0 H

theorem k29 {a0 : T_face_offer} {a1 : T_face_offer} {r : Int} (H : face_Sort_1 a0 a1 = some r) : Ret Tryz.prog 29 [.agg #[.int .i64 a0.id_, .int .i64 a0.person_, .int .i64 a0.far_], .agg #[.int .i64 a1.id_, .int .i64 a1.person_, .int .i64 a1.far_]] (.int .i64 r) := by
 refine enterRet (n := 22) Tryz.func29 rfl rfl rfl (fun wd => ?_)
 refine c_seq ?_
 refine c_region ?_
 refine l_box (cs := [.int .i64 a0.id_, .int .i64 a0.person_, .int .i64 a0.far_]) rfl rfl rfl rfl (fun b3 => ?_)
 refine l_box (cs := [.int .i64 a1.id_, .int .i64 a1.person_, .int .i64 a1.far_]) rfl rfl rfl rfl (fun b4 => ?_)
 refine l_val rfl rfl rfl (r_assign (v := .int .i64 0) rfl) ?_
 refine l_nil ?_
 refine c_seq ?_
 exact c_regionD (Kd.p :: Kd.d [0] _ :: Kd.p :: Kd.d [1] _ :: Kd.d [] _ :: Kd.p :: Kd.d [0] _ :: Kd.p :: Kd.d [1] _ :: Kd.d [] _ :: Kd.p :: Kd.d [0] _ :: Kd.p :: Kd.d [1] _ :: Kd.d [] _ :: Kd.ns 2 [_, _, _] 3 3 :: Kd.d [2] _ :: Kd.p :: []) 1 mixed (by
  refine d_val rfl rfl (r_field Tryz.runUnderlying58 rfl Tryz.sizeOf3 rfl rfl) ?_
  refine d_load1 (i := 0) (v := .int .i64 a0.far_) Tryz.isAgg3 rfl rfl rfl rfl ?_
  refine d_val rfl rfl (r_field Tryz.runUnderlying58 rfl Tryz.sizeOf3 rfl rfl) ?_
  refine d_load1 (i := 1) (v := .int .i64 a1.far_) Tryz.isAgg3 rfl rfl rfl rfl ?_
  have h_t9 := bnd_val H
  have H5 := bnd_rest H
  refine d_call (k31 h_t9) Tryz.call31 rfl rfl ?_
  refine d_val rfl rfl (r_field Tryz.runUnderlying58 rfl Tryz.sizeOf3 rfl rfl) ?_
  refine d_load1 (i := 0) (v := .int .i64 a0.id_) Tryz.isAgg3 rfl rfl rfl rfl ?_
  refine d_val rfl rfl (r_field Tryz.runUnderlying58 rfl Tryz.sizeOf3 rfl rfl) ?_
  refine d_load1 (i := 1) (v := .int .i64 a1.id_) Tryz.isAgg3 rfl rfl rfl rfl ?_
  have h_t14 := bnd_val H5
  have H6 := bnd_rest H5
  refine d_call (k31 h_t14) Tryz.call31 rfl rfl ?_
  refine d_val rfl rfl (r_field Tryz.runUnderlying58 rfl Tryz.sizeOf3 rfl rfl) ?_
  refine d_load1 (i := 0) (v := .int .i64 a0.person_) Tryz.isAgg3 rfl rfl rfl rfl ?_
  refine d_val rfl rfl (r_field Tryz.runUnderlying58 rfl Tryz.sizeOf3 rfl rfl) ?_
  refine d_load1 (i := 1) (v := .int .i64 a1.person_) Tryz.isAgg3 rfl rfl rfl rfl ?_
  have h_t19 := bnd_val H6
  have H7 := bnd_rest H6
  refine d_call (k31 h_t19) Tryz.call31 rfl rfl ?_
  refine d_newS rfl rfl (run_buildSlice (vs := [.int .i64 (val (cmp_Compare_int a0.far_ a1.far_)), .int .i64 (val (cmp_Compare_int a0.id_ a1.id_)), .int .i64 (val (cmp_Compare_int a0.person_ a1.person_))]) (cs := [.int .i64 (val (cmp_Compare_int a0.far_ a1.far_)), .int .i64 (val (cmp_Compare_int a0.id_ a1.id_)), .int .i64 (val (cmp_Compare_int a0.person_ a1.person_))]) Tryz.underlying24 Tryz.sizeOf3 Tryz.zeroValue3 rfl rfl rfl rfl rfl) rfl (fun b5 => ?_)
  have h_t21 := bnd_val H7
  have H8 := bnd_rest H7
  refine d_callD (fun w L' hF hS hi => k30 (know_all w) (frs_box (i := 2) (xs := ([(val (cmp_Compare_int a0.far_ a1.far_)), (val (cmp_Compare_int a0.id_ a1.id_)), (val (cmp_Compare_int a0.person_ a1.person_))] : List Int)) (f := e_i64) hS ((hi 2 (by simp)).trans rfl) rfl rfl rfl rfl) h_t21) Tryz.call30 rfl rfl ?_
  refine d_val rfl rfl (r_assign (v := .int .i64 (val (cmp_Or_int ([(val (cmp_Compare_int a0.far_ a1.far_)), (val (cmp_Compare_int a0.id_ a1.id_)), (val (cmp_Compare_int a0.person_ a1.person_))] : List Int)))) rfl) ?_
  refine d_nil ?_
  refine c_ret ?_
  obtain rfl := Option.some.inj H8
  refine ret1 (v := .int .i64 (val (cmp_Or_int ([(val (cmp_Compare_int a0.far_ a1.far_)), (val (cmp_Compare_int a0.id_ a1.id_)), (val (cmp_Compare_int a0.person_ a1.person_))] : List Int)))) rfl rfl (fin rfl)
  ) (by kernel_rfl)
theorem k6 {a0 : (List T_face_Likeness)} {v0 : Value} {a1 : (List T_face_Person)} {v1 : Value} {a2 : Int} {r : (List T_face_Person) × Int} {w : World} {h : Heap} (hw : Know h w noS) (f0 : FrS h 14 v0 (a0.map e_face_Likeness)) (f1 : FrN h 4 v1 g_face_Person a1) (H : face_Sort a0 a1 a2 = some r) : Does Tryz.prog 6 (List.toArray [v0, v1, .int .i64 a2]) w (fun v w' => ∃ x : (Option Addr × Nat), v = (.tuple #[.slice x.1 r.1.length x.2, .int .i64 r.2]) ∧ Turn w w' noS (rofD false 32 4 g_face_Person (.slice x.1 r.1.length x.2) r.1.length r.1)) := by
 refine enter (n := 109) Tryz.func6 rfl rfl rfl noS [] (Sat.nil _ _) ?_
 refine c_poolNew noH ?_
 refine c_seq ?_
 refine c_region ?_
 refine l_val rfl rfl rfl (r_assign (v := .slice none 0 0) rfl) ?_
 refine l_val rfl rfl rfl (r_assign (v := .int .i64 0) rfl) ?_
 refine l_nil ?_
 refine c_seq ?_
 refine c_seq ?_
 refine c_region ?_
 refine l_val rfl rfl rfl (r_move (v := v0) rfl) ?_
 refine l_val rfl rfl rfl (r_move (v := v1) rfl) ?_
 obtain ⟨t21, h_t21, H89⟩ := bnd_some H; clear H
 refine l_callG (fun w hF hS => k7 (know_all w) (f0.mono (hw.now hF)) (f1.mono (hw.now hF)) h_t21) Tryz.call7 rfl rfl rfl ?_
 refine l_val rfl rfl rfl (r_assign (v := .int .i64 t21) rfl) ?_
 refine l_nil ?_
 refine c_seq ?_
 refine c_region ?_
 refine l_val rfl rfl rfl (r_move (v := .int .i64 t21) rfl) ?_
 refine l_val rfl rfl rfl (r_neq rfl rfl) ?_
 refine l_nil ?_
 refine c_if (b := (decide (t21 ≠ 0))) rfl (fun hb => ?_) (fun hb => ?_)
 ·have H90 := cnd_t hb H89; clear H89
  refine c_seq ?_
  refine c_region ?_
  refine l_val rfl rfl rfl (r_move (v := .int .i64 t21) rfl) ?_
  refine l_val rfl rfl rfl (r_assign (v := .slice none 0 0) rfl) ?_
  refine l_val rfl rfl rfl (r_assign (v := .int .i64 t21) rfl) ?_
  refine l_nil ?_
  refine c_ret ?_
  refine c_nilRow 32 4 ?_
  obtain rfl := Option.some.inj H90
  refine c_imp 1 rfl (imp_rowO _ _ _ _ _) ?_
  refine c_both 0 1 rfl rfl (by decide) ?_
  refine c_imp 0 rfl (imp_rofD (k := false) (p := ((none, 0) : Option Addr × Nat)) rfl (fun h => nomatch h) (AllC.nil (G := g_face_Person) (h := noH) (sz := 4))) ?_
  refine ret2 (v1 := .slice ((none, 0) : Option Addr × Nat).1 (([] : List (List Value)).length) ((none, 0) : Option Addr × Nat).2) (v2 := .int .i64 t21) rfl rfl rfl (finX ((none, 0) : Option Addr × Nat) (i := 0) rfl (by first | rfl | rw [(show (([] : List (List Value)).length) = ([] : List T_face_Person).length from (AllC.nil (G := g_face_Person) (h := noH) (sz := 4)).len)]) (by first | exact Imp.refl _ | exact Imp.of (by rw [(show (([] : List (List Value)).length) = ([] : List T_face_Person).length from (AllC.nil (G := g_face_Person) (h := noH) (sz := 4)).len)])))
 ·have H91 := cnd_f hb H89; clear H89
  refine c_skip ?_
  refine c_seq ?_
  refine c_seq ?_
  refine c_region ?_
  refine l_val rfl rfl rfl (r_move (v := .int .i64 a2) rfl) ?_
  obtain ⟨t26, h_t26, H92⟩ := bnd_some H91; clear H91
  refine l_call (k25 h_t26) Tryz.call25 rfl rfl rfl ?_
  refine l_nil ?_
  refine c_if (b := t26) rfl (fun hb => ?_) (fun hb => ?_)
  ·have H93 := cnd_t hb H92; clear H92
   refine c_seq ?_
   refine c_region ?_
   refine l_val rfl rfl rfl (r_assign (v := .slice none 0 0) rfl) ?_
   refine l_val rfl rfl rfl (r_assign (v := .int .i64 2) rfl) ?_
   refine l_nil ?_
   refine c_ret ?_
   refine c_nilRow 32 4 ?_
   obtain rfl := Option.some.inj H93
   refine c_imp 1 rfl (imp_rowO _ _ _ _ _) ?_
   refine c_both 0 1 rfl rfl (by decide) ?_
   refine c_imp 0 rfl (imp_rofD (k := false) (p := ((none, 0) : Option Addr × Nat)) rfl (fun h => nomatch h) (AllC.nil (G := g_face_Person) (h := noH) (sz := 4))) ?_
   refine ret2 (v1 := .slice ((none, 0) : Option Addr × Nat).1 (([] : List (List Value)).length) ((none, 0) : Option Addr × Nat).2) (v2 := .int .i64 2) rfl rfl rfl (finX ((none, 0) : Option Addr × Nat) (i := 0) rfl (by first | rfl | rw [(show (([] : List (List Value)).length) = ([] : List T_face_Person).length from (AllC.nil (G := g_face_Person) (h := noH) (sz := 4)).len)]) (by first | exact Imp.refl _ | exact Imp.of (by rw [(show (([] : List (List Value)).length) = ([] : List T_face_Person).length from (AllC.nil (G := g_face_Person) (h := noH) (sz := 4)).len)])))
  ·have H94 := cnd_f hb H92; clear H92
   refine c_skip ?_
   refine c_seq ?_
   refine c_region ?_
   refine l_val rfl rfl rfl (r_assign (v := .slice none 0 0) rfl) ?_
   refine l_nil ?_
   refine c_meet (r := r) (σ := (List T_face_offer)) (τ := (Option Addr × Nat)) (fun s => face_Sort_j1 a0 a1 s) (fun s t => [(0, v0), (1, v1), (9, .slice t.1 s.length t.2)]) (fun s t => [poolC noH noH, rowV 58 3 (.slice t.1 s.length t.2) s.length (s.map e_face_offer)]) (fun s t => True) ?_ ?_
   ·refine c_seq ?_
    refine c_region ?_
    refine l_val rfl rfl rfl (r_move (v := v0) rfl) ?_
    refine l_val rfl rfl rfl (r_move (v := v1) rfl) ?_
    obtain ⟨t29, h_t29, H116⟩ := bnd_some H94; clear H94
    refine l_make (makes_call (rds := []) (G := fun x : (Option Addr × Nat) => .slice x.1 t29.length x.2) (C := fun x : (Option Addr × Nat) => rowV 52 14 (.slice x.1 t29.length x.2) t29.length (t29.map e_face_Likeness)) (fun w L' hF hS hi => k26 (know_all w) (f0.mono (hw.now hF)) (f1.mono (hw.now hF)) h_t29) Tryz.call26 rfl) rfl rfl rfl (fun p_6 => ?_)
    refine l_val rfl rfl rfl (r_len Tryz.underlying22 rfl) ?_
    refine l_val rfl rfl rfl (r_move (v := .int .i64 0) rfl) ?_
    refine l_nil ?_
    refine c_block ?_
    refine c_nilRow 58 3 ?_
    refine c_fix (σ := Int × (List T_face_offer)) (τ := (Option Addr × Nat)) (fun next4 s => face_Sort_l4 a0 a1 a2 t29 next4 s.1 s.2) (fun s t => [(0, v0), (1, v1), (2, .int .i64 a2), (9, .slice t.1 s.2.length t.2), (29, .slice p_6.1 t29.length p_6.2), (30, .int .i64 (t29.length : Int)), (31, .int .i64 s.1)]) (fun s t => [poolC noH noH, rowV 52 14 (.slice p_6.1 t29.length p_6.2) t29.length (t29.map e_face_Likeness), rowV 58 3 (.slice t.1 s.2.length t.2) s.2.length (s.2.map e_face_offer)]) (fun s t => True) (0, ([] : List T_face_offer)) ((none, 0) : Option Addr × Nat) [0, 1, 2] H116 (by exact trivial) (by exact ⟨rfl, rfl, rfl, rfl, rfl, rfl, rfl, trivial⟩) (by decide) rfl ?_
    rintro ⟨x31_2, l_6⟩ p_7 m4 gg H117 _
    clear H116
    replace H117 : face_Sort_l4 a0 a1 a2 t29 (it (fun next4 s => face_Sort_l4 a0 a1 a2 t29 next4 s.1 s.2) m4) x31_2 l_6 = some r := H117
    generalize hn4 : it (fun next4 s => face_Sort_l4 a0 a1 a2 t29 next4 s.1 s.2) m4 = next4 at H117
    refine c_tidyF [(0, v0), (1, v1), (2, .int .i64 a2), (9, .slice p_7.1 l_6.length p_7.2), (29, .slice p_6.1 t29.length p_6.2), (30, .int .i64 (t29.length : Int)), (31, .int .i64 x31_2)] [poolC noH noH, rowV 52 14 (.slice p_6.1 t29.length p_6.2) t29.length (t29.map e_face_Likeness), rowV 58 3 (.slice p_7.1 l_6.length p_7.2) l_6.length (l_6.map e_face_offer)] rfl rfl ?_
    refine c_seq ?_
    refine c_region ?_
    refine l_val rfl rfl rfl (r_lss rfl rfl) ?_
    refine l_nil ?_
    refine c_seq ?_
    refine c_if (b := (decide (x31_2 < (t29.length : Int)))) rfl (fun hb => ?_) (fun hb => ?_)
    ·have H118 := cnd_t hb H117; clear H117
     refine c_skip ?_
     refine c_meet (r := r) (σ := (List T_face_offer)) (τ := (Option Addr × Nat)) (fun s => face_Sort_j5 x31_2 next4 s) (fun s t => [(0, v0), (1, v1), (2, .int .i64 a2), (9, .slice t.1 s.length t.2), (29, .slice p_6.1 t29.length p_6.2), (30, .int .i64 (t29.length : Int)), (31, .int .i64 x31_2)]) (fun s t => [poolC noH noH, rowV 52 14 (.slice p_6.1 t29.length p_6.2) t29.length (t29.map e_face_Likeness), rowV 58 3 (.slice t.1 s.length t.2) s.length (s.map e_face_offer)]) (fun s t => True) ?_ ?_
     ·refine c_block ?_
      refine c_seq ?_
      refine c_region ?_
      obtain ⟨t33, h_t33, H121⟩ := bnd_some H118; clear H118
      refine l_read (fun w hF hS => run_indexO Tryz.underlying22 Tryz.sizeOf52 rfl rfl (rowOf (i := 1) hS rfl) rfl h_t33) rfl rfl rfl ?_
      refine l_read (fun w hF hS => run_loadGN (f := e_face_Likeness) (i := x31_2) (sz := 14) (j := 0) (vs := [.int .i64 t33.Id, .int .i64 t33.Photo, .int .i64 (t33.Vec 0), .int .i64 (t33.Vec 1), .int .i64 (t33.Vec 2), .int .i64 (t33.Vec 3), .int .i64 (t33.Vec 4), .int .i64 (t33.Vec 5), .int .i64 (t33.Vec 6), .int .i64 (t33.Vec 7), .int .i64 (t33.Vec 8), .int .i64 (t33.Vec 9), .int .i64 (t33.Vec 10), .int .i64 (t33.Vec 11)]) Tryz.isAgg52 Tryz.sizeOf52 rfl rfl (rowOf (i := 1) hS rfl) h_t33 rfl) rfl rfl rfl ?_
      refine l_alloc (cs := [.int .i64 0, .int .i64 0, .int .i64 0, .int .i64 0, .int .i64 0, .int .i64 0, .int .i64 0, .int .i64 0, .int .i64 0, .int .i64 0, .int .i64 0, .int .i64 0, .int .i64 0, .int .i64 0]) Tryz.zeroValue52 rfl rfl rfl (fun b12 => ?_)
      refine l_store (i := 3) (vs := [.int .i64 t33.Id, .int .i64 t33.Photo, .int .i64 (t33.Vec 0), .int .i64 (t33.Vec 1), .int .i64 (t33.Vec 2), .int .i64 (t33.Vec 3), .int .i64 (t33.Vec 4), .int .i64 (t33.Vec 5), .int .i64 (t33.Vec 6), .int .i64 (t33.Vec 7), .int .i64 (t33.Vec 8), .int .i64 (t33.Vec 9), .int .i64 (t33.Vec 10), .int .i64 (t33.Vec 11)]) (cs' := [.int .i64 t33.Id, .int .i64 t33.Photo, .int .i64 (t33.Vec 0), .int .i64 (t33.Vec 1), .int .i64 (t33.Vec 2), .int .i64 (t33.Vec 3), .int .i64 (t33.Vec 4), .int .i64 (t33.Vec 5), .int .i64 (t33.Vec 6), .int .i64 (t33.Vec 7), .int .i64 (t33.Vec 8), .int .i64 (t33.Vec 9), .int .i64 (t33.Vec 10), .int .i64 (t33.Vec 11)]) Tryz.sizeOf52 rfl rfl rfl rfl rfl rfl rfl rfl rfl ?_
      refine l_nil ?_
      refine c_seq ?_
      refine c_sel [0, 1, 2, 3] [poolC noH noH, rowV 52 14 (.slice p_6.1 t29.length p_6.2) t29.length (t29.map e_face_Likeness), rowV 58 3 (.slice p_7.1 l_6.length p_7.2) l_6.length (l_6.map e_face_offer), cellsC b12 [.int .i64 t33.Id, .int .i64 t33.Photo, .int .i64 (t33.Vec 0), .int .i64 (t33.Vec 1), .int .i64 (t33.Vec 2), .int .i64 (t33.Vec 3), .int .i64 (t33.Vec 4), .int .i64 (t33.Vec 5), .int .i64 (t33.Vec 6), .int .i64 (t33.Vec 7), .int .i64 (t33.Vec 8), .int .i64 (t33.Vec 9), .int .i64 (t33.Vec 10), .int .i64 (t33.Vec 11)] 52] rfl (by decide) ?_
      refine c_region ?_
      refine l_val rfl rfl rfl (r_move (v := v0) rfl) ?_
      refine l_val rfl rfl rfl (r_move (v := v1) rfl) ?_
      refine l_val rfl rfl rfl (r_field Tryz.runUnderlying52 rfl Tryz.sizeOf3 rfl rfl) ?_
      refine l_load1 (i := 3) (v := .int .i64 t33.Id) Tryz.isAgg3 rfl rfl rfl rfl rfl ?_
      obtain ⟨t39, h_t39, H122⟩ := bnd_some H121; clear H121
      refine l_make (makes_call (rds := []) (G := fun x : (Option Addr × Nat) => .slice x.1 t39.length x.2) (C := fun x : (Option Addr × Nat) => rowV 56 2 (.slice x.1 t39.length x.2) t39.length (t39.map e_face_Match)) (fun w L' hF hS hi => k27 (know_all w) (f0.mono (hw.now hF)) (f1.mono (hw.now hF)) h_t39) Tryz.call27 rfl) rfl rfl rfl (fun p_9 => ?_)
      refine l_val rfl rfl rfl (r_len Tryz.underlying53 rfl) ?_
      refine l_val rfl rfl rfl (r_move (v := .int .i64 0) rfl) ?_
      refine l_nil ?_
      refine c_block ?_
      refine c_fix (σ := Int × (List T_face_offer)) (τ := (Option Addr × Nat)) (fun next6 s => face_Sort_l6 a2 x31_2 next4 t33 t39 next6 s.1 s.2) (fun s t => [(0, v0), (1, v1), (2, .int .i64 a2), (9, .slice t.1 s.2.length t.2), (11, .pointer (some ⟨b12, 0, none⟩)), (29, .slice p_6.1 t29.length p_6.2), (30, .int .i64 (t29.length : Int)), (31, .int .i64 x31_2), (39, .slice p_9.1 t39.length p_9.2), (40, .int .i64 (t39.length : Int)), (41, .int .i64 s.1)]) (fun s t => [poolC noH noH, rowV 52 14 (.slice p_6.1 t29.length p_6.2) t29.length (t29.map e_face_Likeness), rowV 58 3 (.slice t.1 s.2.length t.2) s.2.length (s.2.map e_face_offer), cellsC b12 [.int .i64 t33.Id, .int .i64 t33.Photo, .int .i64 (t33.Vec 0), .int .i64 (t33.Vec 1), .int .i64 (t33.Vec 2), .int .i64 (t33.Vec 3), .int .i64 (t33.Vec 4), .int .i64 (t33.Vec 5), .int .i64 (t33.Vec 6), .int .i64 (t33.Vec 7), .int .i64 (t33.Vec 8), .int .i64 (t33.Vec 9), .int .i64 (t33.Vec 10), .int .i64 (t33.Vec 11)] 52, rowV 56 2 (.slice p_9.1 t39.length p_9.2) t39.length (t39.map e_face_Match)]) (fun s t => True) (0, l_6) p_7 [0, 1, 2, 3, 4] H122 (by exact trivial) (by exact ⟨rfl, rfl, rfl, rfl, rfl, rfl, rfl, rfl, rfl, rfl, rfl, trivial⟩) (by decide) rfl ?_
      rintro ⟨x41_2, l_9⟩ p_10 m6 gg H123 _
      clear H122
      replace H123 : face_Sort_l6 a2 x31_2 next4 t33 t39 (it (fun next6 s => face_Sort_l6 a2 x31_2 next4 t33 t39 next6 s.1 s.2) m6) x41_2 l_9 = some r := H123
      generalize hn6 : it (fun next6 s => face_Sort_l6 a2 x31_2 next4 t33 t39 next6 s.1 s.2) m6 = next6 at H123
      refine c_tidyF [(0, v0), (1, v1), (2, .int .i64 a2), (9, .slice p_10.1 l_9.length p_10.2), (11, .pointer (some ⟨b12, 0, none⟩)), (29, .slice p_6.1 t29.length p_6.2), (30, .int .i64 (t29.length : Int)), (31, .int .i64 x31_2), (39, .slice p_9.1 t39.length p_9.2), (40, .int .i64 (t39.length : Int)), (41, .int .i64 x41_2)] [poolC noH noH, rowV 52 14 (.slice p_6.1 t29.length p_6.2) t29.length (t29.map e_face_Likeness), rowV 58 3 (.slice p_10.1 l_9.length p_10.2) l_9.length (l_9.map e_face_offer), cellsC b12 [.int .i64 t33.Id, .int .i64 t33.Photo, .int .i64 (t33.Vec 0), .int .i64 (t33.Vec 1), .int .i64 (t33.Vec 2), .int .i64 (t33.Vec 3), .int .i64 (t33.Vec 4), .int .i64 (t33.Vec 5), .int .i64 (t33.Vec 6), .int .i64 (t33.Vec 7), .int .i64 (t33.Vec 8), .int .i64 (t33.Vec 9), .int .i64 (t33.Vec 10), .int .i64 (t33.Vec 11)] 52, rowV 56 2 (.slice p_9.1 t39.length p_9.2) t39.length (t39.map e_face_Match)] rfl rfl ?_
      refine c_seq ?_
      refine c_region ?_
      refine l_val rfl rfl rfl (r_lss rfl rfl) ?_
      refine l_nil ?_
      refine c_seq ?_
      refine c_if (b := (decide (x41_2 < (t39.length : Int)))) rfl (fun hb => ?_) (fun hb => ?_)
      ·have H124 := cnd_t hb H123; clear H123
       refine c_skip ?_
       refine c_meet (r := r) (σ := (List T_face_offer)) (τ := (Option Addr × Nat)) (fun s => face_Sort_j7 x41_2 next6 s) (fun s t => [(0, v0), (1, v1), (2, .int .i64 a2), (9, .slice t.1 s.length t.2), (11, .pointer (some ⟨b12, 0, none⟩)), (29, .slice p_6.1 t29.length p_6.2), (30, .int .i64 (t29.length : Int)), (31, .int .i64 x31_2), (39, .slice p_9.1 t39.length p_9.2), (40, .int .i64 (t39.length : Int)), (41, .int .i64 x41_2)]) (fun s t => [poolC noH noH, rowV 52 14 (.slice p_6.1 t29.length p_6.2) t29.length (t29.map e_face_Likeness), rowV 58 3 (.slice t.1 s.length t.2) s.length (s.map e_face_offer), cellsC b12 [.int .i64 t33.Id, .int .i64 t33.Photo, .int .i64 (t33.Vec 0), .int .i64 (t33.Vec 1), .int .i64 (t33.Vec 2), .int .i64 (t33.Vec 3), .int .i64 (t33.Vec 4), .int .i64 (t33.Vec 5), .int .i64 (t33.Vec 6), .int .i64 (t33.Vec 7), .int .i64 (t33.Vec 8), .int .i64 (t33.Vec 9), .int .i64 (t33.Vec 10), .int .i64 (t33.Vec 11)] 52, rowV 56 2 (.slice p_9.1 t39.length p_9.2) t39.length (t39.map e_face_Match)]) (fun s t => True) ?_ ?_
       ·refine c_block ?_
        refine c_seq ?_
        refine c_region ?_
        obtain ⟨t43, h_t43, H127⟩ := bnd_some H124; clear H124
        refine l_read (fun w hF hS => run_indexO Tryz.underlying53 Tryz.sizeOf56 rfl rfl (rowOf (i := 4) hS rfl) rfl h_t43) rfl rfl rfl ?_
        refine l_read (fun w hF hS => run_loadGN (f := e_face_Match) (i := x41_2) (sz := 2) (j := 0) (vs := [.int .i64 t43.Person, .int .i64 t43.Far]) Tryz.isAgg56 Tryz.sizeOf56 rfl rfl (rowOf (i := 4) hS rfl) h_t43 rfl) rfl rfl rfl ?_
        refine l_alloc (cs := [.int .i64 0, .int .i64 0]) Tryz.zeroValue56 rfl rfl rfl (fun b13 => ?_)
        refine l_store (i := 5) (vs := [.int .i64 t43.Person, .int .i64 t43.Far]) (cs' := [.int .i64 t43.Person, .int .i64 t43.Far]) Tryz.sizeOf56 rfl rfl rfl rfl rfl rfl rfl rfl rfl ?_
        refine l_nil ?_
        refine c_seq ?_
        refine c_region ?_
        refine l_val rfl rfl rfl (r_field Tryz.runUnderlying56 rfl Tryz.sizeOf3 rfl rfl) ?_
        refine l_load1 (i := 5) (v := .int .i64 t43.Far) Tryz.isAgg3 rfl rfl rfl rfl rfl ?_
        refine l_val rfl rfl rfl (r_move (v := .int .i64 a2) rfl) ?_
        refine l_val rfl rfl rfl (r_leq rfl rfl) ?_
        refine l_nil ?_
        refine c_if (b := (decide (t43.Far ≤ a2))) rfl (fun hb => ?_) (fun hb => ?_)
        ·have H128 := cnd_t hb H127; clear H127
         refine c_region ?_
         refine l_val rfl rfl rfl (r_move (v := .slice p_10.1 l_9.length p_10.2) rfl) ?_
         refine l_val rfl rfl rfl (r_field Tryz.runUnderlying52 rfl Tryz.sizeOf3 rfl rfl) ?_
         refine l_load1 (i := 3) (v := .int .i64 t33.Id) Tryz.isAgg3 rfl rfl rfl rfl rfl ?_
         refine l_val rfl rfl rfl (r_field Tryz.runUnderlying56 rfl Tryz.sizeOf3 rfl rfl) ?_
         refine l_load1 (i := 5) (v := .int .i64 t43.Person) Tryz.isAgg3 rfl rfl rfl rfl rfl ?_
         refine l_val rfl rfl rfl (r_field Tryz.runUnderlying56 rfl Tryz.sizeOf3 rfl rfl) ?_
         refine l_load1 (i := 5) (v := .int .i64 t43.Far) Tryz.isAgg3 rfl rfl rfl rfl rfl ?_
         refine l_val rfl rfl rfl (r_build (pl := #[(0, 1), (1, 1), (2, 1)]) (ps := [(0, .int .i64 t33.Id), (1, .int .i64 t43.Person), (2, .int .i64 t43.Far)]) (cells := #[.int .i64 t33.Id, .int .i64 t43.Person, .int .i64 t43.Far]) Tryz.zeroValue58 Tryz.runUnderlying58 (fun w => by kernel_rfl) rfl rfl) ?_
         refine l_buildSlice (vs := [.agg #[.int .i64 t33.Id, .int .i64 t43.Person, .int .i64 t43.Far]]) (cs := [.int .i64 t33.Id, .int .i64 t43.Person, .int .i64 t43.Far]) Tryz.underlying49 Tryz.sizeOf58 Tryz.zeroValue58 rfl rfl rfl rfl rfl rfl rfl (fun b14 => ?_)
         obtain ⟨l58, h_l58, H129⟩ := bnd_some H128; clear H128
         refine l_turn (turns_appG (i := 2) (hn := rfl) (rds := [6]) (p := p_10) (sz := 3) (by_ := 24) (f := e_face_offer) (ys := l_9) (ls := ([(⟨t33.Id, t43.Person, t43.Far⟩ : T_face_offer)] : List T_face_offer)) (V := .slice (some ⟨b14, 0, none⟩) 1 1) Tryz.underlying49 (info_of Tryz.typeInfo58) rfl rfl rfl rfl rfl rfl rfl rfl rfl rfl (fun w L' hF hS hi => row_box (i := 6) hS ((hi 6 (by simp)).trans rfl) rfl rfl) (fun _ => rfl) (fun _ => rfl) h_l58) rfl rfl rfl (fun p_12 => ?_)
         refine l_val rfl rfl rfl (r_assign (v := .slice p_12.1 l58.length p_12.2) rfl) ?_
         refine l_nil ?_
         refine c_close l58 p_12 0 [0, 1, 2, 3, 4] (by exact ⟨rfl, rfl, rfl, rfl, rfl, rfl, rfl, rfl, rfl, rfl, rfl, trivial⟩) (by decide) rfl (by exact ⟨H129, trivial⟩) (Nat.lt_succ_self _)
        ·have H130 := cnd_f hb H127; clear H127
         refine c_skip ?_
         refine c_close l_9 p_10 0 [0, 1, 2, 3, 4] (by exact ⟨rfl, rfl, rfl, rfl, rfl, rfl, rfl, rfl, rfl, rfl, rfl, trivial⟩) (by decide) rfl (by exact ⟨H130, trivial⟩) (Nat.lt_succ_self _)
       ·rintro l_10 p_11 gg H125 _
        replace H125 : face_Sort_j7 x41_2 next6 l_10 = some r := H125
        refine c_tidyF [(0, v0), (1, v1), (2, .int .i64 a2), (9, .slice p_11.1 l_10.length p_11.2), (11, .pointer (some ⟨b12, 0, none⟩)), (29, .slice p_6.1 t29.length p_6.2), (30, .int .i64 (t29.length : Int)), (31, .int .i64 x31_2), (39, .slice p_9.1 t39.length p_9.2), (40, .int .i64 (t39.length : Int)), (41, .int .i64 x41_2)] [poolC noH noH, rowV 52 14 (.slice p_6.1 t29.length p_6.2) t29.length (t29.map e_face_Likeness), rowV 58 3 (.slice p_11.1 l_10.length p_11.2) l_10.length (l_10.map e_face_offer), cellsC b12 [.int .i64 t33.Id, .int .i64 t33.Photo, .int .i64 (t33.Vec 0), .int .i64 (t33.Vec 1), .int .i64 (t33.Vec 2), .int .i64 (t33.Vec 3), .int .i64 (t33.Vec 4), .int .i64 (t33.Vec 5), .int .i64 (t33.Vec 6), .int .i64 (t33.Vec 7), .int .i64 (t33.Vec 8), .int .i64 (t33.Vec 9), .int .i64 (t33.Vec 10), .int .i64 (t33.Vec 11)] 52, rowV 56 2 (.slice p_9.1 t39.length p_9.2) t39.length (t39.map e_face_Match)] rfl rfl ?_
        refine c_region ?_
        obtain ⟨t59, h_t59, H126⟩ := bnd_some H125; clear H125
        refine l_val rfl rfl rfl (r_addG rfl rfl h_t59) ?_
        refine l_val rfl rfl rfl (r_move (v := .int .i64 t59) rfl) ?_
        refine l_nil ?_
        refine c_close (t59, l_10) p_11 m6 [0, 1, 2, 3, 4] (by exact ⟨rfl, rfl, rfl, rfl, rfl, rfl, rfl, rfl, rfl, rfl, rfl, trivial⟩) (by decide) rfl (by exact ⟨(by subst hn6; exact H126), trivial⟩) (Nat.lt_succ_self _)
      ·have H131 := cnd_f hb H123; clear H123
       refine c_exit ?_
       refine c_close l_9 p_10 0 [0, 1, 2] (by exact ⟨rfl, rfl, rfl, rfl, rfl, rfl, rfl, trivial⟩) (by decide) rfl (by exact ⟨H131, trivial⟩) (Nat.lt_succ_self _)
     ·rintro l_7 p_8 gg H119 _
      replace H119 : face_Sort_j5 x31_2 next4 l_7 = some r := H119
      refine c_tidyF [(0, v0), (1, v1), (2, .int .i64 a2), (9, .slice p_8.1 l_7.length p_8.2), (29, .slice p_6.1 t29.length p_6.2), (30, .int .i64 (t29.length : Int)), (31, .int .i64 x31_2)] [poolC noH noH, rowV 52 14 (.slice p_6.1 t29.length p_6.2) t29.length (t29.map e_face_Likeness), rowV 58 3 (.slice p_8.1 l_7.length p_8.2) l_7.length (l_7.map e_face_offer)] rfl rfl ?_
      refine c_region ?_
      obtain ⟨t60, h_t60, H120⟩ := bnd_some H119; clear H119
      refine l_val rfl rfl rfl (r_addG rfl rfl h_t60) ?_
      refine l_val rfl rfl rfl (r_move (v := .int .i64 t60) rfl) ?_
      refine l_nil ?_
      refine c_close (t60, l_7) p_8 m4 [0, 1, 2] (by exact ⟨rfl, rfl, rfl, rfl, rfl, rfl, rfl, trivial⟩) (by decide) rfl (by exact ⟨(by subst hn4; exact H120), trivial⟩) (Nat.lt_succ_self _)
    ·have H132 := cnd_f hb H117; clear H117
     refine c_exit ?_
     refine c_close l_6 p_7 0 [0, 2] (by exact ⟨rfl, rfl, rfl, trivial⟩) (by decide) rfl (by exact ⟨H132, trivial⟩) (Nat.lt_succ_self _)
   ·rintro l p gg H95 _
    replace H95 : face_Sort_j1 a0 a1 l = some r := H95
    refine c_tidyF [(0, v0), (1, v1), (9, .slice p.1 l.length p.2)] [poolC noH noH, rowV 58 3 (.slice p.1 l.length p.2) l.length (l.map e_face_offer)] rfl rfl ?_
    refine c_seq ?_
    refine c_region ?_
    refine l_val rfl rfl rfl (r_move (v := .slice p.1 l.length p.2) rfl) ?_
    obtain ⟨t62, h_t62, H96⟩ := bnd_some H95; clear H95
    refine l_turn (turns_callB (i := 1) (rds := []) (G := fun x : Unit => .tuple #[]) (C := fun x : Unit => rowV 58 3 (.slice p.1 l.length p.2) l.length (t62.map e_face_offer)) rfl (fun w L' S hF hS hi hp hlt ho hA => k28 hp hlt (know_but w S) rfl h_t62) Tryz.call28 rfl) rfl rfl rfl (fun _ => ?_)
    refine c_know (fun w hF hS => lenOf (i := 1) hS rfl) (fun hl_ => ?_)
    have hl : l.length = t62.length := by simpa using hl_.symm
    refine l_nil ?_
    refine c_seq ?_
    refine c_region ?_
    refine l_val rfl rfl rfl (r_move (v := v1) rfl) ?_
    obtain ⟨t64, h_t64, H97⟩ := bnd_some H96; clear H96
    refine l_make (makes_call (rds := []) (G := fun x : (Option Addr × Nat) => .slice x.1 t64.length x.2) (C := fun x : (Option Addr × Nat) => rofD true 32 4 g_face_Person (.slice x.1 t64.length x.2) t64.length t64) (fun w L' hF hS hi => k32 (know_all w) (f1.mono (hw.now hF)) h_t64) Tryz.call32 rfl) rfl rfl rfl (fun p_2 => ?_)
    refine c_rofD 2 rfl (fun hp css hn hc pf => ?_)
    rw [hn]
    refine c_split 2 rfl ?_
    refine c_poolJoin 0 2 rfl rfl (by decide) (fun _ _ => noH_le) (fun hp_2 hle hle_2 => ?_)
    refine l_val rfl rfl rfl (r_assign (v := .slice p_2.1 css.length p_2.2) rfl) ?_
    refine l_nil ?_
    refine c_sel [0, 1, 2, 3] [poolC noH hp_2, rowV 58 3 (.slice p.1 l.length p.2) l.length (t62.map e_face_offer), _, rowO 32 4 (.slice p_2.1 css.length p_2.2) css.length (css.map idC)] rfl (by decide) ?_
    refine c_seq ?_
    refine c_seq ?_
    refine c_region ?_
    refine l_val rfl rfl rfl (r_move (v := .slice p.1 l.length p.2) rfl) ?_
    refine l_val rfl rfl rfl (r_lenN Tryz.underlying49 rfl hl) ?_
    refine l_val rfl rfl rfl (r_move (v := .int .i64 0) rfl) ?_
    refine l_nil ?_
    refine c_sel [0, 1, 2, 3] [poolC noH hp_2, rowV 58 3 (.slice p.1 l.length p.2) l.length (t62.map e_face_offer), _, rowO 32 4 (.slice p_2.1 css.length p_2.2) css.length (css.map idC)] rfl (by decide) ?_
    refine c_block ?_
    refine c_sel [0, 1, 3] [poolC noH hp_2, rowV 58 3 (.slice p.1 l.length p.2) l.length (t62.map e_face_offer), rowO 32 4 (.slice p_2.1 css.length p_2.2) css.length (css.map idC)] rfl (by decide) ?_
    refine c_fix (σ := Int × (List T_face_Person)) (τ := Heap × (List (List Value)) × (Option Addr × Nat)) (fun next2 s => face_Sort_l2 a0 t62 next2 s.1 s.2) (fun s t => [(0, v0), (14, .slice t.2.2.1 t.2.1.length t.2.2.2), (65, .slice p.1 l.length p.2), (66, .int .i64 (t62.length : Int)), (67, .int .i64 s.1)]) (fun s t => [poolC noH t.1, rowV 58 3 (.slice p.1 l.length p.2) l.length (t62.map e_face_offer), rowO 32 4 (.slice t.2.2.1 t.2.1.length t.2.2.2) t.2.1.length (t.2.1.map idC)]) (fun s t => AllC g_face_Person t.1 4 t.2.1 s.2) (0, t64) (hp_2, css, p_2) [0, 1, 2] H97 (by exact (pf.mono hle_2)) (by exact ⟨rfl, rfl, rfl, rfl, rfl, trivial⟩) (by decide) rfl ?_
    rintro ⟨x67_2, l_3⟩ ⟨hp_3, css_2, p_3⟩ m2 gg H98 pf_3
    clear H97
    replace H98 : face_Sort_l2 a0 t62 (it (fun next2 s => face_Sort_l2 a0 t62 next2 s.1 s.2) m2) x67_2 l_3 = some r := H98
    generalize hn2 : it (fun next2 s => face_Sort_l2 a0 t62 next2 s.1 s.2) m2 = next2 at H98
    refine c_tidyF [(0, v0), (14, .slice p_3.1 css_2.length p_3.2), (65, .slice p.1 l.length p.2), (66, .int .i64 (t62.length : Int)), (67, .int .i64 x67_2)] [poolC noH hp_3, rowV 58 3 (.slice p.1 l.length p.2) l.length (t62.map e_face_offer), rowO 32 4 (.slice p_3.1 css_2.length p_3.2) css_2.length (css_2.map idC)] rfl rfl ?_
    refine c_seq ?_
    refine c_region ?_
    refine l_val rfl rfl rfl (r_lss rfl rfl) ?_
    refine l_nil ?_
    refine c_sel [0, 1, 2] [poolC noH hp_3, rowV 58 3 (.slice p.1 l.length p.2) l.length (t62.map e_face_offer), rowO 32 4 (.slice p_3.1 css_2.length p_3.2) css_2.length (css_2.map idC)] rfl (by decide) ?_
    refine c_seq ?_
    refine c_if (b := (decide (x67_2 < (t62.length : Int)))) rfl (fun hb => ?_) (fun hb => ?_)
    ·have H99 := cnd_t hb H98; clear H98
     refine c_skip ?_
     refine c_meet (r := r) (σ := (List T_face_Person)) (τ := Heap × (List (List Value)) × (Option Addr × Nat)) (fun s => face_Sort_j3 x67_2 next2 s) (fun s t => [(0, v0), (14, .slice t.2.2.1 t.2.1.length t.2.2.2), (65, .slice p.1 l.length p.2), (66, .int .i64 (t62.length : Int)), (67, .int .i64 x67_2)]) (fun s t => [poolC noH t.1, rowV 58 3 (.slice p.1 l.length p.2) l.length (t62.map e_face_offer), rowO 32 4 (.slice t.2.2.1 t.2.1.length t.2.2.2) t.2.1.length (t.2.1.map idC)]) (fun s t => AllC g_face_Person t.1 4 t.2.1 s) ?_ ?_
     ·refine c_block ?_
      refine c_seq ?_
      refine c_region ?_
      obtain ⟨t69, h_t69, H102⟩ := bnd_some H99; clear H99
      refine l_read (fun w hF hS => run_indexO Tryz.underlying49 Tryz.sizeOf58 rfl rfl (rowOf (i := 1) hS rfl) hl h_t69) rfl rfl rfl ?_
      refine l_read (fun w hF hS => run_loadGN (f := e_face_offer) (i := x67_2) (sz := 3) (j := 0) (vs := [.int .i64 t69.id_, .int .i64 t69.person_, .int .i64 t69.far_]) Tryz.isAgg58 Tryz.sizeOf58 rfl rfl (rowOf (i := 1) hS rfl) h_t69 rfl) rfl rfl rfl ?_
      refine l_alloc (cs := [.int .i64 0, .int .i64 0, .int .i64 0]) Tryz.zeroValue58 rfl rfl rfl (fun b10 => ?_)
      refine l_store (i := 3) (vs := [.int .i64 t69.id_, .int .i64 t69.person_, .int .i64 t69.far_]) (cs' := [.int .i64 t69.id_, .int .i64 t69.person_, .int .i64 t69.far_]) Tryz.sizeOf58 rfl rfl rfl rfl rfl rfl rfl rfl rfl ?_
      refine l_nil ?_
      refine c_sel [0, 1, 2, 3] [poolC noH hp_3, rowV 58 3 (.slice p.1 l.length p.2) l.length (t62.map e_face_offer), rowO 32 4 (.slice p_3.1 css_2.length p_3.2) css_2.length (css_2.map idC), cellsC b10 [.int .i64 t69.id_, .int .i64 t69.person_, .int .i64 t69.far_] 58] rfl (by decide) ?_
      refine c_seq ?_
      refine c_region ?_
      refine l_val rfl rfl rfl (r_move (v := .slice p_3.1 css_2.length p_3.2) rfl) ?_
      refine l_val rfl rfl rfl (r_field Tryz.runUnderlying58 rfl Tryz.sizeOf3 rfl rfl) ?_
      refine l_load1 (i := 3) (v := .int .i64 t69.person_) Tryz.isAgg3 rfl rfl rfl rfl rfl ?_
      obtain ⟨t75, h_t75, H103⟩ := bnd_some H102; clear H102
      refine l_callG (fun w hF hS => k33 (know_all w) (frn_of (xs := l_3) (frs_off (i := 2) rfl hS rfl) (pf_3.mono (pool_now (i := 0) hS rfl noH_le))) h_t75) Tryz.call33 rfl rfl rfl ?_
      refine l_val rfl rfl rfl (r_move (v := .tuple #[.int .i64 t75.1, .bool t75.2]) rfl) ?_
      refine l_val rfl rfl rfl (r_extract (v := .int .i64 t75.1) rfl rfl) ?_
      refine l_val rfl rfl rfl (r_extract (v := .bool t75.2) rfl rfl) ?_
      refine l_val rfl rfl rfl (r_assign (v := .int .i64 t75.1) rfl) ?_
      refine l_val rfl rfl rfl (r_assign (v := .bool t75.2) rfl) ?_
      refine l_nil ?_
      refine c_sel [0, 1, 2, 3] [poolC noH hp_3, rowV 58 3 (.slice p.1 l.length p.2) l.length (t62.map e_face_offer), rowO 32 4 (.slice p_3.1 css_2.length p_3.2) css_2.length (css_2.map idC), cellsC b10 [.int .i64 t69.id_, .int .i64 t69.person_, .int .i64 t69.far_] 58] rfl (by decide) ?_
      refine c_seq ?_
      exact c_regionD (Kd.p :: Kd.p :: Kd.d [3] _ :: Kd.d [0, 2] _ :: Kd.p :: Kd.p :: Kd.p :: Kd.p :: Kd.p :: Kd.d [2] _ :: Kd.d [2] _ :: Kd.p :: Kd.d [3] _ :: Kd.d [0] _ :: Kd.p :: Kd.p :: []) 0 mixed (by
       refine d_val rfl rfl (r_move (v := .slice p_3.1 css_2.length p_3.2) rfl) ?_
       refine d_val rfl rfl (r_field Tryz.runUnderlying58 rfl Tryz.sizeOf3 rfl rfl) ?_
       refine d_load1 (i := 3) (v := .int .i64 t69.id_) Tryz.isAgg3 rfl rfl rfl rfl ?_
       have h_t81 := bnd_val H103
       have H104 := bnd_rest H103
       refine d_callD (fun w L' hF hS hi => k34 (know_all w) (frn_of (xs := l_3) (frs_off (i := 2) rfl hS ((hi 2 (by simp)).trans rfl)) (pf_3.mono (pool_now (i := 0) hS ((hi 0 (by simp)).trans rfl) noH_le))) h_t81) Tryz.call34 rfl rfl ?_
       refine d_val rfl rfl (r_lss rfl rfl) ?_
       refine d_val rfl rfl (r_move (v := .bool (decide ((val (face_owner l_3 t69.id_)) < 0))) rfl) ?_
       refine splitS (fun hb => ?_) (fun hb => ?_)
       ·have H105 := cnd_t hb H104
        refine d_val rfl rfl (r_move (v := v0) rfl) ?_
        refine d_val rfl rfl (r_move (v := .slice p_3.1 css_2.length p_3.2) rfl) ?_
        refine d_val rfl rfl (r_move (v := .int .i64 t75.1) rfl) ?_
        have h_t87 := bnd_val H105
        have H106 := bnd_rest H105
        refine d_readD (fun w L' hF hS hi => run_indexO Tryz.underlying23 Tryz.sizeOf32 rfl rfl (offOf (i := 2) (E := 32) (sz := 4) (n := css_2.length) (a := p_3.1) (c := p_3.2) hS ((hi 2 (by simp)).trans rfl)) rfl (pf_3.ix h_t87)) rfl rfl ?_
        refine d_readD (fun w L' hF hS hi => run_loadGN (f := idC) (i := t75.1) (sz := 4) (j := 0) (vs := [.int .i64 (val (gAt l_3 t75.1)).Id, str (val (gAt l_3 t75.1)).Name, (List.getD (List.getD css_2 (Int.toNat t75.1) []) 2 undef), (List.getD (List.getD css_2 (Int.toNat t75.1) []) 3 undef)]) Tryz.isAgg32 Tryz.sizeOf32 rfl rfl (offOf (i := 2) (E := 32) (sz := 4) (n := css_2.length) (a := p_3.1) (c := p_3.2) hS ((hi 2 (by simp)).trans rfl)) (pf_3.ix h_t87) (rd_of ((pf_3.eta h_t87).trans (cg_face_Person (pf_3.at h_t87))) rfl)) rfl rfl ?_
        refine d_val rfl rfl (r_field Tryz.runUnderlying58 rfl Tryz.sizeOf3 rfl rfl) ?_
        refine d_load1 (i := 3) (v := .int .i64 t69.id_) Tryz.isAgg3 rfl rfl rfl rfl ?_
        have h_t91 := bnd_val H106
        have H107 := bnd_rest H106
        refine d_callD (fun w L' hF hS hi => k35 (know_all w) (f0.mono (hw.now hF)) ((show FrS hp_3 1 (List.getD (List.getD css_2 (Int.toNat t75.1) []) 2 undef) ((val (gAt l_3 t75.1)).Likes.map e_i64) from (g_face_Person_p2 (pf_3.at h_t87))).mono (pool_now (i := 0) hS ((hi 0 (by simp)).trans rfl) noH_le)) ((show FrS hp_3 1 (List.getD (List.getD css_2 (Int.toNat t75.1) []) 3 undef) ((val (gAt l_3 t75.1)).Nots.map e_i64) from (g_face_Person_p3 (pf_3.at h_t87))).mono (pool_now (i := 0) hS ((hi 0 (by simp)).trans rfl) noH_le)) h_t91) Tryz.call35 rfl rfl ?_
        refine d_val rfl rfl (r_not rfl) ?_
        refine d_val rfl rfl (r_pickT (v := .bool (!(val (face_hasPhoto a0 (val (gAt l_3 t75.1)) t69.id_)))) rfl rfl) ?_
        refine d_nil ?_
        refine c_sel [0, 1, 2, 3] [poolC noH hp_3, rowV 58 3 (.slice p.1 l.length p.2) l.length (t62.map e_face_offer), rowO 32 4 (.slice p_3.1 css_2.length p_3.2) css_2.length (css_2.map idC), cellsC b10 [.int .i64 t69.id_, .int .i64 t69.person_, .int .i64 t69.far_] 58] rfl (by decide) ?_
        refine c_if (b := (!(val (face_hasPhoto a0 (val (gAt l_3 t75.1)) t69.id_)))) rfl (fun hb => ?_) (fun hb => ?_)
        ·have H108 := cnd_t hb H107; clear H107
         exact c_regionD (Kd.p :: Kd.p :: Kd.p :: Kd.p :: Kd.d [2] _ :: Kd.d [2] _ :: Kd.d [2] _ :: Kd.p :: Kd.d [3] _ :: Kd.ns 4 [_] 3 1 :: Kd.t 5 [0, 4] _ _ :: Kd.d [2] _ :: Kd.d [2] _ :: Kd.stk 106 104 2 :: []) 2 mixed (by
          refine d_val rfl rfl (r_move (v := .slice p_3.1 css_2.length p_3.2) rfl) ?_
          refine d_val rfl rfl (r_move (v := .int .i64 t75.1) rfl) ?_
          refine d_val rfl rfl (r_move (v := .slice p_3.1 css_2.length p_3.2) rfl) ?_
          refine d_val rfl rfl (r_move (v := .int .i64 t75.1) rfl) ?_
          have h_t98 := bnd_val H108
          have H109 := bnd_rest H108
          refine d_readD (fun w L' hF hS hi => run_indexO Tryz.underlying23 Tryz.sizeOf32 rfl rfl (offOf (i := 2) (E := 32) (sz := 4) (n := css_2.length) (a := p_3.1) (c := p_3.2) hS ((hi 2 (by simp)).trans rfl)) rfl (pf_3.ix h_t98)) rfl rfl ?_
          refine d_readE rfl rfl (fun w L' hF hS hi => run_fieldG Tryz.runUnderlying32 rfl Tryz.sizeOf24 rfl rfl (offOf (i := 2) (E := 32) (sz := 4) (n := css_2.length) (a := p_3.1) (c := p_3.2) hS ((hi 2 (by simp)).trans rfl)) (pf_3.ix h_t98)) ?_
          refine d_readD (fun w L' hF hS hi => run_loadG1 (f := idC) (i := t75.1) (sz := 4) (j := 2) (v := (List.getD (List.getD css_2 (Int.toNat t75.1) []) 2 undef)) Tryz.isAgg24 rfl rfl (offOf (i := 2) (E := 32) (sz := 4) (n := css_2.length) (a := p_3.1) (c := p_3.2) hS ((hi 2 (by simp)).trans rfl)) (pf_3.ix h_t98) (rg_of ((pf_3.eta h_t98).trans (cg_face_Person (pf_3.at h_t98))) rfl)) rfl rfl ?_
          refine d_val rfl rfl (r_field Tryz.runUnderlying58 rfl Tryz.sizeOf3 rfl rfl) ?_
          refine d_load1 (i := 3) (v := .int .i64 t69.id_) Tryz.isAgg3 rfl rfl rfl rfl ?_
          refine d_newS rfl rfl (run_buildSlice (vs := [.int .i64 t69.id_]) (cs := [.int .i64 t69.id_]) Tryz.underlying24 Tryz.sizeOf3 Tryz.zeroValue3 rfl rfl rfl rfl rfl) rfl (fun b11 => ?_)
          have h_t104 := bnd_val H109
          have H110 := bnd_rest H109
          refine d_make (Cv := fun v => roV 1 v (val (face_with (val (gAt l_3 t75.1)).Likes ([t69.id_] : List Int))).length ((val (face_with (val (gAt l_3 t75.1)).Likes ([t69.id_] : List Int))).map e_i64)) (none, 0) (makes_call (G := fun x : (Option Addr × Nat) => .slice x.1 (val (face_with (val (gAt l_3 t75.1)).Likes ([t69.id_] : List Int))).length x.2) (C := fun x : (Option Addr × Nat) => roV 1 (.slice x.1 (val (face_with (val (gAt l_3 t75.1)).Likes ([t69.id_] : List Int))).length x.2) (val (face_with (val (gAt l_3 t75.1)).Likes ([t69.id_] : List Int))).length ((val (face_with (val (gAt l_3 t75.1)).Likes ([t69.id_] : List Int))).map e_i64)) (fun w L' hF hS hi => k36 (know_all w) ((show FrS hp_3 1 (List.getD (List.getD css_2 (Int.toNat t75.1) []) 2 undef) ((val (gAt l_3 t75.1)).Likes.map e_i64) from (g_face_Person_p2 (pf_3.at h_t98))).mono (pool_now (i := 0) hS ((hi 0 (by simp)).trans rfl) noH_le)) (frs_box (i := 4) (xs := ([t69.id_] : List Int)) (f := e_i64) hS ((hi 4 (by simp)).trans rfl) rfl rfl rfl rfl) h_t104) Tryz.call36 rfl) (fun _ => rfl) rfl rfl rfl (fun p_5 => ?_)
          have h_t105 := bnd_val H110
          have H111 := bnd_rest H110
          refine d_readD (fun w L' hF hS hi => run_indexO Tryz.underlying23 Tryz.sizeOf32 rfl rfl (offOf (i := 2) (E := 32) (sz := 4) (n := css_2.length) (a := p_3.1) (c := p_3.2) hS ((hi 2 (by simp)).trans rfl)) rfl (pf_3.ix h_t105)) rfl rfl ?_
          refine d_readE rfl rfl (fun w L' hF hS hi => run_fieldG Tryz.runUnderlying32 rfl Tryz.sizeOf24 rfl rfl (offOf (i := 2) (E := 32) (sz := 4) (n := css_2.length) (a := p_3.1) (c := p_3.2) hS ((hi 2 (by simp)).trans rfl)) (pf_3.ix h_t105)) ?_
          have h_l2 := bnd_val H111
          have H112 := bnd_rest H111
          refine d_storeC (i := 2) (x := .slice p_5.1 (val (face_with (val (gAt l_3 t75.1)).Likes ([t69.id_] : List Int))).length p_5.2) (va := (ptrAt p_3.1 (Int.toNat t75.1 * 4 + 2))) Tryz.sizeOf24 rfl rfl rfl rfl rfl rfl (blk_row (E := 32) (sz := 4) (n := css_2.length) (a := p_3.1) (c := p_3.2) (css := css_2) (Imp.refl _) rfl pf_3.len h_t105 rfl rfl) ?_
          refine d_nil ?_
          refine c_imp 2 rfl (imp_stO (E := 32) (sz := 4) (n := css_2.length) (a := p_3.1) (c := p_3.2) (css := css_2) (j := 2) (x := .slice p_5.1 (val (face_with (val (gAt l_3 t75.1)).Likes ([t69.id_] : List Int))).length p_5.2) (Imp.refl _) pf_3.len h_t105 rfl rfl) ?_
          refine c_freeze (Φ := fun H_ => FrS H_ 1 (.slice p_5.1 (val (face_with (val (gAt l_3 t75.1)).Likes ([t69.id_] : List Int))).length p_5.2) ((val (face_with (val (gAt l_3 t75.1)).Likes ([t69.id_] : List Int))).map e_i64)) 0 5 rfl rfl (by decide) (fun _ _ => noH_le) (fz_ro _) (fun hp_5 hle_3 hf => ?_)
          have pf_5 : AllC g_face_Person hp_5 4 (setR css_2 t75.1 2 (.slice p_5.1 (val (face_with (val (gAt l_3 t75.1)).Likes ([t69.id_] : List Int))).length p_5.2)) (val (gSet l_3 t75.1 (⟨(val (gAt l_3 t75.1)).Id, (val (gAt l_3 t75.1)).Name, (val (face_with (val (gAt l_3 t75.1)).Likes ([t69.id_] : List Int))), (val (gAt l_3 t75.1)).Nots⟩ : T_face_Person))) := AllC.setR (pf_3.mono hle_3) h_t105 h_l2 rfl (by obtain ⟨q0_, q1_, q2_, q3_⟩ := (pf_3.mono hle_3).at h_t105; exact ⟨q0_, q1_, hf, q3_⟩)
          refine c_sel [0, 1, 2, 3, 4, 5] [poolC noH hp_5, rowV 58 3 (.slice p.1 l.length p.2) l.length (t62.map e_face_offer), rowO 32 4 (.slice p_3.1 css_2.length p_3.2) css_2.length ((setR css_2 t75.1 2 (.slice p_5.1 (val (face_with (val (gAt l_3 t75.1)).Likes ([t69.id_] : List Int))).length p_5.2)).map idC), cellsC b10 [.int .i64 t69.id_, .int .i64 t69.person_, .int .i64 t69.far_] 58, cellsC b11 [.int .i64 t69.id_] 3, _] rfl (by decide) ?_
          rw [show css_2.length = (setR css_2 t75.1 2 (.slice p_5.1 (val (face_with (val (gAt l_3 t75.1)).Likes ([t69.id_] : List Int))).length p_5.2)).length from (rfl.trans (setR_len _ _ _ _).symm)]
          refine c_close (val (gSet l_3 t75.1 (⟨(val (gAt l_3 t75.1)).Id, (val (gAt l_3 t75.1)).Name, (val (face_with (val (gAt l_3 t75.1)).Likes ([t69.id_] : List Int))), (val (gAt l_3 t75.1)).Nots⟩ : T_face_Person))) (hp_5, (setR css_2 t75.1 2 (.slice p_5.1 (val (face_with (val (gAt l_3 t75.1)).Likes ([t69.id_] : List Int))).length p_5.2)), p_3) 0 [0, 1, 2] (by exact ⟨rfl, rfl, rfl, rfl, rfl, trivial⟩) (by decide) rfl (by exact ⟨H112, pf_5⟩) (Nat.lt_succ_self _)
          ) (by kernel_rfl)
        ·have H113 := cnd_f hb H107; clear H107
         refine c_skip ?_
         refine c_close l_3 (hp_3, css_2, p_3) 0 [0, 1, 2] (by exact ⟨rfl, rfl, rfl, rfl, rfl, trivial⟩) (by decide) rfl (by exact ⟨H113, pf_3⟩) (Nat.lt_succ_self _)
       ·have H114 := cnd_f hb H104
        refine d_pass rfl rfl ?_
        refine d_pass rfl rfl ?_
        refine d_pass rfl rfl ?_
        refine d_pass rfl rfl ?_
        refine d_pass rfl rfl ?_
        refine d_pass rfl rfl ?_
        refine d_pass rfl rfl ?_
        refine d_pass rfl rfl ?_
        refine d_pass rfl rfl ?_
        refine d_val rfl rfl (r_pickF (v := .bool false) rfl rfl) ?_
        refine d_nil ?_
        refine c_sel [0, 1, 2, 3] [poolC noH hp_3, rowV 58 3 (.slice p.1 l.length p.2) l.length (t62.map e_face_offer), rowO 32 4 (.slice p_3.1 css_2.length p_3.2) css_2.length (css_2.map idC), cellsC b10 [.int .i64 t69.id_, .int .i64 t69.person_, .int .i64 t69.far_] 58] rfl (by decide) ?_
        refine c_false rfl ?_
        refine c_skip ?_
        refine c_close l_3 (hp_3, css_2, p_3) 0 [0, 1, 2] (by exact ⟨rfl, rfl, rfl, rfl, rfl, trivial⟩) (by decide) rfl (by exact ⟨H114, pf_3⟩) (Nat.lt_succ_self _)
       ) (by kernel_rfl)
     ·rintro l_4 ⟨hp_4, css_3, p_4⟩ gg H100 pf_4
      replace H100 : face_Sort_j3 x67_2 next2 l_4 = some r := H100
      refine c_tidyF [(0, v0), (14, .slice p_4.1 css_3.length p_4.2), (65, .slice p.1 l.length p.2), (66, .int .i64 (t62.length : Int)), (67, .int .i64 x67_2)] [poolC noH hp_4, rowV 58 3 (.slice p.1 l.length p.2) l.length (t62.map e_face_offer), rowO 32 4 (.slice p_4.1 css_3.length p_4.2) css_3.length (css_3.map idC)] rfl rfl ?_
      refine c_region ?_
      obtain ⟨t107, h_t107, H101⟩ := bnd_some H100; clear H100
      refine l_val rfl rfl rfl (r_addG rfl rfl h_t107) ?_
      refine l_val rfl rfl rfl (r_move (v := .int .i64 t107) rfl) ?_
      refine l_nil ?_
      refine c_sel [0, 1, 2] [poolC noH hp_4, rowV 58 3 (.slice p.1 l.length p.2) l.length (t62.map e_face_offer), rowO 32 4 (.slice p_4.1 css_3.length p_4.2) css_3.length (css_3.map idC)] rfl (by decide) ?_
      refine c_close (t107, l_4) (hp_4, css_3, p_4) m2 [0, 1, 2] (by exact ⟨rfl, rfl, rfl, rfl, rfl, trivial⟩) (by decide) rfl (by exact ⟨(by subst hn2; exact H101), pf_4⟩) (Nat.lt_succ_self _)
    ·have H115 := cnd_f hb H98; clear H98
     refine c_exit ?_
     refine c_seq ?_
     refine c_region ?_
     refine l_val rfl rfl rfl (r_move (v := .slice p_3.1 css_2.length p_3.2) rfl) ?_
     refine l_val rfl rfl rfl (r_assign (v := .slice p_3.1 css_2.length p_3.2) rfl) ?_
     refine l_val rfl rfl rfl (r_assign (v := .int .i64 0) rfl) ?_
     refine l_nil ?_
     refine c_sel [0, 1, 2] [poolC noH hp_3, rowV 58 3 (.slice p.1 l.length p.2) l.length (t62.map e_face_offer), rowO 32 4 (.slice p_3.1 css_2.length p_3.2) css_2.length (css_2.map idC)] rfl (by decide) ?_
     refine c_ret ?_
     obtain rfl := Option.some.inj H115
     refine c_both 0 2 rfl rfl (by decide) ?_
     refine c_imp 0 rfl (imp_rofD (k := false) (p := p_3) rfl (fun h => nomatch h) pf_3) ?_
     refine ret2 (v1 := .slice p_3.1 css_2.length p_3.2) (v2 := .int .i64 0) rfl rfl rfl (finX p_3 (i := 0) rfl (by first | rfl | rw [(show css_2.length = l_3.length from pf_3.len)]) (by first | exact Imp.refl _ | exact Imp.of (by rw [(show css_2.length = l_3.length from pf_3.len)])))
end Go.Proofs.YthhaabhnlndnoaaGreat

/- FaceSplits, Merge: the walks, printed by our generator; each follows its model. Conditions: the model yields a value. -/
namespace Go.Proofs.YthhaabhnlndnoaaGreat
open Go Go.Vc Go.Md Go.M Go.Lx
set_option maxRecDepth 100000
set_option maxHeartbeats 4000000
set_option linter.unusedVariables false

theorem k47 {q0 : (List T_face_Likeness)} {vq0 : Value} {c0 : Nat} {q1 : T_face_Person} {vq1_2 : Value} {vq1_3 : Value} {c1 : Nat} {a0 : Int} {r : Bool} {w : World} {h : Heap} (hw : Know h w noS) (fq0 : FrS h 14 vq0 (q0.map e_face_Likeness)) (hc0 : h c0 = some (.cells (List.toArray [vq0]) 22 (0, 0))) (fq1_2 : FrS h 1 vq1_2 (q1.Likes.map e_i64)) (fq1_3 : FrS h 1 vq1_3 (q1.Nots.map e_i64)) (hc1 : h c1 = some (.cells (List.toArray [.int .i64 q1.Id, str q1.Name, vq1_2, vq1_3]) 32 (0, 0))) (H : face_Merge_1 q0 q1 a0 = some r) : Does Tryz.prog 47 (List.toArray [.int .i64 a0, .pointer (some ⟨c0, 0, none⟩), .pointer (some ⟨c1, 0, none⟩)]) w (fun v w' => v = (.bool r) ∧ Grow w w') := by
 refine enter (n := 9) Tryz.func47 rfl rfl rfl noS [] (Sat.nil _ _) ?_
 refine c_seq ?_
 refine c_region ?_
 refine l_val rfl rfl rfl (r_assign (v := .bool false) rfl) ?_
 refine l_nil ?_
 refine c_seq ?_
 refine c_region ?_
 refine l_read (fun w hF hS => run_loadK1 (v := vq0) Tryz.isAgg22 rfl (hw.now hF _ _ hc0) rfl) rfl rfl rfl ?_
 refine l_read (fun w hF hS => run_loadKN (vs := [.int .i64 q1.Id, str q1.Name, vq1_2, vq1_3]) Tryz.isAgg32 Tryz.sizeOf32 rfl (hw.now hF _ _ hc1) rfl) rfl rfl rfl ?_
 refine l_val rfl rfl rfl (r_move (v := .int .i64 a0) rfl) ?_
 obtain ⟨t8, h_t8, H2⟩ := bnd_some H; clear H
 refine l_callG (fun w hF hS => k35 (know_all w) (fq0.mono (hw.now hF)) (fq1_2.mono (hw.now hF)) (fq1_3.mono (hw.now hF)) h_t8) Tryz.call35 rfl rfl rfl ?_
 refine l_val rfl rfl rfl (r_assign (v := .bool t8) rfl) ?_
 refine l_nil ?_
 refine c_ret ?_
 obtain rfl := Option.some.inj H2
 refine ret1 (v := .bool t8) rfl rfl (fin rfl)
theorem k48 {css r : List (List Value)} {p0 : Option Addr × Nat} {n0 : Nat} {a1 a2 : Int} {w : World} {h : Heap} {S : Nat → Prop} (hcs : (rowO 32 4 (.slice p0.1 n0 p0.2) n0 (css.map idC)).P S w) (hlt : ∀ b, S b → b < w.heap.size) (hw : Know h w S) (hn0 : n0 = css.length) (hone : ∀ cs ∈ css, ∀ u ∈ cs, u.oneCell' = true) (H : gDelN css a1 a2 = some r) :
    Does Tryz.prog 48 (List.toArray [.slice p0.1 n0 p0.2, .int .i64 a1, .int .i64 a2]) w (fun v w' => ∃ _ : Unit, v = .slice p0.1 r.length p0.2 ∧ Turn w w' S (rowO 32 4 (.slice p0.1 r.length p0.2) r.length (r.map idC))) := by
 obtain ⟨rfl, g0, g1, g2⟩ := gDelN_some H
 unfold delL
 have h_all : gCut css a1 a2 = some ((css.drop a1.toNat).take (a2.toNat - a1.toNat)) := gCut_ok ⟨g0, g1, g2⟩
 have h_lo : gCut css 0 a1 = some (css.take a1.toNat) := gCut_to (by omega)
 have h_hi : gCut css a2 css.length = some (css.drop a2.toNat) := gCut_from (by omega)
 have l_lo : (css.take a1.toNat).length = a1.toNat := by rw [List.length_take]; omega
 have l_hi : (css.drop a2.toNat).length = css.length - a2.toNat := List.length_drop
 refine enter (n := 33) Tryz.func48 rfl rfl rfl S [rowO 32 4 (.slice p0.1 n0 p0.2) n0 (css.map idC)] (Sat.one hcs hlt) ?_
 refine c_know (fun w hF hS => capOfO (i := 0) hS rfl) (fun hcap => ?_)
 refine c_know (fun w hF hS => rowO_all (i := 0) hS rfl) (fun hall => ?_)
 rw [idC_map] at hall
 refine c_seq ?_
 refine c_region ?_
 refine l_val rfl rfl rfl (r_assign (v := .slice none 0 0) rfl) ?_
 refine l_nil ?_
 refine c_seq ?_
 refine c_region ?_
 refine l_val rfl rfl rfl (r_move (v := .slice p0.1 n0 p0.2) rfl) ?_
 refine l_val rfl rfl rfl (r_move (v := .int .i64 a1) rfl) ?_
 refine l_val rfl rfl rfl (r_move (v := .int .i64 a2) rfl) ?_
 refine l_val rfl rfl rfl (r_move (v := .slice p0.1 n0 p0.2) rfl) ?_
 refine l_val rfl rfl rfl (r_lenN Tryz.underlying23 rfl hn0) ?_
 refine l_read (fun w hF hS => run_slice3O (xs := css) Tryz.underlying23 Tryz.sizeOf32 rfl rfl rfl rfl hn0 hcap h_all) rfl rfl rfl ?_
 refine l_nil ?_
 refine c_seq ?_
 refine c_seq ?_
 refine c_region ?_
 refine l_val rfl rfl rfl (r_move (v := .int .i64 a1) rfl) ?_
 refine l_val rfl rfl rfl (r_move (v := .int .i64 a2) rfl) ?_
 refine l_val rfl rfl rfl (r_eql rfl rfl) ?_
 refine l_nil ?_
 refine c_if (b := (decide (a1 = a2))) rfl (fun hb => ?_) (fun hb => ?_)
 ·have hab : a1 = a2 := of_decide_eq_true hb
  have he : (css.take (Int.toNat a1) ++ css.drop (Int.toNat a2)) = css := by rw [← hab, List.take_append_drop]
  rw [he, ← hn0]
  refine c_seq ?_
  refine c_region ?_
  refine l_val rfl rfl rfl (r_move (v := .slice p0.1 n0 p0.2) rfl) ?_
  refine l_val rfl rfl rfl (r_assign (v := .slice p0.1 n0 p0.2) rfl) ?_
  refine l_nil ?_
  refine c_ret ?_
  refine ret1 (v := .slice p0.1 n0 p0.2) rfl rfl (finX () (i := 0) rfl rfl (Imp.refl _))
 ·have hab : ¬ a1 = a2 := of_decide_eq_false hb
  refine c_skip ?_
  refine c_seq ?_
  refine c_region ?_
  refine l_val rfl rfl rfl (r_move (v := .slice p0.1 n0 p0.2) rfl) ?_
  refine l_val rfl rfl rfl (r_lenN Tryz.underlying23 rfl hn0) ?_
  refine l_val rfl rfl rfl (r_assign (v := .int .i64 (css.length : Int)) rfl) ?_
  refine l_nil ?_
  refine c_seq ?_
  exact c_regionD (Kd.p :: Kd.p :: Kd.d [0] _ :: Kd.p :: Kd.p :: Kd.d [0] _ :: Kd.t 0 [] _ _ :: Kd.p :: []) 0 mixed (by
   refine d_val rfl rfl (r_move (v := .slice p0.1 n0 p0.2) rfl) ?_
   refine d_val rfl rfl (r_move (v := .int .i64 a1) rfl) ?_
   refine d_readD (v := .slice p0.1 (css.take a1.toNat).length p0.2) (fun w L' hF hS hi => run_sliceHO0 (xs := css) Tryz.underlying23 Tryz.sizeOf32 rfl rfl hn0 (capOfO (i := 0) hS ((hi 0 (by simp)).trans rfl)) h_lo) rfl rfl ?_
   refine d_val rfl rfl (r_move (v := .slice p0.1 n0 p0.2) rfl) ?_
   refine d_val rfl rfl (r_move (v := .int .i64 a2) rfl) ?_
   refine d_readD (v := .slice (cutA p0.1 (Int.toNat a2) p0.2 4) (css.drop a2.toNat).length (p0.2 - Int.toNat a2)) (fun w L' hF hS hi => run_sliceLO (xs := css) Tryz.underlying23 Tryz.sizeOf32 rfl rfl hn0 (capOfO (i := 0) hS ((hi 0 (by simp)).trans rfl)) h_hi) rfl rfl ?_
   refine d_turn (Cv := fun _ => rowO 32 4 (.slice p0.1 ((css.take a1.toNat).length + (css.drop a2.toNat).length) p0.2) ((css.take a1.toNat).length + (css.drop a2.toNat).length) ((css.map idC).take (css.take a1.toNat).length ++ (css.drop a2.toNat).map idC)) ()
    (turns_delO (i := 0) (rds := []) (xs := css.map idC) (news := (css.drop a2.toNat).map idC) (a := (css.take a1.toNat).length) (q := (css.drop a2.toNat).length) (m := n0) (p := p0) (by omega) Tryz.underlying23 (info_of Tryz.typeInfo32) rfl rfl (by omega) rfl rfl cutA_none (List.length_map _).symm
     (fun w L' hF hS hj => Row.cutG (xs := css) (f := idC) (offOf (i := 0) hS (hj.trans rfl)) hn0 (capOfO (i := 0) hS (hj.trans rfl)) h_hi) (by rw [idC_map]; exact fun x hx => hall x (List.mem_of_mem_drop hx)) (by rw [idC_map]; exact fun x hx => hone x (List.mem_of_mem_drop hx))) (fun _ => rfl) rfl rfl (fun _ => ?_)
   refine d_val rfl rfl (r_assign (v := .slice p0.1 ((css.take a1.toNat).length + (css.drop a2.toNat).length) p0.2) rfl) ?_
   refine d_nil ?_
   have hch : (css.map idC).take (css.take a1.toNat).length ++ (css.drop a2.toNat).map idC = css.take a1.toNat ++ css.drop a2.toNat := by rw [idC_map, idC_map]; congr 1; rw [l_lo]
   refine c_imp 0 rfl (Imp.of (congrArg (rowO 32 4 (.slice p0.1 ((css.take a1.toNat).length + (css.drop a2.toNat).length) p0.2) ((css.take a1.toNat).length + (css.drop a2.toNat).length)) hch)) ?_
   rw [List.length_append]
   refine c_seq ?_
   refine c_region ?_
   refine l_val rfl rfl rfl (r_move (v := .slice p0.1 ((css.take a1.toNat).length + (css.drop a2.toNat).length) p0.2) rfl) ?_
   refine l_val rfl rfl rfl (r_move (v := .slice p0.1 ((css.take a1.toNat).length + (css.drop a2.toNat).length) p0.2) rfl) ?_
   refine l_val rfl rfl rfl (r_len Tryz.underlying23 rfl) ?_
   refine l_val rfl rfl rfl (r_move (v := .int .i64 (css.length : Int)) rfl) ?_
   refine l_read (v := .slice (cutA p0.1 ((css.take a1.toNat).length + (css.drop a2.toNat).length) p0.2 4) (Int.toNat (css.length : Int) - ((css.take a1.toNat).length + (css.drop a2.toNat).length)) (p0.2 - ((css.take a1.toNat).length + (css.drop a2.toNat).length))) (fun w hF hS => run_sliceRoom Tryz.underlying23 Tryz.sizeOf32 rfl rfl rfl (by omega) (by omega)) rfl rfl rfl ?_
   refine l_turn0 (turns_clearO (i := 0) (sz := 4) (rds := []) (m := (css.take a1.toNat).length + (css.drop a2.toNat).length) (q := Int.toNat (css.length : Int) - ((css.take a1.toNat).length + (css.drop a2.toNat).length)) (xs := css.take a1.toNat ++ css.drop a2.toNat) Tryz.underlying23 Tryz.zeroValue32 rfl rfl rfl rfl (by omega)) rfl rfl (fun _ => ?_)
   refine l_nil ?_
   refine c_seq ?_
   refine c_region ?_
   refine l_val rfl rfl rfl (r_move (v := .slice p0.1 ((css.take a1.toNat).length + (css.drop a2.toNat).length) p0.2) rfl) ?_
   refine l_val rfl rfl rfl (r_assign (v := .slice p0.1 ((css.take a1.toNat).length + (css.drop a2.toNat).length) p0.2) rfl) ?_
   refine l_nil ?_
   refine c_ret ?_
   refine ret1 (v := .slice p0.1 ((css.take a1.toNat).length + (css.drop a2.toNat).length) p0.2) rfl rfl (finX () (i := 0) rfl rfl (Imp.of (by rw [idC_map])))
   ) (by kernel_rfl)

theorem k11 {a0 : (List T_face_Likeness)} {v0 : Value} {a1 : (List T_face_Person)} {v1 : Value} {a2 : Int} {a3 : Int} {r : (List T_face_Person) × Int} {w : World} {h : Heap} (hw : Know h w noS) (f0 : FrS h 14 v0 (a0.map e_face_Likeness)) (f1 : FrN h 4 v1 g_face_Person a1) (H : face_Merge a0 a1 a2 a3 = some r) : Does Tryz.prog 11 (List.toArray [v0, v1, .int .i64 a2, .int .i64 a3]) w (fun v w' => ∃ x : (Option Addr × Nat), v = (.tuple #[.slice x.1 r.1.length x.2, .int .i64 r.2]) ∧ Turn w w' noS (rofD true 32 4 g_face_Person (.slice x.1 r.1.length x.2) r.1.length r.1)) := by
 refine enter (n := 91) Tryz.func11 rfl rfl rfl noS [] (Sat.nil _ _) ?_
 refine c_poolNew noH ?_
 refine c_seq ?_
 refine c_region ?_
 refine l_box (cs := [v0]) rfl rfl rfl f0.cells (fun b6 => ?_)
 refine l_val rfl rfl rfl (r_assign (v := .slice none 0 0) rfl) ?_
 refine l_val rfl rfl rfl (r_assign (v := .int .i64 0) rfl) ?_
 refine l_nil ?_
 refine c_seq ?_
 refine c_seq ?_
 refine c_region ?_
 refine l_load1 (i := 1) (v := v0) Tryz.isAgg22 rfl rfl rfl rfl rfl ?_
 refine l_val rfl rfl rfl (r_move (v := v1) rfl) ?_
 obtain ⟨t20, h_t20, H55⟩ := bnd_some H; clear H
 refine l_callG (fun w hF hS => k7 (know_all w) (f0.mono (hw.now hF)) (f1.mono (hw.now hF)) h_t20) Tryz.call7 rfl rfl rfl ?_
 refine l_val rfl rfl rfl (r_assign (v := .int .i64 t20) rfl) ?_
 refine l_nil ?_
 refine c_seq ?_
 refine c_region ?_
 refine l_val rfl rfl rfl (r_move (v := .int .i64 t20) rfl) ?_
 refine l_val rfl rfl rfl (r_neq rfl rfl) ?_
 refine l_nil ?_
 refine c_if (b := (decide (t20 ≠ 0))) rfl (fun hb => ?_) (fun hb => ?_)
 ·have H56 := cnd_t hb H55; clear H55
  refine c_seq ?_
  refine c_region ?_
  refine l_val rfl rfl rfl (r_move (v := .int .i64 t20) rfl) ?_
  refine l_val rfl rfl rfl (r_assign (v := .slice none 0 0) rfl) ?_
  refine l_val rfl rfl rfl (r_assign (v := .int .i64 t20) rfl) ?_
  refine l_nil ?_
  refine c_ret ?_
  refine c_nilRow 32 4 ?_
  obtain rfl := Option.some.inj H56
  refine c_imp 2 rfl (imp_rowO _ _ _ _ _) ?_
  refine c_both 0 2 rfl rfl (by decide) ?_
  refine c_imp 0 rfl (imp_rofD (k := true) (p := ((none, 0) : Option Addr × Nat)) rfl (fun _ => rfl) (AllC.nil (G := g_face_Person) (h := noH) (sz := 4))) ?_
  refine ret2 (v1 := .slice ((none, 0) : Option Addr × Nat).1 (([] : List (List Value)).length) ((none, 0) : Option Addr × Nat).2) (v2 := .int .i64 t20) rfl rfl rfl (finX ((none, 0) : Option Addr × Nat) (i := 0) rfl (by first | rfl | rw [(show (([] : List (List Value)).length) = ([] : List T_face_Person).length from (AllC.nil (G := g_face_Person) (h := noH) (sz := 4)).len)]) (by first | exact Imp.refl _ | exact Imp.of (by rw [(show (([] : List (List Value)).length) = ([] : List T_face_Person).length from (AllC.nil (G := g_face_Person) (h := noH) (sz := 4)).len)])))
 ·have H57 := cnd_f hb H55; clear H55
  refine c_skip ?_
  refine c_seq ?_
  refine c_region ?_
  refine l_val rfl rfl rfl (r_move (v := v1) rfl) ?_
  refine l_val rfl rfl rfl (r_move (v := .int .i64 a2) rfl) ?_
  obtain ⟨t27, h_t27, H58⟩ := bnd_some H57; clear H57
  refine l_callG (fun w hF hS => k33 (know_all w) (f1.mono (hw.now hF)) h_t27) Tryz.call33 rfl rfl rfl ?_
  refine l_val rfl rfl rfl (r_move (v := .tuple #[.int .i64 t27.1, .bool t27.2]) rfl) ?_
  refine l_val rfl rfl rfl (r_extract (v := .int .i64 t27.1) rfl rfl) ?_
  refine l_val rfl rfl rfl (r_extract (v := .bool t27.2) rfl rfl) ?_
  refine l_val rfl rfl rfl (r_assign (v := .int .i64 t27.1) rfl) ?_
  refine l_val rfl rfl rfl (r_assign (v := .bool t27.2) rfl) ?_
  refine l_nil ?_
  refine c_seq ?_
  refine c_region ?_
  refine l_val rfl rfl rfl (r_move (v := v1) rfl) ?_
  refine l_val rfl rfl rfl (r_move (v := .int .i64 a3) rfl) ?_
  obtain ⟨t33, h_t33, H59⟩ := bnd_some H58; clear H58
  refine l_callG (fun w hF hS => k33 (know_all w) (f1.mono (hw.now hF)) h_t33) Tryz.call33 rfl rfl rfl ?_
  refine l_val rfl rfl rfl (r_move (v := .tuple #[.int .i64 t33.1, .bool t33.2]) rfl) ?_
  refine l_val rfl rfl rfl (r_extract (v := .int .i64 t33.1) rfl rfl) ?_
  refine l_val rfl rfl rfl (r_extract (v := .bool t33.2) rfl rfl) ?_
  refine l_val rfl rfl rfl (r_assign (v := .int .i64 t33.1) rfl) ?_
  refine l_val rfl rfl rfl (r_assign (v := .bool t33.2) rfl) ?_
  refine l_nil ?_
  refine c_seq ?_
  refine c_block ?_
  refine c_seq ?_
  refine c_region ?_
  refine l_val rfl rfl rfl (r_move (v := .bool t27.2) rfl) ?_
  refine l_val rfl rfl rfl (r_not rfl) ?_
  refine l_val rfl rfl rfl (r_move (v := .bool (!t27.2)) rfl) ?_
  refine split (fun hb => ?_) (fun hb => ?_)
  ·have H60 := cnd_t hb H59; clear H59
   refine l_passed rfl rfl rfl ?_
   refine l_passed rfl rfl rfl ?_
   refine l_val rfl rfl rfl (r_pickT (v := .bool true) rfl rfl) ?_
   refine l_val rfl rfl rfl (r_assign (v := .bool true) rfl) ?_
   refine l_nil ?_
   refine c_true rfl ?_
   refine c_seq ?_
   refine c_region ?_
   refine l_val rfl rfl rfl (r_assign (v := .slice none 0 0) rfl) ?_
   refine l_val rfl rfl rfl (r_assign (v := .int .i64 7) rfl) ?_
   refine l_nil ?_
   refine c_ret ?_
   refine c_nilRow 32 4 ?_
   obtain rfl := Option.some.inj H60
   refine c_imp 2 rfl (imp_rowO _ _ _ _ _) ?_
   refine c_both 0 2 rfl rfl (by decide) ?_
   refine c_imp 0 rfl (imp_rofD (k := true) (p := ((none, 0) : Option Addr × Nat)) rfl (fun _ => rfl) (AllC.nil (G := g_face_Person) (h := noH) (sz := 4))) ?_
   refine ret2 (v1 := .slice ((none, 0) : Option Addr × Nat).1 (([] : List (List Value)).length) ((none, 0) : Option Addr × Nat).2) (v2 := .int .i64 7) rfl rfl rfl (finX ((none, 0) : Option Addr × Nat) (i := 0) rfl (by first | rfl | rw [(show (([] : List (List Value)).length) = ([] : List T_face_Person).length from (AllC.nil (G := g_face_Person) (h := noH) (sz := 4)).len)]) (by first | exact Imp.refl _ | exact Imp.of (by rw [(show (([] : List (List Value)).length) = ([] : List T_face_Person).length from (AllC.nil (G := g_face_Person) (h := noH) (sz := 4)).len)])))
  ·have H61 := cnd_f hb H59; clear H59
   refine l_val rfl rfl rfl (r_move (v := .bool t33.2) rfl) ?_
   refine l_val rfl rfl rfl (r_not rfl) ?_
   refine l_val rfl rfl rfl (r_pickF (v := .bool (!t33.2)) rfl rfl) ?_
   refine l_val rfl rfl rfl (r_assign (v := .bool (!t33.2)) rfl) ?_
   refine l_nil ?_
   refine c_if (b := (!t33.2)) rfl (fun hb => ?_) (fun hb => ?_)
   ·have H62 := cnd_t hb H61; clear H61
    refine c_seq ?_
    refine c_region ?_
    refine l_val rfl rfl rfl (r_assign (v := .slice none 0 0) rfl) ?_
    refine l_val rfl rfl rfl (r_assign (v := .int .i64 7) rfl) ?_
    refine l_nil ?_
    refine c_ret ?_
    refine c_nilRow 32 4 ?_
    obtain rfl := Option.some.inj H62
    refine c_imp 2 rfl (imp_rowO _ _ _ _ _) ?_
    refine c_both 0 2 rfl rfl (by decide) ?_
    refine c_imp 0 rfl (imp_rofD (k := true) (p := ((none, 0) : Option Addr × Nat)) rfl (fun _ => rfl) (AllC.nil (G := g_face_Person) (h := noH) (sz := 4))) ?_
    refine ret2 (v1 := .slice ((none, 0) : Option Addr × Nat).1 (([] : List (List Value)).length) ((none, 0) : Option Addr × Nat).2) (v2 := .int .i64 7) rfl rfl rfl (finX ((none, 0) : Option Addr × Nat) (i := 0) rfl (by first | rfl | rw [(show (([] : List (List Value)).length) = ([] : List T_face_Person).length from (AllC.nil (G := g_face_Person) (h := noH) (sz := 4)).len)]) (by first | exact Imp.refl _ | exact Imp.of (by rw [(show (([] : List (List Value)).length) = ([] : List T_face_Person).length from (AllC.nil (G := g_face_Person) (h := noH) (sz := 4)).len)])))
   ·have H63 := cnd_f hb H61; clear H61
    refine c_seq ?_
    refine c_region ?_
    refine l_val rfl rfl rfl (r_move (v := .int .i64 a2) rfl) ?_
    refine l_val rfl rfl rfl (r_move (v := .int .i64 a3) rfl) ?_
    refine l_val rfl rfl rfl (r_eql rfl rfl) ?_
    refine l_val rfl rfl rfl (r_assign (v := .bool (decide (a2 = a3))) rfl) ?_
    refine l_nil ?_
    refine c_if (b := (decide (a2 = a3))) rfl (fun hb => ?_) (fun hb => ?_)
    ·have H64 := cnd_t hb H63; clear H63
     refine c_seq ?_
     refine c_region ?_
     refine l_val rfl rfl rfl (r_assign (v := .slice none 0 0) rfl) ?_
     refine l_val rfl rfl rfl (r_assign (v := .int .i64 1) rfl) ?_
     refine l_nil ?_
     refine c_ret ?_
     refine c_nilRow 32 4 ?_
     obtain rfl := Option.some.inj H64
     refine c_imp 2 rfl (imp_rowO _ _ _ _ _) ?_
     refine c_both 0 2 rfl rfl (by decide) ?_
     refine c_imp 0 rfl (imp_rofD (k := true) (p := ((none, 0) : Option Addr × Nat)) rfl (fun _ => rfl) (AllC.nil (G := g_face_Person) (h := noH) (sz := 4))) ?_
     refine ret2 (v1 := .slice ((none, 0) : Option Addr × Nat).1 (([] : List (List Value)).length) ((none, 0) : Option Addr × Nat).2) (v2 := .int .i64 1) rfl rfl rfl (finX ((none, 0) : Option Addr × Nat) (i := 0) rfl (by first | rfl | rw [(show (([] : List (List Value)).length) = ([] : List T_face_Person).length from (AllC.nil (G := g_face_Person) (h := noH) (sz := 4)).len)]) (by first | exact Imp.refl _ | exact Imp.of (by rw [(show (([] : List (List Value)).length) = ([] : List T_face_Person).length from (AllC.nil (G := g_face_Person) (h := noH) (sz := 4)).len)])))
    ·have H65 := cnd_f hb H63; clear H63
     refine c_skip ?_
     refine c_seq ?_
     exact c_regionD (Kd.p :: Kd.p :: Kd.p :: Kd.d [] _ :: Kd.p :: Kd.p :: Kd.p :: Kd.d [] _ :: Kd.nw 2 [_, _, _, _] 32 :: Kd.nw 3 [_, _, _, _] 32 :: Kd.sv 15 50 2 _ 32 :: Kd.sv 16 54 3 _ 32 :: []) 2 mixed (by
      refine d_val rfl rfl (r_move (v := v1) rfl) ?_
      refine d_val rfl rfl (r_move (v := .int .i64 t27.1) rfl) ?_
      have h_t49 := bnd_val H65
      have H66 := bnd_rest H65
      refine d_val rfl rfl (r_indexF Tryz.underlying23 Tryz.sizeOf32 rfl rfl f1.frs (f1.ix h_t49)) ?_
      refine d_read (fun w hF => run_loadGN (f := (elC h v1 4)) (i := t27.1) (sz := 4) (j := 0) (vs := [.int .i64 (val (gAt a1 t27.1)).Id, str (val (gAt a1 t27.1)).Name, (elH h v1 4 (Int.toNat t27.1) 2), (elH h v1 4 (Int.toNat t27.1) 3)]) Tryz.isAgg32 Tryz.sizeOf32 rfl rfl (f1.frs.row (hw.now hF)) (f1.ix h_t49) (rd_of (cg_face_Person (f1.at h_t49)) rfl)) rfl rfl ?_
      refine d_val rfl rfl (r_move (v := v1) rfl) ?_
      refine d_val rfl rfl (r_move (v := .int .i64 t33.1) rfl) ?_
      have h_t53 := bnd_val H66
      have H67 := bnd_rest H66
      refine d_val rfl rfl (r_indexF Tryz.underlying23 Tryz.sizeOf32 rfl rfl f1.frs (f1.ix h_t53)) ?_
      refine d_read (fun w hF => run_loadGN (f := (elC h v1 4)) (i := t33.1) (sz := 4) (j := 0) (vs := [.int .i64 (val (gAt a1 t33.1)).Id, str (val (gAt a1 t33.1)).Name, (elH h v1 4 (Int.toNat t33.1) 2), (elH h v1 4 (Int.toNat t33.1) 3)]) Tryz.isAgg32 Tryz.sizeOf32 rfl rfl (f1.frs.row (hw.now hF)) (f1.ix h_t53) (rd_of (cg_face_Person (f1.at h_t53)) rfl)) rfl rfl ?_
      refine d_new rfl rfl (run_alloc (cs := [.int .i64 0, str [], .slice none 0 0, .slice none 0 0]) Tryz.zeroValue32 rfl) rfl (fun b7 => ?_)
      refine d_new rfl rfl (run_alloc (cs := [.int .i64 0, str [], .slice none 0 0, .slice none 0 0]) Tryz.zeroValue32 rfl) rfl (fun b8 => ?_)
      refine d_storeV (i := 2) (vs := [.int .i64 (val (gAt a1 t27.1)).Id, str (val (gAt a1 t27.1)).Name, (elH h v1 4 (Int.toNat t27.1) 2), (elH h v1 4 (Int.toNat t27.1) 3)]) (cs' := fun v_ => [(vcell v_ 0), (vcell v_ 1), (vcell v_ 2), (vcell v_ 3)]) Tryz.sizeOf32 rfl rfl rfl rfl rfl rfl (by simp only [List.all_cons, List.all_nil, (show FrS h 1 (elH h v1 4 (Int.toNat t27.1) 2) ((val (gAt a1 t27.1)).Likes.map e_i64) from (g_face_Person_p2 (f1.at h_t49))).one, (show FrS h 1 (elH h v1 4 (Int.toNat t27.1) 3) ((val (gAt a1 t27.1)).Nots.map e_i64) from (g_face_Person_p3 (f1.at h_t49))).one] <;> rfl) rfl rfl ?_
      refine d_storeV (i := 3) (vs := [.int .i64 (val (gAt a1 t33.1)).Id, str (val (gAt a1 t33.1)).Name, (elH h v1 4 (Int.toNat t33.1) 2), (elH h v1 4 (Int.toNat t33.1) 3)]) (cs' := fun v_ => [(vcell v_ 0), (vcell v_ 1), (vcell v_ 2), (vcell v_ 3)]) Tryz.sizeOf32 rfl rfl rfl rfl rfl rfl (by simp only [List.all_cons, List.all_nil, (show FrS h 1 (elH h v1 4 (Int.toNat t33.1) 2) ((val (gAt a1 t33.1)).Likes.map e_i64) from (g_face_Person_p2 (f1.at h_t53))).one, (show FrS h 1 (elH h v1 4 (Int.toNat t33.1) 3) ((val (gAt a1 t33.1)).Nots.map e_i64) from (g_face_Person_p3 (f1.at h_t53))).one] <;> rfl) rfl rfl ?_
      refine d_nil ?_
      refine c_seq ?_
      refine c_seq ?_
      refine c_sel [0, 1, 2, 3] [poolC noH noH, cellsC b6 [v0] 22, cellsC b7 [.int .i64 (val (gAt a1 t27.1)).Id, str (val (gAt a1 t27.1)).Name, (elH h v1 4 (Int.toNat t27.1) 2), (elH h v1 4 (Int.toNat t27.1) 3)] 32, cellsC b8 [.int .i64 (val (gAt a1 t33.1)).Id, str (val (gAt a1 t33.1)).Name, (elH h v1 4 (Int.toNat t33.1) 2), (elH h v1 4 (Int.toNat t33.1) 3)] 32] rfl (by decide) ?_
      refine c_region ?_
      refine l_val rfl rfl rfl (r_field Tryz.runUnderlying32 rfl Tryz.sizeOf24 rfl rfl) ?_
      refine l_load1 (i := 3) (v := (elH h v1 4 (Int.toNat t33.1) 2)) Tryz.isAgg24 rfl rfl rfl rfl rfl ?_
      refine l_val rfl rfl rfl (r_makeFn (caps := #[.pointer (some ⟨b6, 0, none⟩), .pointer (some ⟨b7, 0, none⟩)]) rfl) ?_
      obtain ⟨t58, h_t58, H68⟩ := bnd_some H67; clear H67
      refine l_callG (fun w hF hS => k40 (know_all w) ((show FrS h 1 (elH h v1 4 (Int.toNat t33.1) 2) ((val (gAt a1 t33.1)).Likes.map e_i64) from (g_face_Person_p2 (f1.at h_t53))).mono (hw.now hF)) (FnH.mk ⟨47, #[], #[.pointer (some ⟨b6, 0, none⟩), .pointer (some ⟨b7, 0, none⟩)], rfl, Tryz.call47, fun args2 post2 w2 hk2 hR2 => by obtain ⟨a0_, r_, rfl, H_, rfl⟩ := hR2; exact k47 (know_all w2) ((f0.mono (hw.now hF)).mono hk2.up) (hk2.up _ _ (sat_cell (i := 1) hS rfl)) (((show FrS h 1 (elH h v1 4 (Int.toNat t27.1) 2) ((val (gAt a1 t27.1)).Likes.map e_i64) from (g_face_Person_p2 (f1.at h_t49))).mono (hw.now hF)).mono hk2.up) (((show FrS h 1 (elH h v1 4 (Int.toNat t27.1) 3) ((val (gAt a1 t27.1)).Nots.map e_i64) from (g_face_Person_p3 (f1.at h_t49))).mono (hw.now hF)).mono hk2.up) (hk2.up _ _ (sat_cell (i := 2) hS rfl)) H_⟩) h_t58) Tryz.call40 rfl rfl rfl ?_
      refine l_nil ?_
      refine c_if (b := t58) rfl (fun hb => ?_) (fun hb => ?_)
      ·have H69 := cnd_t hb H68; clear H68
       refine c_seq ?_
       refine c_region ?_
       refine l_val rfl rfl rfl (r_assign (v := .slice none 0 0) rfl) ?_
       refine l_val rfl rfl rfl (r_assign (v := .int .i64 11) rfl) ?_
       refine l_nil ?_
       refine c_ret ?_
       refine c_nilRow 32 4 ?_
       obtain rfl := Option.some.inj H69
       refine c_imp 4 rfl (imp_rowO _ _ _ _ _) ?_
       refine c_both 0 4 rfl rfl (by decide) ?_
       refine c_imp 0 rfl (imp_rofD (k := true) (p := ((none, 0) : Option Addr × Nat)) rfl (fun _ => rfl) (AllC.nil (G := g_face_Person) (h := noH) (sz := 4))) ?_
       refine ret2 (v1 := .slice ((none, 0) : Option Addr × Nat).1 (([] : List (List Value)).length) ((none, 0) : Option Addr × Nat).2) (v2 := .int .i64 11) rfl rfl rfl (finX ((none, 0) : Option Addr × Nat) (i := 0) rfl (by first | rfl | rw [(show (([] : List (List Value)).length) = ([] : List T_face_Person).length from (AllC.nil (G := g_face_Person) (h := noH) (sz := 4)).len)]) (by first | exact Imp.refl _ | exact Imp.of (by rw [(show (([] : List (List Value)).length) = ([] : List T_face_Person).length from (AllC.nil (G := g_face_Person) (h := noH) (sz := 4)).len)])))
      ·have H70 := cnd_f hb H68; clear H68
       refine c_skip ?_
       refine c_seq ?_
       refine c_region ?_
       refine l_val rfl rfl rfl (r_move (v := v1) rfl) ?_
       obtain ⟨t60, h_t60, H71⟩ := bnd_some H70; clear H70
       refine l_make (makes_call (rds := []) (G := fun x : (Option Addr × Nat) => .slice x.1 t60.length x.2) (C := fun x : (Option Addr × Nat) => rofD true 32 4 g_face_Person (.slice x.1 t60.length x.2) t60.length t60) (fun w L' hF hS hi => k32 (know_all w) (f1.mono (hw.now hF)) h_t60) Tryz.call32 rfl) rfl rfl rfl (fun p => ?_)
       refine c_rofD 4 rfl (fun hp css hn hc pf => ?_)
       rw [hn]
       refine c_split 4 rfl ?_
       refine c_poolJoin 0 4 rfl rfl (by decide) (fun _ _ => noH_le) (fun hp_2 hle hle_2 => ?_)
       refine l_val rfl rfl rfl (r_assign (v := .slice p.1 css.length p.2) rfl) ?_
       refine l_nil ?_
       refine c_sel [0, 1, 2, 3, 4, 5] [poolC noH hp_2, cellsC b6 [v0] 22, cellsC b7 [.int .i64 (val (gAt a1 t27.1)).Id, str (val (gAt a1 t27.1)).Name, (elH h v1 4 (Int.toNat t27.1) 2), (elH h v1 4 (Int.toNat t27.1) 3)] 32, cellsC b8 [.int .i64 (val (gAt a1 t33.1)).Id, str (val (gAt a1 t33.1)).Name, (elH h v1 4 (Int.toNat t33.1) 2), (elH h v1 4 (Int.toNat t33.1) 3)] 32, _, rowO 32 4 (.slice p.1 css.length p.2) css.length (css.map idC)] rfl (by decide) ?_
       refine c_seq ?_
       refine c_region ?_
       refine l_val rfl rfl rfl (r_move (v := .slice p.1 css.length p.2) rfl) ?_
       refine l_val rfl rfl rfl (r_move (v := .int .i64 t27.1) rfl) ?_
       refine l_val rfl rfl rfl (r_field Tryz.runUnderlying32 rfl Tryz.sizeOf24 rfl rfl) ?_
       refine l_load1 (i := 2) (v := (elH h v1 4 (Int.toNat t27.1) 2)) Tryz.isAgg24 rfl rfl rfl rfl rfl ?_
       refine l_val rfl rfl rfl (r_field Tryz.runUnderlying32 rfl Tryz.sizeOf24 rfl rfl) ?_
       refine l_load1 (i := 3) (v := (elH h v1 4 (Int.toNat t33.1) 2)) Tryz.isAgg24 rfl rfl rfl rfl rfl ?_
       obtain ⟨t67, h_t67, H72⟩ := bnd_some H71; clear H71
       refine l_make (makes_call (rds := []) (G := fun x : (Option Addr × Nat) => .slice x.1 t67.length x.2) (C := fun x : (Option Addr × Nat) => roV 1 (.slice x.1 t67.length x.2) t67.length (t67.map e_i64)) (fun w L' hF hS hi => k36 (know_all w) ((show FrS h 1 (elH h v1 4 (Int.toNat t27.1) 2) ((val (gAt a1 t27.1)).Likes.map e_i64) from (g_face_Person_p2 (f1.at h_t49))).mono (hw.now hF)) ((show FrS h 1 (elH h v1 4 (Int.toNat t33.1) 2) ((val (gAt a1 t33.1)).Likes.map e_i64) from (g_face_Person_p2 (f1.at h_t53))).mono (hw.now hF)) h_t67) Tryz.call36 rfl) rfl rfl rfl (fun p_2 => ?_)
       obtain ⟨t68, h_t68, H73⟩ := bnd_some H72; clear H72
       refine l_read (fun w hF hS => run_indexO Tryz.underlying23 Tryz.sizeOf32 rfl rfl (offOf (i := 5) hS rfl) rfl ((pf.mono hle_2).ix h_t68)) rfl rfl rfl ?_
       refine c_know (fun w hF hS => someOfO (i := 5) hS rfl ((pf.mono hle_2).ix h_t68)) (fun hs => ?_)
       refine l_val rfl rfl rfl (r_fieldP Tryz.runUnderlying32 rfl Tryz.sizeOf24 rfl rfl hs) ?_
       refine c_freeze (Φ := fun H_ => FrS H_ 1 (.slice p_2.1 t67.length p_2.2) (t67.map e_i64)) 0 6 rfl rfl (by decide) (fun _ _ => noH_le) (fz_ro _) (fun hp_3 hle_3 hf => ?_)
       obtain ⟨l5, h_l5, H74⟩ := bnd_some H73; clear H73
       refine l_turn0 (turns_storeO (q := 5) (j := 2) (i := t27.1) (sz := 4) (x := (.slice p_2.1 t67.length p_2.2)) (css := css) (xe := t68) rfl ((pf.mono hle_2).mono hle_3).len Tryz.sizeOf24 rfl rfl rfl rfl rfl rfl rfl h_t68) rfl rfl (fun _ => ?_)
       have pf_2 : AllC g_face_Person hp_3 4 (setR css t27.1 2 (.slice p_2.1 t67.length p_2.2)) l5 := AllC.setR ((pf.mono hle_2).mono hle_3) h_t68 h_l5 rfl (by obtain ⟨q0_, q1_, q2_, q3_⟩ := ((pf.mono hle_2).mono hle_3).at h_t68; exact ⟨q0_, q1_, hf, q3_⟩)
       refine l_nil ?_
       refine c_sel [0, 1, 2, 3, 4, 5, 6] [poolC noH hp_3, cellsC b6 [v0] 22, cellsC b7 [.int .i64 (val (gAt a1 t27.1)).Id, str (val (gAt a1 t27.1)).Name, (elH h v1 4 (Int.toNat t27.1) 2), (elH h v1 4 (Int.toNat t27.1) 3)] 32, cellsC b8 [.int .i64 (val (gAt a1 t33.1)).Id, str (val (gAt a1 t33.1)).Name, (elH h v1 4 (Int.toNat t33.1) 2), (elH h v1 4 (Int.toNat t33.1) 3)] 32, _, rowO 32 4 (.slice p.1 css.length p.2) css.length ((setR css t27.1 2 (.slice p_2.1 t67.length p_2.2)).map idC), _] rfl (by decide) ?_
       refine c_seq ?_
       exact c_regionD (Kd.p :: Kd.p :: Kd.p :: Kd.d [2] _ :: Kd.p :: Kd.d [3] _ :: Kd.t 7 [0] _ _ :: Kd.p :: Kd.p :: Kd.d [5] _ :: Kd.d [5] _ :: Kd.d [5] _ :: Kd.t 8 [0, 7] _ _ :: Kd.d [5] _ :: Kd.d [5] _ :: Kd.stk 84 82 5 :: []) 2 mixed (by
        refine d_val rfl rfl (r_move (v := .slice p.1 css.length p.2) rfl) ?_
        refine d_val rfl rfl (r_move (v := .int .i64 t27.1) rfl) ?_
        refine d_val rfl rfl (r_field Tryz.runUnderlying32 rfl Tryz.sizeOf24 rfl rfl) ?_
        refine d_load1 (i := 2) (v := (elH h v1 4 (Int.toNat t27.1) 3)) Tryz.isAgg24 rfl rfl rfl rfl ?_
        refine d_val rfl rfl (r_field Tryz.runUnderlying32 rfl Tryz.sizeOf24 rfl rfl) ?_
        refine d_load1 (i := 3) (v := (elH h v1 4 (Int.toNat t33.1) 3)) Tryz.isAgg24 rfl rfl rfl rfl ?_
        have h_t76 := bnd_val H74
        have H75 := bnd_rest H74
        refine d_make (Cv := fun v => roV 1 v (val (face_with (val (gAt a1 t27.1)).Nots (val (gAt a1 t33.1)).Nots)).length ((val (face_with (val (gAt a1 t27.1)).Nots (val (gAt a1 t33.1)).Nots)).map e_i64)) (none, 0) (makes_call (G := fun x : (Option Addr × Nat) => .slice x.1 (val (face_with (val (gAt a1 t27.1)).Nots (val (gAt a1 t33.1)).Nots)).length x.2) (C := fun x : (Option Addr × Nat) => roV 1 (.slice x.1 (val (face_with (val (gAt a1 t27.1)).Nots (val (gAt a1 t33.1)).Nots)).length x.2) (val (face_with (val (gAt a1 t27.1)).Nots (val (gAt a1 t33.1)).Nots)).length ((val (face_with (val (gAt a1 t27.1)).Nots (val (gAt a1 t33.1)).Nots)).map e_i64)) (fun w L' hF hS hi => k36 (know_all w) ((show FrS h 1 (elH h v1 4 (Int.toNat t27.1) 3) ((val (gAt a1 t27.1)).Nots.map e_i64) from (g_face_Person_p3 (f1.at h_t49))).mono (hw.now hF)) ((show FrS h 1 (elH h v1 4 (Int.toNat t33.1) 3) ((val (gAt a1 t33.1)).Nots.map e_i64) from (g_face_Person_p3 (f1.at h_t53))).mono (hw.now hF)) h_t76) Tryz.call36 rfl) (fun _ => rfl) rfl rfl rfl (fun p_3 => ?_)
        refine d_val rfl rfl (r_move (v := .slice p.1 css.length p.2) rfl) ?_
        refine d_val rfl rfl (r_move (v := .int .i64 t27.1) rfl) ?_
        have h_t79 := bnd_val H75
        have H76 := bnd_rest H75
        refine d_readD (fun w L' hF hS hi => run_indexO Tryz.underlying23 Tryz.sizeOf32 rfl rfl (offOf (i := 5) (E := 32) (sz := 4) (n := css.length) (a := p.1) (c := p.2) hS ((hi 5 (by simp)).trans rfl)) (rfl.trans (setR_len _ _ _ _).symm) (pf_2.ix h_t79)) rfl rfl ?_
        refine d_readE rfl rfl (fun w L' hF hS hi => run_fieldG Tryz.runUnderlying32 rfl Tryz.sizeOf24 rfl rfl (offOf (i := 5) (E := 32) (sz := 4) (n := css.length) (a := p.1) (c := p.2) hS ((hi 5 (by simp)).trans rfl)) (pf_2.ix h_t79)) ?_
        refine d_readD (fun w L' hF hS hi => run_loadG1 (f := idC) (i := t27.1) (sz := 4) (j := 2) (v := (List.getD (List.getD (setR css t27.1 2 (.slice p_2.1 t67.length p_2.2)) (Int.toNat t27.1) []) 2 undef)) Tryz.isAgg24 rfl rfl (offOf (i := 5) (E := 32) (sz := 4) (n := css.length) (a := p.1) (c := p.2) hS ((hi 5 (by simp)).trans rfl)) (pf_2.ix h_t79) (rg_of ((pf_2.eta h_t79).trans (cg_face_Person (pf_2.at h_t79))) rfl)) rfl rfl ?_
        have h_t82 := bnd_val H76
        have H77 := bnd_rest H76
        refine d_make (Cv := fun v => roV 1 v (val (face_without (val (face_with (val (gAt a1 t27.1)).Nots (val (gAt a1 t33.1)).Nots)) (val (gAt l5 t27.1)).Likes)).length ((val (face_without (val (face_with (val (gAt a1 t27.1)).Nots (val (gAt a1 t33.1)).Nots)) (val (gAt l5 t27.1)).Likes)).map e_i64)) (none, 0) (makes_call (G := fun x : (Option Addr × Nat) => .slice x.1 (val (face_without (val (face_with (val (gAt a1 t27.1)).Nots (val (gAt a1 t33.1)).Nots)) (val (gAt l5 t27.1)).Likes)).length x.2) (C := fun x : (Option Addr × Nat) => roV 1 (.slice x.1 (val (face_without (val (face_with (val (gAt a1 t27.1)).Nots (val (gAt a1 t33.1)).Nots)) (val (gAt l5 t27.1)).Likes)).length x.2) (val (face_without (val (face_with (val (gAt a1 t27.1)).Nots (val (gAt a1 t33.1)).Nots)) (val (gAt l5 t27.1)).Likes)).length ((val (face_without (val (face_with (val (gAt a1 t27.1)).Nots (val (gAt a1 t33.1)).Nots)) (val (gAt l5 t27.1)).Likes)).map e_i64)) (fun w L' hF hS hi => k43 (know_all w) (frs_rd (i := 7) hS ((hi 7 (by simp)).trans rfl)) ((show FrS hp_3 1 (List.getD (List.getD (setR css t27.1 2 (.slice p_2.1 t67.length p_2.2)) (Int.toNat t27.1) []) 2 undef) ((val (gAt l5 t27.1)).Likes.map e_i64) from (g_face_Person_p2 (pf_2.at h_t79))).mono (pool_now (i := 0) hS ((hi 0 (by simp)).trans rfl) noH_le)) h_t82) Tryz.call43 rfl) (fun _ => rfl) rfl rfl rfl (fun p_4 => ?_)
        have h_t83 := bnd_val H77
        have H78 := bnd_rest H77
        refine d_readD (fun w L' hF hS hi => run_indexO Tryz.underlying23 Tryz.sizeOf32 rfl rfl (offOf (i := 5) (E := 32) (sz := 4) (n := css.length) (a := p.1) (c := p.2) hS ((hi 5 (by simp)).trans rfl)) (rfl.trans (setR_len _ _ _ _).symm) (pf_2.ix h_t83)) rfl rfl ?_
        refine d_readE rfl rfl (fun w L' hF hS hi => run_fieldG Tryz.runUnderlying32 rfl Tryz.sizeOf24 rfl rfl (offOf (i := 5) (E := 32) (sz := 4) (n := css.length) (a := p.1) (c := p.2) hS ((hi 5 (by simp)).trans rfl)) (pf_2.ix h_t83)) ?_
        have h_l5_2 := bnd_val H78
        have H79 := bnd_rest H78
        refine d_storeC (i := 5) (x := .slice p_4.1 (val (face_without (val (face_with (val (gAt a1 t27.1)).Nots (val (gAt a1 t33.1)).Nots)) (val (gAt l5 t27.1)).Likes)).length p_4.2) (va := (ptrAt p.1 (Int.toNat t27.1 * 4 + 3))) Tryz.sizeOf24 rfl rfl rfl rfl rfl rfl (blk_row (E := 32) (sz := 4) (n := css.length) (a := p.1) (c := p.2) (css := (setR css t27.1 2 (.slice p_2.1 t67.length p_2.2))) (Imp.refl _) (rfl.trans (setR_len _ _ _ _).symm) pf_2.len h_t83 rfl rfl) ?_
        refine d_nil ?_
        refine c_imp 5 rfl (imp_stO (E := 32) (sz := 4) (n := css.length) (a := p.1) (c := p.2) (css := (setR css t27.1 2 (.slice p_2.1 t67.length p_2.2))) (j := 3) (x := .slice p_4.1 (val (face_without (val (face_with (val (gAt a1 t27.1)).Nots (val (gAt a1 t33.1)).Nots)) (val (gAt l5 t27.1)).Likes)).length p_4.2) (Imp.refl _) pf_2.len h_t83 rfl rfl) ?_
        refine c_freeze (Φ := fun H_ => FrS H_ 1 (.slice p_4.1 (val (face_without (val (face_with (val (gAt a1 t27.1)).Nots (val (gAt a1 t33.1)).Nots)) (val (gAt l5 t27.1)).Likes)).length p_4.2) ((val (face_without (val (face_with (val (gAt a1 t27.1)).Nots (val (gAt a1 t33.1)).Nots)) (val (gAt l5 t27.1)).Likes)).map e_i64)) 0 8 rfl rfl (by decide) (fun _ _ => noH_le) (fz_ro _) (fun hp_4 hle_4 hf_2 => ?_)
        have pf_3 : AllC g_face_Person hp_4 4 (setR (setR css t27.1 2 (.slice p_2.1 t67.length p_2.2)) t27.1 3 (.slice p_4.1 (val (face_without (val (face_with (val (gAt a1 t27.1)).Nots (val (gAt a1 t33.1)).Nots)) (val (gAt l5 t27.1)).Likes)).length p_4.2)) (val (gSet l5 t27.1 (⟨(val (gAt l5 t27.1)).Id, (val (gAt l5 t27.1)).Name, (val (gAt l5 t27.1)).Likes, (val (face_without (val (face_with (val (gAt a1 t27.1)).Nots (val (gAt a1 t33.1)).Nots)) (val (gAt l5 t27.1)).Likes))⟩ : T_face_Person))) := AllC.setR (pf_2.mono hle_4) h_t83 h_l5_2 rfl (by obtain ⟨q0_, q1_, q2_, q3_⟩ := (pf_2.mono hle_4).at h_t83; exact ⟨q0_, q1_, q2_, hf_2⟩)
        refine c_sel [0, 1, 2, 3, 4, 5, 6, 7, 8] [poolC noH hp_4, cellsC b6 [v0] 22, cellsC b7 [.int .i64 (val (gAt a1 t27.1)).Id, str (val (gAt a1 t27.1)).Name, (elH h v1 4 (Int.toNat t27.1) 2), (elH h v1 4 (Int.toNat t27.1) 3)] 32, cellsC b8 [.int .i64 (val (gAt a1 t33.1)).Id, str (val (gAt a1 t33.1)).Name, (elH h v1 4 (Int.toNat t33.1) 2), (elH h v1 4 (Int.toNat t33.1) 3)] 32, _, rowO 32 4 (.slice p.1 css.length p.2) css.length ((setR (setR css t27.1 2 (.slice p_2.1 t67.length p_2.2)) t27.1 3 (.slice p_4.1 (val (face_without (val (face_with (val (gAt a1 t27.1)).Nots (val (gAt a1 t33.1)).Nots)) (val (gAt l5 t27.1)).Likes)).length p_4.2)).map idC), _, roV 1 (.slice p_3.1 (val (face_with (val (gAt a1 t27.1)).Nots (val (gAt a1 t33.1)).Nots)).length p_3.2) (val (face_with (val (gAt a1 t27.1)).Nots (val (gAt a1 t33.1)).Nots)).length ((val (face_with (val (gAt a1 t27.1)).Nots (val (gAt a1 t33.1)).Nots)).map e_i64), _] rfl (by decide) ?_
        refine c_seq ?_
        refine c_region ?_
        refine l_val rfl rfl rfl (r_move (v := .slice p.1 css.length p.2) rfl) ?_
        refine l_val rfl rfl rfl (r_move (v := .int .i64 t33.1) rfl) ?_
        refine l_val rfl rfl rfl (r_move (v := .int .i64 t33.1) rfl) ?_
        obtain ⟨t88, h_t88, H80⟩ := bnd_some H79; clear H79
        refine l_val rfl rfl rfl (r_addG rfl rfl h_t88) ?_
        obtain ⟨t89, h_t89, H81⟩ := bnd_some H80; clear H80
        obtain ⟨hg, pf_4⟩ := pf_3.del h_t89
        refine l_turn (turns_callB (i := 5) (rds := []) (G := fun _ : Unit => .slice p.1 (delL (setR (setR css t27.1 2 (.slice p_2.1 t67.length p_2.2)) t27.1 3 (.slice p_4.1 (val (face_without (val (face_with (val (gAt a1 t27.1)).Nots (val (gAt a1 t33.1)).Nots)) (val (gAt l5 t27.1)).Likes)).length p_4.2)) t33.1 t88).length p.2) (C := fun _ : Unit => rowO 32 4 (.slice p.1 (delL (setR (setR css t27.1 2 (.slice p_2.1 t67.length p_2.2)) t27.1 3 (.slice p_4.1 (val (face_without (val (face_with (val (gAt a1 t27.1)).Nots (val (gAt a1 t33.1)).Nots)) (val (gAt l5 t27.1)).Likes)).length p_4.2)) t33.1 t88).length p.2) (delL (setR (setR css t27.1 2 (.slice p_2.1 t67.length p_2.2)) t27.1 3 (.slice p_4.1 (val (face_without (val (face_with (val (gAt a1 t27.1)).Nots (val (gAt a1 t33.1)).Nots)) (val (gAt l5 t27.1)).Likes)).length p_4.2)) t33.1 t88).length ((delL (setR (setR css t27.1 2 (.slice p_2.1 t67.length p_2.2)) t27.1 3 (.slice p_4.1 (val (face_without (val (face_with (val (gAt a1 t27.1)).Nots (val (gAt a1 t33.1)).Nots)) (val (gAt l5 t27.1)).Likes)).length p_4.2)) t33.1 t88).map idC)) rfl (fun w L' S hF hS hi hp hlt ho hA => k48 (p0 := p) hp hlt (know_but w S) ((rfl.trans (setR_len _ _ _ _).symm).trans (setR_len _ _ _ _).symm) (AllC.ones pf_3 (fun c_ x_ f_ => by obtain ⟨q0_, q1_, q2_, q3_⟩ := f_; exact fun j_ hj_ => match j_, hj_ with | 0, _ => (by rw [q0_]; rfl) | 1, _ => (by rw [q1_]; rfl) | 2, _ => (show FrS _ _ _ _ from q2_).one | 3, _ => (show FrS _ _ _ _ from q3_).one)) hg) Tryz.call48 rfl) rfl rfl rfl (fun _ => ?_)
        refine l_callG (fun w hF hS => k44 (capOfO (i := 5) hS rfl) w) Tryz.call44 rfl rfl rfl ?_
        refine l_val rfl rfl rfl (r_assign (v := .slice (cutA p.1 0 ((delL (setR (setR css t27.1 2 (.slice p_2.1 t67.length p_2.2)) t27.1 3 (.slice p_4.1 (val (face_without (val (face_with (val (gAt a1 t27.1)).Nots (val (gAt a1 t33.1)).Nots)) (val (gAt l5 t27.1)).Likes)).length p_4.2)) t33.1 t88).length) 4) ((delL (setR (setR css t27.1 2 (.slice p_2.1 t67.length p_2.2)) t27.1 3 (.slice p_4.1 (val (face_without (val (face_with (val (gAt a1 t27.1)).Nots (val (gAt a1 t33.1)).Nots)) (val (gAt l5 t27.1)).Likes)).length p_4.2)) t33.1 t88).length) ((delL (setR (setR css t27.1 2 (.slice p_2.1 t67.length p_2.2)) t27.1 3 (.slice p_4.1 (val (face_without (val (face_with (val (gAt a1 t27.1)).Nots (val (gAt a1 t33.1)).Nots)) (val (gAt l5 t27.1)).Likes)).length p_4.2)) t33.1 t88).length)) rfl) ?_
        refine l_val rfl rfl rfl (r_assign (v := .int .i64 0) rfl) ?_
        refine l_nil ?_
        refine c_sel [0, 1, 2, 3, 4, 5, 6, 7, 8] [poolC noH hp_4, cellsC b6 [v0] 22, cellsC b7 [.int .i64 (val (gAt a1 t27.1)).Id, str (val (gAt a1 t27.1)).Name, (elH h v1 4 (Int.toNat t27.1) 2), (elH h v1 4 (Int.toNat t27.1) 3)] 32, cellsC b8 [.int .i64 (val (gAt a1 t33.1)).Id, str (val (gAt a1 t33.1)).Name, (elH h v1 4 (Int.toNat t33.1) 2), (elH h v1 4 (Int.toNat t33.1) 3)] 32, _, rowO 32 4 (.slice p.1 ((delL (setR (setR css t27.1 2 (.slice p_2.1 t67.length p_2.2)) t27.1 3 (.slice p_4.1 (val (face_without (val (face_with (val (gAt a1 t27.1)).Nots (val (gAt a1 t33.1)).Nots)) (val (gAt l5 t27.1)).Likes)).length p_4.2)) t33.1 t88).length) p.2) ((delL (setR (setR css t27.1 2 (.slice p_2.1 t67.length p_2.2)) t27.1 3 (.slice p_4.1 (val (face_without (val (face_with (val (gAt a1 t27.1)).Nots (val (gAt a1 t33.1)).Nots)) (val (gAt l5 t27.1)).Likes)).length p_4.2)) t33.1 t88).length) ((delL (setR (setR css t27.1 2 (.slice p_2.1 t67.length p_2.2)) t27.1 3 (.slice p_4.1 (val (face_without (val (face_with (val (gAt a1 t27.1)).Nots (val (gAt a1 t33.1)).Nots)) (val (gAt l5 t27.1)).Likes)).length p_4.2)) t33.1 t88).map idC), _, roV 1 (.slice p_3.1 (val (face_with (val (gAt a1 t27.1)).Nots (val (gAt a1 t33.1)).Nots)).length p_3.2) (val (face_with (val (gAt a1 t27.1)).Nots (val (gAt a1 t33.1)).Nots)).length ((val (face_with (val (gAt a1 t27.1)).Nots (val (gAt a1 t33.1)).Nots)).map e_i64), _] rfl (by decide) ?_
        refine c_ret ?_
        obtain rfl := Option.some.inj H81
        refine c_imp 5 rfl (imp_clipRO _ _ _ _ _ _) ?_
        refine c_both 0 5 rfl rfl (by decide) ?_
        refine c_imp 0 rfl (imp_rofD (k := true) (p := (cutA p.1 0 ((delL (setR (setR css t27.1 2 (.slice p_2.1 t67.length p_2.2)) t27.1 3 (.slice p_4.1 (val (face_without (val (face_with (val (gAt a1 t27.1)).Nots (val (gAt a1 t33.1)).Nots)) (val (gAt l5 t27.1)).Likes)).length p_4.2)) t33.1 t88).length) 4, ((delL (setR (setR css t27.1 2 (.slice p_2.1 t67.length p_2.2)) t27.1 3 (.slice p_4.1 (val (face_without (val (face_with (val (gAt a1 t27.1)).Nots (val (gAt a1 t33.1)).Nots)) (val (gAt l5 t27.1)).Likes)).length p_4.2)) t33.1 t88).length))) rfl (fun _ => rfl) pf_4) ?_
        refine ret2 (v1 := .slice (cutA p.1 0 ((delL (setR (setR css t27.1 2 (.slice p_2.1 t67.length p_2.2)) t27.1 3 (.slice p_4.1 (val (face_without (val (face_with (val (gAt a1 t27.1)).Nots (val (gAt a1 t33.1)).Nots)) (val (gAt l5 t27.1)).Likes)).length p_4.2)) t33.1 t88).length) 4) ((delL (setR (setR css t27.1 2 (.slice p_2.1 t67.length p_2.2)) t27.1 3 (.slice p_4.1 (val (face_without (val (face_with (val (gAt a1 t27.1)).Nots (val (gAt a1 t33.1)).Nots)) (val (gAt l5 t27.1)).Likes)).length p_4.2)) t33.1 t88).length) ((delL (setR (setR css t27.1 2 (.slice p_2.1 t67.length p_2.2)) t27.1 3 (.slice p_4.1 (val (face_without (val (face_with (val (gAt a1 t27.1)).Nots (val (gAt a1 t33.1)).Nots)) (val (gAt l5 t27.1)).Likes)).length p_4.2)) t33.1 t88).length)) (v2 := .int .i64 0) rfl rfl rfl (finX (cutA p.1 0 ((delL (setR (setR css t27.1 2 (.slice p_2.1 t67.length p_2.2)) t27.1 3 (.slice p_4.1 (val (face_without (val (face_with (val (gAt a1 t27.1)).Nots (val (gAt a1 t33.1)).Nots)) (val (gAt l5 t27.1)).Likes)).length p_4.2)) t33.1 t88).length) 4, ((delL (setR (setR css t27.1 2 (.slice p_2.1 t67.length p_2.2)) t27.1 3 (.slice p_4.1 (val (face_without (val (face_with (val (gAt a1 t27.1)).Nots (val (gAt a1 t33.1)).Nots)) (val (gAt l5 t27.1)).Likes)).length p_4.2)) t33.1 t88).length)) (i := 0) rfl (by first | rfl | rw [(show ((delL (setR (setR css t27.1 2 (.slice p_2.1 t67.length p_2.2)) t27.1 3 (.slice p_4.1 (val (face_without (val (face_with (val (gAt a1 t27.1)).Nots (val (gAt a1 t33.1)).Nots)) (val (gAt l5 t27.1)).Likes)).length p_4.2)) t33.1 t88).length) = t89.length from pf_4.len)]) (by first | exact Imp.refl _ | exact Imp.of (by rw [(show ((delL (setR (setR css t27.1 2 (.slice p_2.1 t67.length p_2.2)) t27.1 3 (.slice p_4.1 (val (face_without (val (face_with (val (gAt a1 t27.1)).Nots (val (gAt a1 t33.1)).Nots)) (val (gAt l5 t27.1)).Likes)).length p_4.2)) t33.1 t88).length) = t89.length from pf_4.len)])))
        ) (by kernel_rfl)
      ) (by kernel_rfl)
end Go.Proofs.YthhaabhnlndnoaaGreat

/- FaceSplits, Split: the walks, printed by our generator; each follows its model. Conditions: the model yields a value. -/
namespace Go.Proofs.YthhaabhnlndnoaaGreat
open Go Go.Vc Go.Md Go.M Go.Lx
set_option maxRecDepth 100000
set_option maxHeartbeats 4000000
set_option linter.unusedVariables false

theorem k94 {q0 : (List T_face_Person)} {vq0 : Value} {c0 : Nat} {q1 : Int} {c1 : Nat} {a0 : Int} {r : Bool} {w : World} {h : Heap} (hw : Know h w noS) (fq0 : FrN h 4 vq0 g_face_Person q0) (hc0 : h c0 = some (.cells (List.toArray [vq0]) 23 (0, 0))) (hc1 : h c1 = some (.cells (List.toArray [.int .i64 q1]) 3 (0, 0))) (H : face_checkSplit_1 q0 q1 a0 = some r) : Does Tryz.prog 94 (List.toArray [.int .i64 a0, .pointer (some ⟨c0, 0, none⟩), .pointer (some ⟨c1, 0, none⟩)]) w (fun v w' => v = (.bool r) ∧ Grow w w') := by
 refine enter (n := 13) Tryz.func94 rfl rfl rfl noS [] (Sat.nil _ _) ?_
 refine c_seq ?_
 refine c_region ?_
 refine l_val rfl rfl rfl (r_assign (v := .bool false) rfl) ?_
 refine l_nil ?_
 refine c_seq ?_
 refine c_region ?_
 refine l_read (fun w hF hS => run_loadK1 (v := vq0) Tryz.isAgg23 rfl (hw.now hF _ _ hc0) rfl) rfl rfl rfl ?_
 refine l_read (fun w hF hS => run_loadK1 (v := .int .i64 q1) Tryz.isAgg3 rfl (hw.now hF _ _ hc1) rfl) rfl rfl rfl ?_
 obtain ⟨t7, h_t7, H3⟩ := bnd_some H; clear H
 refine l_val rfl rfl rfl (r_indexF Tryz.underlying23 Tryz.sizeOf32 rfl rfl fq0.frs (fq0.ix h_t7)) ?_
 refine l_val rfl rfl rfl (r_fieldP Tryz.runUnderlying32 rfl Tryz.sizeOf24 rfl rfl (some_of_at fq0.frs (fq0.ix h_t7))) ?_
 refine l_read (fun w hF hS => run_loadG1 (f := (elC h vq0 4)) (i := q1) (sz := 4) (j := 2) (v := (elH h vq0 4 (Int.toNat q1) 2)) Tryz.isAgg24 rfl rfl (fq0.frs.row (hw.now hF)) (fq0.ix h_t7) (rg_of (cg_face_Person (fq0.at h_t7)) rfl)) rfl rfl rfl ?_
 refine l_val rfl rfl rfl (r_move (v := .int .i64 a0) rfl) ?_
 obtain ⟨t11, h_t11, H4⟩ := bnd_some H3; clear H3
 refine l_callG (fun w hF hS => k55 (know_all w) ((show FrS h 1 (elH h vq0 4 (Int.toNat q1) 2) (t7.Likes.map e_i64) from (g_face_Person_p2 (fq0.at h_t7))).mono (hw.now hF)) h_t11) Tryz.call55 rfl rfl rfl ?_
 refine l_val rfl rfl rfl (r_not rfl) ?_
 refine l_val rfl rfl rfl (r_assign (v := .bool (!t11)) rfl) ?_
 refine l_nil ?_
 refine c_ret ?_
 obtain rfl := Option.some.inj H4
 refine ret1 (v := .bool (!t11)) rfl rfl (fin rfl)
theorem k42 {a0 : (List T_face_Person)} {v0 : Value} {a1 : Int} {a2 : (List Int)} {v2 : Value} {a3 : (List UInt8)} {r : Int × Int} {w : World} {h : Heap} (hw : Know h w noS) (f0 : FrN h 4 v0 g_face_Person a0) (f2 : FrS h 1 v2 (a2.map e_i64)) (H : face_checkSplit a0 a1 a2 a3 = some r) : Does Tryz.prog 42 (List.toArray [v0, .int .i64 a1, v2, str a3]) w (fun v w' => v = (.tuple #[.int .i64 r.1, .int .i64 r.2]) ∧ Grow w w') := by
 refine enter (n := 65) Tryz.func42 rfl rfl rfl noS [] (Sat.nil _ _) ?_
 refine c_seq ?_
 refine c_region ?_
 refine l_box (cs := [v0]) rfl rfl rfl f0.cells (fun b2 => ?_)
 refine l_alloc (cs := [.int .i64 0]) Tryz.zeroValue3 rfl rfl rfl (fun b3 => ?_)
 refine l_val rfl rfl rfl (r_assign (v := .int .i64 0) rfl) ?_
 refine l_nil ?_
 refine c_seq ?_
 refine c_region ?_
 refine l_load1 (i := 0) (v := v0) Tryz.isAgg23 rfl rfl rfl rfl rfl ?_
 refine l_val rfl rfl rfl (r_move (v := .int .i64 a1) rfl) ?_
 obtain ⟨t15, h_t15, H27⟩ := bnd_some H; clear H
 refine l_callG (fun w hF hS => k33 (know_all w) (f0.mono (hw.now hF)) h_t15) Tryz.call33 rfl rfl rfl ?_
 refine l_val rfl rfl rfl (r_move (v := .tuple #[.int .i64 t15.1, .bool t15.2]) rfl) ?_
 refine l_val rfl rfl rfl (r_extract (v := .int .i64 t15.1) rfl rfl) ?_
 refine l_val rfl rfl rfl (r_extract (v := .bool t15.2) rfl rfl) ?_
 refine l_store (i := 1) (vs := [.int .i64 t15.1]) (cs' := [.int .i64 t15.1]) Tryz.sizeOf3 rfl rfl rfl rfl rfl rfl rfl rfl rfl ?_
 refine l_val rfl rfl rfl (r_assign (v := .bool t15.2) rfl) ?_
 refine l_nil ?_
 refine c_seq ?_
 refine c_seq ?_
 refine c_region ?_
 refine l_val rfl rfl rfl (r_move (v := .bool t15.2) rfl) ?_
 refine l_val rfl rfl rfl (r_not rfl) ?_
 refine l_val rfl rfl rfl (r_move (v := .bool (!t15.2)) rfl) ?_
 refine split (fun hb => ?_) (fun hb => ?_)
 ·have H28 := cnd_t hb H27; clear H27
  refine l_passed rfl rfl rfl ?_
  refine l_passed rfl rfl rfl ?_
  refine l_passed rfl rfl rfl ?_
  refine l_val rfl rfl rfl (r_pickT (v := .bool true) rfl rfl) ?_
  refine l_nil ?_
  refine c_true rfl ?_
  refine c_seq ?_
  refine c_region ?_
  refine l_store (i := 1) (vs := [.int .i64 0]) (cs' := [.int .i64 0]) Tryz.sizeOf3 rfl rfl rfl rfl rfl rfl rfl rfl rfl ?_
  refine l_val rfl rfl rfl (r_assign (v := .int .i64 7) rfl) ?_
  refine l_nil ?_
  refine c_ret ?_
  obtain rfl := Option.some.inj H28
  refine retC1t (i := 1) (v := .int .i64 0) (v2 := .int .i64 7) Tryz.isAgg3 rfl rfl rfl rfl (fin rfl)
 ·have H29 := cnd_f hb H27; clear H27
  refine l_val rfl rfl rfl (r_move (v := v2) rfl) ?_
  refine l_val rfl rfl rfl (r_makeFn (caps := #[.pointer (some ⟨b2, 0, none⟩), .pointer (some ⟨b3, 0, none⟩)]) rfl) ?_
  obtain ⟨t23, h_t23, H30⟩ := bnd_some H29; clear H29
  refine l_callG (fun w hF hS => k40 (know_all w) (f2.mono (hw.now hF)) (FnH.mk ⟨94, #[], #[.pointer (some ⟨b2, 0, none⟩), .pointer (some ⟨b3, 0, none⟩)], rfl, Tryz.call94, fun args2 post2 w2 hk2 hR2 => by obtain ⟨a0_, r_, rfl, H_, rfl⟩ := hR2; exact k94 (know_all w2) ((f0.mono (hw.now hF)).mono hk2.up) (hk2.up _ _ (sat_cell (i := 0) hS rfl)) (hk2.up _ _ (sat_cell (i := 1) hS rfl)) H_⟩) h_t23) Tryz.call40 rfl rfl rfl ?_
  refine l_val rfl rfl rfl (r_pickF (v := .bool t23) rfl rfl) ?_
  refine l_nil ?_
  refine c_if (b := t23) rfl (fun hb => ?_) (fun hb => ?_)
  ·have H31 := cnd_t hb H30; clear H30
   refine c_seq ?_
   refine c_region ?_
   refine l_store (i := 1) (vs := [.int .i64 0]) (cs' := [.int .i64 0]) Tryz.sizeOf3 rfl rfl rfl rfl rfl rfl rfl rfl rfl ?_
   refine l_val rfl rfl rfl (r_assign (v := .int .i64 7) rfl) ?_
   refine l_nil ?_
   refine c_ret ?_
   obtain rfl := Option.some.inj H31
   refine retC1t (i := 1) (v := .int .i64 0) (v2 := .int .i64 7) Tryz.isAgg3 rfl rfl rfl rfl (fin rfl)
  ·have H32 := cnd_f hb H30; clear H30
   refine c_skip ?_
   refine c_meet (r := r) (σ := Unit) (τ := Unit) (fun s => face_checkSplit_j1 a0 a2 a3 t15) (fun s t => [(2, v2), (3, str a3), (4, .pointer (some ⟨b2, 0, none⟩)), (8, .pointer (some ⟨b3, 0, none⟩))]) (fun s t => [cellsC b2 [v0] 23, cellsC b3 [.int .i64 t15.1] 3]) (fun s t => True) ?_ ?_
   ·refine c_seq ?_
    refine c_region ?_
    refine l_val rfl rfl rfl (r_assign (v := .int .i64 1) rfl) ?_
    refine l_nil ?_
    refine c_block ?_
    refine c_fix (σ := Int) (τ := Unit) (fun next2 s => face_checkSplit_l2 a0 a2 a3 t15 next2 s) (fun s t => [(2, v2), (3, str a3), (4, .pointer (some ⟨b2, 0, none⟩)), (8, .pointer (some ⟨b3, 0, none⟩)), (11, .int .i64 s)]) (fun s t => [cellsC b2 [v0] 23, cellsC b3 [.int .i64 t15.1] 3]) (fun s t => True) 1 () [0, 1] H32 (by exact trivial) (by exact ⟨rfl, rfl, rfl, rfl, rfl, trivial⟩) (by decide) rfl ?_
    rintro x11_2 _ m2 gg H44 _
    clear H32
    replace H44 : face_checkSplit_l2 a0 a2 a3 t15 (it (fun next2 s => face_checkSplit_l2 a0 a2 a3 t15 next2 s) m2) x11_2 = some r := H44
    generalize hn2 : it (fun next2 s => face_checkSplit_l2 a0 a2 a3 t15 next2 s) m2 = next2 at H44
    refine c_tidyF [(2, v2), (3, str a3), (4, .pointer (some ⟨b2, 0, none⟩)), (8, .pointer (some ⟨b3, 0, none⟩)), (11, .int .i64 x11_2)] [cellsC b2 [v0] 23, cellsC b3 [.int .i64 t15.1] 3] rfl rfl ?_
    refine c_seq ?_
    refine c_seq ?_
    refine c_region ?_
    refine l_val rfl rfl rfl (r_move (v := .int .i64 x11_2) rfl) ?_
    refine l_val rfl rfl rfl (r_move (v := v2) rfl) ?_
    refine l_val rfl rfl rfl (r_lenF Tryz.underlying24 rfl f2 rfl) ?_
    refine l_val rfl rfl rfl (r_lss rfl rfl) ?_
    refine l_nil ?_
    refine c_if (b := (decide (x11_2 < (a2.length : Int)))) rfl (fun hb => ?_) (fun hb => ?_)
    ·have H45 := cnd_t hb H44; clear H44
     refine c_skip ?_
     refine c_seq ?_
     refine c_block ?_
     refine c_seq ?_
     exact c_regionD (Kd.p :: Kd.p :: Kd.p :: Kd.d [] _ :: Kd.p :: Kd.p :: Kd.p :: Kd.p :: Kd.d [] _ :: Kd.p :: []) 0 mixed (by
      refine d_val rfl rfl (r_move (v := v2) rfl) ?_
      refine d_val rfl rfl (r_move (v := .int .i64 x11_2) rfl) ?_
      have h_t33 := bnd_val H45
      have H46 := bnd_rest H45
      refine d_val rfl rfl (r_indexF Tryz.underlying24 Tryz.sizeOf3 rfl rfl f2 h_t33) ?_
      refine d_read (fun w hF => run_loadG1 (f := e_i64) (i := x11_2) (sz := 1) (j := 0) (v := .int .i64 (val (gAt a2 x11_2))) Tryz.isAgg3 rfl rfl (f2.row (hw.now hF)) h_t33 rfl) rfl rfl ?_
      refine d_val rfl rfl (r_move (v := v2) rfl) ?_
      refine d_val rfl rfl (r_move (v := .int .i64 x11_2) rfl) ?_
      have h_t37 := bnd_val H46
      have H47 := bnd_rest H46
      refine d_val rfl rfl (r_subG rfl rfl h_t37) ?_
      have h_t38 := bnd_val H47
      have H48 := bnd_rest H47
      refine d_val rfl rfl (r_indexF Tryz.underlying24 Tryz.sizeOf3 rfl rfl f2 h_t38) ?_
      refine d_read (fun w hF => run_loadG1 (f := e_i64) (i := (val (gI (x11_2 - 1)))) (sz := 1) (j := 0) (v := .int .i64 (val (gAt a2 (val (gI (x11_2 - 1)))))) Tryz.isAgg3 rfl rfl (f2.row (hw.now hF)) h_t38 rfl) rfl rfl ?_
      refine d_val rfl rfl (r_leq rfl rfl) ?_
      refine d_nil ?_
      refine c_if (b := (decide ((val (gAt a2 x11_2)) ≤ (val (gAt a2 (val (gI (x11_2 - 1)))))))) rfl (fun hb => ?_) (fun hb => ?_)
      ·have H49 := cnd_t hb H48; clear H48
       refine c_seq ?_
       refine c_region ?_
       refine l_store (i := 1) (vs := [.int .i64 0]) (cs' := [.int .i64 0]) Tryz.sizeOf3 rfl rfl rfl rfl rfl rfl rfl rfl rfl ?_
       refine l_val rfl rfl rfl (r_assign (v := .int .i64 5) rfl) ?_
       refine l_nil ?_
       refine c_ret ?_
       obtain rfl := Option.some.inj H49
       refine retC1t (i := 1) (v := .int .i64 0) (v2 := .int .i64 5) Tryz.isAgg3 rfl rfl rfl rfl (fin rfl)
      ·have H50 := cnd_f hb H48; clear H48
       refine c_skip ?_
       refine c_region ?_
       refine l_val rfl rfl rfl (r_move (v := .int .i64 x11_2) rfl) ?_
       obtain ⟨t30, h_t30, H51⟩ := bnd_some H50; clear H50
       refine l_val rfl rfl rfl (r_addG rfl rfl h_t30) ?_
       refine l_val rfl rfl rfl (r_assign (v := .int .i64 t30) rfl) ?_
       refine l_nil ?_
       refine c_close t30 () m2 [0, 1] (by exact ⟨rfl, rfl, rfl, rfl, rfl, trivial⟩) (by decide) rfl (by exact ⟨(by subst hn2; exact H51), trivial⟩) (Nat.lt_succ_self _)
      ) (by kernel_rfl)
    ·have H52 := cnd_f hb H44; clear H44
     refine c_exit ?_
     refine c_close () () 0 [0, 1] (by exact ⟨rfl, rfl, rfl, rfl, trivial⟩) (by decide) rfl (by exact ⟨H52, trivial⟩) (Nat.lt_succ_self _)
   ·rintro _ _ gg H33 _
    replace H33 : face_checkSplit_j1 a0 a2 a3 t15 = some r := H33
    refine c_tidyF [(2, v2), (3, str a3), (4, .pointer (some ⟨b2, 0, none⟩)), (8, .pointer (some ⟨b3, 0, none⟩))] [cellsC b2 [v0] 23, cellsC b3 [.int .i64 t15.1] 3] rfl rfl ?_
    refine c_seq ?_
    refine c_block ?_
    refine c_seq ?_
    refine c_region ?_
    refine l_val rfl rfl rfl (r_move (v := v2) rfl) ?_
    refine l_val rfl rfl rfl (r_lenF Tryz.underlying24 rfl f2 rfl) ?_
    refine l_val rfl rfl rfl (r_eql rfl rfl) ?_
    refine l_val rfl rfl rfl (r_move (v := .bool (decide ((a2.length : Int) = 0))) rfl) ?_
    refine split (fun hb => ?_) (fun hb => ?_)
    ·have H34 := cnd_t hb H33; clear H33
     refine l_passed rfl rfl rfl ?_
     refine l_passed rfl rfl rfl ?_
     refine l_passed rfl rfl rfl ?_
     refine l_passed rfl rfl rfl ?_
     refine l_passed rfl rfl rfl ?_
     refine l_passed rfl rfl rfl ?_
     refine l_passed rfl rfl rfl ?_
     refine l_passed rfl rfl rfl ?_
     refine l_passed rfl rfl rfl ?_
     refine l_val rfl rfl rfl (r_pickT (v := .bool true) rfl rfl) ?_
     refine l_val rfl rfl rfl (r_assign (v := .bool true) rfl) ?_
     refine l_nil ?_
     refine c_true rfl ?_
     refine c_seq ?_
     refine c_region ?_
     refine l_store (i := 1) (vs := [.int .i64 0]) (cs' := [.int .i64 0]) Tryz.sizeOf3 rfl rfl rfl rfl rfl rfl rfl rfl rfl ?_
     refine l_val rfl rfl rfl (r_assign (v := .int .i64 1) rfl) ?_
     refine l_nil ?_
     refine c_ret ?_
     obtain rfl := Option.some.inj H34
     refine retC1t (i := 1) (v := .int .i64 0) (v2 := .int .i64 1) Tryz.isAgg3 rfl rfl rfl rfl (fin rfl)
    ·have H35 := cnd_f hb H33; clear H33
     refine l_val rfl rfl rfl (r_move (v := v2) rfl) ?_
     refine l_val rfl rfl rfl (r_lenF Tryz.underlying24 rfl f2 rfl) ?_
     refine l_load1 (i := 0) (v := v0) Tryz.isAgg23 rfl rfl rfl rfl rfl ?_
     refine l_load1 (i := 1) (v := .int .i64 t15.1) Tryz.isAgg3 rfl rfl rfl rfl rfl ?_
     obtain ⟨t50, h_t50, H36⟩ := bnd_some H35; clear H35
     refine l_val rfl rfl rfl (r_indexF Tryz.underlying23 Tryz.sizeOf32 rfl rfl f0.frs (f0.ix h_t50)) ?_
     refine l_val rfl rfl rfl (r_fieldP Tryz.runUnderlying32 rfl Tryz.sizeOf24 rfl rfl (some_of_at f0.frs (f0.ix h_t50))) ?_
     refine l_read (fun w hF hS => run_loadG1 (f := (elC h v0 4)) (i := t15.1) (sz := 4) (j := 2) (v := (elH h v0 4 (Int.toNat t15.1) 2)) Tryz.isAgg24 rfl rfl (f0.frs.row (hw.now hF)) (f0.ix h_t50) (rg_of (cg_face_Person (f0.at h_t50)) rfl)) rfl rfl rfl ?_
     refine l_val rfl rfl rfl (r_lenF Tryz.underlying24 rfl (show FrS h 1 (elH h v0 4 (Int.toNat t15.1) 2) (t50.Likes.map e_i64) from (g_face_Person_p2 (f0.at h_t50))) rfl) ?_
     refine l_val rfl rfl rfl (r_eql rfl rfl) ?_
     refine l_val rfl rfl rfl (r_pickF (v := .bool (decide ((a2.length : Int) = (t50.Likes.length : Int)))) rfl rfl) ?_
     refine l_val rfl rfl rfl (r_assign (v := .bool (decide ((a2.length : Int) = (t50.Likes.length : Int)))) rfl) ?_
     refine l_nil ?_
     refine c_if (b := (decide ((a2.length : Int) = (t50.Likes.length : Int)))) rfl (fun hb => ?_) (fun hb => ?_)
     ·have H37 := cnd_t hb H36; clear H36
      refine c_seq ?_
      refine c_region ?_
      refine l_store (i := 1) (vs := [.int .i64 0]) (cs' := [.int .i64 0]) Tryz.sizeOf3 rfl rfl rfl rfl rfl rfl rfl rfl rfl ?_
      refine l_val rfl rfl rfl (r_assign (v := .int .i64 1) rfl) ?_
      refine l_nil ?_
      refine c_ret ?_
      obtain rfl := Option.some.inj H37
      refine retC1t (i := 1) (v := .int .i64 0) (v2 := .int .i64 1) Tryz.isAgg3 rfl rfl rfl rfl (fin rfl)
     ·have H38 := cnd_f hb H36; clear H36
      refine c_seq ?_
      refine c_region ?_
      refine l_val rfl rfl rfl (r_move (v := str a3) rfl) ?_
      obtain ⟨t58, h_t58, H39⟩ := bnd_some H38; clear H38
      refine l_call (k90 h_t58) Tryz.call90 rfl rfl rfl ?_
      refine l_val rfl rfl rfl (r_not rfl) ?_
      refine l_val rfl rfl rfl (r_assign (v := .bool (!t58)) rfl) ?_
      refine l_nil ?_
      refine c_if (b := (!t58)) rfl (fun hb => ?_) (fun hb => ?_)
      ·have H40 := cnd_t hb H39; clear H39
       refine c_seq ?_
       refine c_region ?_
       refine l_store (i := 1) (vs := [.int .i64 0]) (cs' := [.int .i64 0]) Tryz.sizeOf3 rfl rfl rfl rfl rfl rfl rfl rfl rfl ?_
       refine l_val rfl rfl rfl (r_assign (v := .int .i64 3) rfl) ?_
       refine l_nil ?_
       refine c_ret ?_
       obtain rfl := Option.some.inj H40
       refine retC1t (i := 1) (v := .int .i64 0) (v2 := .int .i64 3) Tryz.isAgg3 rfl rfl rfl rfl (fin rfl)
      ·have H41 := cnd_f hb H39; clear H39
       refine c_seq ?_
       refine c_region ?_
       refine l_load1 (i := 0) (v := v0) Tryz.isAgg23 rfl rfl rfl rfl rfl ?_
       refine l_val rfl rfl rfl (r_lenFN Tryz.underlying23 rfl f0) ?_
       refine l_val rfl rfl rfl (r_geq rfl rfl) ?_
       refine l_val rfl rfl rfl (r_assign (v := .bool (decide (100 ≤ (a0.length : Int)))) rfl) ?_
       refine l_nil ?_
       refine c_if (b := (decide (100 ≤ (a0.length : Int)))) rfl (fun hb => ?_) (fun hb => ?_)
       ·have H42 := cnd_t hb H41; clear H41
        refine c_seq ?_
        refine c_region ?_
        refine l_store (i := 1) (vs := [.int .i64 0]) (cs' := [.int .i64 0]) Tryz.sizeOf3 rfl rfl rfl rfl rfl rfl rfl rfl rfl ?_
        refine l_val rfl rfl rfl (r_assign (v := .int .i64 12) rfl) ?_
        refine l_nil ?_
        refine c_ret ?_
        obtain rfl := Option.some.inj H42
        refine retC1t (i := 1) (v := .int .i64 0) (v2 := .int .i64 12) Tryz.isAgg3 rfl rfl rfl rfl (fin rfl)
       ·have H43 := cnd_f hb H41; clear H41
        refine c_skip ?_
        refine c_seq ?_
        refine c_region ?_
        refine l_load1 (i := 1) (v := .int .i64 t15.1) Tryz.isAgg3 rfl rfl rfl rfl rfl ?_
        refine l_store (i := 1) (vs := [.int .i64 t15.1]) (cs' := [.int .i64 t15.1]) Tryz.sizeOf3 rfl rfl rfl rfl rfl rfl rfl rfl rfl ?_
        refine l_val rfl rfl rfl (r_assign (v := .int .i64 0) rfl) ?_
        refine l_nil ?_
        refine c_ret ?_
        obtain rfl := Option.some.inj H43
        refine retC1t (i := 1) (v := .int .i64 t15.1) (v2 := .int .i64 0) Tryz.isAgg3 rfl rfl rfl rfl (fin rfl)
theorem k45 {css r : List (List Value)} {cs1 : List Value} {p0 : Option Addr × Nat} {n0 : Nat} {a1 : Int} {v2 : Value} {w : World} {h : Heap} {S : Nat → Prop} (hcs : (rowO 32 4 (.slice p0.1 n0 p0.2) n0 (css.map idC)).P S w) (hlt : ∀ b, S b → b < w.heap.size) (hw : Know h w S) (hn0 : n0 = css.length) (hcap : p0.2 = n0) (hone : ∀ cs ∈ css, ∀ u ∈ cs, u.oneCell' = true) (hone1 : (([cs1].map idC).all fun x => x.all Value.oneCell') = true) (hl1 : cs1.length = 4) (f2 : FrS h 4 v2 ([cs1].map idC)) (H : gInsN 72 css a1 cs1 = some r) :
    Does Tryz.prog 45 (List.toArray [.slice p0.1 n0 p0.2, .int .i64 a1, v2]) w (fun v w' => ∃ x : Option Addr × Nat, v = .slice x.1 r.length x.2 ∧ Turn w w' S (rowO 32 4 (.slice x.1 r.length x.2) r.length (r.map idC))) := by
 obtain ⟨rfl, g0, g1, g2, g3⟩ := gInsN_some H
 obtain ⟨ax, c2, rfl, hc2, hm2, f2r⟩ := f2.out
 have hone1 : ∀ u ∈ cs1, u.oneCell' = true := fun u hu => List.all_eq_true.1 (List.all_eq_true.1 hone1 cs1 (by simp [idC])) u hu
 have hins : (insL css a1 cs1).length = css.length + 1 := insL_len g1 g0
 have h_hi : gCut css a1 css.length = some (css.drop a1.toNat) := gCut_from (by omega)
 have l_hi : (css.drop a1.toNat).length = css.length - a1.toNat := List.length_drop
 refine enter (n := 95) Tryz.func45 rfl rfl rfl S [rowO 32 4 (.slice p0.1 n0 p0.2) n0 (css.map idC)] (Sat.one hcs hlt) ?_
 refine c_know (fun w hF hS => rowO_all (i := 0) hS rfl) (fun hall => ?_)
 rw [idC_map] at hall
 refine c_seq ?_
 refine c_region ?_
 refine l_val rfl rfl rfl (r_assign (v := .slice none 0 0) rfl) ?_
 refine l_nil ?_
 refine c_seq ?_
 refine c_region ?_
 refine l_val rfl rfl rfl (r_move (v := .slice p0.1 n0 p0.2) rfl) ?_
 refine l_val rfl rfl rfl (r_move (v := .int .i64 a1) rfl) ?_
 refine l_read (fun w hF hS => run_sliceLO (xs := css) Tryz.underlying23 Tryz.sizeOf32 rfl rfl hn0 (by omega) h_hi) rfl rfl rfl ?_
 refine l_nil ?_
 refine c_seq ?_
 refine c_region ?_
 refine l_val rfl rfl rfl (r_move (v := .slice ax 1 c2) rfl) ?_
 refine l_val rfl rfl rfl (r_len Tryz.underlying23 rfl) ?_
 refine l_val rfl rfl rfl (r_assign (v := .int .i64 ((1 : Nat) : Int)) rfl) ?_
 refine l_nil ?_
 refine c_seq ?_
 refine c_seq ?_
 refine c_region ?_
 refine l_val rfl rfl rfl (r_move (v := .int .i64 ((1 : Nat) : Int)) rfl) ?_
 refine l_val rfl rfl rfl (r_eql rfl rfl) ?_
 refine l_nil ?_
 refine c_if (b := (decide (((1 : Nat) : Int) = 0))) rfl (fun hb => absurd hb (by decide)) (fun hb => ?_)
 refine c_skip ?_
 refine c_seq ?_
 refine c_region ?_
 refine l_val rfl rfl rfl (r_move (v := .slice p0.1 n0 p0.2) rfl) ?_
 refine l_val rfl rfl rfl (r_lenN Tryz.underlying23 rfl hn0) ?_
 refine l_val rfl rfl rfl (r_assign (v := .int .i64 (css.length : Int)) rfl) ?_
 refine l_nil ?_
 refine c_seq ?_
 refine c_seq ?_
 refine c_region ?_
 refine l_val rfl rfl rfl (r_move (v := .int .i64 a1) rfl) ?_
 refine l_val rfl rfl rfl (r_move (v := .int .i64 (css.length : Int)) rfl) ?_
 refine l_val rfl rfl rfl (r_eql rfl rfl) ?_
 refine l_nil ?_
 refine c_if (b := (decide (a1 = (css.length : Int)))) rfl (fun hb => ?_) (fun hb => ?_)
 ·have hab : a1 = css.length := of_decide_eq_true hb
  have he : css ++ [cs1] = insL css a1 cs1 := by
   have ht : a1.toNat = css.length := by omega
   unfold insL; rw [ht, List.take_length, List.drop_length, List.append_nil]
  refine c_seq ?_
  refine c_region ?_
  refine l_val rfl rfl rfl (r_move (v := .slice p0.1 n0 p0.2) rfl) ?_
  refine l_val rfl rfl rfl (r_move (v := .slice ax 1 c2) rfl) ?_
  obtain ⟨ad, rfl⟩ : ∃ ad, ax = some ad := by
   rcases f2r with hz | ⟨b, off, cur, t_, k_, ha, _⟩
   ·simp at hz
   ·exact ⟨_, ha⟩
  refine l_turn (turns_appendO (i := 0) (sz := 4) (by_ := 72) (rds := []) (news := [cs1].map idC) (m := n0) (q := 1) (p := p0) Tryz.underlying23 (info_of Tryz.typeInfo32) rfl rfl rfl rfl rfl rfl rfl rfl rfl (fun x hx => by rw [idC_map] at hx; rw [List.mem_singleton.1 hx]; exact hl1) (fun w L' hF hS hj => f2r.row (hw.now hF)) (fun x hx => by rw [idC_map] at hx; rw [List.mem_singleton.1 hx]; exact hone1) (by simp only [maxLen]; omega) (by rw [hn0]; exact g2)) rfl rfl rfl (fun p1 => ?_)
  refine l_val rfl rfl rfl (r_assign (v := .slice p1.1 (n0 + 1) p1.2) rfl) ?_
  refine l_nil ?_
  refine c_ret ?_
  refine ret1 (v := .slice p1.1 (n0 + 1) p1.2) rfl rfl (finX p1 (i := 0) rfl (by rw [hins, hn0]) (Imp.of (by rw [hins, hn0, ← List.map_append, he])))
 ·have hab : ¬ a1 = css.length := of_decide_eq_false hb
  refine c_skip ?_
  refine c_seq ?_
  refine c_seq ?_
  refine c_region ?_
  refine l_val rfl rfl rfl (r_move (v := .int .i64 (css.length : Int)) rfl) ?_
  refine l_val rfl rfl rfl (r_move (v := .int .i64 ((1 : Nat) : Int)) rfl) ?_
  refine l_val rfl rfl rfl (r_add rfl rfl (by omega)) ?_
  refine l_val rfl rfl rfl (r_move (v := .slice p0.1 n0 p0.2) rfl) ?_
  refine l_val rfl rfl rfl (r_cap Tryz.underlying23 rfl) ?_
  refine l_val rfl rfl rfl (r_gtr rfl rfl) ?_
  refine l_nil ?_
  refine c_if (b := (decide ((p0.2 : Int) < (css.length : Int) + ((1 : Nat) : Int)))) rfl (fun hb => ?_) (fun hb => absurd (of_decide_eq_false hb) (by omega))
  have h_lo : gCut css 0 a1 = some (css.take a1.toNat) := gCut_to (by omega)
  have l_lo : (css.take a1.toNat).length = a1.toNat := by rw [List.length_take]; omega
  refine c_seq ?_
  refine c_region ?_
  refine l_val rfl rfl rfl (r_move (v := .slice p0.1 n0 p0.2) rfl) ?_
  refine l_val rfl rfl rfl (r_move (v := .int .i64 a1) rfl) ?_
  refine l_read (v := .slice p0.1 (css.take a1.toNat).length p0.2) (fun w hF hS => run_sliceHO0 (xs := css) Tryz.underlying23 Tryz.sizeOf32 rfl rfl hn0 (by omega) h_lo) rfl rfl rfl ?_
  refine l_val rfl rfl rfl (r_move (v := .int .i64 (css.length : Int)) rfl) ?_
  refine l_val rfl rfl rfl (r_move (v := .int .i64 ((1 : Nat) : Int)) rfl) ?_
  refine l_val rfl rfl rfl (r_add rfl rfl (by omega)) ?_
  refine l_val rfl rfl rfl (r_move (v := .int .i64 a1) rfl) ?_
  refine l_val rfl rfl rfl (r_sub rfl rfl (by omega)) ?_
  have hk : (css.length : Int) + ((1 : Nat) : Int) - a1 = ((css.length + 1 - a1.toNat : Nat) : Int) := by omega
  rw [l_lo, hk]
  have hsum : a1.toNat + (css.length + 1 - a1.toNat) = css.length + 1 := by omega
  refine l_make (makes_growZ (i := 0) (sz := 4) (by_ := 72) (xs := css.map idC) (p := p0) (m := n0) (a := a1.toNat) (k := css.length + 1 - a1.toNat) Tryz.underlying23 Tryz.underlying3 (info_of Tryz.typeInfo32) rfl rfl rfl rfl rfl rfl rfl (by omega) rfl (by omega) (by omega) (by rw [hsum]; simp only [maxLen]; omega) (by rw [hsum]; exact g2)) rfl rfl rfl (fun p1 => ?_)
  refine l_val rfl rfl rfl (r_assign (v := .slice p1.1 (a1.toNat + (css.length + 1 - a1.toNat)) p1.2) rfl) ?_
  refine l_nil ?_
  have hr1 : (css.map idC).take a1.toNat ++ List.replicate (css.length + 1 - a1.toNat) [.int .i64 0, str [], .slice none 0 0, .slice none 0 0] = (css.take a1.toNat ++ (List.replicate (css.length + 1 - a1.toNat) [.int .i64 0, str [], .slice none 0 0, .slice none 0 0])) := by rw [idC_map]
  refine c_imp 1 rfl (Imp.of (congrArg (rowV 32 4 (.slice p1.1 (a1.toNat + (css.length + 1 - a1.toNat)) p1.2) (a1.toNat + (css.length + 1 - a1.toNat))) hr1)) ?_
  have len1 : (css.take a1.toNat ++ (List.replicate (css.length + 1 - a1.toNat) [.int .i64 0, str [], .slice none 0 0, .slice none 0 0])).length = (a1.toNat + (css.length + 1 - a1.toNat)) := by rw [List.length_append, l_lo, List.length_replicate]
  generalize hR1 : (css.take a1.toNat ++ (List.replicate (css.length + 1 - a1.toNat) [.int .i64 0, str [], .slice none 0 0, .slice none 0 0])) = R1 at len1
  have hcut1 : gCut R1 a1 R1.length = some (R1.drop a1.toNat) := gCut_from (by omega)
  have ldr1 : (R1.drop a1.toNat).length = css.length + 1 - a1.toNat := by rw [List.length_drop, len1]; omega
  refine c_seq ?_
  refine c_region ?_
  refine l_val rfl rfl rfl (r_move (v := .slice p1.1 (a1.toNat + (css.length + 1 - a1.toNat)) p1.2) rfl) ?_
  refine l_val rfl rfl rfl (r_move (v := .int .i64 a1) rfl) ?_
  refine l_read (v := .slice (cutA p1.1 a1.toNat p1.2 4) (R1.drop a1.toNat).length (p1.2 - a1.toNat)) (fun w hF hS => run_sliceLO (xs := R1) Tryz.underlying23 Tryz.sizeOf32 rfl rfl len1.symm (capOf (i := 1) hS rfl) hcut1) rfl rfl rfl ?_
  refine l_val rfl rfl rfl (r_move (v := .slice ax 1 c2) rfl) ?_
  refine l_turn (turns_copyK (i := 1) (rds := []) (xs := R1) (news := [cs1].map idC) (sz := 4) (m := (a1.toNat + (css.length + 1 - a1.toNat))) (a := a1.toNat) (q := 1) (p := p1) Tryz.underlying23 (info_of Tryz.typeInfo32) rfl rfl len1.symm rfl (by omega) rfl (by omega) rfl (by omega) (fun w L' hF hS hj => f2r.row (hw.now hF)) (fun x hx => by rw [idC_map] at hx; rw [List.mem_singleton.1 hx]; exact hl1) (fun x hx => by rw [idC_map] at hx; rw [List.mem_singleton.1 hx]; exact hone1)) rfl rfl rfl (fun _ => ?_)
  refine l_nil ?_
  have len2 : (R1.take a1.toNat ++ [cs1].map idC ++ R1.drop (a1.toNat + 1)).length = (a1.toNat + (css.length + 1 - a1.toNat)) := by simp only [List.length_append, List.length_take, List.length_drop, List.length_map, List.length_cons, List.length_nil, len1]; omega
  generalize hR2 : R1.take a1.toNat ++ [cs1].map idC ++ R1.drop (a1.toNat + 1) = R2 at len2
  have hcut2 : gCut R2 (a1 + ((1 : Nat) : Int)) R2.length = some (R2.drop (a1 + ((1 : Nat) : Int)).toNat) := gCut_from (by omega)
  have ht1 : (a1 + ((1 : Nat) : Int)).toNat = a1.toNat + 1 := by omega
  rw [ht1] at hcut2
  have ldr2 : (R2.drop (a1.toNat + 1)).length = css.length - a1.toNat := by rw [List.length_drop, len2]; omega
  refine c_seq ?_
  exact c_regionD (Kd.p :: Kd.p :: Kd.p :: Kd.p :: Kd.d [1] _ :: Kd.p :: Kd.p :: Kd.d [0] _ :: Kd.t 1 [0] _ _ :: []) 0 mixed (by
   refine d_val rfl rfl (r_move (v := .slice p1.1 (a1.toNat + (css.length + 1 - a1.toNat)) p1.2) rfl) ?_
   refine d_val rfl rfl (r_move (v := .int .i64 a1) rfl) ?_
   refine d_val rfl rfl (r_move (v := .int .i64 ((1 : Nat) : Int)) rfl) ?_
   refine d_val rfl rfl (r_add rfl rfl (by omega)) ?_
   refine d_readD (v := .slice (cutA p1.1 (a1.toNat + 1) p1.2 4) (R2.drop (a1.toNat + 1)).length (p1.2 - (a1.toNat + 1))) (fun w L' hF hS hi => ht1 ▸ run_sliceLO (xs := R2) Tryz.underlying23 Tryz.sizeOf32 rfl rfl len2.symm (capOf (i := 1) hS ((hi 1 (by simp)).trans rfl)) (ht1.symm ▸ hcut2)) rfl rfl ?_
   refine d_val rfl rfl (r_move (v := .slice p0.1 n0 p0.2) rfl) ?_
   refine d_val rfl rfl (r_move (v := .int .i64 a1) rfl) ?_
   refine d_readD (v := .slice (cutA p0.1 a1.toNat p0.2 4) (css.drop a1.toNat).length (p0.2 - a1.toNat)) (fun w L' hF hS hi => run_sliceLO (xs := css) Tryz.underlying23 Tryz.sizeOf32 rfl rfl hn0 (by omega) h_hi) rfl rfl ?_
   refine d_turn (Cv := fun _ => rowV 32 4 (.slice p1.1 (a1.toNat + (css.length + 1 - a1.toNat)) p1.2) (a1.toNat + (css.length + 1 - a1.toNat)) (R2.take (a1.toNat + 1) ++ (css.drop a1.toNat).map idC ++ R2.drop (a1.toNat + 1 + (css.drop a1.toNat).length))) ()
    (turns_copyK (i := 1) (rds := [0]) (xs := R2) (news := (css.drop a1.toNat).map idC) (sz := 4) (m := (a1.toNat + (css.length + 1 - a1.toNat))) (a := a1.toNat + 1) (q := (css.drop a1.toNat).length) (p := p1) Tryz.underlying23 (info_of Tryz.typeInfo32) rfl rfl len2.symm rfl (by omega) rfl (by omega) (List.length_map _).symm (by omega)
     (fun w L' hF hS hj => Row.cutG (xs := css) (f := idC) (offOf (i := 0) hS ((hj 0 (by simp)).trans rfl)) hn0 (by omega) h_hi) (by rw [idC_map]; exact fun x hx => hall x (List.mem_of_mem_drop hx)) (by rw [idC_map]; exact fun x hx => hone x (List.mem_of_mem_drop hx))) (fun _ => rfl) rfl rfl (fun _ => ?_)
   refine d_nil ?_
   have hch : R2.take (a1.toNat + 1) ++ (css.drop a1.toNat).map idC ++ R2.drop (a1.toNat + 1 + (css.drop a1.toNat).length) = (insL css a1 cs1).map idC := by
    have e3 : R2.drop (a1.toNat + 1 + (css.drop a1.toNat).length) = [] := List.eq_nil_of_length_eq_zero (by rw [List.length_drop, len2]; omega)
    have t1 : R1.take a1.toNat = css.take a1.toNat := by rw [← hR1, List.take_append_of_le_length (by omega), List.take_of_length_le (by omega)]
    have t2 : R2.take (a1.toNat + 1) = css.take a1.toNat ++ [cs1] := by
     rw [← hR2, t1, List.take_append_of_le_length (by simp only [List.length_append, List.length_map, List.length_cons, List.length_nil, l_lo]; omega), List.take_of_length_le (by simp only [List.length_append, List.length_map, List.length_cons, List.length_nil, l_lo]; omega), idC_map]
    rw [e3, t2, List.append_nil, idC_map, idC_map, List.append_assoc]; rfl
   refine c_seq ?_
   refine c_region ?_
   refine l_val rfl rfl rfl (r_move (v := .slice p1.1 (a1.toNat + (css.length + 1 - a1.toNat)) p1.2) rfl) ?_
   refine l_val rfl rfl rfl (r_assign (v := .slice p1.1 (a1.toNat + (css.length + 1 - a1.toNat)) p1.2) rfl) ?_
   refine l_nil ?_
   refine c_ret ?_
   refine c_imp 1 rfl (imp_rowO _ _ _ _ _) ?_
   refine ret1 (v := .slice p1.1 (a1.toNat + (css.length + 1 - a1.toNat)) p1.2) rfl rfl (finX p1 (i := 1) rfl (by rw [hins, hsum]) (Imp.of (by rw [hins, hch, hsum])))
   ) (by kernel_rfl)

theorem k8 {a0 : (List T_face_Likeness)} {v0 : Value} {a1 : (List T_face_Person)} {v1 : Value} {a2 : Int} {a3 : (List Int)} {v3 : Value} {a4 : (List UInt8)} {r : (List T_face_Person) × Int} {w : World} {h : Heap} (hw : Know h w noS) (f0 : FrS h 14 v0 (a0.map e_face_Likeness)) (f1 : FrN h 4 v1 g_face_Person a1) (f3 : FrS h 1 v3 (a3.map e_i64)) (H : face_Split a0 a1 a2 a3 a4 = some r) : Does Tryz.prog 8 (List.toArray [v0, v1, .int .i64 a2, v3, str a4]) w (fun v w' => ∃ x : (Option Addr × Nat), v = (.tuple #[.slice x.1 r.1.length x.2, .int .i64 r.2]) ∧ Turn w w' noS (rofD true 32 4 g_face_Person (.slice x.1 r.1.length x.2) r.1.length r.1)) := by
 refine enter (n := 98) Tryz.func8 rfl rfl rfl noS [] (Sat.nil _ _) ?_
 refine c_poolNew noH ?_
 refine c_seq ?_
 refine c_region ?_
 refine l_val rfl rfl rfl (r_assign (v := .slice none 0 0) rfl) ?_
 refine l_val rfl rfl rfl (r_assign (v := .int .i64 0) rfl) ?_
 refine l_nil ?_
 refine c_seq ?_
 refine c_seq ?_
 refine c_region ?_
 refine l_val rfl rfl rfl (r_move (v := v0) rfl) ?_
 refine l_val rfl rfl rfl (r_move (v := v1) rfl) ?_
 obtain ⟨t21, h_t21, H57⟩ := bnd_some H; clear H
 refine l_callG (fun w hF hS => k7 (know_all w) (f0.mono (hw.now hF)) (f1.mono (hw.now hF)) h_t21) Tryz.call7 rfl rfl rfl ?_
 refine l_val rfl rfl rfl (r_assign (v := .int .i64 t21) rfl) ?_
 refine l_nil ?_
 refine c_seq ?_
 refine c_region ?_
 refine l_val rfl rfl rfl (r_move (v := .int .i64 t21) rfl) ?_
 refine l_val rfl rfl rfl (r_neq rfl rfl) ?_
 refine l_nil ?_
 refine c_if (b := (decide (t21 ≠ 0))) rfl (fun hb => ?_) (fun hb => ?_)
 ·have H58 := cnd_t hb H57; clear H57
  refine c_seq ?_
  refine c_region ?_
  refine l_val rfl rfl rfl (r_move (v := .int .i64 t21) rfl) ?_
  refine l_val rfl rfl rfl (r_assign (v := .slice none 0 0) rfl) ?_
  refine l_val rfl rfl rfl (r_assign (v := .int .i64 t21) rfl) ?_
  refine l_nil ?_
  refine c_ret ?_
  refine c_nilRow 32 4 ?_
  obtain rfl := Option.some.inj H58
  refine c_imp 1 rfl (imp_rowO _ _ _ _ _) ?_
  refine c_both 0 1 rfl rfl (by decide) ?_
  refine c_imp 0 rfl (imp_rofD (k := true) (p := ((none, 0) : Option Addr × Nat)) rfl (fun _ => rfl) (AllC.nil (G := g_face_Person) (h := noH) (sz := 4))) ?_
  refine ret2 (v1 := .slice ((none, 0) : Option Addr × Nat).1 (([] : List (List Value)).length) ((none, 0) : Option Addr × Nat).2) (v2 := .int .i64 t21) rfl rfl rfl (finX ((none, 0) : Option Addr × Nat) (i := 0) rfl (by first | rfl | rw [(show (([] : List (List Value)).length) = ([] : List T_face_Person).length from (AllC.nil (G := g_face_Person) (h := noH) (sz := 4)).len)]) (by first | exact Imp.refl _ | exact Imp.of (by rw [(show (([] : List (List Value)).length) = ([] : List T_face_Person).length from (AllC.nil (G := g_face_Person) (h := noH) (sz := 4)).len)])))
 ·have H59 := cnd_f hb H57; clear H57
  refine c_skip ?_
  refine c_seq ?_
  refine c_region ?_
  refine l_val rfl rfl rfl (r_move (v := v1) rfl) ?_
  refine l_val rfl rfl rfl (r_move (v := .int .i64 a2) rfl) ?_
  refine l_val rfl rfl rfl (r_move (v := v3) rfl) ?_
  refine l_val rfl rfl rfl (r_move (v := str a4) rfl) ?_
  obtain ⟨t30, h_t30, H60⟩ := bnd_some H59; clear H59
  refine l_callG (fun w hF hS => k42 (know_all w) (f1.mono (hw.now hF)) (f3.mono (hw.now hF)) h_t30) Tryz.call42 rfl rfl rfl ?_
  refine l_val rfl rfl rfl (r_move (v := .tuple #[.int .i64 t30.1, .int .i64 t30.2]) rfl) ?_
  refine l_val rfl rfl rfl (r_extract (v := .int .i64 t30.1) rfl rfl) ?_
  refine l_val rfl rfl rfl (r_extract (v := .int .i64 t30.2) rfl rfl) ?_
  refine l_val rfl rfl rfl (r_assign (v := .int .i64 t30.1) rfl) ?_
  refine l_val rfl rfl rfl (r_assign (v := .int .i64 t30.2) rfl) ?_
  refine l_nil ?_
  refine c_seq ?_
  refine c_seq ?_
  refine c_region ?_
  refine l_val rfl rfl rfl (r_move (v := .int .i64 t30.2) rfl) ?_
  refine l_val rfl rfl rfl (r_neq rfl rfl) ?_
  refine l_nil ?_
  refine c_if (b := (decide (t30.2 ≠ 0))) rfl (fun hb => ?_) (fun hb => ?_)
  ·have H61 := cnd_t hb H60; clear H60
   refine c_seq ?_
   refine c_region ?_
   refine l_val rfl rfl rfl (r_move (v := .int .i64 t30.2) rfl) ?_
   refine l_val rfl rfl rfl (r_assign (v := .slice none 0 0) rfl) ?_
   refine l_val rfl rfl rfl (r_assign (v := .int .i64 t30.2) rfl) ?_
   refine l_nil ?_
   refine c_ret ?_
   refine c_nilRow 32 4 ?_
   obtain rfl := Option.some.inj H61
   refine c_imp 1 rfl (imp_rowO _ _ _ _ _) ?_
   refine c_both 0 1 rfl rfl (by decide) ?_
   refine c_imp 0 rfl (imp_rofD (k := true) (p := ((none, 0) : Option Addr × Nat)) rfl (fun _ => rfl) (AllC.nil (G := g_face_Person) (h := noH) (sz := 4))) ?_
   refine ret2 (v1 := .slice ((none, 0) : Option Addr × Nat).1 (([] : List (List Value)).length) ((none, 0) : Option Addr × Nat).2) (v2 := .int .i64 t30.2) rfl rfl rfl (finX ((none, 0) : Option Addr × Nat) (i := 0) rfl (by first | rfl | rw [(show (([] : List (List Value)).length) = ([] : List T_face_Person).length from (AllC.nil (G := g_face_Person) (h := noH) (sz := 4)).len)]) (by first | exact Imp.refl _ | exact Imp.of (by rw [(show (([] : List (List Value)).length) = ([] : List T_face_Person).length from (AllC.nil (G := g_face_Person) (h := noH) (sz := 4)).len)])))
  ·have H62 := cnd_f hb H60; clear H60
   refine c_skip ?_
   refine c_seq ?_
   refine c_region ?_
   refine l_val rfl rfl rfl (r_move (v := v1) rfl) ?_
   obtain ⟨t37, h_t37, H63⟩ := bnd_some H62; clear H62
   refine l_make (makes_call (rds := []) (G := fun x : (Option Addr × Nat) => .slice x.1 t37.length x.2) (C := fun x : (Option Addr × Nat) => rofD true 32 4 g_face_Person (.slice x.1 t37.length x.2) t37.length t37) (fun w L' hF hS hi => k32 (know_all w) (f1.mono (hw.now hF)) h_t37) Tryz.call32 rfl) rfl rfl rfl (fun p => ?_)
   refine c_rofD 1 rfl (fun hp css hn hc pf => ?_)
   rw [hn]
   refine c_split 1 rfl ?_
   refine c_poolJoin 0 1 rfl rfl (by decide) (fun _ _ => noH_le) (fun hp_2 hle hle_2 => ?_)
   refine l_val rfl rfl rfl (r_assign (v := .slice p.1 css.length p.2) rfl) ?_
   refine l_nil ?_
   refine c_sel [0, 1, 2] [poolC noH hp_2, _, rowO 32 4 (.slice p.1 css.length p.2) css.length (css.map idC)] rfl (by decide) ?_
   refine c_seq ?_
   refine c_region ?_
   refine l_val rfl rfl rfl (r_move (v := .slice p.1 css.length p.2) rfl) ?_
   refine l_val rfl rfl rfl (r_move (v := .int .i64 t30.1) rfl) ?_
   obtain ⟨t40, h_t40, H64⟩ := bnd_some H63; clear H63
   refine l_read (fun w hF hS => run_indexO Tryz.underlying23 Tryz.sizeOf32 rfl rfl (offOf (i := 2) hS rfl) rfl ((pf.mono hle_2).ix h_t40)) rfl rfl rfl ?_
   refine l_val rfl rfl rfl (r_assign (v := _) rfl) ?_
   refine l_nil ?_
   refine c_sel [0, 1, 2] [poolC noH hp_2, _, rowO 32 4 (.slice p.1 css.length p.2) css.length (css.map idC)] rfl (by decide) ?_
   refine c_seq ?_
   refine c_region ?_
   refine l_val rfl rfl rfl (r_move (v := _) rfl) ?_
   refine l_val rfl rfl rfl (r_move (v := _) rfl) ?_
   refine l_read (fun w hF hS => run_nilG rfl (offOf (i := 2) hS rfl) ((pf.mono hle_2).ix h_t40)) rfl rfl rfl ?_
   refine c_know (fun w hF hS => someOfO (i := 2) hS rfl ((pf.mono hle_2).ix h_t40)) (fun hs => ?_)
   refine l_val rfl rfl rfl (r_fieldP Tryz.runUnderlying32 rfl Tryz.sizeOf24 rfl rfl hs) ?_
   refine l_read (fun w hF hS => run_loadG1 (f := idC) (i := t30.1) (sz := 4) (j := 2) (v := (List.getD (List.getD css (Int.toNat t30.1) []) 2 undef)) Tryz.isAgg24 rfl rfl (offOf (i := 2) hS rfl) ((pf.mono hle_2).ix h_t40) (rg_of (((pf.mono hle_2).eta h_t40).trans (cg_face_Person ((pf.mono hle_2).at h_t40))) rfl)) rfl rfl rfl ?_
   refine l_val rfl rfl rfl (r_move (v := v3) rfl) ?_
   obtain ⟨t47, h_t47, H65⟩ := bnd_some H64; clear H64
   refine l_make (makes_call (rds := [0]) (G := fun x : (Option Addr × Nat) => .slice x.1 t47.length x.2) (C := fun x : (Option Addr × Nat) => roV 1 (.slice x.1 t47.length x.2) t47.length (t47.map e_i64)) (fun w L' hF hS hi => k43 (know_all w) ((show FrS hp_2 1 (List.getD (List.getD css (Int.toNat t30.1) []) 2 undef) (t40.Likes.map e_i64) from (g_face_Person_p2 ((pf.mono hle_2).at h_t40))).mono (pool_now (i := 0) hS ((hi 0 (by simp)).trans rfl) noH_le)) (f3.mono (hw.now hF)) h_t47) Tryz.call43 rfl) rfl rfl rfl (fun p_2 => ?_)
   refine l_read (fun w hF hS => run_nilG rfl (offOf (i := 2) hS rfl) ((pf.mono hle_2).ix h_t40)) rfl rfl rfl ?_
   refine c_know (fun w hF hS => someOfO (i := 2) hS rfl ((pf.mono hle_2).ix h_t40)) (fun hs_2 => ?_)
   refine l_val rfl rfl rfl (r_fieldP Tryz.runUnderlying32 rfl Tryz.sizeOf24 rfl rfl hs_2) ?_
   refine c_freeze (Φ := fun H_ => FrS H_ 1 (.slice p_2.1 t47.length p_2.2) (t47.map e_i64)) 0 3 rfl rfl (by decide) (fun _ _ => noH_le) (fz_ro _) (fun hp_3 hle_3 hf => ?_)
   obtain ⟨l2, h_l2, H66⟩ := bnd_some H65; clear H65
   refine l_turn0 (turns_storeO (q := 2) (j := 2) (i := t30.1) (sz := 4) (x := (.slice p_2.1 t47.length p_2.2)) (css := css) (xe := t40) rfl ((pf.mono hle_2).mono hle_3).len Tryz.sizeOf24 rfl rfl rfl rfl rfl rfl rfl h_t40) rfl rfl (fun _ => ?_)
   have pf_2 : AllC g_face_Person hp_3 4 (setR css t30.1 2 (.slice p_2.1 t47.length p_2.2)) l2 := AllC.setR ((pf.mono hle_2).mono hle_3) h_t40 h_l2 rfl (by obtain ⟨q0_, q1_, q2_, q3_⟩ := ((pf.mono hle_2).mono hle_3).at h_t40; exact ⟨q0_, q1_, hf, q3_⟩)
   refine l_nil ?_
   refine c_sel [0, 1, 2, 3] [poolC noH hp_3, _, rowO 32 4 (.slice p.1 css.length p.2) css.length ((setR css t30.1 2 (.slice p_2.1 t47.length p_2.2)).map idC), _] rfl (by decide) ?_
   refine c_seq ?_
   exact c_regionD (Kd.p :: Kd.p :: Kd.t 4 [0] _ _ :: Kd.p :: Kd.d [2] _ :: Kd.d [2] _ :: Kd.d [2] _ :: Kd.p :: Kd.d [2] _ :: Kd.d [2] _ :: Kd.d [2] _ :: Kd.t 5 [0] _ _ :: Kd.p :: Kd.nw 6 [_, _, _, _] 32 :: Kd.sv 17 62 6 _ 32 :: []) 3 mixed (by
    refine d_val rfl rfl (r_move (v := str a4) rfl) ?_
    refine d_val rfl rfl (r_move (v := v3) rfl) ?_
    have h_t52 := bnd_val H66
    have H67 := bnd_rest H66
    refine d_make (Cv := fun v => roV 1 v (val (face_with a3 ([] : (List Int)))).length ((val (face_with a3 ([] : (List Int)))).map e_i64)) (none, 0) (makes_call (G := fun x : (Option Addr × Nat) => .slice x.1 (val (face_with a3 ([] : (List Int)))).length x.2) (C := fun x : (Option Addr × Nat) => roV 1 (.slice x.1 (val (face_with a3 ([] : (List Int)))).length x.2) (val (face_with a3 ([] : (List Int)))).length ((val (face_with a3 ([] : (List Int)))).map e_i64)) (fun w L' hF hS hi => k36 (know_all w) (f3.mono (hw.now hF)) (FrS.nil _ _) h_t52) Tryz.call36 rfl) (fun _ => rfl) rfl rfl rfl (fun p_3 => ?_)
    refine d_val rfl rfl (r_move (v := _) rfl) ?_
    have h_t2 := bnd_val H67
    have H68 := bnd_rest H67
    refine d_readE rfl rfl (fun w L' hF hS hi => run_nilG rfl (offOf (i := 2) (E := 32) (sz := 4) (n := css.length) (a := p.1) (c := p.2) hS ((hi 2 (by simp)).trans rfl)) (pf_2.ix h_t2)) ?_
    refine d_readE rfl rfl (fun w L' hF hS hi => run_fieldG Tryz.runUnderlying32 rfl Tryz.sizeOf24 rfl rfl (offOf (i := 2) (E := 32) (sz := 4) (n := css.length) (a := p.1) (c := p.2) hS ((hi 2 (by simp)).trans rfl)) (pf_2.ix h_t2)) ?_
    refine d_readD (fun w L' hF hS hi => run_loadG1 (f := idC) (i := t30.1) (sz := 4) (j := 3) (v := (List.getD (List.getD (setR css t30.1 2 (.slice p_2.1 t47.length p_2.2)) (Int.toNat t30.1) []) 3 undef)) Tryz.isAgg24 rfl rfl (offOf (i := 2) (E := 32) (sz := 4) (n := css.length) (a := p.1) (c := p.2) hS ((hi 2 (by simp)).trans rfl)) (pf_2.ix h_t2) (rg_of ((pf_2.eta h_t2).trans (cg_face_Person (pf_2.at h_t2))) rfl)) rfl rfl ?_
    refine d_val rfl rfl (r_move (v := _) rfl) ?_
    have h_t2_2 := bnd_val H68
    have H69 := bnd_rest H68
    refine d_readE rfl rfl (fun w L' hF hS hi => run_nilG rfl (offOf (i := 2) (E := 32) (sz := 4) (n := css.length) (a := p.1) (c := p.2) hS ((hi 2 (by simp)).trans rfl)) (pf_2.ix h_t2_2)) ?_
    refine d_readE rfl rfl (fun w L' hF hS hi => run_fieldG Tryz.runUnderlying32 rfl Tryz.sizeOf24 rfl rfl (offOf (i := 2) (E := 32) (sz := 4) (n := css.length) (a := p.1) (c := p.2) hS ((hi 2 (by simp)).trans rfl)) (pf_2.ix h_t2_2)) ?_
    refine d_readD (fun w L' hF hS hi => run_loadG1 (f := idC) (i := t30.1) (sz := 4) (j := 2) (v := (List.getD (List.getD (setR css t30.1 2 (.slice p_2.1 t47.length p_2.2)) (Int.toNat t30.1) []) 2 undef)) Tryz.isAgg24 rfl rfl (offOf (i := 2) (E := 32) (sz := 4) (n := css.length) (a := p.1) (c := p.2) hS ((hi 2 (by simp)).trans rfl)) (pf_2.ix h_t2_2) (rg_of ((pf_2.eta h_t2_2).trans (cg_face_Person (pf_2.at h_t2_2))) rfl)) rfl rfl ?_
    have h_t61 := bnd_val H69
    have H70 := bnd_rest H69
    refine d_make (Cv := fun v => roV 1 v (val (face_with (val (gAt l2 t30.1)).Nots (val (gAt l2 t30.1)).Likes)).length ((val (face_with (val (gAt l2 t30.1)).Nots (val (gAt l2 t30.1)).Likes)).map e_i64)) (none, 0) (makes_call (G := fun x : (Option Addr × Nat) => .slice x.1 (val (face_with (val (gAt l2 t30.1)).Nots (val (gAt l2 t30.1)).Likes)).length x.2) (C := fun x : (Option Addr × Nat) => roV 1 (.slice x.1 (val (face_with (val (gAt l2 t30.1)).Nots (val (gAt l2 t30.1)).Likes)).length x.2) (val (face_with (val (gAt l2 t30.1)).Nots (val (gAt l2 t30.1)).Likes)).length ((val (face_with (val (gAt l2 t30.1)).Nots (val (gAt l2 t30.1)).Likes)).map e_i64)) (fun w L' hF hS hi => k36 (know_all w) ((show FrS hp_3 1 (List.getD (List.getD (setR css t30.1 2 (.slice p_2.1 t47.length p_2.2)) (Int.toNat t30.1) []) 3 undef) ((val (gAt l2 t30.1)).Nots.map e_i64) from (g_face_Person_p3 (pf_2.at h_t2))).mono (pool_now (i := 0) hS ((hi 0 (by simp)).trans rfl) noH_le)) ((show FrS hp_3 1 (List.getD (List.getD (setR css t30.1 2 (.slice p_2.1 t47.length p_2.2)) (Int.toNat t30.1) []) 2 undef) ((val (gAt l2 t30.1)).Likes.map e_i64) from (g_face_Person_p2 (pf_2.at h_t2_2))).mono (pool_now (i := 0) hS ((hi 0 (by simp)).trans rfl) noH_le)) h_t61) Tryz.call36 rfl) (fun _ => rfl) rfl rfl rfl (fun p_4 => ?_)
    refine d_val rfl rfl (r_build (pl := #[(0, 1), (1, 1), (2, 1), (3, 1)]) (ps := [(0, .int .i64 1), (1, str a4), (2, .slice p_3.1 (val (face_with a3 ([] : (List Int)))).length p_3.2), (3, .slice p_4.1 (val (face_with (val (gAt l2 t30.1)).Nots (val (gAt l2 t30.1)).Likes)).length p_4.2)]) (cells := #[.int .i64 1, str a4, .slice p_3.1 (val (face_with a3 ([] : (List Int)))).length p_3.2, .slice p_4.1 (val (face_with (val (gAt l2 t30.1)).Nots (val (gAt l2 t30.1)).Likes)).length p_4.2]) Tryz.zeroValue32 Tryz.runUnderlying32 (fun w => by kernel_rfl) rfl rfl) ?_
    refine d_new rfl rfl (run_alloc (cs := [.int .i64 0, str [], .slice none 0 0, .slice none 0 0]) Tryz.zeroValue32 rfl) rfl (fun b4 => ?_)
    refine d_storeV (i := 6) (vs := [.int .i64 1, str a4, .slice p_3.1 (val (face_with a3 ([] : (List Int)))).length p_3.2, .slice p_4.1 (val (face_with (val (gAt l2 t30.1)).Nots (val (gAt l2 t30.1)).Likes)).length p_4.2]) (cs' := fun v_ => [(vcell v_ 0), (vcell v_ 1), (vcell v_ 2), (vcell v_ 3)]) Tryz.sizeOf32 rfl rfl rfl rfl rfl rfl rfl rfl rfl ?_
    refine d_nil ?_
    refine c_sel [0, 1, 2, 3, 4, 5, 6] [poolC noH hp_3, _, rowO 32 4 (.slice p.1 css.length p.2) css.length ((setR css t30.1 2 (.slice p_2.1 t47.length p_2.2)).map idC), _, roV 1 (.slice p_3.1 (val (face_with a3 ([] : (List Int)))).length p_3.2) (val (face_with a3 ([] : (List Int)))).length ((val (face_with a3 ([] : (List Int)))).map e_i64), roV 1 (.slice p_4.1 (val (face_with (val (gAt l2 t30.1)).Nots (val (gAt l2 t30.1)).Likes)).length p_4.2) (val (face_with (val (gAt l2 t30.1)).Nots (val (gAt l2 t30.1)).Likes)).length ((val (face_with (val (gAt l2 t30.1)).Nots (val (gAt l2 t30.1)).Likes)).map e_i64), cellsC b4 [.int .i64 1, str a4, .slice p_3.1 (val (face_with a3 ([] : (List Int)))).length p_3.2, .slice p_4.1 (val (face_with (val (gAt l2 t30.1)).Nots (val (gAt l2 t30.1)).Likes)).length p_4.2] 32] rfl (by decide) ?_
    refine c_seq ?_
    refine c_region ?_
    refine l_val rfl rfl rfl (r_move (v := _) rfl) ?_
    refine l_val rfl rfl rfl (r_move (v := _) rfl) ?_
    obtain ⟨t2_3, h_t2_3, H71⟩ := bnd_some H70; clear H70
    refine l_read (fun w hF hS => run_nilG rfl (offOf (i := 2) hS rfl) (pf_2.ix h_t2_3)) rfl rfl rfl ?_
    refine c_know (fun w hF hS => someOfO (i := 2) hS rfl (pf_2.ix h_t2_3)) (fun hs_3 => ?_)
    refine l_val rfl rfl rfl (r_fieldP Tryz.runUnderlying32 rfl Tryz.sizeOf24 rfl rfl hs_3) ?_
    refine l_read (fun w hF hS => run_loadG1 (f := idC) (i := t30.1) (sz := 4) (j := 3) (v := (List.getD (List.getD (setR css t30.1 2 (.slice p_2.1 t47.length p_2.2)) (Int.toNat t30.1) []) 3 undef)) Tryz.isAgg24 rfl rfl (offOf (i := 2) hS rfl) (pf_2.ix h_t2_3) (rg_of ((pf_2.eta h_t2_3).trans (cg_face_Person (pf_2.at h_t2_3))) rfl)) rfl rfl rfl ?_
    refine l_val rfl rfl rfl (r_move (v := v3) rfl) ?_
    obtain ⟨t69, h_t69, H72⟩ := bnd_some H71; clear H71
    refine l_make (makes_call (rds := [0]) (G := fun x : (Option Addr × Nat) => .slice x.1 t69.length x.2) (C := fun x : (Option Addr × Nat) => roV 1 (.slice x.1 t69.length x.2) t69.length (t69.map e_i64)) (fun w L' hF hS hi => k36 (know_all w) ((show FrS hp_3 1 (List.getD (List.getD (setR css t30.1 2 (.slice p_2.1 t47.length p_2.2)) (Int.toNat t30.1) []) 3 undef) (t2_3.Nots.map e_i64) from (g_face_Person_p3 (pf_2.at h_t2_3))).mono (pool_now (i := 0) hS ((hi 0 (by simp)).trans rfl) noH_le)) (f3.mono (hw.now hF)) h_t69) Tryz.call36 rfl) rfl rfl rfl (fun p_5 => ?_)
    obtain ⟨t2_4, h_t2_4, H73⟩ := bnd_some H72; clear H72
    refine l_read (fun w hF hS => run_nilG rfl (offOf (i := 2) hS rfl) (pf_2.ix h_t2_4)) rfl rfl rfl ?_
    refine c_know (fun w hF hS => someOfO (i := 2) hS rfl (pf_2.ix h_t2_4)) (fun hs_4 => ?_)
    refine l_val rfl rfl rfl (r_fieldP Tryz.runUnderlying32 rfl Tryz.sizeOf24 rfl rfl hs_4) ?_
    refine c_freeze (Φ := fun H_ => FrS H_ 1 (.slice p_5.1 t69.length p_5.2) (t69.map e_i64)) 0 7 rfl rfl (by decide) (fun _ _ => noH_le) (fz_ro _) (fun hp_4 hle_4 hf_2 => ?_)
    obtain ⟨l2_2, h_l2_2, H74⟩ := bnd_some H73; clear H73
    refine l_turn0 (turns_storeO (q := 2) (j := 3) (i := t30.1) (sz := 4) (x := (.slice p_5.1 t69.length p_5.2)) (css := (setR css t30.1 2 (.slice p_2.1 t47.length p_2.2))) (xe := t2_4) (rfl.trans (setR_len _ _ _ _).symm) (pf_2.mono hle_4).len Tryz.sizeOf24 rfl rfl rfl rfl rfl rfl rfl h_t2_4) rfl rfl (fun _ => ?_)
    have pf_3 : AllC g_face_Person hp_4 4 (setR (setR css t30.1 2 (.slice p_2.1 t47.length p_2.2)) t30.1 3 (.slice p_5.1 t69.length p_5.2)) l2_2 := AllC.setR (pf_2.mono hle_4) h_t2_4 h_l2_2 rfl (by obtain ⟨q0_, q1_, q2_, q3_⟩ := (pf_2.mono hle_4).at h_t2_4; exact ⟨q0_, q1_, q2_, hf_2⟩)
    refine l_nil ?_
    refine c_sel [0, 1, 2, 3, 4, 5, 6, 7] [poolC noH hp_4, _, rowO 32 4 (.slice p.1 css.length p.2) css.length ((setR (setR css t30.1 2 (.slice p_2.1 t47.length p_2.2)) t30.1 3 (.slice p_5.1 t69.length p_5.2)).map idC), _, roV 1 (.slice p_3.1 (val (face_with a3 ([] : (List Int)))).length p_3.2) (val (face_with a3 ([] : (List Int)))).length ((val (face_with a3 ([] : (List Int)))).map e_i64), roV 1 (.slice p_4.1 (val (face_with (val (gAt l2 t30.1)).Nots (val (gAt l2 t30.1)).Likes)).length p_4.2) (val (face_with (val (gAt l2 t30.1)).Nots (val (gAt l2 t30.1)).Likes)).length ((val (face_with (val (gAt l2 t30.1)).Nots (val (gAt l2 t30.1)).Likes)).map e_i64), cellsC b4 [.int .i64 1, str a4, .slice p_3.1 (val (face_with a3 ([] : (List Int)))).length p_3.2, .slice p_4.1 (val (face_with (val (gAt l2 t30.1)).Nots (val (gAt l2 t30.1)).Likes)).length p_4.2] 32, _] rfl (by decide) ?_
    refine c_seq ?_
    refine c_region ?_
    refine l_val rfl rfl rfl (r_assign (v := .int .i64 0) rfl) ?_
    refine l_nil ?_
    refine c_sel [0, 1, 2, 3, 4, 5, 6, 7] [poolC noH hp_4, _, rowO 32 4 (.slice p.1 css.length p.2) css.length ((setR (setR css t30.1 2 (.slice p_2.1 t47.length p_2.2)) t30.1 3 (.slice p_5.1 t69.length p_5.2)).map idC), _, roV 1 (.slice p_3.1 (val (face_with a3 ([] : (List Int)))).length p_3.2) (val (face_with a3 ([] : (List Int)))).length ((val (face_with a3 ([] : (List Int)))).map e_i64), roV 1 (.slice p_4.1 (val (face_with (val (gAt l2 t30.1)).Nots (val (gAt l2 t30.1)).Likes)).length p_4.2) (val (face_with (val (gAt l2 t30.1)).Nots (val (gAt l2 t30.1)).Likes)).length ((val (face_with (val (gAt l2 t30.1)).Nots (val (gAt l2 t30.1)).Likes)).map e_i64), cellsC b4 [.int .i64 1, str a4, .slice p_3.1 (val (face_with a3 ([] : (List Int)))).length p_3.2, .slice p_4.1 (val (face_with (val (gAt l2 t30.1)).Nots (val (gAt l2 t30.1)).Likes)).length p_4.2] 32, _] rfl (by decide) ?_
    refine c_meet (r := r) (σ := Int × Int × (List Int) × (List Int)) (τ := Unit) (fun s => face_Split_j1 a4 l2_2 s.1 s.2.1 s.2.2.1 s.2.2.2) (fun s t => [(15, .slice p.1 css.length p.2), (17, .pointer (some ⟨b4, 0, none⟩)), (18, .int .i64 s.1)]) (fun s t => [poolC noH hp_4, rowO 32 4 (.slice p.1 css.length p.2) css.length ((setR (setR css t30.1 2 (.slice p_2.1 t47.length p_2.2)) t30.1 3 (.slice p_5.1 t69.length p_5.2)).map idC), roV 1 (.slice p_3.1 (val (face_with a3 ([] : (List Int)))).length p_3.2) (val (face_with a3 ([] : (List Int)))).length (s.2.2.1.map e_i64), roV 1 (.slice p_4.1 (val (face_with (val (gAt l2 t30.1)).Nots (val (gAt l2 t30.1)).Likes)).length p_4.2) (val (face_with (val (gAt l2 t30.1)).Nots (val (gAt l2 t30.1)).Likes)).length (s.2.2.2.map e_i64), cellsC b4 [.int .i64 s.2.1, str a4, .slice p_3.1 (val (face_with a3 ([] : (List Int)))).length p_3.2, .slice p_4.1 (val (face_with (val (gAt l2 t30.1)).Nots (val (gAt l2 t30.1)).Likes)).length p_4.2] 32]) (fun s t => AllC g_face_Person hp_4 4 (setR (setR css t30.1 2 (.slice p_2.1 t47.length p_2.2)) t30.1 3 (.slice p_5.1 t69.length p_5.2)) l2_2 ∧ (val (face_with a3 ([] : (List Int)))).length = s.2.2.1.length ∧ (val (face_with (val (gAt l2 t30.1)).Nots (val (gAt l2 t30.1)).Likes)).length = s.2.2.2.length) ?_ ?_
    ·refine c_block ?_
     refine c_sel [0, 2, 4, 5, 6] [poolC noH hp_4, rowO 32 4 (.slice p.1 css.length p.2) css.length ((setR (setR css t30.1 2 (.slice p_2.1 t47.length p_2.2)) t30.1 3 (.slice p_5.1 t69.length p_5.2)).map idC), roV 1 (.slice p_3.1 (val (face_with a3 ([] : (List Int)))).length p_3.2) (val (face_with a3 ([] : (List Int)))).length ((val (face_with a3 ([] : (List Int)))).map e_i64), roV 1 (.slice p_4.1 (val (face_with (val (gAt l2 t30.1)).Nots (val (gAt l2 t30.1)).Likes)).length p_4.2) (val (face_with (val (gAt l2 t30.1)).Nots (val (gAt l2 t30.1)).Likes)).length ((val (face_with (val (gAt l2 t30.1)).Nots (val (gAt l2 t30.1)).Likes)).map e_i64), cellsC b4 [.int .i64 1, str a4, .slice p_3.1 (val (face_with a3 ([] : (List Int)))).length p_3.2, .slice p_4.1 (val (face_with (val (gAt l2 t30.1)).Nots (val (gAt l2 t30.1)).Likes)).length p_4.2] 32] rfl (by decide) ?_
     refine c_fix (σ := Int × Int) (τ := Unit) (fun next2 s => face_Split_l2 a4 (val (face_with a3 ([] : (List Int)))) (val (face_with (val (gAt l2 t30.1)).Nots (val (gAt l2 t30.1)).Likes)) l2_2 next2 s.1 s.2) (fun s t => [(15, .slice p.1 css.length p.2), (17, .pointer (some ⟨b4, 0, none⟩)), (18, .int .i64 s.1)]) (fun s t => [poolC noH hp_4, rowO 32 4 (.slice p.1 css.length p.2) css.length ((setR (setR css t30.1 2 (.slice p_2.1 t47.length p_2.2)) t30.1 3 (.slice p_5.1 t69.length p_5.2)).map idC), roV 1 (.slice p_3.1 (val (face_with a3 ([] : (List Int)))).length p_3.2) (val (face_with a3 ([] : (List Int)))).length ((val (face_with a3 ([] : (List Int)))).map e_i64), roV 1 (.slice p_4.1 (val (face_with (val (gAt l2 t30.1)).Nots (val (gAt l2 t30.1)).Likes)).length p_4.2) (val (face_with (val (gAt l2 t30.1)).Nots (val (gAt l2 t30.1)).Likes)).length ((val (face_with (val (gAt l2 t30.1)).Nots (val (gAt l2 t30.1)).Likes)).map e_i64), cellsC b4 [.int .i64 s.2, str a4, .slice p_3.1 (val (face_with a3 ([] : (List Int)))).length p_3.2, .slice p_4.1 (val (face_with (val (gAt l2 t30.1)).Nots (val (gAt l2 t30.1)).Likes)).length p_4.2] 32]) (fun s t => True) (0, 1) () [0, 1, 2, 3, 4] H74 (by exact trivial) (by exact ⟨rfl, rfl, rfl, trivial⟩) (by decide) rfl ?_
     rintro ⟨x18_3, m_3⟩ _ m2 gg H77 _
     clear H74
     replace H77 : face_Split_l2 a4 (val (face_with a3 ([] : (List Int)))) (val (face_with (val (gAt l2 t30.1)).Nots (val (gAt l2 t30.1)).Likes)) l2_2 (it (fun next2 s => face_Split_l2 a4 (val (face_with a3 ([] : (List Int)))) (val (face_with (val (gAt l2 t30.1)).Nots (val (gAt l2 t30.1)).Likes)) l2_2 next2 s.1 s.2) m2) x18_3 m_3 = some r := H77
     generalize hn2 : it (fun next2 s => face_Split_l2 a4 (val (face_with a3 ([] : (List Int)))) (val (face_with (val (gAt l2 t30.1)).Nots (val (gAt l2 t30.1)).Likes)) l2_2 next2 s.1 s.2) m2 = next2 at H77
     refine c_tidyF [(15, .slice p.1 css.length p.2), (17, .pointer (some ⟨b4, 0, none⟩)), (18, .int .i64 x18_3)] [poolC noH hp_4, rowO 32 4 (.slice p.1 css.length p.2) css.length ((setR (setR css t30.1 2 (.slice p_2.1 t47.length p_2.2)) t30.1 3 (.slice p_5.1 t69.length p_5.2)).map idC), roV 1 (.slice p_3.1 (val (face_with a3 ([] : (List Int)))).length p_3.2) (val (face_with a3 ([] : (List Int)))).length ((val (face_with a3 ([] : (List Int)))).map e_i64), roV 1 (.slice p_4.1 (val (face_with (val (gAt l2 t30.1)).Nots (val (gAt l2 t30.1)).Likes)).length p_4.2) (val (face_with (val (gAt l2 t30.1)).Nots (val (gAt l2 t30.1)).Likes)).length ((val (face_with (val (gAt l2 t30.1)).Nots (val (gAt l2 t30.1)).Likes)).map e_i64), cellsC b4 [.int .i64 m_3, str a4, .slice p_3.1 (val (face_with a3 ([] : (List Int)))).length p_3.2, .slice p_4.1 (val (face_with (val (gAt l2 t30.1)).Nots (val (gAt l2 t30.1)).Likes)).length p_4.2] 32] rfl rfl ?_
     refine c_seq ?_
     refine c_seq ?_
     exact c_regionD (Kd.p :: Kd.p :: Kd.p :: Kd.p :: Kd.p :: Kd.p :: Kd.p :: Kd.d [1] _ :: Kd.d [1] _ :: Kd.d [1] _ :: Kd.p :: Kd.d [4] _ :: Kd.p :: Kd.p :: []) 0 mixed (by
      refine d_val rfl rfl (r_move (v := .int .i64 x18_3) rfl) ?_
      refine d_val rfl rfl (r_move (v := .slice p.1 css.length p.2) rfl) ?_
      refine d_val rfl rfl (r_lenN Tryz.underlying23 rfl (((rfl.trans (setR_len _ _ _ _).symm).trans (setR_len _ _ _ _).symm).trans pf_3.len)) ?_
      refine d_val rfl rfl (r_lss rfl rfl) ?_
      refine d_val rfl rfl (r_move (v := .bool (decide (x18_3 < (l2_2.length : Int)))) rfl) ?_
      refine splitS (fun hb => ?_) (fun hb => ?_)
      ·have H78 := cnd_t hb H77
       refine d_val rfl rfl (r_move (v := .slice p.1 css.length p.2) rfl) ?_
       refine d_val rfl rfl (r_move (v := .int .i64 x18_3) rfl) ?_
       have h_t79 := bnd_val H78
       have H79 := bnd_rest H78
       refine d_readD (fun w L' hF hS hi => run_indexO Tryz.underlying23 Tryz.sizeOf32 rfl rfl (offOf (i := 1) (E := 32) (sz := 4) (n := css.length) (a := p.1) (c := p.2) hS ((hi 1 (by simp)).trans rfl)) ((rfl.trans (setR_len _ _ _ _).symm).trans (setR_len _ _ _ _).symm) (pf_3.ix h_t79)) rfl rfl ?_
       refine d_readE rfl rfl (fun w L' hF hS hi => run_fieldG Tryz.runUnderlying32 rfl Tryz.sizeOf3 rfl rfl (offOf (i := 1) (E := 32) (sz := 4) (n := css.length) (a := p.1) (c := p.2) hS ((hi 1 (by simp)).trans rfl)) (pf_3.ix h_t79)) ?_
       refine d_readD (fun w L' hF hS hi => run_loadG1 (f := idC) (i := x18_3) (sz := 4) (j := 0) (v := .int .i64 (val (gAt l2_2 x18_3)).Id) Tryz.isAgg3 rfl rfl (offOf (i := 1) (E := 32) (sz := 4) (n := css.length) (a := p.1) (c := p.2) hS ((hi 1 (by simp)).trans rfl)) (pf_3.ix h_t79) (rg_of ((pf_3.eta h_t79).trans (cg_face_Person (pf_3.at h_t79))) rfl)) rfl rfl ?_
       refine d_val rfl rfl (r_field Tryz.runUnderlying32 rfl Tryz.sizeOf3 rfl rfl) ?_
       refine d_load1 (i := 4) (v := .int .i64 m_3) Tryz.isAgg3 rfl rfl rfl rfl ?_
       refine d_val rfl rfl (r_eql rfl rfl) ?_
       refine d_val rfl rfl (r_pickT (v := .bool (decide ((val (gAt l2_2 x18_3)).Id = m_3))) rfl rfl) ?_
       refine d_nil ?_
       refine c_sel [0, 1, 2, 3, 4] [poolC noH hp_4, rowO 32 4 (.slice p.1 css.length p.2) css.length ((setR (setR css t30.1 2 (.slice p_2.1 t47.length p_2.2)) t30.1 3 (.slice p_5.1 t69.length p_5.2)).map idC), roV 1 (.slice p_3.1 (val (face_with a3 ([] : (List Int)))).length p_3.2) (val (face_with a3 ([] : (List Int)))).length ((val (face_with a3 ([] : (List Int)))).map e_i64), roV 1 (.slice p_4.1 (val (face_with (val (gAt l2 t30.1)).Nots (val (gAt l2 t30.1)).Likes)).length p_4.2) (val (face_with (val (gAt l2 t30.1)).Nots (val (gAt l2 t30.1)).Likes)).length ((val (face_with (val (gAt l2 t30.1)).Nots (val (gAt l2 t30.1)).Likes)).map e_i64), cellsC b4 [.int .i64 m_3, str a4, .slice p_3.1 (val (face_with a3 ([] : (List Int)))).length p_3.2, .slice p_4.1 (val (face_with (val (gAt l2 t30.1)).Nots (val (gAt l2 t30.1)).Likes)).length p_4.2] 32] rfl (by decide) ?_
       refine c_if (b := (decide ((val (gAt l2_2 x18_3)).Id = m_3))) rfl (fun hb => ?_) (fun hb => ?_)
       ·have H80 := cnd_t hb H79; clear H79
        refine c_skip ?_
        refine c_block ?_
        refine c_seq ?_
        refine c_region ?_
        refine l_val rfl rfl rfl (r_field Tryz.runUnderlying32 rfl Tryz.sizeOf3 rfl rfl) ?_
        refine l_load1 (i := 4) (v := .int .i64 m_3) Tryz.isAgg3 rfl rfl rfl rfl rfl ?_
        obtain ⟨t88, h_t88, H81⟩ := bnd_some H80; clear H80
        refine l_val rfl rfl rfl (r_addG rfl rfl h_t88) ?_
        refine l_val rfl rfl rfl (r_field Tryz.runUnderlying32 rfl Tryz.sizeOf3 rfl rfl) ?_
        refine l_store (i := 4) (vs := [.int .i64 t88]) (cs' := [.int .i64 t88, str a4, .slice p_3.1 (val (face_with a3 ([] : (List Int)))).length p_3.2, .slice p_4.1 (val (face_with (val (gAt l2 t30.1)).Nots (val (gAt l2 t30.1)).Likes)).length p_4.2]) Tryz.sizeOf3 rfl rfl rfl rfl rfl rfl rfl rfl rfl ?_
        refine l_nil ?_
        refine c_sel [0, 1, 2, 3, 4] [poolC noH hp_4, rowO 32 4 (.slice p.1 css.length p.2) css.length ((setR (setR css t30.1 2 (.slice p_2.1 t47.length p_2.2)) t30.1 3 (.slice p_5.1 t69.length p_5.2)).map idC), roV 1 (.slice p_3.1 (val (face_with a3 ([] : (List Int)))).length p_3.2) (val (face_with a3 ([] : (List Int)))).length ((val (face_with a3 ([] : (List Int)))).map e_i64), roV 1 (.slice p_4.1 (val (face_with (val (gAt l2 t30.1)).Nots (val (gAt l2 t30.1)).Likes)).length p_4.2) (val (face_with (val (gAt l2 t30.1)).Nots (val (gAt l2 t30.1)).Likes)).length ((val (face_with (val (gAt l2 t30.1)).Nots (val (gAt l2 t30.1)).Likes)).map e_i64), cellsC b4 [.int .i64 t88, str a4, .slice p_3.1 (val (face_with a3 ([] : (List Int)))).length p_3.2, .slice p_4.1 (val (face_with (val (gAt l2 t30.1)).Nots (val (gAt l2 t30.1)).Likes)).length p_4.2] 32] rfl (by decide) ?_
        refine c_region ?_
        refine l_val rfl rfl rfl (r_move (v := .int .i64 x18_3) rfl) ?_
        obtain ⟨t91, h_t91, H82⟩ := bnd_some H81; clear H81
        refine l_val rfl rfl rfl (r_addG rfl rfl h_t91) ?_
        refine l_val rfl rfl rfl (r_assign (v := .int .i64 t91) rfl) ?_
        refine l_nil ?_
        refine c_sel [0, 1, 2, 3, 4] [poolC noH hp_4, rowO 32 4 (.slice p.1 css.length p.2) css.length ((setR (setR css t30.1 2 (.slice p_2.1 t47.length p_2.2)) t30.1 3 (.slice p_5.1 t69.length p_5.2)).map idC), roV 1 (.slice p_3.1 (val (face_with a3 ([] : (List Int)))).length p_3.2) (val (face_with a3 ([] : (List Int)))).length ((val (face_with a3 ([] : (List Int)))).map e_i64), roV 1 (.slice p_4.1 (val (face_with (val (gAt l2 t30.1)).Nots (val (gAt l2 t30.1)).Likes)).length p_4.2) (val (face_with (val (gAt l2 t30.1)).Nots (val (gAt l2 t30.1)).Likes)).length ((val (face_with (val (gAt l2 t30.1)).Nots (val (gAt l2 t30.1)).Likes)).map e_i64), cellsC b4 [.int .i64 t88, str a4, .slice p_3.1 (val (face_with a3 ([] : (List Int)))).length p_3.2, .slice p_4.1 (val (face_with (val (gAt l2 t30.1)).Nots (val (gAt l2 t30.1)).Likes)).length p_4.2] 32] rfl (by decide) ?_
        refine c_close (t91, t88) () m2 [0, 1, 2, 3, 4] (by exact ⟨rfl, rfl, rfl, trivial⟩) (by decide) rfl (by exact ⟨(by subst hn2; exact H82), trivial⟩) (Nat.lt_succ_self _)
       ·have H83 := cnd_f hb H79; clear H79
        refine c_exit ?_
        refine c_close (x18_3, m_3, (val (face_with a3 ([] : (List Int)))), (val (face_with (val (gAt l2 t30.1)).Nots (val (gAt l2 t30.1)).Likes))) () 0 [0, 1, 2, 3, 4] (by exact ⟨rfl, rfl, rfl, trivial⟩) (by decide) rfl (by exact ⟨H83, ⟨pf_3, rfl, rfl⟩⟩) (Nat.lt_succ_self _)
      ·have H84 := cnd_f hb H77
       refine d_pass rfl rfl ?_
       refine d_pass rfl rfl ?_
       refine d_pass rfl rfl ?_
       refine d_pass rfl rfl ?_
       refine d_pass rfl rfl ?_
       refine d_pass rfl rfl ?_
       refine d_pass rfl rfl ?_
       refine d_pass rfl rfl ?_
       refine d_val rfl rfl (r_pickF (v := .bool false) rfl rfl) ?_
       refine d_nil ?_
       refine c_sel [0, 1, 2, 3, 4] [poolC noH hp_4, rowO 32 4 (.slice p.1 css.length p.2) css.length ((setR (setR css t30.1 2 (.slice p_2.1 t47.length p_2.2)) t30.1 3 (.slice p_5.1 t69.length p_5.2)).map idC), roV 1 (.slice p_3.1 (val (face_with a3 ([] : (List Int)))).length p_3.2) (val (face_with a3 ([] : (List Int)))).length ((val (face_with a3 ([] : (List Int)))).map e_i64), roV 1 (.slice p_4.1 (val (face_with (val (gAt l2 t30.1)).Nots (val (gAt l2 t30.1)).Likes)).length p_4.2) (val (face_with (val (gAt l2 t30.1)).Nots (val (gAt l2 t30.1)).Likes)).length ((val (face_with (val (gAt l2 t30.1)).Nots (val (gAt l2 t30.1)).Likes)).map e_i64), cellsC b4 [.int .i64 m_3, str a4, .slice p_3.1 (val (face_with a3 ([] : (List Int)))).length p_3.2, .slice p_4.1 (val (face_with (val (gAt l2 t30.1)).Nots (val (gAt l2 t30.1)).Likes)).length p_4.2] 32] rfl (by decide) ?_
       refine c_false rfl ?_
       refine c_exit ?_
       refine c_close (x18_3, m_3, (val (face_with a3 ([] : (List Int)))), (val (face_with (val (gAt l2 t30.1)).Nots (val (gAt l2 t30.1)).Likes))) () 0 [0, 1, 2, 3, 4] (by exact ⟨rfl, rfl, rfl, trivial⟩) (by decide) rfl (by exact ⟨H84, ⟨pf_3, rfl, rfl⟩⟩) (Nat.lt_succ_self _)
      ) (by kernel_rfl)
    ·rintro ⟨x18, m, l_2, l_3⟩ _ gg H75 ⟨pf_4, hl, hl_2⟩
     replace H75 : face_Split_j1 a4 l2_2 x18 m l_2 l_3 = some r := H75
     refine c_tidyF [(15, .slice p.1 css.length p.2), (17, .pointer (some ⟨b4, 0, none⟩)), (18, .int .i64 x18)] [poolC noH hp_4, rowO 32 4 (.slice p.1 css.length p.2) css.length ((setR (setR css t30.1 2 (.slice p_2.1 t47.length p_2.2)) t30.1 3 (.slice p_5.1 t69.length p_5.2)).map idC), roV 1 (.slice p_3.1 (val (face_with a3 ([] : (List Int)))).length p_3.2) (val (face_with a3 ([] : (List Int)))).length (l_2.map e_i64), roV 1 (.slice p_4.1 (val (face_with (val (gAt l2 t30.1)).Nots (val (gAt l2 t30.1)).Likes)).length p_4.2) (val (face_with (val (gAt l2 t30.1)).Nots (val (gAt l2 t30.1)).Likes)).length (l_3.map e_i64), cellsC b4 [.int .i64 m, str a4, .slice p_3.1 (val (face_with a3 ([] : (List Int)))).length p_3.2, .slice p_4.1 (val (face_with (val (gAt l2 t30.1)).Nots (val (gAt l2 t30.1)).Likes)).length p_4.2] 32] rfl rfl ?_
     refine c_seq ?_
     refine c_region ?_
     refine l_val rfl rfl rfl (r_move (v := .slice p.1 css.length p.2) rfl) ?_
     refine l_val rfl rfl rfl (r_move (v := .int .i64 x18) rfl) ?_
     refine l_loadN (i := 4) (vs := [.int .i64 m, str a4, .slice p_3.1 (val (face_with a3 ([] : (List Int)))).length p_3.2, .slice p_4.1 (val (face_with (val (gAt l2 t30.1)).Nots (val (gAt l2 t30.1)).Likes)).length p_4.2]) Tryz.isAgg32 Tryz.sizeOf32 rfl rfl rfl rfl rfl ?_
     refine l_buildSlice (vs := [.agg #[.int .i64 m, str a4, .slice p_3.1 (val (face_with a3 ([] : (List Int)))).length p_3.2, .slice p_4.1 (val (face_with (val (gAt l2 t30.1)).Nots (val (gAt l2 t30.1)).Likes)).length p_4.2]]) (cs := [.int .i64 m, str a4, .slice p_3.1 (val (face_with a3 ([] : (List Int)))).length p_3.2, .slice p_4.1 (val (face_with (val (gAt l2 t30.1)).Nots (val (gAt l2 t30.1)).Likes)).length p_4.2]) Tryz.underlying23 Tryz.sizeOf32 Tryz.zeroValue32 rfl rfl rfl rfl rfl rfl rfl (fun b5 => ?_)
     refine c_freeze (Φ := fun H_ => FrS H_ 1 (.slice p_3.1 (val (face_with a3 ([] : (List Int)))).length p_3.2) (l_2.map e_i64)) 0 2 rfl rfl (by decide) (fun _ _ => noH_le) (fz_ro _) (fun hp_5 hle_5 hf_3 => ?_)
     refine c_freeze (Φ := fun H_ => FrS H_ 1 (.slice p_4.1 (val (face_with (val (gAt l2 t30.1)).Nots (val (gAt l2 t30.1)).Likes)).length p_4.2) (l_3.map e_i64)) 0 3 rfl rfl (by decide) (fun _ _ => noH_le) (fz_ro _) (fun hp_6 hle_6 hf_4 => ?_)
     obtain ⟨t96, h_t96, H76⟩ := bnd_some H75; clear H75
     obtain ⟨hg, pf_5⟩ := AllC.ins (cs := [.int .i64 m, str a4, .slice p_3.1 (val (face_with a3 ([] : (List Int)))).length p_3.2, .slice p_4.1 (val (face_with (val (gAt l2 t30.1)).Nots (val (gAt l2 t30.1)).Likes)).length p_4.2]) ((pf_4.mono hle_5).mono hle_6) h_t96 rfl (⟨rfl, rfl, (hf_3.mono hle_6), hf_4⟩)
     refine l_turn (turns_callB (i := 1) (rds := [5]) (G := fun x : Option Addr × Nat => .slice x.1 (insL (setR (setR css t30.1 2 (.slice p_2.1 t47.length p_2.2)) t30.1 3 (.slice p_5.1 t69.length p_5.2)) x18 [.int .i64 m, str a4, .slice p_3.1 (val (face_with a3 ([] : (List Int)))).length p_3.2, .slice p_4.1 (val (face_with (val (gAt l2 t30.1)).Nots (val (gAt l2 t30.1)).Likes)).length p_4.2]).length x.2) (C := fun x : Option Addr × Nat => rowO 32 4 (.slice x.1 (insL (setR (setR css t30.1 2 (.slice p_2.1 t47.length p_2.2)) t30.1 3 (.slice p_5.1 t69.length p_5.2)) x18 [.int .i64 m, str a4, .slice p_3.1 (val (face_with a3 ([] : (List Int)))).length p_3.2, .slice p_4.1 (val (face_with (val (gAt l2 t30.1)).Nots (val (gAt l2 t30.1)).Likes)).length p_4.2]).length x.2) (insL (setR (setR css t30.1 2 (.slice p_2.1 t47.length p_2.2)) t30.1 3 (.slice p_5.1 t69.length p_5.2)) x18 [.int .i64 m, str a4, .slice p_3.1 (val (face_with a3 ([] : (List Int)))).length p_3.2, .slice p_4.1 (val (face_with (val (gAt l2 t30.1)).Nots (val (gAt l2 t30.1)).Likes)).length p_4.2]).length ((insL (setR (setR css t30.1 2 (.slice p_2.1 t47.length p_2.2)) t30.1 3 (.slice p_5.1 t69.length p_5.2)) x18 [.int .i64 m, str a4, .slice p_3.1 (val (face_with a3 ([] : (List Int)))).length p_3.2, .slice p_4.1 (val (face_with (val (gAt l2 t30.1)).Nots (val (gAt l2 t30.1)).Likes)).length p_4.2]).map idC)) rfl (fun w L' S hF hS hi hp hlt ho hA => k45 (p0 := p) (cs1 := [.int .i64 m, str a4, .slice p_3.1 (val (face_with a3 ([] : (List Int)))).length p_3.2, .slice p_4.1 (val (face_with (val (gAt l2 t30.1)).Nots (val (gAt l2 t30.1)).Likes)).length p_4.2]) hp hlt (know_but w S) ((rfl.trans (setR_len _ _ _ _).symm).trans (setR_len _ _ _ _).symm) ((hc rfl).trans hn) (AllC.ones ((pf_4.mono hle_5).mono hle_6) (fun c_ x_ f_ => by obtain ⟨q0_, q1_, q2_, q3_⟩ := f_; exact fun j_ hj_ => match j_, hj_ with | 0, _ => (by rw [q0_]; rfl) | 1, _ => (by rw [q1_]; rfl) | 2, _ => (show FrS _ _ _ _ from q2_).one | 3, _ => (show FrS _ _ _ _ from q3_).one)) (by simp only [idC, List.map_cons, List.map_nil, List.all_cons, List.all_nil, (hf_3.mono hle_6).one, hf_4.one] <;> rfl) rfl (frb_box (j := 5) (xs := [[.int .i64 m, str a4, .slice p_3.1 (val (face_with a3 ([] : (List Int)))).length p_3.2, .slice p_4.1 (val (face_with (val (gAt l2 t30.1)).Nots (val (gAt l2 t30.1)).Likes)).length p_4.2]]) (f := idC) hA hS (by decide) ((hi 5 (by simp)).trans rfl) rfl rfl rfl rfl) hg) Tryz.call45 rfl) rfl rfl rfl (fun p_6 => ?_)
     refine l_callG (fun w hF hS => k44 (capOfO (i := 1) hS rfl) w) Tryz.call44 rfl rfl rfl ?_
     refine l_val rfl rfl rfl (r_assign (v := .slice (cutA p_6.1 0 ((insL (setR (setR css t30.1 2 (.slice p_2.1 t47.length p_2.2)) t30.1 3 (.slice p_5.1 t69.length p_5.2)) x18 [.int .i64 m, str a4, .slice p_3.1 (val (face_with a3 ([] : (List Int)))).length p_3.2, .slice p_4.1 (val (face_with (val (gAt l2 t30.1)).Nots (val (gAt l2 t30.1)).Likes)).length p_4.2]).length) 4) ((insL (setR (setR css t30.1 2 (.slice p_2.1 t47.length p_2.2)) t30.1 3 (.slice p_5.1 t69.length p_5.2)) x18 [.int .i64 m, str a4, .slice p_3.1 (val (face_with a3 ([] : (List Int)))).length p_3.2, .slice p_4.1 (val (face_with (val (gAt l2 t30.1)).Nots (val (gAt l2 t30.1)).Likes)).length p_4.2]).length) ((insL (setR (setR css t30.1 2 (.slice p_2.1 t47.length p_2.2)) t30.1 3 (.slice p_5.1 t69.length p_5.2)) x18 [.int .i64 m, str a4, .slice p_3.1 (val (face_with a3 ([] : (List Int)))).length p_3.2, .slice p_4.1 (val (face_with (val (gAt l2 t30.1)).Nots (val (gAt l2 t30.1)).Likes)).length p_4.2]).length)) rfl) ?_
     refine l_val rfl rfl rfl (r_assign (v := .int .i64 0) rfl) ?_
     refine l_nil ?_
     refine c_sel [0, 1, 2, 3, 4, 5] [poolC noH hp_6, rowO 32 4 (.slice p_6.1 ((insL (setR (setR css t30.1 2 (.slice p_2.1 t47.length p_2.2)) t30.1 3 (.slice p_5.1 t69.length p_5.2)) x18 [.int .i64 m, str a4, .slice p_3.1 (val (face_with a3 ([] : (List Int)))).length p_3.2, .slice p_4.1 (val (face_with (val (gAt l2 t30.1)).Nots (val (gAt l2 t30.1)).Likes)).length p_4.2]).length) p_6.2) ((insL (setR (setR css t30.1 2 (.slice p_2.1 t47.length p_2.2)) t30.1 3 (.slice p_5.1 t69.length p_5.2)) x18 [.int .i64 m, str a4, .slice p_3.1 (val (face_with a3 ([] : (List Int)))).length p_3.2, .slice p_4.1 (val (face_with (val (gAt l2 t30.1)).Nots (val (gAt l2 t30.1)).Likes)).length p_4.2]).length) ((insL (setR (setR css t30.1 2 (.slice p_2.1 t47.length p_2.2)) t30.1 3 (.slice p_5.1 t69.length p_5.2)) x18 [.int .i64 m, str a4, .slice p_3.1 (val (face_with a3 ([] : (List Int)))).length p_3.2, .slice p_4.1 (val (face_with (val (gAt l2 t30.1)).Nots (val (gAt l2 t30.1)).Likes)).length p_4.2]).map idC), _, _, cellsC b4 [.int .i64 m, str a4, (.slice p_3.1 (val (face_with a3 ([] : (List Int)))).length p_3.2), (.slice p_4.1 (val (face_with (val (gAt l2 t30.1)).Nots (val (gAt l2 t30.1)).Likes)).length p_4.2)] 32, cellsC b5 [.int .i64 m, str a4, .slice p_3.1 (val (face_with a3 ([] : (List Int)))).length p_3.2, .slice p_4.1 (val (face_with (val (gAt l2 t30.1)).Nots (val (gAt l2 t30.1)).Likes)).length p_4.2] 32] rfl (by decide) ?_
     refine c_ret ?_
     obtain rfl := Option.some.inj H76
     refine c_imp 1 rfl (imp_clipRO _ _ _ _ _ _) ?_
     refine c_both 0 1 rfl rfl (by decide) ?_
     refine c_imp 0 rfl (imp_rofD (k := true) (p := (cutA p_6.1 0 ((insL (setR (setR css t30.1 2 (.slice p_2.1 t47.length p_2.2)) t30.1 3 (.slice p_5.1 t69.length p_5.2)) x18 [.int .i64 m, str a4, .slice p_3.1 (val (face_with a3 ([] : (List Int)))).length p_3.2, .slice p_4.1 (val (face_with (val (gAt l2 t30.1)).Nots (val (gAt l2 t30.1)).Likes)).length p_4.2]).length) 4, ((insL (setR (setR css t30.1 2 (.slice p_2.1 t47.length p_2.2)) t30.1 3 (.slice p_5.1 t69.length p_5.2)) x18 [.int .i64 m, str a4, .slice p_3.1 (val (face_with a3 ([] : (List Int)))).length p_3.2, .slice p_4.1 (val (face_with (val (gAt l2 t30.1)).Nots (val (gAt l2 t30.1)).Likes)).length p_4.2]).length))) rfl (fun _ => rfl) pf_5) ?_
     refine ret2 (v1 := .slice (cutA p_6.1 0 ((insL (setR (setR css t30.1 2 (.slice p_2.1 t47.length p_2.2)) t30.1 3 (.slice p_5.1 t69.length p_5.2)) x18 [.int .i64 m, str a4, .slice p_3.1 (val (face_with a3 ([] : (List Int)))).length p_3.2, .slice p_4.1 (val (face_with (val (gAt l2 t30.1)).Nots (val (gAt l2 t30.1)).Likes)).length p_4.2]).length) 4) ((insL (setR (setR css t30.1 2 (.slice p_2.1 t47.length p_2.2)) t30.1 3 (.slice p_5.1 t69.length p_5.2)) x18 [.int .i64 m, str a4, .slice p_3.1 (val (face_with a3 ([] : (List Int)))).length p_3.2, .slice p_4.1 (val (face_with (val (gAt l2 t30.1)).Nots (val (gAt l2 t30.1)).Likes)).length p_4.2]).length) ((insL (setR (setR css t30.1 2 (.slice p_2.1 t47.length p_2.2)) t30.1 3 (.slice p_5.1 t69.length p_5.2)) x18 [.int .i64 m, str a4, .slice p_3.1 (val (face_with a3 ([] : (List Int)))).length p_3.2, .slice p_4.1 (val (face_with (val (gAt l2 t30.1)).Nots (val (gAt l2 t30.1)).Likes)).length p_4.2]).length)) (v2 := .int .i64 0) rfl rfl rfl (finX (cutA p_6.1 0 ((insL (setR (setR css t30.1 2 (.slice p_2.1 t47.length p_2.2)) t30.1 3 (.slice p_5.1 t69.length p_5.2)) x18 [.int .i64 m, str a4, .slice p_3.1 (val (face_with a3 ([] : (List Int)))).length p_3.2, .slice p_4.1 (val (face_with (val (gAt l2 t30.1)).Nots (val (gAt l2 t30.1)).Likes)).length p_4.2]).length) 4, ((insL (setR (setR css t30.1 2 (.slice p_2.1 t47.length p_2.2)) t30.1 3 (.slice p_5.1 t69.length p_5.2)) x18 [.int .i64 m, str a4, .slice p_3.1 (val (face_with a3 ([] : (List Int)))).length p_3.2, .slice p_4.1 (val (face_with (val (gAt l2 t30.1)).Nots (val (gAt l2 t30.1)).Likes)).length p_4.2]).length)) (i := 0) rfl (by first | rfl | rw [(show ((insL (setR (setR css t30.1 2 (.slice p_2.1 t47.length p_2.2)) t30.1 3 (.slice p_5.1 t69.length p_5.2)) x18 [.int .i64 m, str a4, .slice p_3.1 (val (face_with a3 ([] : (List Int)))).length p_3.2, .slice p_4.1 (val (face_with (val (gAt l2 t30.1)).Nots (val (gAt l2 t30.1)).Likes)).length p_4.2]).length) = t96.length from pf_5.len)]) (by first | exact Imp.refl _ | exact Imp.of (by rw [(show ((insL (setR (setR css t30.1 2 (.slice p_2.1 t47.length p_2.2)) t30.1 3 (.slice p_5.1 t69.length p_5.2)) x18 [.int .i64 m, str a4, .slice p_3.1 (val (face_with a3 ([] : (List Int)))).length p_3.2, .slice p_4.1 (val (face_with (val (gAt l2 t30.1)).Nots (val (gAt l2 t30.1)).Likes)).length p_4.2]).length) = t96.length from pf_5.len)])))
    ) (by kernel_rfl)
end Go.Proofs.YthhaabhnlndnoaaGreat
