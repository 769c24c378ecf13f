/- FacePeople, scores: the walks, printed by our generator; each follows its model. Conditions: the model yields a value. -/
import Derived.Test.YtgchdmkpjaakcaaGreatKFa
import Derived.Test.YtgchdmkpjaakcaaGreatFpC
import Derived.Test.YtgchdmkpjaakcaaGreatLx27
namespace Go.Proofs.YtgchdmkpjaakcaaGreat
open Go Go.Vc Go.Md Go.M Go.Lx
set_option maxRecDepth 100000
set_option maxHeartbeats 4000000
set_option linter.unusedVariables false

theorem k44 {a0 : (Nat → Int)} {a1 : (Nat → Int)} {r : Int} (H : face_far a0 a1 = some r) : Ret Tryz.prog 44 [.agg #[.int .i64 (a0 0), .int .i64 (a0 1), .int .i64 (a0 2), .int .i64 (a0 3), .int .i64 (a0 4), .int .i64 (a0 5), .int .i64 (a0 6), .int .i64 (a0 7), .int .i64 (a0 8), .int .i64 (a0 9), .int .i64 (a0 10), .int .i64 (a0 11)], .agg #[.int .i64 (a1 0), .int .i64 (a1 1), .int .i64 (a1 2), .int .i64 (a1 3), .int .i64 (a1 4), .int .i64 (a1 5), .int .i64 (a1 6), .int .i64 (a1 7), .int .i64 (a1 8), .int .i64 (a1 9), .int .i64 (a1 10), .int .i64 (a1 11)]] (.int .i64 r) := by
 refine enterRet (n := 28) Tryz.func44 rfl rfl rfl (fun wd => ?_)
 refine c_seq ?_
 refine c_region ?_
 refine l_box (cs := [.int .i64 (a0 0), .int .i64 (a0 1), .int .i64 (a0 2), .int .i64 (a0 3), .int .i64 (a0 4), .int .i64 (a0 5), .int .i64 (a0 6), .int .i64 (a0 7), .int .i64 (a0 8), .int .i64 (a0 9), .int .i64 (a0 10), .int .i64 (a0 11)]) rfl rfl rfl rfl (fun b2 => ?_)
 refine l_box (cs := [.int .i64 (a1 0), .int .i64 (a1 1), .int .i64 (a1 2), .int .i64 (a1 3), .int .i64 (a1 4), .int .i64 (a1 5), .int .i64 (a1 6), .int .i64 (a1 7), .int .i64 (a1 8), .int .i64 (a1 9), .int .i64 (a1 10), .int .i64 (a1 11)]) rfl rfl rfl rfl (fun b3 => ?_)
 refine l_val rfl rfl rfl (r_assign (v := .int .i64 0) rfl) ?_
 refine l_nil ?_
 refine c_seq ?_
 refine c_region ?_
 refine l_val rfl rfl rfl (r_assign (v := .int .i64 0) rfl) ?_
 refine l_nil ?_
 refine c_seq ?_
 refine c_seq ?_
 refine c_region ?_
 refine l_loadN (i := 0) (vs := [.int .i64 (a0 0), .int .i64 (a0 1), .int .i64 (a0 2), .int .i64 (a0 3), .int .i64 (a0 4), .int .i64 (a0 5), .int .i64 (a0 6), .int .i64 (a0 7), .int .i64 (a0 8), .int .i64 (a0 9), .int .i64 (a0 10), .int .i64 (a0 11)]) Tryz.isAgg45 Tryz.sizeOf45 rfl rfl rfl rfl rfl ?_
 refine l_val rfl rfl rfl (r_move (v := .int .i64 0) rfl) ?_
 refine l_nil ?_
 refine c_block ?_
 refine c_sel [1] [cellsC b3 [.int .i64 (a1 0), .int .i64 (a1 1), .int .i64 (a1 2), .int .i64 (a1 3), .int .i64 (a1 4), .int .i64 (a1 5), .int .i64 (a1 6), .int .i64 (a1 7), .int .i64 (a1 8), .int .i64 (a1 9), .int .i64 (a1 10), .int .i64 (a1 11)] 45] rfl (by decide) ?_
 refine c_fix (σ := Int × Int) (τ := Unit) (fun next1 s => face_far_l1 a0 a1 next1 s.1 s.2) (fun s t => [(3, .pointer (some ⟨b3, 0, none⟩)), (5, .int .i64 s.1), (8, .agg #[.int .i64 (a0 0), .int .i64 (a0 1), .int .i64 (a0 2), .int .i64 (a0 3), .int .i64 (a0 4), .int .i64 (a0 5), .int .i64 (a0 6), .int .i64 (a0 7), .int .i64 (a0 8), .int .i64 (a0 9), .int .i64 (a0 10), .int .i64 (a0 11)]), (9, .int .i64 s.2)]) (fun s t => [cellsC b3 [.int .i64 (a1 0), .int .i64 (a1 1), .int .i64 (a1 2), .int .i64 (a1 3), .int .i64 (a1 4), .int .i64 (a1 5), .int .i64 (a1 6), .int .i64 (a1 7), .int .i64 (a1 8), .int .i64 (a1 9), .int .i64 (a1 10), .int .i64 (a1 11)] 45]) (fun s t => True) (0, 0) () [0] H (by exact trivial) (by exact ⟨rfl, rfl, rfl, rfl, trivial⟩) (by decide) rfl ?_
 rintro ⟨x5_2, x9_2⟩ _ m1 gg H12 _
 clear H
 replace H12 : face_far_l1 a0 a1 (it (fun next1 s => face_far_l1 a0 a1 next1 s.1 s.2) m1) x5_2 x9_2 = some r := H12
 generalize hn1 : it (fun next1 s => face_far_l1 a0 a1 next1 s.1 s.2) m1 = next1 at H12
 refine c_tidyF [(3, .pointer (some ⟨b3, 0, none⟩)), (5, .int .i64 x5_2), (8, .agg #[.int .i64 (a0 0), .int .i64 (a0 1), .int .i64 (a0 2), .int .i64 (a0 3), .int .i64 (a0 4), .int .i64 (a0 5), .int .i64 (a0 6), .int .i64 (a0 7), .int .i64 (a0 8), .int .i64 (a0 9), .int .i64 (a0 10), .int .i64 (a0 11)]), (9, .int .i64 x9_2)] [cellsC b3 [.int .i64 (a1 0), .int .i64 (a1 1), .int .i64 (a1 2), .int .i64 (a1 3), .int .i64 (a1 4), .int .i64 (a1 5), .int .i64 (a1 6), .int .i64 (a1 7), .int .i64 (a1 8), .int .i64 (a1 9), .int .i64 (a1 10), .int .i64 (a1 11)] 45] rfl rfl ?_
 refine c_seq ?_
 refine c_region ?_
 refine l_val rfl rfl rfl (r_lss rfl rfl) ?_
 refine l_nil ?_
 refine c_seq ?_
 refine c_if (b := (decide (x9_2 < 12))) rfl (fun hb => ?_) (fun hb => ?_)
 ·have H13 := cnd_t hb H12; clear H12
  refine c_skip ?_
  refine c_seq ?_
  refine c_block ?_
  refine c_seq ?_
  refine c_region ?_
  refine l_val rfl rfl rfl (r_move (v := .int .i64 x9_2) rfl) ?_
  obtain ⟨k12, h_k12, H14⟩ := bnd_some H13; clear H13
  refine l_val rfl rfl rfl (r_indexAG (f := fun j_ => .int .i64 (a0 j_)) Tryz.runUnderlying45 Tryz.isAgg3 Tryz.sizeOf3 rfl rfl rfl h_k12) ?_
  refine l_val rfl rfl rfl (r_assign (v := .int .i64 x9_2) rfl) ?_
  refine l_val rfl rfl rfl (r_assign (v := .int .i64 (a0 k12)) rfl) ?_
  refine l_nil ?_
  exact c_regionD (Kd.p :: Kd.p :: Kd.p :: Kd.p :: Kd.d [0] _ :: Kd.p :: Kd.p :: Kd.p :: Kd.p :: Kd.d [0] _ :: Kd.p :: Kd.p :: Kd.p :: Kd.p :: []) 0 mixed (by
   refine d_val rfl rfl (r_move (v := .int .i64 x5_2) rfl) ?_
   refine d_val rfl rfl (r_move (v := .int .i64 (a0 k12)) rfl) ?_
   refine d_val rfl rfl (r_move (v := .int .i64 x9_2) rfl) ?_
   have h_k16 := bnd_val H14
   have H15 := bnd_rest H14
   refine d_val rfl rfl (r_indexPG Tryz.runUnderlying45 Tryz.sizeOf3 rfl rfl h_k16) ?_
   refine d_load1 (i := 0) (v := .int .i64 (a1 (val (gIx 12 x9_2)))) Tryz.isAgg3 rfl rfl rfl (rg_arr (pre := []) (post := []) (f := fun j_ => [.int .i64 (a1 j_)]) (n := 12) (sz := 1) (q := 0) rfl rfl (fun _ => rfl) (gIx_lt h_k16) rfl) ?_
   have h_t18 := bnd_val H15
   have H16 := bnd_rest H15
   refine d_val rfl rfl (r_subG rfl rfl h_t18) ?_
   refine d_val rfl rfl (r_move (v := .int .i64 (a0 k12)) rfl) ?_
   refine d_val rfl rfl (r_move (v := .int .i64 x9_2) rfl) ?_
   have h_k21 := bnd_val H16
   have H17 := bnd_rest H16
   refine d_val rfl rfl (r_indexPG Tryz.runUnderlying45 Tryz.sizeOf3 rfl rfl h_k21) ?_
   refine d_load1 (i := 0) (v := .int .i64 (a1 (val (gIx 12 x9_2)))) Tryz.isAgg3 rfl rfl rfl (rg_arr (pre := []) (post := []) (f := fun j_ => [.int .i64 (a1 j_)]) (n := 12) (sz := 1) (q := 0) rfl rfl (fun _ => rfl) (gIx_lt h_k21) rfl) ?_
   have h_t23 := bnd_val H17
   have H18 := bnd_rest H17
   refine d_val rfl rfl (r_subG rfl rfl h_t23) ?_
   have h_t24 := bnd_val H18
   have H19 := bnd_rest H18
   refine d_val rfl rfl (r_mulG rfl rfl h_t24) ?_
   have h_t25 := bnd_val H19
   have H20 := bnd_rest H19
   refine d_val rfl rfl (r_addG rfl rfl h_t25) ?_
   refine d_val rfl rfl (r_assign (v := .int .i64 (val (gI (x5_2 + (val (gI ((val (gI ((a0 k12) - (a1 (val (gIx 12 x9_2)))))) * (val (gI ((a0 k12) - (a1 (val (gIx 12 x9_2))))))))))))) rfl) ?_
   refine d_nil ?_
   refine c_region ?_
   obtain ⟨t26, h_t26, H21⟩ := bnd_some H20; clear H20
   refine l_val rfl rfl rfl (r_addG rfl rfl h_t26) ?_
   refine l_val rfl rfl rfl (r_move (v := .int .i64 t26) rfl) ?_
   refine l_nil ?_
   refine c_close ((val (gI (x5_2 + (val (gI ((val (gI ((a0 k12) - (a1 (val (gIx 12 x9_2)))))) * (val (gI ((a0 k12) - (a1 (val (gIx 12 x9_2)))))))))))), t26) () m1 [0] (by exact ⟨rfl, rfl, rfl, rfl, trivial⟩) (by decide) rfl (by exact ⟨(by subst hn1; exact H21), trivial⟩) (Nat.lt_succ_self _)
   ) (by kernel_rfl)
 ·have H22 := cnd_f hb H12; clear H12
  refine c_exit ?_
  refine c_seq ?_
  refine c_region ?_
  refine l_val rfl rfl rfl (r_move (v := .int .i64 x5_2) rfl) ?_
  refine l_val rfl rfl rfl (r_assign (v := .int .i64 x5_2) rfl) ?_
  refine l_nil ?_
  refine c_ret ?_
  obtain rfl := Option.some.inj H22
  refine ret1 (v := .int .i64 x5_2) rfl rfl (fin rfl)
theorem k21 {a0 : (List T_face_Likeness)} {v0 : Value} {a1 : T_face_Person} {v1_2 : Value} {v1_3 : Value} {a2 : Int} {r : Int} {w : World} {h : Heap} (hw : Know h w noS) (f0 : FrS h 14 v0 (a0.map e_face_Likeness)) (f1_2 : FrS h 1 v1_2 (a1.Likes.map e_i64)) (f1_3 : FrS h 1 v1_3 (a1.Nots.map e_i64)) (H : face_score a0 a1 a2 = some r) : Does Tryz.prog 21 (List.toArray [v0, .agg #[.int .i64 a1.Id, str a1.Name, v1_2, v1_3], .int .i64 a2]) w (fun v w' => v = (.int .i64 r) ∧ Grow w w') := by
 refine enter (n := 78) Tryz.func21 rfl rfl rfl noS [] (Sat.nil _ _) ?_
 refine c_seq ?_
 refine c_region ?_
 refine l_box (cs := [.int .i64 a1.Id, str a1.Name, v1_2, v1_3]) rfl rfl rfl rfl (fun b2 => ?_)
 refine l_val rfl rfl rfl (r_assign (v := .int .i64 0) rfl) ?_
 refine l_nil ?_
 refine c_seq ?_
 refine c_region ?_
 refine l_val rfl rfl rfl (r_move (v := v0) rfl) ?_
 refine l_val rfl rfl rfl (r_move (v := .int .i64 a2) rfl) ?_
 obtain ⟨t20, h_t20, H28⟩ := bnd_some H; clear H
 refine l_callG (fun w hF hS => k20 (know_all w) (f0.mono (hw.now hF)) h_t20) Tryz.call20 rfl rfl rfl ?_
 refine l_val rfl rfl rfl (r_move (v := .tuple #[.int .i64 t20.1, .bool t20.2]) rfl) ?_
 refine l_val rfl rfl rfl (r_extract (v := .int .i64 t20.1) rfl rfl) ?_
 refine l_val rfl rfl rfl (r_extract (v := .bool t20.2) rfl rfl) ?_
 refine l_val rfl rfl rfl (r_assign (v := .int .i64 t20.1) rfl) ?_
 refine l_val rfl rfl rfl (r_assign (v := .bool t20.2) rfl) ?_
 refine l_nil ?_
 refine c_seq ?_
 refine c_region ?_
 refine l_val rfl rfl rfl (r_assign (v := .slice none 0 0) rfl) ?_
 refine l_nil ?_
 refine c_meet (r := r) (σ := (List Int)) (τ := (Option Addr × Nat)) (fun s => face_score_j1 s) (fun s t => [(9, .slice t.1 s.length t.2)]) (fun s t => [rowV 3 1 (.slice t.1 s.length t.2) s.length (s.map e_i64)]) (fun s t => True) ?_ ?_
 ·refine c_seq ?_
  refine c_region ?_
  refine l_val rfl rfl rfl (r_field Tryz.runUnderlying28 rfl Tryz.sizeOf26 rfl rfl) ?_
  refine l_load1 (i := 0) (v := v1_2) Tryz.isAgg26 rfl rfl rfl rfl rfl ?_
  refine l_val rfl rfl rfl (r_lenF Tryz.underlying26 rfl f1_2 rfl) ?_
  refine l_val rfl rfl rfl (r_move (v := .int .i64 0) rfl) ?_
  refine l_nil ?_
  refine c_block ?_
  refine c_sel [] [] rfl (by decide) ?_
  refine c_nilRow 3 1 ?_
  refine c_fix (σ := Int × (List Int)) (τ := (Option Addr × Nat)) (fun next4 s => face_score_l4 a0 a1 a2 t20 next4 s.1 s.2) (fun s t => [(0, v0), (2, .int .i64 a2), (7, .int .i64 t20.1), (9, .slice t.1 s.2.length t.2), (24, v1_2), (25, .int .i64 (a1.Likes.length : Int)), (26, .int .i64 s.1)]) (fun s t => [rowV 3 1 (.slice t.1 s.2.length t.2) s.2.length (s.2.map e_i64)]) (fun s t => True) (0, ([] : List Int)) ((none, 0) : Option Addr × Nat) [0] H28 (by exact trivial) (by exact ⟨rfl, rfl, rfl, rfl, rfl, rfl, rfl, trivial⟩) (by decide) rfl ?_
  rintro ⟨x26_2, l_3⟩ p_2 m4 gg H42 _
  clear H28
  replace H42 : face_score_l4 a0 a1 a2 t20 (it (fun next4 s => face_score_l4 a0 a1 a2 t20 next4 s.1 s.2) m4) x26_2 l_3 = some r := H42
  generalize hn4 : it (fun next4 s => face_score_l4 a0 a1 a2 t20 next4 s.1 s.2) m4 = next4 at H42
  refine c_tidyF [(0, v0), (2, .int .i64 a2), (7, .int .i64 t20.1), (9, .slice p_2.1 l_3.length p_2.2), (24, v1_2), (25, .int .i64 (a1.Likes.length : Int)), (26, .int .i64 x26_2)] [rowV 3 1 (.slice p_2.1 l_3.length p_2.2) l_3.length (l_3.map e_i64)] rfl rfl ?_
  refine c_seq ?_
  refine c_region ?_
  refine l_val rfl rfl rfl (r_lss rfl rfl) ?_
  refine l_nil ?_
  refine c_seq ?_
  refine c_if (b := (decide (x26_2 < (a1.Likes.length : Int)))) rfl (fun hb => ?_) (fun hb => ?_)
  ·have H43 := cnd_t hb H42; clear H42
   refine c_skip ?_
   refine c_meet (r := r) (σ := (List Int)) (τ := (Option Addr × Nat)) (fun s => face_score_j5 x26_2 next4 s) (fun s t => [(0, v0), (2, .int .i64 a2), (7, .int .i64 t20.1), (9, .slice t.1 s.length t.2), (24, v1_2), (25, .int .i64 (a1.Likes.length : Int)), (26, .int .i64 x26_2)]) (fun s t => [rowV 3 1 (.slice t.1 s.length t.2) s.length (s.map e_i64)]) (fun s t => True) ?_ ?_
   ·refine c_block ?_
    refine c_seq ?_
    refine c_region ?_
    obtain ⟨t28, h_t28, H46⟩ := bnd_some H43; clear H43
    refine l_val rfl rfl rfl (r_indexF Tryz.underlying26 Tryz.sizeOf3 rfl rfl f1_2 h_t28) ?_
    refine l_read (fun w hF hS => run_loadG1 (f := e_i64) (i := x26_2) (sz := 1) (j := 0) (v := .int .i64 t28) Tryz.isAgg3 rfl rfl (f1_2.row (hw.now hF)) h_t28 rfl) rfl rfl rfl ?_
    refine l_val rfl rfl rfl (r_assign (v := .int .i64 t28) rfl) ?_
    refine l_nil ?_
    refine c_seq ?_
    refine c_region ?_
    refine l_val rfl rfl rfl (r_move (v := .int .i64 t28) rfl) ?_
    refine l_val rfl rfl rfl (r_move (v := .int .i64 a2) rfl) ?_
    refine l_val rfl rfl rfl (r_neq rfl rfl) ?_
    refine l_nil ?_
    refine c_if (b := (decide (t28 ≠ a2))) rfl (fun hb => ?_) (fun hb => ?_)
    ·have H47 := cnd_t hb H46; clear H46
     refine c_seq ?_
     refine c_region ?_
     refine l_val rfl rfl rfl (r_move (v := v0) rfl) ?_
     refine l_val rfl rfl rfl (r_move (v := .int .i64 t28) rfl) ?_
     obtain ⟨t36, h_t36, H48⟩ := bnd_some H47; clear H47
     refine l_callG (fun w hF hS => k20 (know_all w) (f0.mono (hw.now hF)) h_t36) Tryz.call20 rfl rfl rfl ?_
     refine l_val rfl rfl rfl (r_move (v := .tuple #[.int .i64 t36.1, .bool t36.2]) rfl) ?_
     refine l_val rfl rfl rfl (r_extract (v := .int .i64 t36.1) rfl rfl) ?_
     refine l_val rfl rfl rfl (r_extract (v := .bool t36.2) rfl rfl) ?_
     refine l_val rfl rfl rfl (r_assign (v := .int .i64 t36.1) rfl) ?_
     refine l_val rfl rfl rfl (r_assign (v := .bool t36.2) rfl) ?_
     refine l_nil ?_
     exact c_regionD (Kd.p :: Kd.p :: Kd.p :: Kd.p :: Kd.p :: Kd.d [] _ :: Kd.p :: Kd.p :: Kd.p :: Kd.p :: Kd.d [] _ :: Kd.d [] _ :: Kd.ns 1 [_] 3 1 :: Kd.t 0 [1] _ _ :: Kd.p :: []) 1 mixed (by
      refine d_val rfl rfl (r_move (v := .slice p_2.1 l_3.length p_2.2) rfl) ?_
      refine d_val rfl rfl (r_move (v := v0) rfl) ?_
      refine d_val rfl rfl (r_move (v := .int .i64 t20.1) rfl) ?_
      have h_t42 := bnd_val H48
      have H49 := bnd_rest H48
      refine d_val rfl rfl (r_indexF Tryz.underlying22 Tryz.sizeOf47 rfl rfl f0 h_t42) ?_
      refine d_val rfl rfl (r_fieldP Tryz.runUnderlying47 rfl Tryz.sizeOf45 rfl rfl (some_of_at f0 h_t42)) ?_
      refine d_read (fun w hF => run_loadGN (f := e_face_Likeness) (i := t20.1) (sz := 14) (j := 2) (vs := [.int .i64 ((val (gAt a0 t20.1)).Vec 0), .int .i64 ((val (gAt a0 t20.1)).Vec 1), .int .i64 ((val (gAt a0 t20.1)).Vec 2), .int .i64 ((val (gAt a0 t20.1)).Vec 3), .int .i64 ((val (gAt a0 t20.1)).Vec 4), .int .i64 ((val (gAt a0 t20.1)).Vec 5), .int .i64 ((val (gAt a0 t20.1)).Vec 6), .int .i64 ((val (gAt a0 t20.1)).Vec 7), .int .i64 ((val (gAt a0 t20.1)).Vec 8), .int .i64 ((val (gAt a0 t20.1)).Vec 9), .int .i64 ((val (gAt a0 t20.1)).Vec 10), .int .i64 ((val (gAt a0 t20.1)).Vec 11)]) Tryz.isAgg45 Tryz.sizeOf45 rfl rfl (f0.row (hw.now hF)) h_t42 rfl) rfl rfl ?_
      refine d_val rfl rfl (r_move (v := v0) rfl) ?_
      refine d_val rfl rfl (r_move (v := .int .i64 t36.1) rfl) ?_
      have h_t47 := bnd_val H49
      have H50 := bnd_rest H49
      refine d_val rfl rfl (r_indexF Tryz.underlying22 Tryz.sizeOf47 rfl rfl f0 h_t47) ?_
      refine d_val rfl rfl (r_fieldP Tryz.runUnderlying47 rfl Tryz.sizeOf45 rfl rfl (some_of_at f0 h_t47)) ?_
      refine d_read (fun w hF => run_loadGN (f := e_face_Likeness) (i := t36.1) (sz := 14) (j := 2) (vs := [.int .i64 ((val (gAt a0 t36.1)).Vec 0), .int .i64 ((val (gAt a0 t36.1)).Vec 1), .int .i64 ((val (gAt a0 t36.1)).Vec 2), .int .i64 ((val (gAt a0 t36.1)).Vec 3), .int .i64 ((val (gAt a0 t36.1)).Vec 4), .int .i64 ((val (gAt a0 t36.1)).Vec 5), .int .i64 ((val (gAt a0 t36.1)).Vec 6), .int .i64 ((val (gAt a0 t36.1)).Vec 7), .int .i64 ((val (gAt a0 t36.1)).Vec 8), .int .i64 ((val (gAt a0 t36.1)).Vec 9), .int .i64 ((val (gAt a0 t36.1)).Vec 10), .int .i64 ((val (gAt a0 t36.1)).Vec 11)]) Tryz.isAgg45 Tryz.sizeOf45 rfl rfl (f0.row (hw.now hF)) h_t47 rfl) rfl rfl ?_
      have h_t50 := bnd_val H50
      have H51 := bnd_rest H50
      refine d_call (k44 h_t50) Tryz.call44 rfl rfl ?_
      refine d_newS rfl rfl (run_buildSlice (vs := [.int .i64 (val (face_far (val (gAt a0 t20.1)).Vec (val (gAt a0 t36.1)).Vec))]) (cs := [.int .i64 (val (face_far (val (gAt a0 t20.1)).Vec (val (gAt a0 t36.1)).Vec))]) Tryz.underlying26 Tryz.sizeOf3 Tryz.zeroValue3 rfl rfl rfl rfl rfl) rfl (fun b3 => ?_)
      have h_l52 := bnd_val H51
      have H52 := bnd_rest H51
      refine d_turn (Cv := fun v => rowV 3 1 v (val (gApp 8 l_3 ([(val (face_far (val (gAt a0 t20.1)).Vec (val (gAt a0 t36.1)).Vec))] : List Int))).length ((val (gApp 8 l_3 ([(val (face_far (val (gAt a0 t20.1)).Vec (val (gAt a0 t36.1)).Vec))] : List Int))).map e_i64)) (none, 0) (turns_appG (i := 0) (hn := rfl) (rds := [1]) (p := p_2) (sz := 1) (by_ := 8) (f := e_i64) (ys := l_3) (ls := ([(val (face_far (val (gAt a0 t20.1)).Vec (val (gAt a0 t36.1)).Vec))] : List Int)) (V := .slice (some ⟨b3, 0, none⟩) 1 1) Tryz.underlying26 (info_of Tryz.typeInfo3) rfl rfl rfl rfl rfl rfl rfl rfl rfl rfl (fun w L' hF hS hi => row_box (i := 1) hS ((hi 1 (by simp)).trans rfl) rfl rfl) (fun _ => rfl) (fun _ => rfl) h_l52) (fun _ => rfl) rfl rfl (fun p_4 => ?_)
      refine d_val rfl rfl (r_assign (v := .slice p_4.1 (val (gApp 8 l_3 ([(val (face_far (val (gAt a0 t20.1)).Vec (val (gAt a0 t36.1)).Vec))] : List Int))).length p_4.2) rfl) ?_
      refine d_nil ?_
      refine c_close (val (gApp 8 l_3 ([(val (face_far (val (gAt a0 t20.1)).Vec (val (gAt a0 t36.1)).Vec))] : List Int))) p_4 0 [0] (by exact ⟨rfl, rfl, rfl, rfl, rfl, rfl, rfl, trivial⟩) (by decide) rfl (by exact ⟨H52, trivial⟩) (Nat.lt_succ_self _)
      ) (by kernel_rfl)
    ·have H53 := cnd_f hb H46; clear H46
     refine c_skip ?_
     refine c_close l_3 p_2 0 [0] (by exact ⟨rfl, rfl, rfl, rfl, rfl, rfl, rfl, trivial⟩) (by decide) rfl (by exact ⟨H53, trivial⟩) (Nat.lt_succ_self _)
   ·rintro l_4 p_3 gg H44 _
    replace H44 : face_score_j5 x26_2 next4 l_4 = some r := H44
    refine c_tidyF [(0, v0), (2, .int .i64 a2), (7, .int .i64 t20.1), (9, .slice p_3.1 l_4.length p_3.2), (24, v1_2), (25, .int .i64 (a1.Likes.length : Int)), (26, .int .i64 x26_2)] [rowV 3 1 (.slice p_3.1 l_4.length p_3.2) l_4.length (l_4.map e_i64)] rfl rfl ?_
    refine c_region ?_
    obtain ⟨t53, h_t53, H45⟩ := bnd_some H44; clear H44
    refine l_val rfl rfl rfl (r_addG rfl rfl h_t53) ?_
    refine l_val rfl rfl rfl (r_move (v := .int .i64 t53) rfl) ?_
    refine l_nil ?_
    refine c_close (t53, l_4) p_3 m4 [0] (by exact ⟨rfl, rfl, rfl, rfl, rfl, rfl, rfl, trivial⟩) (by decide) rfl (by exact ⟨(by subst hn4; exact H45), trivial⟩) (Nat.lt_succ_self _)
  ·have H54 := cnd_f hb H42; clear H42
   refine c_exit ?_
   refine c_close l_3 p_2 0 [0] (by exact ⟨rfl, trivial⟩) (by decide) rfl (by exact ⟨H54, trivial⟩) (Nat.lt_succ_self _)
 ·rintro l p gg H29 _
  replace H29 : face_score_j1 l = some r := H29
  refine c_tidyF [(9, .slice p.1 l.length p.2)] [rowV 3 1 (.slice p.1 l.length p.2) l.length (l.map e_i64)] rfl rfl ?_
  refine c_seq ?_
  refine c_region ?_
  refine l_val rfl rfl rfl (r_move (v := .slice p.1 l.length p.2) rfl) ?_
  obtain ⟨t55, h_t55, H30⟩ := bnd_some H29; clear H29
  refine l_turn (turns_callB (i := 0) (rds := []) (G := fun x : Unit => .tuple #[]) (C := fun x : Unit => rowV 3 1 (.slice p.1 l.length p.2) l.length (t55.map e_i64)) rfl (fun w L' S hF hS hi hp hlt ho hA => k26 hp hlt (know_but w S) rfl h_t55) Tryz.call26 rfl) rfl rfl rfl (fun _ => ?_)
  refine c_know (fun w hF hS => lenOf (i := 0) hS rfl) (fun hl_ => ?_)
  have hl : l.length = t55.length := by simpa using hl_.symm
  refine l_nil ?_
  refine c_seq ?_
  refine c_region ?_
  refine l_val rfl rfl rfl (r_move (v := .slice p.1 l.length p.2) rfl) ?_
  refine l_val rfl rfl rfl (r_move (v := .slice p.1 l.length p.2) rfl) ?_
  refine l_val rfl rfl rfl (r_lenN Tryz.underlying26 rfl hl) ?_
  refine l_val rfl rfl rfl (r_min rfl rfl) ?_
  obtain ⟨t60, h_t60, H31⟩ := bnd_some H30; clear H30
  refine l_read (v := .slice p.1 t60.length p.2) (fun w hF hS => run_sliceHO0 (xs := t55) Tryz.underlying26 Tryz.sizeOf3 rfl rfl hl (capOf (i := 0) hS rfl) h_t60) rfl rfl rfl ?_
  refine l_val rfl rfl rfl (r_assign (v := .slice p.1 t60.length p.2) rfl) ?_
  refine l_nil ?_
  refine c_seq ?_
  refine c_seq ?_
  refine c_region ?_
  refine l_val rfl rfl rfl (r_move (v := .slice p.1 t60.length p.2) rfl) ?_
  refine l_val rfl rfl rfl (r_len Tryz.underlying26 rfl) ?_
  refine l_val rfl rfl rfl (r_eql rfl rfl) ?_
  refine l_nil ?_
  refine c_if (b := (decide ((t60.length : Int) = 0))) rfl (fun hb => ?_) (fun hb => ?_)
  ·have H32 := cnd_t hb H31; clear H31
   refine c_seq ?_
   refine c_region ?_
   refine l_val rfl rfl rfl (r_assign (v := .int .i64 774192) rfl) ?_
   refine l_nil ?_
   refine c_ret ?_
   obtain rfl := Option.some.inj H32
   refine ret1 (v := .int .i64 774192) rfl rfl (fin rfl)
  ·have H33 := cnd_f hb H31; clear H31
   refine c_skip ?_
   refine c_seq ?_
   refine c_region ?_
   refine l_val rfl rfl rfl (r_assign (v := .int .i64 0) rfl) ?_
   refine l_nil ?_
   refine c_meet (r := r) (σ := Int) (τ := Unit) (fun s => face_score_j2 t60 s) (fun s t => [(9, .slice p.1 t60.length p.2), (14, .int .i64 s)]) (fun s t => [rowV 3 1 (.slice p.1 l.length p.2) l.length (t55.map e_i64)]) (fun s t => True) ?_ ?_
   ·refine c_seq ?_
    refine c_region ?_
    refine l_val rfl rfl rfl (r_move (v := .slice p.1 t60.length p.2) rfl) ?_
    refine l_val rfl rfl rfl (r_len Tryz.underlying26 rfl) ?_
    refine l_val rfl rfl rfl (r_move (v := .int .i64 0) rfl) ?_
    refine l_nil ?_
    refine c_block ?_
    refine c_fix (σ := Int × Int) (τ := Unit) (fun next3 s => face_score_l3 t60 next3 s.1 s.2) (fun s t => [(9, .slice p.1 t60.length p.2), (14, .int .i64 s.1), (64, .slice p.1 t60.length p.2), (65, .int .i64 (t60.length : Int)), (66, .int .i64 s.2)]) (fun s t => [rowV 3 1 (.slice p.1 l.length p.2) l.length (t55.map e_i64)]) (fun s t => True) (0, 0) () [0] H33 (by exact trivial) (by exact ⟨rfl, rfl, rfl, rfl, rfl, trivial⟩) (by decide) rfl ?_
    rintro ⟨x14_3, x66_2⟩ _ m3 gg H36 _
    clear H33
    replace H36 : face_score_l3 t60 (it (fun next3 s => face_score_l3 t60 next3 s.1 s.2) m3) x14_3 x66_2 = some r := H36
    generalize hn3 : it (fun next3 s => face_score_l3 t60 next3 s.1 s.2) m3 = next3 at H36
    refine c_tidyF [(9, .slice p.1 t60.length p.2), (14, .int .i64 x14_3), (64, .slice p.1 t60.length p.2), (65, .int .i64 (t60.length : Int)), (66, .int .i64 x66_2)] [rowV 3 1 (.slice p.1 l.length p.2) l.length (t55.map e_i64)] rfl rfl ?_
    refine c_seq ?_
    refine c_region ?_
    refine l_val rfl rfl rfl (r_lss rfl rfl) ?_
    refine l_nil ?_
    refine c_seq ?_
    refine c_if (b := (decide (x66_2 < (t60.length : Int)))) rfl (fun hb => ?_) (fun hb => ?_)
    ·have H37 := cnd_t hb H36; clear H36
     refine c_skip ?_
     refine c_seq ?_
     refine c_block ?_
     refine c_seq ?_
     refine c_region ?_
     obtain ⟨t68, h_t68, H38⟩ := bnd_some H37; clear H37
     refine l_read (fun w hF hS => run_indexO Tryz.underlying26 Tryz.sizeOf3 rfl rfl (Row.cut0G (rowOf (i := 0) hS rfl) hl (capOf (i := 0) hS rfl) h_t60) rfl h_t68) rfl rfl rfl ?_
     refine l_read (fun w hF hS => run_loadG1 (f := e_i64) (i := x66_2) (sz := 1) (j := 0) (v := .int .i64 t68) Tryz.isAgg3 rfl rfl (Row.cut0G (rowOf (i := 0) hS rfl) hl (capOf (i := 0) hS rfl) h_t60) h_t68 rfl) rfl rfl rfl ?_
     refine l_val rfl rfl rfl (r_assign (v := .int .i64 t68) rfl) ?_
     refine l_nil ?_
     refine c_region ?_
     refine l_val rfl rfl rfl (r_move (v := .int .i64 x14_3) rfl) ?_
     refine l_val rfl rfl rfl (r_move (v := .int .i64 t68) rfl) ?_
     obtain ⟨t72, h_t72, H39⟩ := bnd_some H38; clear H38
     refine l_val rfl rfl rfl (r_addG rfl rfl h_t72) ?_
     refine l_val rfl rfl rfl (r_assign (v := .int .i64 t72) rfl) ?_
     refine l_nil ?_
     refine c_region ?_
     obtain ⟨t73, h_t73, H40⟩ := bnd_some H39; clear H39
     refine l_val rfl rfl rfl (r_addG rfl rfl h_t73) ?_
     refine l_val rfl rfl rfl (r_move (v := .int .i64 t73) rfl) ?_
     refine l_nil ?_
     refine c_close (t72, t73) () m3 [0] (by exact ⟨rfl, rfl, rfl, rfl, rfl, trivial⟩) (by decide) rfl (by exact ⟨(by subst hn3; exact H40), trivial⟩) (Nat.lt_succ_self _)
    ·have H41 := cnd_f hb H36; clear H36
     refine c_exit ?_
     refine c_close x14_3 () 0 [0] (by exact ⟨rfl, rfl, trivial⟩) (by decide) rfl (by exact ⟨H41, trivial⟩) (Nat.lt_succ_self _)
   ·rintro x14 _ gg H34 _
    replace H34 : face_score_j2 t60 x14 = some r := H34
    refine c_tidyF [(9, .slice p.1 t60.length p.2), (14, .int .i64 x14)] [rowV 3 1 (.slice p.1 l.length p.2) l.length (t55.map e_i64)] rfl rfl ?_
    refine c_seq ?_
    refine c_region ?_
    refine l_val rfl rfl rfl (r_move (v := .int .i64 x14) rfl) ?_
    refine l_val rfl rfl rfl (r_move (v := .slice p.1 t60.length p.2) rfl) ?_
    refine l_val rfl rfl rfl (r_len Tryz.underlying26 rfl) ?_
    obtain ⟨t77, h_t77, H35⟩ := bnd_some H34; clear H34
    refine l_val rfl rfl rfl (r_quoG rfl rfl h_t77) ?_
    refine l_val rfl rfl rfl (r_assign (v := .int .i64 t77) rfl) ?_
    refine l_nil ?_
    refine c_ret ?_
    obtain rfl := Option.some.inj H35
    refine ret1 (v := .int .i64 t77) rfl rfl (fin rfl)
theorem k5 {a0 : (List T_face_Likeness)} {v0 : Value} {a1 : T_face_Person} {v1_2 : Value} {v1_3 : Value} {a2 : Int} {r : Int × Int} {w : World} {h : Heap} (hw : Know h w noS) (f0 : FrS h 14 v0 (a0.map e_face_Likeness)) (f1_2 : FrS h 1 v1_2 (a1.Likes.map e_i64)) (f1_3 : FrS h 1 v1_3 (a1.Nots.map e_i64)) (H : face_Score a0 a1 a2 = some r) : Does Tryz.prog 5 (List.toArray [v0, .agg #[.int .i64 a1.Id, str a1.Name, v1_2, v1_3], .int .i64 a2]) w (fun v w' => v = (.tuple #[.int .i64 r.1, .int .i64 r.2]) ∧ Grow w w') := by
 refine enter (n := 42) Tryz.func5 rfl rfl rfl noS [] (Sat.nil _ _) ?_
 refine c_seq ?_
 refine c_region ?_
 refine l_box (cs := [.int .i64 a1.Id, str a1.Name, v1_2, v1_3]) rfl rfl rfl rfl (fun b3 => ?_)
 refine l_val rfl rfl rfl (r_assign (v := .int .i64 0) rfl) ?_
 refine l_val rfl rfl rfl (r_assign (v := .int .i64 0) rfl) ?_
 refine l_nil ?_
 refine c_seq ?_
 refine c_seq ?_
 refine c_region ?_
 refine l_val rfl rfl rfl (r_move (v := v0) rfl) ?_
 obtain ⟨t14, h_t14, H15⟩ := bnd_some H; clear H
 refine l_callG (fun w hF hS => k18 (know_all w) (f0.mono (hw.now hF)) h_t14) Tryz.call18 rfl rfl rfl ?_
 refine l_val rfl rfl rfl (r_assign (v := .int .i64 t14) rfl) ?_
 refine l_nil ?_
 refine c_seq ?_
 refine c_region ?_
 refine l_val rfl rfl rfl (r_move (v := .int .i64 t14) rfl) ?_
 refine l_val rfl rfl rfl (r_neq rfl rfl) ?_
 refine l_nil ?_
 refine c_if (b := (decide (t14 ≠ 0))) rfl (fun hb => ?_) (fun hb => ?_)
 ·have H16 := cnd_t hb H15; clear H15
  refine c_seq ?_
  refine c_region ?_
  refine l_val rfl rfl rfl (r_move (v := .int .i64 t14) rfl) ?_
  refine l_val rfl rfl rfl (r_assign (v := .int .i64 0) rfl) ?_
  refine l_val rfl rfl rfl (r_assign (v := .int .i64 t14) rfl) ?_
  refine l_nil ?_
  refine c_ret ?_
  obtain rfl := Option.some.inj H16
  refine ret2 (v1 := .int .i64 0) (v2 := .int .i64 t14) rfl rfl rfl (fin rfl)
 ·have H17 := cnd_f hb H15; clear H15
  refine c_skip ?_
  refine c_meet (r := r) (σ := Unit) (τ := Unit) (fun s => face_Score_j1 a0 a1 a2) (fun s t => [(0, v0), (2, .int .i64 a2), (4, .pointer (some ⟨b3, 0, none⟩))]) (fun s t => [cellsC b3 [.int .i64 a1.Id, str a1.Name, v1_2, v1_3] 28]) (fun s t => True) ?_ ?_
  ·refine c_seq ?_
   refine c_region ?_
   refine l_val rfl rfl rfl (r_move (v := .int .i64 a2) rfl) ?_
   refine l_buildSlice (vs := [.int .i64 a2]) (cs := [.int .i64 a2]) Tryz.underlying26 Tryz.sizeOf3 Tryz.zeroValue3 rfl rfl rfl rfl rfl rfl rfl (fun b4 => ?_)
   refine l_val rfl rfl rfl (r_field Tryz.runUnderlying28 rfl Tryz.sizeOf26 rfl rfl) ?_
   refine l_load1 (i := 0) (v := v1_2) Tryz.isAgg26 rfl rfl rfl rfl rfl ?_
   refine l_buildSlice (vs := [.slice (some ⟨b4, 0, none⟩) 1 1, v1_2]) (cs := [.slice (some ⟨b4, 0, none⟩) 1 1, v1_2]) Tryz.underlying59 Tryz.sizeOf26 Tryz.zeroValue26 rfl rfl rfl rfl (by simp only [List.all_cons, List.all_nil, cells_sz f1_2.cells] <;> rfl) rfl (by simp only [List.flatMap_cons, List.flatMap_nil, f1_2.cells] <;> rfl) (fun b5 => ?_)
   obtain ⟨t23, h_t23, H20⟩ := bnd_some H17; clear H17
   refine l_make (makes_call (rds := [1, 2]) (G := fun x : (Option Addr × Nat) => .slice x.1 t23.length x.2) (C := fun x : (Option Addr × Nat) => rowV 3 1 (.slice x.1 t23.length x.2) t23.length (t23.map e_i64)) (fun w L' hF hS hi => k19 (know_all w) (frn_box (G := gs_int) (sz := 1) (xs := ([([a2] : List Int), a1.Likes] : List (List Int))) (i := 2) hS ((hi 2 (by simp)).trans rfl) rfl rfl rfl ⟨(frs_box (i := 1) (xs := ([a2] : List Int)) (f := e_i64) hS ((hi 1 (by simp)).trans rfl) rfl rfl rfl rfl), (f1_2.mono (hw.now hF)), rfl⟩) h_t23) Tryz.call19 rfl) rfl rfl rfl (fun p => ?_)
   refine l_val rfl rfl rfl (r_len Tryz.underlying26 rfl) ?_
   refine l_val rfl rfl rfl (r_move (v := .int .i64 0) rfl) ?_
   refine l_nil ?_
   refine c_block ?_
   refine c_sel [0, 3] [cellsC b3 [.int .i64 a1.Id, str a1.Name, v1_2, v1_3] 28, rowV 3 1 (.slice p.1 t23.length p.2) t23.length (t23.map e_i64)] rfl (by decide) ?_
   refine c_fix (σ := Int) (τ := Unit) (fun next2 s => face_Score_l2 a0 a1 a2 t23 next2 s) (fun s t => [(0, v0), (2, .int .i64 a2), (4, .pointer (some ⟨b3, 0, none⟩)), (23, .slice p.1 t23.length p.2), (24, .int .i64 (t23.length : Int)), (25, .int .i64 s)]) (fun s t => [cellsC b3 [.int .i64 a1.Id, str a1.Name, v1_2, v1_3] 28, rowV 3 1 (.slice p.1 t23.length p.2) t23.length (t23.map e_i64)]) (fun s t => True) 0 () [0, 1] H20 (by exact trivial) (by exact ⟨rfl, rfl, rfl, rfl, rfl, rfl, trivial⟩) (by decide) rfl ?_
   rintro x25_2 _ m2 gg H21 _
   clear H20
   replace H21 : face_Score_l2 a0 a1 a2 t23 (it (fun next2 s => face_Score_l2 a0 a1 a2 t23 next2 s) m2) x25_2 = some r := H21
   generalize hn2 : it (fun next2 s => face_Score_l2 a0 a1 a2 t23 next2 s) m2 = next2 at H21
   refine c_tidyF [(0, v0), (2, .int .i64 a2), (4, .pointer (some ⟨b3, 0, none⟩)), (23, .slice p.1 t23.length p.2), (24, .int .i64 (t23.length : Int)), (25, .int .i64 x25_2)] [cellsC b3 [.int .i64 a1.Id, str a1.Name, v1_2, v1_3] 28, rowV 3 1 (.slice p.1 t23.length p.2) t23.length (t23.map e_i64)] rfl rfl ?_
   refine c_seq ?_
   refine c_region ?_
   refine l_val rfl rfl rfl (r_lss rfl rfl) ?_
   refine l_nil ?_
   refine c_seq ?_
   refine c_if (b := (decide (x25_2 < (t23.length : Int)))) rfl (fun hb => ?_) (fun hb => ?_)
   ·have H22 := cnd_t hb H21; clear H21
    refine c_skip ?_
    refine c_seq ?_
    refine c_block ?_
    refine c_seq ?_
    refine c_region ?_
    obtain ⟨t27, h_t27, H23⟩ := bnd_some H22; clear H22
    refine l_read (fun w hF hS => run_indexO Tryz.underlying26 Tryz.sizeOf3 rfl rfl (rowOf (i := 1) hS rfl) rfl h_t27) rfl rfl rfl ?_
    refine l_read (fun w hF hS => run_loadG1 (f := e_i64) (i := x25_2) (sz := 1) (j := 0) (v := .int .i64 t27) Tryz.isAgg3 rfl rfl (rowOf (i := 1) hS rfl) h_t27 rfl) rfl rfl rfl ?_
    refine l_val rfl rfl rfl (r_assign (v := .int .i64 t27) rfl) ?_
    refine l_nil ?_
    refine c_seq ?_
    refine c_region ?_
    refine l_val rfl rfl rfl (r_move (v := v0) rfl) ?_
    refine l_val rfl rfl rfl (r_move (v := .int .i64 t27) rfl) ?_
    obtain ⟨t32, h_t32, H24⟩ := bnd_some H23; clear H23
    refine l_callG (fun w hF hS => k20 (know_all w) (f0.mono (hw.now hF)) h_t32) Tryz.call20 rfl rfl rfl ?_
    refine l_val rfl rfl rfl (r_move (v := .tuple #[.int .i64 t32.1, .bool t32.2]) rfl) ?_
    refine l_val rfl rfl rfl (r_extract (v := .int .i64 t32.1) rfl rfl) ?_
    refine l_val rfl rfl rfl (r_extract (v := .bool t32.2) rfl rfl) ?_
    refine l_val rfl rfl rfl (r_assign (v := .int .i64 t32.1) rfl) ?_
    refine l_val rfl rfl rfl (r_assign (v := .bool t32.2) rfl) ?_
    refine l_nil ?_
    refine c_seq ?_
    refine c_region ?_
    refine l_val rfl rfl rfl (r_move (v := .bool t32.2) rfl) ?_
    refine l_val rfl rfl rfl (r_not rfl) ?_
    refine l_nil ?_
    refine c_if (b := (!t32.2)) rfl (fun hb => ?_) (fun hb => ?_)
    ·have H25 := cnd_t hb H24; clear H24
     refine c_seq ?_
     refine c_region ?_
     refine l_val rfl rfl rfl (r_assign (v := .int .i64 0) rfl) ?_
     refine l_val rfl rfl rfl (r_assign (v := .int .i64 7) rfl) ?_
     refine l_nil ?_
     refine c_ret ?_
     obtain rfl := Option.some.inj H25
     refine ret2 (v1 := .int .i64 0) (v2 := .int .i64 7) rfl rfl rfl (fin rfl)
    ·have H26 := cnd_f hb H24; clear H24
     refine c_skip ?_
     refine c_region ?_
     obtain ⟨t37, h_t37, H27⟩ := bnd_some H26; clear H26
     refine l_val rfl rfl rfl (r_addG rfl rfl h_t37) ?_
     refine l_val rfl rfl rfl (r_move (v := .int .i64 t37) rfl) ?_
     refine l_nil ?_
     refine c_close t37 () m2 [0, 1] (by exact ⟨rfl, rfl, rfl, rfl, rfl, rfl, trivial⟩) (by decide) rfl (by exact ⟨(by subst hn2; exact H27), trivial⟩) (Nat.lt_succ_self _)
   ·have H28 := cnd_f hb H21; clear H21
    refine c_exit ?_
    refine c_close () () 0 [0] (by exact ⟨rfl, rfl, rfl, trivial⟩) (by decide) rfl (by exact ⟨H28, trivial⟩) (Nat.lt_succ_self _)
  ·rintro _ _ gg H18 _
   replace H18 : face_Score_j1 a0 a1 a2 = some r := H18
   refine c_tidyF [(0, v0), (2, .int .i64 a2), (4, .pointer (some ⟨b3, 0, none⟩))] [cellsC b3 [.int .i64 a1.Id, str a1.Name, v1_2, v1_3] 28] rfl rfl ?_
   refine c_seq ?_
   refine c_region ?_
   refine l_val rfl rfl rfl (r_move (v := v0) rfl) ?_
   refine l_loadN (i := 0) (vs := [.int .i64 a1.Id, str a1.Name, v1_2, v1_3]) Tryz.isAgg28 Tryz.sizeOf28 rfl rfl rfl rfl rfl ?_
   refine l_val rfl rfl rfl (r_move (v := .int .i64 a2) rfl) ?_
   obtain ⟨t41, h_t41, H19⟩ := bnd_some H18; clear H18
   refine l_callG (fun w hF hS => k21 (know_all w) (f0.mono (hw.now hF)) (f1_2.mono (hw.now hF)) (f1_3.mono (hw.now hF)) h_t41) Tryz.call21 rfl rfl rfl ?_
   refine l_val rfl rfl rfl (r_assign (v := .int .i64 t41) rfl) ?_
   refine l_val rfl rfl rfl (r_assign (v := .int .i64 0) rfl) ?_
   refine l_nil ?_
   refine c_ret ?_
   obtain rfl := Option.some.inj H19
   refine ret2 (v1 := .int .i64 t41) (v2 := .int .i64 0) rfl rfl rfl (fin rfl)
theorem k25 {a0 : (Nat → Int)} {a1 : (Nat → Int)} {r : Int} (H : R_FarOf a0 a1 = some r) : Ret Tryz.prog 25 [.agg #[.int .i64 (a0 0), .int .i64 (a0 1), .int .i64 (a0 2), .int .i64 (a0 3), .int .i64 (a0 4), .int .i64 (a0 5), .int .i64 (a0 6), .int .i64 (a0 7), .int .i64 (a0 8), .int .i64 (a0 9), .int .i64 (a0 10), .int .i64 (a0 11)], .agg #[.int .i64 (a1 0), .int .i64 (a1 1), .int .i64 (a1 2), .int .i64 (a1 3), .int .i64 (a1 4), .int .i64 (a1 5), .int .i64 (a1 6), .int .i64 (a1 7), .int .i64 (a1 8), .int .i64 (a1 9), .int .i64 (a1 10), .int .i64 (a1 11)]] (.int .i64 r) := by
 refine enterRet (n := 28) Tryz.func25 rfl rfl rfl (fun wd => ?_)
 refine c_seq ?_
 refine c_region ?_
 refine l_box (cs := [.int .i64 (a0 0), .int .i64 (a0 1), .int .i64 (a0 2), .int .i64 (a0 3), .int .i64 (a0 4), .int .i64 (a0 5), .int .i64 (a0 6), .int .i64 (a0 7), .int .i64 (a0 8), .int .i64 (a0 9), .int .i64 (a0 10), .int .i64 (a0 11)]) rfl rfl rfl rfl (fun b2 => ?_)
 refine l_box (cs := [.int .i64 (a1 0), .int .i64 (a1 1), .int .i64 (a1 2), .int .i64 (a1 3), .int .i64 (a1 4), .int .i64 (a1 5), .int .i64 (a1 6), .int .i64 (a1 7), .int .i64 (a1 8), .int .i64 (a1 9), .int .i64 (a1 10), .int .i64 (a1 11)]) rfl rfl rfl rfl (fun b3 => ?_)
 refine l_val rfl rfl rfl (r_assign (v := .int .i64 0) rfl) ?_
 refine l_nil ?_
 refine c_seq ?_
 refine c_region ?_
 refine l_val rfl rfl rfl (r_assign (v := .int .i64 0) rfl) ?_
 refine l_nil ?_
 refine c_seq ?_
 refine c_seq ?_
 refine c_region ?_
 refine l_loadN (i := 0) (vs := [.int .i64 (a0 0), .int .i64 (a0 1), .int .i64 (a0 2), .int .i64 (a0 3), .int .i64 (a0 4), .int .i64 (a0 5), .int .i64 (a0 6), .int .i64 (a0 7), .int .i64 (a0 8), .int .i64 (a0 9), .int .i64 (a0 10), .int .i64 (a0 11)]) Tryz.isAgg45 Tryz.sizeOf45 rfl rfl rfl rfl rfl ?_
 refine l_val rfl rfl rfl (r_move (v := .int .i64 0) rfl) ?_
 refine l_nil ?_
 refine c_block ?_
 refine c_sel [1] [cellsC b3 [.int .i64 (a1 0), .int .i64 (a1 1), .int .i64 (a1 2), .int .i64 (a1 3), .int .i64 (a1 4), .int .i64 (a1 5), .int .i64 (a1 6), .int .i64 (a1 7), .int .i64 (a1 8), .int .i64 (a1 9), .int .i64 (a1 10), .int .i64 (a1 11)] 45] rfl (by decide) ?_
 refine c_fix (σ := Int × Int) (τ := Unit) (fun next1 s => R_FarOf_l1 a0 a1 next1 s.1 s.2) (fun s t => [(3, .pointer (some ⟨b3, 0, none⟩)), (5, .int .i64 s.1), (8, .agg #[.int .i64 (a0 0), .int .i64 (a0 1), .int .i64 (a0 2), .int .i64 (a0 3), .int .i64 (a0 4), .int .i64 (a0 5), .int .i64 (a0 6), .int .i64 (a0 7), .int .i64 (a0 8), .int .i64 (a0 9), .int .i64 (a0 10), .int .i64 (a0 11)]), (9, .int .i64 s.2)]) (fun s t => [cellsC b3 [.int .i64 (a1 0), .int .i64 (a1 1), .int .i64 (a1 2), .int .i64 (a1 3), .int .i64 (a1 4), .int .i64 (a1 5), .int .i64 (a1 6), .int .i64 (a1 7), .int .i64 (a1 8), .int .i64 (a1 9), .int .i64 (a1 10), .int .i64 (a1 11)] 45]) (fun s t => True) (0, 0) () [0] H (by exact trivial) (by exact ⟨rfl, rfl, rfl, rfl, trivial⟩) (by decide) rfl ?_
 rintro ⟨x5_2, x9_2⟩ _ m1 gg H12 _
 clear H
 replace H12 : R_FarOf_l1 a0 a1 (it (fun next1 s => R_FarOf_l1 a0 a1 next1 s.1 s.2) m1) x5_2 x9_2 = some r := H12
 generalize hn1 : it (fun next1 s => R_FarOf_l1 a0 a1 next1 s.1 s.2) m1 = next1 at H12
 refine c_tidyF [(3, .pointer (some ⟨b3, 0, none⟩)), (5, .int .i64 x5_2), (8, .agg #[.int .i64 (a0 0), .int .i64 (a0 1), .int .i64 (a0 2), .int .i64 (a0 3), .int .i64 (a0 4), .int .i64 (a0 5), .int .i64 (a0 6), .int .i64 (a0 7), .int .i64 (a0 8), .int .i64 (a0 9), .int .i64 (a0 10), .int .i64 (a0 11)]), (9, .int .i64 x9_2)] [cellsC b3 [.int .i64 (a1 0), .int .i64 (a1 1), .int .i64 (a1 2), .int .i64 (a1 3), .int .i64 (a1 4), .int .i64 (a1 5), .int .i64 (a1 6), .int .i64 (a1 7), .int .i64 (a1 8), .int .i64 (a1 9), .int .i64 (a1 10), .int .i64 (a1 11)] 45] rfl rfl ?_
 refine c_seq ?_
 refine c_region ?_
 refine l_val rfl rfl rfl (r_lss rfl rfl) ?_
 refine l_nil ?_
 refine c_seq ?_
 refine c_if (b := (decide (x9_2 < 12))) rfl (fun hb => ?_) (fun hb => ?_)
 ·have H13 := cnd_t hb H12; clear H12
  refine c_skip ?_
  refine c_seq ?_
  refine c_block ?_
  refine c_seq ?_
  refine c_region ?_
  refine l_val rfl rfl rfl (r_move (v := .int .i64 x9_2) rfl) ?_
  obtain ⟨k12, h_k12, H14⟩ := bnd_some H13; clear H13
  refine l_val rfl rfl rfl (r_indexAG (f := fun j_ => .int .i64 (a0 j_)) Tryz.runUnderlying45 Tryz.isAgg3 Tryz.sizeOf3 rfl rfl rfl h_k12) ?_
  refine l_val rfl rfl rfl (r_assign (v := .int .i64 x9_2) rfl) ?_
  refine l_val rfl rfl rfl (r_assign (v := .int .i64 (a0 k12)) rfl) ?_
  refine l_nil ?_
  exact c_regionD (Kd.p :: Kd.p :: Kd.p :: Kd.p :: Kd.d [0] _ :: Kd.p :: Kd.p :: Kd.p :: Kd.p :: Kd.d [0] _ :: Kd.p :: Kd.p :: Kd.p :: Kd.p :: []) 0 mixed (by
   refine d_val rfl rfl (r_move (v := .int .i64 x5_2) rfl) ?_
   refine d_val rfl rfl (r_move (v := .int .i64 (a0 k12)) rfl) ?_
   refine d_val rfl rfl (r_move (v := .int .i64 x9_2) rfl) ?_
   have h_k16 := bnd_val H14
   have H15 := bnd_rest H14
   refine d_val rfl rfl (r_indexPG Tryz.runUnderlying45 Tryz.sizeOf3 rfl rfl h_k16) ?_
   refine d_load1 (i := 0) (v := .int .i64 (a1 (val (gIx 12 x9_2)))) Tryz.isAgg3 rfl rfl rfl (rg_arr (pre := []) (post := []) (f := fun j_ => [.int .i64 (a1 j_)]) (n := 12) (sz := 1) (q := 0) rfl rfl (fun _ => rfl) (gIx_lt h_k16) rfl) ?_
   have h_t18 := bnd_val H15
   have H16 := bnd_rest H15
   refine d_val rfl rfl (r_subG rfl rfl h_t18) ?_
   refine d_val rfl rfl (r_move (v := .int .i64 (a0 k12)) rfl) ?_
   refine d_val rfl rfl (r_move (v := .int .i64 x9_2) rfl) ?_
   have h_k21 := bnd_val H16
   have H17 := bnd_rest H16
   refine d_val rfl rfl (r_indexPG Tryz.runUnderlying45 Tryz.sizeOf3 rfl rfl h_k21) ?_
   refine d_load1 (i := 0) (v := .int .i64 (a1 (val (gIx 12 x9_2)))) Tryz.isAgg3 rfl rfl rfl (rg_arr (pre := []) (post := []) (f := fun j_ => [.int .i64 (a1 j_)]) (n := 12) (sz := 1) (q := 0) rfl rfl (fun _ => rfl) (gIx_lt h_k21) rfl) ?_
   have h_t23 := bnd_val H17
   have H18 := bnd_rest H17
   refine d_val rfl rfl (r_subG rfl rfl h_t23) ?_
   have h_t24 := bnd_val H18
   have H19 := bnd_rest H18
   refine d_val rfl rfl (r_mulG rfl rfl h_t24) ?_
   have h_t25 := bnd_val H19
   have H20 := bnd_rest H19
   refine d_val rfl rfl (r_addG rfl rfl h_t25) ?_
   refine d_val rfl rfl (r_assign (v := .int .i64 (val (gI (x5_2 + (val (gI ((val (gI ((a0 k12) - (a1 (val (gIx 12 x9_2)))))) * (val (gI ((a0 k12) - (a1 (val (gIx 12 x9_2))))))))))))) rfl) ?_
   refine d_nil ?_
   refine c_region ?_
   obtain ⟨t26, h_t26, H21⟩ := bnd_some H20; clear H20
   refine l_val rfl rfl rfl (r_addG rfl rfl h_t26) ?_
   refine l_val rfl rfl rfl (r_move (v := .int .i64 t26) rfl) ?_
   refine l_nil ?_
   refine c_close ((val (gI (x5_2 + (val (gI ((val (gI ((a0 k12) - (a1 (val (gIx 12 x9_2)))))) * (val (gI ((a0 k12) - (a1 (val (gIx 12 x9_2)))))))))))), t26) () m1 [0] (by exact ⟨rfl, rfl, rfl, rfl, trivial⟩) (by decide) rfl (by exact ⟨(by subst hn1; exact H21), trivial⟩) (Nat.lt_succ_self _)
   ) (by kernel_rfl)
 ·have H22 := cnd_f hb H12; clear H12
  refine c_exit ?_
  refine c_seq ?_
  refine c_region ?_
  refine l_val rfl rfl rfl (r_move (v := .int .i64 x5_2) rfl) ?_
  refine l_val rfl rfl rfl (r_assign (v := .int .i64 x5_2) rfl) ?_
  refine l_nil ?_
  refine c_ret ?_
  obtain rfl := Option.some.inj H22
  refine ret1 (v := .int .i64 x5_2) rfl rfl (fin rfl)
theorem k9 {a0 : (List T_face_Likeness)} {v0 : Value} {a1 : T_face_Person} {v1_2 : Value} {v1_3 : Value} {a2 : Int} {r : Int} {w : World} {h : Heap} (hw : Know h w noS) (f0 : FrS h 14 v0 (a0.map e_face_Likeness)) (f1_2 : FrS h 1 v1_2 (a1.Likes.map e_i64)) (f1_3 : FrS h 1 v1_3 (a1.Nots.map e_i64)) (H : R_ScoreOf a0 a1 a2 = some r) : Does Tryz.prog 9 (List.toArray [v0, .agg #[.int .i64 a1.Id, str a1.Name, v1_2, v1_3], .int .i64 a2]) w (fun v w' => v = (.int .i64 r) ∧ Grow w w') := by
 refine enter (n := 66) Tryz.func9 rfl rfl rfl noS [] (Sat.nil _ _) ?_
 refine c_seq ?_
 refine c_region ?_
 refine l_box (cs := [.int .i64 a1.Id, str a1.Name, v1_2, v1_3]) rfl rfl rfl rfl (fun b2 => ?_)
 refine l_val rfl rfl rfl (r_assign (v := .int .i64 0) rfl) ?_
 refine l_nil ?_
 refine c_seq ?_
 refine c_region ?_
 refine l_val rfl rfl rfl (r_assign (v := .slice none 0 0) rfl) ?_
 refine l_nil ?_
 refine c_meet (r := r) (σ := (List Int)) (τ := (Option Addr × Nat)) (fun s => R_ScoreOf_j1 s) (fun s t => [(7, .slice t.1 s.length t.2)]) (fun s t => [rowV 3 1 (.slice t.1 s.length t.2) s.length (s.map e_i64)]) (fun s t => True) ?_ ?_
 ·refine c_seq ?_
  refine c_region ?_
  refine l_val rfl rfl rfl (r_field Tryz.runUnderlying28 rfl Tryz.sizeOf26 rfl rfl) ?_
  refine l_load1 (i := 0) (v := v1_2) Tryz.isAgg26 rfl rfl rfl rfl rfl ?_
  refine l_val rfl rfl rfl (r_lenF Tryz.underlying26 rfl f1_2 rfl) ?_
  refine l_val rfl rfl rfl (r_move (v := .int .i64 0) rfl) ?_
  refine l_nil ?_
  refine c_block ?_
  refine c_sel [] [] rfl (by decide) ?_
  refine c_nilRow 3 1 ?_
  refine c_fix (σ := Int × (List Int)) (τ := (Option Addr × Nat)) (fun next4 s => R_ScoreOf_l4 a0 a1 a2 next4 s.1 s.2) (fun s t => [(0, v0), (2, .int .i64 a2), (7, .slice t.1 s.2.length t.2), (14, v1_2), (15, .int .i64 (a1.Likes.length : Int)), (16, .int .i64 s.1)]) (fun s t => [rowV 3 1 (.slice t.1 s.2.length t.2) s.2.length (s.2.map e_i64)]) (fun s t => True) (0, ([] : List Int)) ((none, 0) : Option Addr × Nat) [0] H (by exact trivial) (by exact ⟨rfl, rfl, rfl, rfl, rfl, rfl, trivial⟩) (by decide) rfl ?_
  rintro ⟨x16_2, l_3⟩ p_2 m4 gg H41 _
  clear H
  replace H41 : R_ScoreOf_l4 a0 a1 a2 (it (fun next4 s => R_ScoreOf_l4 a0 a1 a2 next4 s.1 s.2) m4) x16_2 l_3 = some r := H41
  generalize hn4 : it (fun next4 s => R_ScoreOf_l4 a0 a1 a2 next4 s.1 s.2) m4 = next4 at H41
  refine c_tidyF [(0, v0), (2, .int .i64 a2), (7, .slice p_2.1 l_3.length p_2.2), (14, v1_2), (15, .int .i64 (a1.Likes.length : Int)), (16, .int .i64 x16_2)] [rowV 3 1 (.slice p_2.1 l_3.length p_2.2) l_3.length (l_3.map e_i64)] rfl rfl ?_
  refine c_seq ?_
  refine c_region ?_
  refine l_val rfl rfl rfl (r_lss rfl rfl) ?_
  refine l_nil ?_
  refine c_seq ?_
  refine c_if (b := (decide (x16_2 < (a1.Likes.length : Int)))) rfl (fun hb => ?_) (fun hb => ?_)
  ·have H42 := cnd_t hb H41; clear H41
   refine c_skip ?_
   refine c_meet (r := r) (σ := (List Int)) (τ := (Option Addr × Nat)) (fun s => R_ScoreOf_j5 x16_2 next4 s) (fun s t => [(0, v0), (2, .int .i64 a2), (7, .slice t.1 s.length t.2), (14, v1_2), (15, .int .i64 (a1.Likes.length : Int)), (16, .int .i64 x16_2)]) (fun s t => [rowV 3 1 (.slice t.1 s.length t.2) s.length (s.map e_i64)]) (fun s t => True) ?_ ?_
   ·refine c_block ?_
    refine c_seq ?_
    refine c_region ?_
    obtain ⟨t18, h_t18, H45⟩ := bnd_some H42; clear H42
    refine l_val rfl rfl rfl (r_indexF Tryz.underlying26 Tryz.sizeOf3 rfl rfl f1_2 h_t18) ?_
    refine l_read (fun w hF hS => run_loadG1 (f := e_i64) (i := x16_2) (sz := 1) (j := 0) (v := .int .i64 t18) Tryz.isAgg3 rfl rfl (f1_2.row (hw.now hF)) h_t18 rfl) rfl rfl rfl ?_
    refine l_val rfl rfl rfl (r_assign (v := .int .i64 t18) rfl) ?_
    refine l_nil ?_
    refine c_seq ?_
    refine c_region ?_
    refine l_val rfl rfl rfl (r_move (v := .int .i64 t18) rfl) ?_
    refine l_val rfl rfl rfl (r_move (v := .int .i64 a2) rfl) ?_
    refine l_val rfl rfl rfl (r_neq rfl rfl) ?_
    refine l_nil ?_
    refine c_if (b := (decide (t18 ≠ a2))) rfl (fun hb => ?_) (fun hb => ?_)
    ·have H46 := cnd_t hb H45; clear H45
     exact c_regionD (Kd.p :: Kd.p :: Kd.p :: Kd.p :: Kd.d [] _ :: Kd.p :: Kd.p :: Kd.d [] _ :: Kd.p :: Kd.p :: Kd.p :: Kd.d [] _ :: Kd.p :: Kd.p :: Kd.d [] _ :: Kd.d [] _ :: Kd.ns 1 [_] 3 1 :: Kd.t 0 [1] _ _ :: Kd.p :: []) 1 mixed (by
      refine d_val rfl rfl (r_move (v := .slice p_2.1 l_3.length p_2.2) rfl) ?_
      refine d_val rfl rfl (r_move (v := v0) rfl) ?_
      refine d_val rfl rfl (r_move (v := v0) rfl) ?_
      refine d_val rfl rfl (r_move (v := .int .i64 t18) rfl) ?_
      have h_t27 := bnd_val H46
      have H47 := bnd_rest H46
      refine d_callD (fun w L' hF hS hi => k6 (know_all w) (f0.mono (hw.now hF)) h_t27) Tryz.call6 rfl rfl ?_
      have h_t28 := bnd_val H47
      have H48 := bnd_rest H47
      refine d_val rfl rfl (r_indexF Tryz.underlying22 Tryz.sizeOf47 rfl rfl f0 h_t28) ?_
      refine d_val rfl rfl (r_fieldP Tryz.runUnderlying47 rfl Tryz.sizeOf45 rfl rfl (some_of_at f0 h_t28)) ?_
      refine d_read (fun w hF => run_loadGN (f := e_face_Likeness) (i := (val (R_LikeAt a0 t18))) (sz := 14) (j := 2) (vs := [.int .i64 ((val (gAt a0 (val (R_LikeAt a0 t18)))).Vec 0), .int .i64 ((val (gAt a0 (val (R_LikeAt a0 t18)))).Vec 1), .int .i64 ((val (gAt a0 (val (R_LikeAt a0 t18)))).Vec 2), .int .i64 ((val (gAt a0 (val (R_LikeAt a0 t18)))).Vec 3), .int .i64 ((val (gAt a0 (val (R_LikeAt a0 t18)))).Vec 4), .int .i64 ((val (gAt a0 (val (R_LikeAt a0 t18)))).Vec 5), .int .i64 ((val (gAt a0 (val (R_LikeAt a0 t18)))).Vec 6), .int .i64 ((val (gAt a0 (val (R_LikeAt a0 t18)))).Vec 7), .int .i64 ((val (gAt a0 (val (R_LikeAt a0 t18)))).Vec 8), .int .i64 ((val (gAt a0 (val (R_LikeAt a0 t18)))).Vec 9), .int .i64 ((val (gAt a0 (val (R_LikeAt a0 t18)))).Vec 10), .int .i64 ((val (gAt a0 (val (R_LikeAt a0 t18)))).Vec 11)]) Tryz.isAgg45 Tryz.sizeOf45 rfl rfl (f0.row (hw.now hF)) h_t28 rfl) rfl rfl ?_
      refine d_val rfl rfl (r_move (v := v0) rfl) ?_
      refine d_val rfl rfl (r_move (v := v0) rfl) ?_
      refine d_val rfl rfl (r_move (v := .int .i64 a2) rfl) ?_
      have h_t34 := bnd_val H48
      have H49 := bnd_rest H48
      refine d_callD (fun w L' hF hS hi => k6 (know_all w) (f0.mono (hw.now hF)) h_t34) Tryz.call6 rfl rfl ?_
      have h_t35 := bnd_val H49
      have H50 := bnd_rest H49
      refine d_val rfl rfl (r_indexF Tryz.underlying22 Tryz.sizeOf47 rfl rfl f0 h_t35) ?_
      refine d_val rfl rfl (r_fieldP Tryz.runUnderlying47 rfl Tryz.sizeOf45 rfl rfl (some_of_at f0 h_t35)) ?_
      refine d_read (fun w hF => run_loadGN (f := e_face_Likeness) (i := (val (R_LikeAt a0 a2))) (sz := 14) (j := 2) (vs := [.int .i64 ((val (gAt a0 (val (R_LikeAt a0 a2)))).Vec 0), .int .i64 ((val (gAt a0 (val (R_LikeAt a0 a2)))).Vec 1), .int .i64 ((val (gAt a0 (val (R_LikeAt a0 a2)))).Vec 2), .int .i64 ((val (gAt a0 (val (R_LikeAt a0 a2)))).Vec 3), .int .i64 ((val (gAt a0 (val (R_LikeAt a0 a2)))).Vec 4), .int .i64 ((val (gAt a0 (val (R_LikeAt a0 a2)))).Vec 5), .int .i64 ((val (gAt a0 (val (R_LikeAt a0 a2)))).Vec 6), .int .i64 ((val (gAt a0 (val (R_LikeAt a0 a2)))).Vec 7), .int .i64 ((val (gAt a0 (val (R_LikeAt a0 a2)))).Vec 8), .int .i64 ((val (gAt a0 (val (R_LikeAt a0 a2)))).Vec 9), .int .i64 ((val (gAt a0 (val (R_LikeAt a0 a2)))).Vec 10), .int .i64 ((val (gAt a0 (val (R_LikeAt a0 a2)))).Vec 11)]) Tryz.isAgg45 Tryz.sizeOf45 rfl rfl (f0.row (hw.now hF)) h_t35 rfl) rfl rfl ?_
      have h_t38 := bnd_val H50
      have H51 := bnd_rest H50
      refine d_call (k25 h_t38) Tryz.call25 rfl rfl ?_
      refine d_newS rfl rfl (run_buildSlice (vs := [.int .i64 (val (R_FarOf (val (gAt a0 (val (R_LikeAt a0 t18)))).Vec (val (gAt a0 (val (R_LikeAt a0 a2)))).Vec))]) (cs := [.int .i64 (val (R_FarOf (val (gAt a0 (val (R_LikeAt a0 t18)))).Vec (val (gAt a0 (val (R_LikeAt a0 a2)))).Vec))]) Tryz.underlying26 Tryz.sizeOf3 Tryz.zeroValue3 rfl rfl rfl rfl rfl) rfl (fun b3 => ?_)
      have h_l40 := bnd_val H51
      have H52 := bnd_rest H51
      refine d_turn (Cv := fun v => rowV 3 1 v (val (gApp 8 l_3 ([(val (R_FarOf (val (gAt a0 (val (R_LikeAt a0 t18)))).Vec (val (gAt a0 (val (R_LikeAt a0 a2)))).Vec))] : List Int))).length ((val (gApp 8 l_3 ([(val (R_FarOf (val (gAt a0 (val (R_LikeAt a0 t18)))).Vec (val (gAt a0 (val (R_LikeAt a0 a2)))).Vec))] : List Int))).map e_i64)) (none, 0) (turns_appG (i := 0) (hn := rfl) (rds := [1]) (p := p_2) (sz := 1) (by_ := 8) (f := e_i64) (ys := l_3) (ls := ([(val (R_FarOf (val (gAt a0 (val (R_LikeAt a0 t18)))).Vec (val (gAt a0 (val (R_LikeAt a0 a2)))).Vec))] : List Int)) (V := .slice (some ⟨b3, 0, none⟩) 1 1) Tryz.underlying26 (info_of Tryz.typeInfo3) rfl rfl rfl rfl rfl rfl rfl rfl rfl rfl (fun w L' hF hS hi => row_box (i := 1) hS ((hi 1 (by simp)).trans rfl) rfl rfl) (fun _ => rfl) (fun _ => rfl) h_l40) (fun _ => rfl) rfl rfl (fun p_4 => ?_)
      refine d_val rfl rfl (r_assign (v := .slice p_4.1 (val (gApp 8 l_3 ([(val (R_FarOf (val (gAt a0 (val (R_LikeAt a0 t18)))).Vec (val (gAt a0 (val (R_LikeAt a0 a2)))).Vec))] : List Int))).length p_4.2) rfl) ?_
      refine d_nil ?_
      refine c_close (val (gApp 8 l_3 ([(val (R_FarOf (val (gAt a0 (val (R_LikeAt a0 t18)))).Vec (val (gAt a0 (val (R_LikeAt a0 a2)))).Vec))] : List Int))) p_4 0 [0] (by exact ⟨rfl, rfl, rfl, rfl, rfl, rfl, trivial⟩) (by decide) rfl (by exact ⟨H52, trivial⟩) (Nat.lt_succ_self _)
      ) (by kernel_rfl)
    ·have H53 := cnd_f hb H45; clear H45
     refine c_skip ?_
     refine c_close l_3 p_2 0 [0] (by exact ⟨rfl, rfl, rfl, rfl, rfl, rfl, trivial⟩) (by decide) rfl (by exact ⟨H53, trivial⟩) (Nat.lt_succ_self _)
   ·rintro l_4 p_3 gg H43 _
    replace H43 : R_ScoreOf_j5 x16_2 next4 l_4 = some r := H43
    refine c_tidyF [(0, v0), (2, .int .i64 a2), (7, .slice p_3.1 l_4.length p_3.2), (14, v1_2), (15, .int .i64 (a1.Likes.length : Int)), (16, .int .i64 x16_2)] [rowV 3 1 (.slice p_3.1 l_4.length p_3.2) l_4.length (l_4.map e_i64)] rfl rfl ?_
    refine c_region ?_
    obtain ⟨t41, h_t41, H44⟩ := bnd_some H43; clear H43
    refine l_val rfl rfl rfl (r_addG rfl rfl h_t41) ?_
    refine l_val rfl rfl rfl (r_move (v := .int .i64 t41) rfl) ?_
    refine l_nil ?_
    refine c_close (t41, l_4) p_3 m4 [0] (by exact ⟨rfl, rfl, rfl, rfl, rfl, rfl, trivial⟩) (by decide) rfl (by exact ⟨(by subst hn4; exact H44), trivial⟩) (Nat.lt_succ_self _)
  ·have H54 := cnd_f hb H41; clear H41
   refine c_exit ?_
   refine c_close l_3 p_2 0 [0] (by exact ⟨rfl, trivial⟩) (by decide) rfl (by exact ⟨H54, trivial⟩) (Nat.lt_succ_self _)
 ·rintro l p gg H28 _
  replace H28 : R_ScoreOf_j1 l = some r := H28
  refine c_tidyF [(7, .slice p.1 l.length p.2)] [rowV 3 1 (.slice p.1 l.length p.2) l.length (l.map e_i64)] rfl rfl ?_
  refine c_seq ?_
  refine c_seq ?_
  refine c_region ?_
  refine l_val rfl rfl rfl (r_move (v := .slice p.1 l.length p.2) rfl) ?_
  refine l_val rfl rfl rfl (r_len Tryz.underlying26 rfl) ?_
  refine l_val rfl rfl rfl (r_eql rfl rfl) ?_
  refine l_nil ?_
  refine c_if (b := (decide ((l.length : Int) = 0))) rfl (fun hb => ?_) (fun hb => ?_)
  ·have H29 := cnd_t hb H28; clear H28
   refine c_seq ?_
   refine c_region ?_
   refine l_val rfl rfl rfl (r_assign (v := .int .i64 774192) rfl) ?_
   refine l_nil ?_
   refine c_ret ?_
   obtain rfl := Option.some.inj H29
   refine ret1 (v := .int .i64 774192) rfl rfl (fin rfl)
  ·have H30 := cnd_f hb H28; clear H28
   refine c_skip ?_
   refine c_seq ?_
   refine c_region ?_
   refine l_val rfl rfl rfl (r_move (v := .slice p.1 l.length p.2) rfl) ?_
   obtain ⟨t46, h_t46, H31⟩ := bnd_some H30; clear H30
   refine l_turn (turns_callB (i := 0) (rds := []) (G := fun x : Unit => .tuple #[]) (C := fun x : Unit => rowV 3 1 (.slice p.1 l.length p.2) l.length (t46.map e_i64)) rfl (fun w L' S hF hS hi hp hlt ho hA => k26 hp hlt (know_but w S) rfl h_t46) Tryz.call26 rfl) rfl rfl rfl (fun _ => ?_)
   refine c_know (fun w hF hS => lenOf (i := 0) hS rfl) (fun hl_ => ?_)
   have hl : l.length = t46.length := by simpa using hl_.symm
   refine l_nil ?_
   refine c_seq ?_
   refine c_region ?_
   refine l_val rfl rfl rfl (r_move (v := .slice p.1 l.length p.2) rfl) ?_
   refine l_val rfl rfl rfl (r_move (v := .slice p.1 l.length p.2) rfl) ?_
   refine l_val rfl rfl rfl (r_lenN Tryz.underlying26 rfl hl) ?_
   refine l_val rfl rfl rfl (r_min rfl rfl) ?_
   obtain ⟨t51, h_t51, H32⟩ := bnd_some H31; clear H31
   refine l_read (v := .slice p.1 t51.length p.2) (fun w hF hS => run_sliceHO0 (xs := t46) Tryz.underlying26 Tryz.sizeOf3 rfl rfl hl (capOf (i := 0) hS rfl) h_t51) rfl rfl rfl ?_
   refine l_val rfl rfl rfl (r_assign (v := .slice p.1 t51.length p.2) rfl) ?_
   refine l_nil ?_
   refine c_seq ?_
   refine c_region ?_
   refine l_val rfl rfl rfl (r_assign (v := .int .i64 0) rfl) ?_
   refine l_nil ?_
   refine c_meet (r := r) (σ := Int) (τ := Unit) (fun s => R_ScoreOf_j2 t51 s) (fun s t => [(7, .slice p.1 t51.length p.2), (10, .int .i64 s)]) (fun s t => [rowV 3 1 (.slice p.1 l.length p.2) l.length (t46.map e_i64)]) (fun s t => True) ?_ ?_
   ·refine c_seq ?_
    refine c_region ?_
    refine l_val rfl rfl rfl (r_move (v := .slice p.1 t51.length p.2) rfl) ?_
    refine l_val rfl rfl rfl (r_len Tryz.underlying26 rfl) ?_
    refine l_val rfl rfl rfl (r_move (v := .int .i64 0) rfl) ?_
    refine l_nil ?_
    refine c_block ?_
    refine c_fix (σ := Int × Int) (τ := Unit) (fun next3 s => R_ScoreOf_l3 t51 next3 s.1 s.2) (fun s t => [(7, .slice p.1 t51.length p.2), (10, .int .i64 s.1), (52, .slice p.1 t51.length p.2), (53, .int .i64 (t51.length : Int)), (54, .int .i64 s.2)]) (fun s t => [rowV 3 1 (.slice p.1 l.length p.2) l.length (t46.map e_i64)]) (fun s t => True) (0, 0) () [0] H32 (by exact trivial) (by exact ⟨rfl, rfl, rfl, rfl, rfl, trivial⟩) (by decide) rfl ?_
    rintro ⟨x10_3, x54_2⟩ _ m3 gg H35 _
    clear H32
    replace H35 : R_ScoreOf_l3 t51 (it (fun next3 s => R_ScoreOf_l3 t51 next3 s.1 s.2) m3) x10_3 x54_2 = some r := H35
    generalize hn3 : it (fun next3 s => R_ScoreOf_l3 t51 next3 s.1 s.2) m3 = next3 at H35
    refine c_tidyF [(7, .slice p.1 t51.length p.2), (10, .int .i64 x10_3), (52, .slice p.1 t51.length p.2), (53, .int .i64 (t51.length : Int)), (54, .int .i64 x54_2)] [rowV 3 1 (.slice p.1 l.length p.2) l.length (t46.map e_i64)] rfl rfl ?_
    refine c_seq ?_
    refine c_region ?_
    refine l_val rfl rfl rfl (r_lss rfl rfl) ?_
    refine l_nil ?_
    refine c_seq ?_
    refine c_if (b := (decide (x54_2 < (t51.length : Int)))) rfl (fun hb => ?_) (fun hb => ?_)
    ·have H36 := cnd_t hb H35; clear H35
     refine c_skip ?_
     refine c_seq ?_
     refine c_block ?_
     refine c_seq ?_
     refine c_region ?_
     obtain ⟨t56, h_t56, H37⟩ := bnd_some H36; clear H36
     refine l_read (fun w hF hS => run_indexO Tryz.underlying26 Tryz.sizeOf3 rfl rfl (Row.cut0G (rowOf (i := 0) hS rfl) hl (capOf (i := 0) hS rfl) h_t51) rfl h_t56) rfl rfl rfl ?_
     refine l_read (fun w hF hS => run_loadG1 (f := e_i64) (i := x54_2) (sz := 1) (j := 0) (v := .int .i64 t56) Tryz.isAgg3 rfl rfl (Row.cut0G (rowOf (i := 0) hS rfl) hl (capOf (i := 0) hS rfl) h_t51) h_t56 rfl) rfl rfl rfl ?_
     refine l_val rfl rfl rfl (r_assign (v := .int .i64 t56) rfl) ?_
     refine l_nil ?_
     refine c_region ?_
     refine l_val rfl rfl rfl (r_move (v := .int .i64 x10_3) rfl) ?_
     refine l_val rfl rfl rfl (r_move (v := .int .i64 t56) rfl) ?_
     obtain ⟨t60, h_t60, H38⟩ := bnd_some H37; clear H37
     refine l_val rfl rfl rfl (r_addG rfl rfl h_t60) ?_
     refine l_val rfl rfl rfl (r_assign (v := .int .i64 t60) rfl) ?_
     refine l_nil ?_
     refine c_region ?_
     obtain ⟨t61, h_t61, H39⟩ := bnd_some H38; clear H38
     refine l_val rfl rfl rfl (r_addG rfl rfl h_t61) ?_
     refine l_val rfl rfl rfl (r_move (v := .int .i64 t61) rfl) ?_
     refine l_nil ?_
     refine c_close (t60, t61) () m3 [0] (by exact ⟨rfl, rfl, rfl, rfl, rfl, trivial⟩) (by decide) rfl (by exact ⟨(by subst hn3; exact H39), trivial⟩) (Nat.lt_succ_self _)
    ·have H40 := cnd_f hb H35; clear H35
     refine c_exit ?_
     refine c_close x10_3 () 0 [0] (by exact ⟨rfl, rfl, trivial⟩) (by decide) rfl (by exact ⟨H40, trivial⟩) (Nat.lt_succ_self _)
   ·rintro x10 _ gg H33 _
    replace H33 : R_ScoreOf_j2 t51 x10 = some r := H33
    refine c_tidyF [(7, .slice p.1 t51.length p.2), (10, .int .i64 x10)] [rowV 3 1 (.slice p.1 l.length p.2) l.length (t46.map e_i64)] rfl rfl ?_
    refine c_seq ?_
    refine c_region ?_
    refine l_val rfl rfl rfl (r_move (v := .int .i64 x10) rfl) ?_
    refine l_val rfl rfl rfl (r_move (v := .slice p.1 t51.length p.2) rfl) ?_
    refine l_val rfl rfl rfl (r_len Tryz.underlying26 rfl) ?_
    obtain ⟨t65, h_t65, H34⟩ := bnd_some H33; clear H33
    refine l_val rfl rfl rfl (r_quoG rfl rfl h_t65) ?_
    refine l_val rfl rfl rfl (r_assign (v := .int .i64 t65) rfl) ?_
    refine l_nil ?_
    refine c_ret ?_
    obtain rfl := Option.some.inj H34
    refine ret1 (v := .int .i64 t65) rfl rfl (fin rfl)
end Go.Proofs.YtgchdmkpjaakcaaGreat

/- FacePeople, the rest: the walks, printed by our generator; each follows its model. Conditions: the model yields a value. -/
namespace Go.Proofs.YtgchdmkpjaakcaaGreat
open Go Go.Vc Go.Md Go.M Go.Lx
set_option maxRecDepth 100000
set_option maxHeartbeats 4000000
set_option linter.unusedVariables false

theorem k8 {q0 : (List T_face_Likeness)} {vq0 : Value} {c0 : Nat} {a0 : Int} {r : Bool} {w : World} {h : Heap} (hw : Know h w noS) (fq0 : FrS h 14 vq0 (q0.map e_face_Likeness)) (hc0 : h c0 = some (.cells (List.toArray [vq0]) 22 (0, 0))) (H : Law_FacePeople_1 q0 a0 = some r) : Does Tryz.prog 8 (List.toArray [.int .i64 a0, .pointer (some ⟨c0, 0, none⟩)]) w (fun v w' => v = (.bool r) ∧ Grow w w') := by
 refine enter (n := 8) Tryz.func8 rfl rfl rfl noS [] (Sat.nil _ _) ?_
 refine c_seq ?_
 refine c_region ?_
 refine l_val rfl rfl rfl (r_assign (v := .bool false) rfl) ?_
 refine l_nil ?_
 refine c_seq ?_
 refine c_region ?_
 refine l_read (fun w hF hS => run_loadK1 (v := vq0) Tryz.isAgg22 rfl (hw.now hF _ _ hc0) rfl) rfl rfl rfl ?_
 refine l_val rfl rfl rfl (r_move (v := .int .i64 a0) rfl) ?_
 obtain ⟨t6, h_t6, H2⟩ := bnd_some H; clear H
 refine l_callG (fun w hF hS => k6 (know_all w) (fq0.mono (hw.now hF)) h_t6) Tryz.call6 rfl rfl rfl ?_
 refine l_val rfl rfl rfl (r_lss rfl rfl) ?_
 refine l_val rfl rfl rfl (r_assign (v := .bool (decide (t6 < 0))) rfl) ?_
 refine l_nil ?_
 refine c_ret ?_
 obtain rfl := Option.some.inj H2
 refine ret1 (v := .bool (decide (t6 < 0))) rfl rfl (fin rfl)
theorem k10 {a0 : Int} {a1 : Int} {a2 : Int} {a3 : Int} {r : Bool} (H : Law_told_int a0 a1 a2 a3 = some r) : Ret Tryz.prog 10 [.int .i64 a0, .int .i64 a1, .int .i64 a2, .int .i64 a3] (.bool r) := by
 refine enterRet (n := 21) Tryz.func10 rfl rfl rfl (fun wd => ?_)
 refine c_seq ?_
 refine c_region ?_
 refine l_val rfl rfl rfl (r_assign (v := .bool false) rfl) ?_
 refine l_nil ?_
 refine c_seq ?_
 refine c_region ?_
 refine l_val rfl rfl rfl (r_assign (v := .int .i64 0) rfl) ?_
 refine l_nil ?_
 refine c_meet (r := r) (σ := Int) (τ := Unit) (fun s => Law_told_int_j1 a0 a1 a3 s) (fun s t => [(0, .int .i64 a0), (1, .int .i64 a1), (2, .int .i64 s), (3, .int .i64 a3)]) (fun s t => []) (fun s t => True) ?_ ?_
 ·refine c_seq ?_
  refine c_region ?_
  refine l_val rfl rfl rfl (r_move (v := .int .i64 a3) rfl) ?_
  refine l_val rfl rfl rfl (r_neq rfl rfl) ?_
  refine l_nil ?_
  refine c_if (b := (decide (a3 ≠ 0))) rfl (fun hb => ?_) (fun hb => ?_)
  ·have H9 := cnd_t hb H; clear H
   refine c_region ?_
   refine l_val rfl rfl rfl (r_move (v := .int .i64 0) rfl) ?_
   refine l_val rfl rfl rfl (r_assign (v := .int .i64 0) rfl) ?_
   refine l_nil ?_
   refine c_close 0 () 0 [] (by exact ⟨rfl, rfl, rfl, rfl, trivial⟩) (by decide) rfl (by exact ⟨H9, trivial⟩) (Nat.lt_succ_self _)
  ·have H10 := cnd_f hb H; clear H
   refine c_skip ?_
   refine c_close a2 () 0 [] (by exact ⟨rfl, rfl, rfl, rfl, trivial⟩) (by decide) rfl (by exact ⟨H10, trivial⟩) (Nat.lt_succ_self _)
 ·rintro x2 _ gg H6 _
  replace H6 : Law_told_int_j1 a0 a1 a3 x2 = some r := H6
  refine c_tidyF [(0, .int .i64 a0), (1, .int .i64 a1), (2, .int .i64 x2), (3, .int .i64 a3)] [] rfl rfl ?_
  refine c_seq ?_
  refine c_region ?_
  refine l_val rfl rfl rfl (r_move (v := .int .i64 a0) rfl) ?_
  refine l_val rfl rfl rfl (r_move (v := .int .i64 x2) rfl) ?_
  refine l_val rfl rfl rfl (r_eql rfl rfl) ?_
  refine l_val rfl rfl rfl (r_move (v := .bool (decide (a0 = x2))) rfl) ?_
  refine split (fun hb => ?_) (fun hb => ?_)
  ·have H7 := cnd_t hb H6; clear H6
   refine l_val rfl rfl rfl (r_move (v := .int .i64 a1) rfl) ?_
   refine l_val rfl rfl rfl (r_move (v := .int .i64 a3) rfl) ?_
   refine l_val rfl rfl rfl (r_eql rfl rfl) ?_
   refine l_val rfl rfl rfl (r_pickT (v := .bool (decide (a1 = a3))) rfl rfl) ?_
   refine l_val rfl rfl rfl (r_assign (v := .bool (decide (a1 = a3))) rfl) ?_
   refine l_nil ?_
   refine c_ret ?_
   obtain rfl := Option.some.inj H7
   refine ret1 (v := .bool (decide (a1 = a3))) rfl rfl (fin rfl)
  ·have H8 := cnd_f hb H6; clear H6
   refine l_passed rfl rfl rfl ?_
   refine l_passed rfl rfl rfl ?_
   refine l_passed rfl rfl rfl ?_
   refine l_val rfl rfl rfl (r_pickF (v := .bool false) rfl rfl) ?_
   refine l_val rfl rfl rfl (r_assign (v := .bool false) rfl) ?_
   refine l_nil ?_
   refine c_ret ?_
   obtain rfl := Option.some.inj H8
   refine ret1 (v := .bool false) rfl rfl (fin rfl)
theorem k48 {a0 : (List T_face_Person)} {v0 : Value} {a1 : (T_face_Person → Option (Bool))} {v1 : Value} {r : Int} {w : World} {h : Heap} (hw : Know h w noS) (f0 : FrN h 4 v0 g_face_Person a0) (f1 : FnH Tryz.prog h v1 (fnR_func_face_Person_bool a1)) (H : slices_IndexFunc_face_Person a0 a1 = some r) : Does Tryz.prog 48 (List.toArray [v0, v1]) w (fun v w' => v = (.int .i64 r) ∧ Grow w w') := by
 refine enter (n := 19) Tryz.func48 rfl rfl rfl noS [] (Sat.nil _ _) ?_
 refine c_seq ?_
 refine c_region ?_
 refine l_val rfl rfl rfl (r_assign (v := .int .i64 0) rfl) ?_
 refine l_nil ?_
 refine c_seq ?_
 refine c_seq ?_
 refine c_region ?_
 refine l_val rfl rfl rfl (r_move (v := v0) rfl) ?_
 refine l_val rfl rfl rfl (r_lenFN Tryz.underlying23 rfl f0) ?_
 refine l_val rfl rfl rfl (r_move (v := .int .i64 0) rfl) ?_
 refine l_nil ?_
 refine c_block ?_
 refine c_fix (σ := Int) (τ := Unit) (fun next1 s => slices_IndexFunc_face_Person_l1 a0 a1 next1 s) (fun s t => [(0, v0), (1, v1), (7, .int .i64 (a0.length : Int)), (8, .int .i64 s)]) (fun s t => []) (fun s t => True) 0 () [] H (by exact trivial) (by exact ⟨rfl, rfl, rfl, rfl, trivial⟩) (by decide) rfl ?_
 rintro x8_2 _ m1 gg H9 _
 clear H
 replace H9 : slices_IndexFunc_face_Person_l1 a0 a1 (it (fun next1 s => slices_IndexFunc_face_Person_l1 a0 a1 next1 s) m1) x8_2 = some r := H9
 generalize hn1 : it (fun next1 s => slices_IndexFunc_face_Person_l1 a0 a1 next1 s) m1 = next1 at H9
 refine c_tidyF [(0, v0), (1, v1), (7, .int .i64 (a0.length : Int)), (8, .int .i64 x8_2)] [] rfl rfl ?_
 refine c_seq ?_
 refine c_region ?_
 refine l_val rfl rfl rfl (r_lss rfl rfl) ?_
 refine l_nil ?_
 refine c_seq ?_
 refine c_if (b := (decide (x8_2 < (a0.length : Int)))) rfl (fun hb => ?_) (fun hb => ?_)
 ·have H10 := cnd_t hb H9; clear H9
  refine c_skip ?_
  refine c_seq ?_
  refine c_block ?_
  refine c_seq ?_
  refine c_region ?_
  refine l_val rfl rfl rfl (r_move (v := .int .i64 x8_2) rfl) ?_
  refine l_val rfl rfl rfl (r_assign (v := .int .i64 x8_2) rfl) ?_
  refine l_nil ?_
  refine c_seq ?_
  refine c_region ?_
  refine l_val rfl rfl rfl (r_move (v := v1) rfl) ?_
  refine l_val rfl rfl rfl (r_move (v := v0) rfl) ?_
  refine l_val rfl rfl rfl (r_move (v := .int .i64 x8_2) rfl) ?_
  obtain ⟨t14, h_t14, H11⟩ := bnd_some H10; clear H10
  refine l_val rfl rfl rfl (r_indexF Tryz.underlying23 Tryz.sizeOf28 rfl rfl f0.frs (f0.ix h_t14)) ?_
  refine l_read (fun w hF hS => run_loadGN (f := (elC h v0 4)) (i := x8_2) (sz := 4) (j := 0) (vs := [.int .i64 t14.Id, str t14.Name, (elH h v0 4 (Int.toNat x8_2) 2), (elH h v0 4 (Int.toNat x8_2) 3)]) Tryz.isAgg28 Tryz.sizeOf28 rfl rfl (f0.frs.row (hw.now hF)) (f0.ix h_t14) (rd_of (cg_face_Person (f0.at h_t14)) rfl)) rfl rfl rfl ?_
  obtain ⟨t16, h_t16, H12⟩ := bnd_some H11; clear H11
  refine l_callV (R := fnR_func_face_Person_bool a1) (r := .bool t16) (v := v1) (fun w hF hS => ⟨(f1.mono (hw.now hF)), ⟨t14, _, _, _, ((show FrS h 1 (elH h v0 4 (Int.toNat x8_2) 2) (t14.Likes.map e_i64) from (g_face_Person_p2 (f0.at h_t14))).mono (hw.now hF)), ((show FrS h 1 (elH h v0 4 (Int.toNat x8_2) 3) (t14.Nots.map e_i64) from (g_face_Person_p3 (f0.at h_t14))).mono (hw.now hF)), rfl, h_t16, rfl⟩⟩) rfl rfl rfl rfl ?_
  refine l_nil ?_
  refine c_if (b := t16) rfl (fun hb => ?_) (fun hb => ?_)
  ·have H13 := cnd_t hb H12; clear H12
   refine c_seq ?_
   refine c_region ?_
   refine l_val rfl rfl rfl (r_move (v := .int .i64 x8_2) rfl) ?_
   refine l_val rfl rfl rfl (r_assign (v := .int .i64 x8_2) rfl) ?_
   refine l_nil ?_
   refine c_ret ?_
   obtain rfl := Option.some.inj H13
   refine ret1 (v := .int .i64 x8_2) rfl rfl (fin rfl)
  ·have H14 := cnd_f hb H12; clear H12
   refine c_skip ?_
   refine c_region ?_
   obtain ⟨t18, h_t18, H15⟩ := bnd_some H14; clear H14
   refine l_val rfl rfl rfl (r_addG rfl rfl h_t18) ?_
   refine l_val rfl rfl rfl (r_move (v := .int .i64 t18) rfl) ?_
   refine l_nil ?_
   refine c_close t18 () m1 [] (by exact ⟨rfl, rfl, rfl, rfl, trivial⟩) (by decide) rfl (by exact ⟨(by subst hn1; exact H15), trivial⟩) (Nat.lt_succ_self _)
 ·have H16 := cnd_f hb H9; clear H9
  refine c_exit ?_
  refine c_seq ?_
  refine c_region ?_
  refine l_val rfl rfl rfl (r_assign (v := .int .i64 (-1)) rfl) ?_
  refine l_nil ?_
  refine c_ret ?_
  obtain rfl := Option.some.inj H16
  refine ret1 (v := .int .i64 (-1)) rfl rfl (fin rfl)
theorem k49 {q0 : Int} {c0 : Nat} {a0 : T_face_Person} {v0_2 : Value} {v0_3 : Value} {r : Bool} {w : World} {h : Heap} (hw : Know h w noS) (hc0 : h c0 = some (.cells (List.toArray [.int .i64 q0]) 3 (0, 0))) (f0_2 : FrS h 1 v0_2 (a0.Likes.map e_i64)) (f0_3 : FrS h 1 v0_3 (a0.Nots.map e_i64)) (H : face_owner_1 q0 a0 = some r) : Does Tryz.prog 49 (List.toArray [.agg #[.int .i64 a0.Id, str a0.Name, v0_2, v0_3], .pointer (some ⟨c0, 0, none⟩)]) w (fun v w' => v = (.bool r) ∧ Grow w w') := by
 refine enter (n := 8) Tryz.func49 rfl rfl rfl noS [] (Sat.nil _ _) ?_
 refine c_seq ?_
 refine c_region ?_
 refine l_box (cs := [.int .i64 a0.Id, str a0.Name, v0_2, v0_3]) rfl rfl rfl rfl (fun b1 => ?_)
 refine l_val rfl rfl rfl (r_assign (v := .bool false) rfl) ?_
 refine l_nil ?_
 refine c_seq ?_
 refine c_region ?_
 refine l_val rfl rfl rfl (r_field Tryz.runUnderlying28 rfl Tryz.sizeOf26 rfl rfl) ?_
 refine l_load1 (i := 0) (v := v0_2) Tryz.isAgg26 rfl rfl rfl rfl rfl ?_
 refine l_read (fun w hF hS => run_loadK1 (v := .int .i64 q0) Tryz.isAgg3 rfl (hw.now hF _ _ hc0) rfl) rfl rfl rfl ?_
 obtain ⟨t7, h_t7, H2⟩ := bnd_some H; clear H
 refine l_callG (fun w hF hS => k50 (know_all w) (f0_2.mono (hw.now hF)) h_t7) Tryz.call50 rfl rfl rfl ?_
 refine l_val rfl rfl rfl (r_assign (v := .bool t7) rfl) ?_
 refine l_nil ?_
 refine c_ret ?_
 obtain rfl := Option.some.inj H2
 refine ret1 (v := .bool t7) rfl rfl (fin rfl)
theorem k29 {a0 : (List T_face_Person)} {v0 : Value} {a1 : Int} {r : Int} {w : World} {h : Heap} (hw : Know h w noS) (f0 : FrN h 4 v0 g_face_Person a0) (H : face_owner a0 a1 = some r) : Does Tryz.prog 29 (List.toArray [v0, .int .i64 a1]) w (fun v w' => v = (.int .i64 r) ∧ Grow w w') := by
 refine enter (n := 8) Tryz.func29 rfl rfl rfl noS [] (Sat.nil _ _) ?_
 refine c_seq ?_
 refine c_region ?_
 refine l_box (cs := [.int .i64 a1]) rfl rfl rfl rfl (fun b1 => ?_)
 refine l_val rfl rfl rfl (r_assign (v := .int .i64 0) rfl) ?_
 refine l_nil ?_
 refine c_seq ?_
 refine c_region ?_
 refine l_val rfl rfl rfl (r_move (v := v0) rfl) ?_
 refine l_val rfl rfl rfl (r_makeFn (caps := #[.pointer (some ⟨b1, 0, none⟩)]) rfl) ?_
 obtain ⟨t7, h_t7, H2⟩ := bnd_some H; clear H
 refine l_callG (fun w hF hS => k48 (know_all w) (f0.mono (hw.now hF)) (FnH.mk ⟨49, #[], #[.pointer (some ⟨b1, 0, none⟩)], rfl, Tryz.call49, fun args2 post2 w2 hk2 hR2 => by obtain ⟨a0_, v0_2_, v0_3_, r_, fa0_2_, fa0_3_, rfl, H_, rfl⟩ := hR2; exact k49 (know_all w2) (hk2.up _ _ (sat_cell (i := 0) hS rfl)) fa0_2_ fa0_3_ H_⟩) h_t7) Tryz.call48 rfl rfl rfl ?_
 refine l_val rfl rfl rfl (r_assign (v := .int .i64 t7) rfl) ?_
 refine l_nil ?_
 refine c_ret ?_
 obtain rfl := Option.some.inj H2
 refine ret1 (v := .int .i64 t7) rfl rfl (fin rfl)
theorem k51 {a0 : (List T_face_Likeness)} {v0 : Value} {a1 : T_face_Person} {v1_2 : Value} {v1_3 : Value} {a2 : Int} {r : Bool} {w : World} {h : Heap} (hw : Know h w noS) (f0 : FrS h 14 v0 (a0.map e_face_Likeness)) (f1_2 : FrS h 1 v1_2 (a1.Likes.map e_i64)) (f1_3 : FrS h 1 v1_3 (a1.Nots.map e_i64)) (H : face_hasPhoto a0 a1 a2 = some r) : Does Tryz.prog 51 (List.toArray [v0, .agg #[.int .i64 a1.Id, str a1.Name, v1_2, v1_3], .int .i64 a2]) w (fun v w' => v = (.bool r) ∧ Grow w w') := by
 refine enter (n := 15) Tryz.func51 rfl rfl rfl noS [] (Sat.nil _ _) ?_
 refine c_seq ?_
 refine c_region ?_
 refine l_box (cs := [.int .i64 a1.Id, str a1.Name, v1_2, v1_3]) rfl rfl rfl rfl (fun b1 => ?_)
 refine l_val rfl rfl rfl (r_assign (v := .bool false) rfl) ?_
 refine l_nil ?_
 refine c_seq ?_
 refine c_region ?_
 refine l_val rfl rfl rfl (r_move (v := v0) rfl) ?_
 refine l_val rfl rfl rfl (r_field Tryz.runUnderlying28 rfl Tryz.sizeOf26 rfl rfl) ?_
 refine l_load1 (i := 0) (v := v1_2) Tryz.isAgg26 rfl rfl rfl rfl rfl ?_
 obtain ⟨t10, h_t10, H4⟩ := bnd_some H; clear H
 refine l_make (makes_call (rds := []) (G := fun x : (Option Addr × Nat) => .slice x.1 t10.length x.2) (C := fun x : (Option Addr × Nat) => rowV 3 1 (.slice x.1 t10.length x.2) t10.length (t10.map e_i64)) (fun w L' hF hS hi => k36 (know_all w) (f0.mono (hw.now hF)) (f1_2.mono (hw.now hF)) h_t10) Tryz.call36 rfl) rfl rfl rfl (fun p => ?_)
 refine l_val rfl rfl rfl (r_move (v := v0) rfl) ?_
 refine l_val rfl rfl rfl (r_move (v := .int .i64 a2) rfl) ?_
 obtain ⟨t13, h_t13, H5⟩ := bnd_some H4; clear H4
 refine l_callG (fun w hF hS => k63 (know_all w) (f0.mono (hw.now hF)) h_t13) Tryz.call63 rfl rfl rfl ?_
 obtain ⟨t14, h_t14, H6⟩ := bnd_some H5; clear H5
 refine l_callG (fun w hF hS => k28 (know_all w) (frs_own (i := 1) rfl hS rfl) h_t14) Tryz.call28 rfl rfl rfl ?_
 refine l_val rfl rfl rfl (r_assign (v := .bool t14) rfl) ?_
 refine l_nil ?_
 refine c_ret ?_
 obtain rfl := Option.some.inj H6
 refine ret1 (v := .bool t14) rfl rfl (fin rfl)
theorem k52 {a0 : (List T_face_Match)} {p0 : Option Addr × Nat} {n0 : Nat} {r : (List T_face_Match)} {w : World} {h : Heap} {S : Nat → Prop} (hcs : (rowV 42 2 (.slice p0.1 n0 p0.2) n0 (a0.map e_face_Match)).P S w) (hlt : ∀ b, S b → b < w.heap.size) (_ : Know h w S) (hn0 : n0 = a0.length) (H : gSortF a0 face_matches_1 = some r) : Does Tryz.prog 52 (List.toArray [.slice p0.1 n0 p0.2, .func (.func 53) #[] #[]]) w (fun v w' => ∃ x : Unit, v = (.tuple #[]) ∧ Turn w w' S (rowV 42 2 (.slice p0.1 n0 p0.2) n0 (r.map e_face_Match))) :=
  sort_func (ρ := Go.Proofs.Tryz.sortF52_ren) Go.Proofs.Tryz.sortF52 (k := 2) (fun w => Tryz.isAgg42 w) (fun w => Tryz.sizeOf42 w) e_face_Match (fun _ => rfl) (fun x v hv => by simp [e_face_Match] at hv; rcases hv with rfl | rfl <;> rfl) Go.Proofs.Tryz.enters53 (fun x y v W hv => Go.Proofs.Tryz.cmpM x y v W hv) hcs hlt hn0 H

theorem k54 {a0 : (List Int)} {v0 : Value} {r : Int} {w : World} {h : Heap} (hw : Know h w noS) (f0 : FrS h 1 v0 (a0.map e_i64)) (H : cmp_Or_int a0 = some r) : Does Tryz.prog 54 (List.toArray [v0]) w (fun v w' => v = (.int .i64 r) ∧ Grow w w') := by
 refine enter (n := 18) Tryz.func54 rfl rfl rfl noS [] (Sat.nil _ _) ?_
 refine c_seq ?_
 refine c_region ?_
 refine l_val rfl rfl rfl (r_assign (v := .int .i64 0) rfl) ?_
 refine l_nil ?_
 refine c_seq ?_
 refine c_region ?_
 refine l_val rfl rfl rfl (r_assign (v := .int .i64 0) rfl) ?_
 refine l_nil ?_
 refine c_seq ?_
 refine c_seq ?_
 refine c_region ?_
 refine l_val rfl rfl rfl (r_move (v := v0) rfl) ?_
 refine l_val rfl rfl rfl (r_lenF Tryz.underlying26 rfl f0 rfl) ?_
 refine l_val rfl rfl rfl (r_move (v := .int .i64 0) rfl) ?_
 refine l_nil ?_
 refine c_block ?_
 refine c_fix (σ := Int) (τ := Unit) (fun next1 s => cmp_Or_int_l1 a0 next1 s) (fun s t => [(3, .int .i64 0), (6, v0), (7, .int .i64 (a0.length : Int)), (8, .int .i64 s)]) (fun s t => []) (fun s t => True) 0 () [] H (by exact trivial) (by exact ⟨rfl, rfl, rfl, rfl, trivial⟩) (by decide) rfl ?_
 rintro x8_2 _ m1 gg H8 _
 clear H
 replace H8 : cmp_Or_int_l1 a0 (it (fun next1 s => cmp_Or_int_l1 a0 next1 s) m1) x8_2 = some r := H8
 generalize hn1 : it (fun next1 s => cmp_Or_int_l1 a0 next1 s) m1 = next1 at H8
 refine c_tidyF [(3, .int .i64 0), (6, v0), (7, .int .i64 (a0.length : Int)), (8, .int .i64 x8_2)] [] rfl rfl ?_
 refine c_seq ?_
 refine c_region ?_
 refine l_val rfl rfl rfl (r_lss rfl rfl) ?_
 refine l_nil ?_
 refine c_seq ?_
 refine c_if (b := (decide (x8_2 < (a0.length : Int)))) rfl (fun hb => ?_) (fun hb => ?_)
 ·have H9 := cnd_t hb H8; clear H8
  refine c_skip ?_
  refine c_seq ?_
  refine c_block ?_
  refine c_seq ?_
  refine c_region ?_
  obtain ⟨t10, h_t10, H10⟩ := bnd_some H9; clear H9
  refine l_val rfl rfl rfl (r_indexF Tryz.underlying26 Tryz.sizeOf3 rfl rfl f0 h_t10) ?_
  refine l_read (fun w hF hS => run_loadG1 (f := e_i64) (i := x8_2) (sz := 1) (j := 0) (v := .int .i64 t10) Tryz.isAgg3 rfl rfl (f0.row (hw.now hF)) h_t10 rfl) rfl rfl rfl ?_
  refine l_val rfl rfl rfl (r_assign (v := .int .i64 t10) rfl) ?_
  refine l_nil ?_
  refine c_seq ?_
  refine c_region ?_
  refine l_val rfl rfl rfl (r_move (v := .int .i64 t10) rfl) ?_
  refine l_val rfl rfl rfl (r_move (v := .int .i64 0) rfl) ?_
  refine l_val rfl rfl rfl (r_neq rfl rfl) ?_
  refine l_nil ?_
  refine c_if (b := (decide (t10 ≠ 0))) rfl (fun hb => ?_) (fun hb => ?_)
  ·have H11 := cnd_t hb H10; clear H10
   refine c_seq ?_
   refine c_region ?_
   refine l_val rfl rfl rfl (r_move (v := .int .i64 t10) rfl) ?_
   refine l_val rfl rfl rfl (r_assign (v := .int .i64 t10) rfl) ?_
   refine l_nil ?_
   refine c_ret ?_
   obtain rfl := Option.some.inj H11
   refine ret1 (v := .int .i64 t10) rfl rfl (fin rfl)
  ·have H12 := cnd_f hb H10; clear H10
   refine c_skip ?_
   refine c_region ?_
   obtain ⟨t16, h_t16, H13⟩ := bnd_some H12; clear H12
   refine l_val rfl rfl rfl (r_addG rfl rfl h_t16) ?_
   refine l_val rfl rfl rfl (r_move (v := .int .i64 t16) rfl) ?_
   refine l_nil ?_
   refine c_close t16 () m1 [] (by exact ⟨rfl, rfl, rfl, rfl, trivial⟩) (by decide) rfl (by exact ⟨(by subst hn1; exact H13), trivial⟩) (Nat.lt_succ_self _)
 ·have H14 := cnd_f hb H8; clear H8
  refine c_exit ?_
  refine c_seq ?_
  refine c_region ?_
  refine l_val rfl rfl rfl (r_move (v := .int .i64 0) rfl) ?_
  refine l_val rfl rfl rfl (r_assign (v := .int .i64 0) rfl) ?_
  refine l_nil ?_
  refine c_ret ?_
  obtain rfl := Option.some.inj H14
  refine ret1 (v := .int .i64 0) rfl rfl (fin rfl)
theorem k55 {a0 : Int} {a1 : Int} {r : Int} (H : cmp_Compare_int a0 a1 = some r) : Ret Tryz.prog 55 [.int .i64 a0, .int .i64 a1] (.int .i64 r) := by
 refine enterRet (n := 20) Tryz.func55 rfl rfl rfl (fun wd => ?_)
 refine c_seq ?_
 refine c_region ?_
 refine l_val rfl rfl rfl (r_assign (v := .int .i64 0) rfl) ?_
 refine l_nil ?_
 refine c_seq ?_
 refine c_region ?_
 refine l_val rfl rfl rfl (r_move (v := .int .i64 a0) rfl) ?_
 obtain ⟨t8, h_t8, H13⟩ := bnd_some H; clear H
 refine l_call (k79 h_t8) Tryz.call79 rfl rfl rfl ?_
 refine l_val rfl rfl rfl (r_assign (v := .bool t8) rfl) ?_
 refine l_nil ?_
 refine c_seq ?_
 refine c_region ?_
 refine l_val rfl rfl rfl (r_move (v := .int .i64 a1) rfl) ?_
 obtain ⟨t10, h_t10, H14⟩ := bnd_some H13; clear H13
 refine l_call (k79 h_t10) Tryz.call79 rfl rfl rfl ?_
 refine l_val rfl rfl rfl (r_assign (v := .bool t10) rfl) ?_
 refine l_nil ?_
 refine c_seq ?_
 refine c_seq ?_
 refine c_region ?_
 refine l_val rfl rfl rfl (r_move (v := .bool t8) rfl) ?_
 refine l_nil ?_
 refine c_if (b := t8) rfl (fun hb => ?_) (fun hb => ?_)
 ·have H15 := cnd_t hb H14; clear H14
  refine c_seq ?_
  refine c_seq ?_
  refine c_region ?_
  refine l_val rfl rfl rfl (r_move (v := .bool t10) rfl) ?_
  refine l_nil ?_
  refine c_if (b := t10) rfl (fun hb => ?_) (fun hb => ?_)
  ·have H16 := cnd_t hb H15; clear H15
   refine c_seq ?_
   refine c_region ?_
   refine l_val rfl rfl rfl (r_assign (v := .int .i64 0) rfl) ?_
   refine l_nil ?_
   refine c_ret ?_
   obtain rfl := Option.some.inj H16
   refine ret1 (v := .int .i64 0) rfl rfl (fin rfl)
  ·have H17 := cnd_f hb H15; clear H15
   refine c_skip ?_
   refine c_seq ?_
   refine c_region ?_
   refine l_val rfl rfl rfl (r_assign (v := .int .i64 (-1)) rfl) ?_
   refine l_nil ?_
   refine c_ret ?_
   obtain rfl := Option.some.inj H17
   refine ret1 (v := .int .i64 (-1)) rfl rfl (fin rfl)
 ·have H18 := cnd_f hb H14; clear H14
  refine c_skip ?_
  refine c_seq ?_
  refine c_seq ?_
  refine c_region ?_
  refine l_val rfl rfl rfl (r_move (v := .bool t10) rfl) ?_
  refine l_nil ?_
  refine c_if (b := t10) rfl (fun hb => ?_) (fun hb => ?_)
  ·have H19 := cnd_t hb H18; clear H18
   refine c_seq ?_
   refine c_region ?_
   refine l_val rfl rfl rfl (r_assign (v := .int .i64 1) rfl) ?_
   refine l_nil ?_
   refine c_ret ?_
   obtain rfl := Option.some.inj H19
   refine ret1 (v := .int .i64 1) rfl rfl (fin rfl)
  ·have H20 := cnd_f hb H18; clear H18
   refine c_skip ?_
   refine c_seq ?_
   refine c_seq ?_
   refine c_region ?_
   refine l_val rfl rfl rfl (r_move (v := .int .i64 a0) rfl) ?_
   refine l_val rfl rfl rfl (r_move (v := .int .i64 a1) rfl) ?_
   refine l_val rfl rfl rfl (r_lss rfl rfl) ?_
   refine l_nil ?_
   refine c_if (b := (decide (a0 < a1))) rfl (fun hb => ?_) (fun hb => ?_)
   ·have H21 := cnd_t hb H20; clear H20
    refine c_seq ?_
    refine c_region ?_
    refine l_val rfl rfl rfl (r_assign (v := .int .i64 (-1)) rfl) ?_
    refine l_nil ?_
    refine c_ret ?_
    obtain rfl := Option.some.inj H21
    refine ret1 (v := .int .i64 (-1)) rfl rfl (fin rfl)
   ·have H22 := cnd_f hb H20; clear H20
    refine c_skip ?_
    refine c_seq ?_
    refine c_seq ?_
    refine c_region ?_
    refine l_val rfl rfl rfl (r_move (v := .int .i64 a0) rfl) ?_
    refine l_val rfl rfl rfl (r_move (v := .int .i64 a1) rfl) ?_
    refine l_val rfl rfl rfl (r_gtr rfl rfl) ?_
    refine l_nil ?_
    refine c_if (b := (decide (a1 < a0))) rfl (fun hb => ?_) (fun hb => ?_)
    ·have H23 := cnd_t hb H22; clear H22
     refine c_seq ?_
     refine c_region ?_
     refine l_val rfl rfl rfl (r_assign (v := .int .i64 1) rfl) ?_
     refine l_nil ?_
     refine c_ret ?_
     obtain rfl := Option.some.inj H23
     refine ret1 (v := .int .i64 1) rfl rfl (fin rfl)
    ·have H24 := cnd_f hb H22; clear H22
     refine c_skip ?_
     refine c_seq ?_
     refine c_region ?_
     refine l_val rfl rfl rfl (r_assign (v := .int .i64 0) rfl) ?_
     refine l_nil ?_
     refine c_ret ?_
     obtain rfl := Option.some.inj H24
     refine ret1 (v := .int .i64 0) rfl rfl (fin rfl)
theorem k53 {a0 : T_face_Match} {a1 : T_face_Match} {r : Int} (H : face_matches_1 a0 a1 = some r) : Ret Tryz.prog 53 [.agg #[.int .i64 a0.Person, .int .i64 a0.Far], .agg #[.int .i64 a1.Person, .int .i64 a1.Far]] (.int .i64 r) := by
 refine enterRet (n := 17) Tryz.func53 rfl rfl rfl (fun wd => ?_)
 refine c_seq ?_
 refine c_region ?_
 refine l_box (cs := [.int .i64 a0.Person, .int .i64 a0.Far]) rfl rfl rfl rfl (fun b3 => ?_)
 refine l_box (cs := [.int .i64 a1.Person, .int .i64 a1.Far]) rfl rfl rfl rfl (fun b4 => ?_)
 refine l_val rfl rfl rfl (r_assign (v := .int .i64 0) rfl) ?_
 refine l_nil ?_
 refine c_seq ?_
 exact c_regionD (Kd.p :: Kd.d [0] _ :: Kd.p :: Kd.d [1] _ :: Kd.d [] _ :: Kd.p :: Kd.d [0] _ :: Kd.p :: Kd.d [1] _ :: Kd.d [] _ :: Kd.ns 2 [_, _] 3 2 :: Kd.d [2] _ :: Kd.p :: []) 1 mixed (by
  refine d_val rfl rfl (r_field Tryz.runUnderlying42 rfl Tryz.sizeOf3 rfl rfl) ?_
  refine d_load1 (i := 0) (v := .int .i64 a0.Far) Tryz.isAgg3 rfl rfl rfl rfl ?_
  refine d_val rfl rfl (r_field Tryz.runUnderlying42 rfl Tryz.sizeOf3 rfl rfl) ?_
  refine d_load1 (i := 1) (v := .int .i64 a1.Far) Tryz.isAgg3 rfl rfl rfl rfl ?_
  have h_t9 := bnd_val H
  have H4 := bnd_rest H
  refine d_call (k55 h_t9) Tryz.call55 rfl rfl ?_
  refine d_val rfl rfl (r_field Tryz.runUnderlying42 rfl Tryz.sizeOf3 rfl rfl) ?_
  refine d_load1 (i := 0) (v := .int .i64 a0.Person) Tryz.isAgg3 rfl rfl rfl rfl ?_
  refine d_val rfl rfl (r_field Tryz.runUnderlying42 rfl Tryz.sizeOf3 rfl rfl) ?_
  refine d_load1 (i := 1) (v := .int .i64 a1.Person) Tryz.isAgg3 rfl rfl rfl rfl ?_
  have h_t14 := bnd_val H4
  have H5 := bnd_rest H4
  refine d_call (k55 h_t14) Tryz.call55 rfl rfl ?_
  refine d_newS rfl rfl (run_buildSlice (vs := [.int .i64 (val (cmp_Compare_int a0.Far a1.Far)), .int .i64 (val (cmp_Compare_int a0.Person a1.Person))]) (cs := [.int .i64 (val (cmp_Compare_int a0.Far a1.Far)), .int .i64 (val (cmp_Compare_int a0.Person a1.Person))]) Tryz.underlying26 Tryz.sizeOf3 Tryz.zeroValue3 rfl rfl rfl rfl rfl) rfl (fun b5 => ?_)
  have h_t16 := bnd_val H5
  have H6 := bnd_rest H5
  refine d_callD (fun w L' hF hS hi => k54 (know_all w) (frs_box (i := 2) (xs := ([(val (cmp_Compare_int a0.Far a1.Far)), (val (cmp_Compare_int a0.Person a1.Person))] : List Int)) (f := e_i64) hS ((hi 2 (by simp)).trans rfl) rfl rfl rfl rfl) h_t16) Tryz.call54 rfl rfl ?_
  refine d_val rfl rfl (r_assign (v := .int .i64 (val (cmp_Or_int ([(val (cmp_Compare_int a0.Far a1.Far)), (val (cmp_Compare_int a0.Person a1.Person))] : List Int)))) rfl) ?_
  refine d_nil ?_
  refine c_ret ?_
  obtain rfl := Option.some.inj H6
  refine ret1 (v := .int .i64 (val (cmp_Or_int ([(val (cmp_Compare_int a0.Far a1.Far)), (val (cmp_Compare_int a0.Person a1.Person))] : List Int)))) rfl rfl (fin rfl)
  ) (by kernel_rfl)
theorem k30 {a0 : (List T_face_Likeness)} {v0 : Value} {a1 : (List T_face_Person)} {v1 : Value} {a2 : Int} {r : (List T_face_Match)} {w : World} {h : Heap} (hw : Know h w noS) (f0 : FrS h 14 v0 (a0.map e_face_Likeness)) (f1 : FrN h 4 v1 g_face_Person a1) (H : face_matches a0 a1 a2 = some r) : Does Tryz.prog 30 (List.toArray [v0, v1, .int .i64 a2]) w (fun v w' => ∃ x : (Option Addr × Nat), v = (.slice x.1 r.length x.2) ∧ Turn w w' noS (rowV 42 2 (.slice x.1 r.length x.2) r.length (r.map e_face_Match))) := by
 refine enter (n := 48) Tryz.func30 rfl rfl rfl noS [] (Sat.nil _ _) ?_
 refine c_seq ?_
 refine c_region ?_
 refine l_val rfl rfl rfl (r_assign (v := .slice none 0 0) rfl) ?_
 refine l_nil ?_
 refine c_seq ?_
 refine c_region ?_
 refine l_val rfl rfl rfl (r_assign (v := .slice none 0 0) rfl) ?_
 refine l_nil ?_
 refine c_meet (r := r) (σ := (List T_face_Match)) (τ := (Option Addr × Nat)) (fun s => face_matches_j1 s) (fun s t => [(7, .slice t.1 s.length t.2)]) (fun s t => [rowV 42 2 (.slice t.1 s.length t.2) s.length (s.map e_face_Match)]) (fun s t => True) ?_ ?_
 ·refine c_seq ?_
  refine c_region ?_
  refine l_val rfl rfl rfl (r_move (v := v1) rfl) ?_
  refine l_val rfl rfl rfl (r_lenFN Tryz.underlying23 rfl f1) ?_
  refine l_val rfl rfl rfl (r_move (v := .int .i64 0) rfl) ?_
  refine l_nil ?_
  refine c_block ?_
  refine c_nilRow 42 2 ?_
  refine c_fix (σ := Int × (List T_face_Match)) (τ := (Option Addr × Nat)) (fun next2 s => face_matches_l2 a0 a1 a2 next2 s.1 s.2) (fun s t => [(0, v0), (2, .int .i64 a2), (7, .slice t.1 s.2.length t.2), (10, v1), (11, .int .i64 (a1.length : Int)), (12, .int .i64 s.1)]) (fun s t => [rowV 42 2 (.slice t.1 s.2.length t.2) s.2.length (s.2.map e_face_Match)]) (fun s t => True) (0, ([] : List T_face_Match)) ((none, 0) : Option Addr × Nat) [0] H (by exact trivial) (by exact ⟨rfl, rfl, rfl, rfl, rfl, rfl, trivial⟩) (by decide) rfl ?_
  rintro ⟨x12_2, l_3⟩ p_2 m2 gg H21 _
  clear H
  replace H21 : face_matches_l2 a0 a1 a2 (it (fun next2 s => face_matches_l2 a0 a1 a2 next2 s.1 s.2) m2) x12_2 l_3 = some r := H21
  generalize hn2 : it (fun next2 s => face_matches_l2 a0 a1 a2 next2 s.1 s.2) m2 = next2 at H21
  refine c_tidyF [(0, v0), (2, .int .i64 a2), (7, .slice p_2.1 l_3.length p_2.2), (10, v1), (11, .int .i64 (a1.length : Int)), (12, .int .i64 x12_2)] [rowV 42 2 (.slice p_2.1 l_3.length p_2.2) l_3.length (l_3.map e_face_Match)] rfl rfl ?_
  refine c_seq ?_
  refine c_region ?_
  refine l_val rfl rfl rfl (r_lss rfl rfl) ?_
  refine l_nil ?_
  refine c_seq ?_
  refine c_if (b := (decide (x12_2 < (a1.length : Int)))) rfl (fun hb => ?_) (fun hb => ?_)
  ·have H22 := cnd_t hb H21; clear H21
   refine c_skip ?_
   refine c_meet (r := r) (σ := (List T_face_Match)) (τ := (Option Addr × Nat)) (fun s => face_matches_j3 x12_2 next2 s) (fun s t => [(0, v0), (2, .int .i64 a2), (7, .slice t.1 s.length t.2), (10, v1), (11, .int .i64 (a1.length : Int)), (12, .int .i64 x12_2)]) (fun s t => [rowV 42 2 (.slice t.1 s.length t.2) s.length (s.map e_face_Match)]) (fun s t => True) ?_ ?_
   ·refine c_block ?_
    refine c_seq ?_
    refine c_region ?_
    obtain ⟨t14, h_t14, H25⟩ := bnd_some H22; clear H22
    refine l_val rfl rfl rfl (r_indexF Tryz.underlying23 Tryz.sizeOf28 rfl rfl f1.frs (f1.ix h_t14)) ?_
    refine l_read (fun w hF hS => run_loadGN (f := (elC h v1 4)) (i := x12_2) (sz := 4) (j := 0) (vs := [.int .i64 t14.Id, str t14.Name, (elH h v1 4 (Int.toNat x12_2) 2), (elH h v1 4 (Int.toNat x12_2) 3)]) Tryz.isAgg28 Tryz.sizeOf28 rfl rfl (f1.frs.row (hw.now hF)) (f1.ix h_t14) (rd_of (cg_face_Person (f1.at h_t14)) rfl)) rfl rfl rfl ?_
    refine l_alloc (cs := [.int .i64 0, str [], .slice none 0 0, .slice none 0 0]) Tryz.zeroValue28 rfl rfl rfl (fun b2 => ?_)
    refine l_store (i := 1) (vs := [.int .i64 t14.Id, str t14.Name, (elH h v1 4 (Int.toNat x12_2) 2), (elH h v1 4 (Int.toNat x12_2) 3)]) (cs' := [.int .i64 t14.Id, str t14.Name, (elH h v1 4 (Int.toNat x12_2) 2), (elH h v1 4 (Int.toNat x12_2) 3)]) Tryz.sizeOf28 rfl rfl rfl rfl rfl rfl (by simp only [List.all_cons, List.all_nil, (show FrS h 1 (elH h v1 4 (Int.toNat x12_2) 2) (t14.Likes.map e_i64) from (g_face_Person_p2 (f1.at h_t14))).one, (show FrS h 1 (elH h v1 4 (Int.toNat x12_2) 3) (t14.Nots.map e_i64) from (g_face_Person_p3 (f1.at h_t14))).one] <;> rfl) rfl rfl ?_
    refine l_nil ?_
    refine c_seq ?_
    refine c_region ?_
    refine l_val rfl rfl rfl (r_field Tryz.runUnderlying28 rfl Tryz.sizeOf26 rfl rfl) ?_
    refine l_load1 (i := 1) (v := (elH h v1 4 (Int.toNat x12_2) 2)) Tryz.isAgg26 rfl rfl rfl rfl rfl ?_
    refine l_val rfl rfl rfl (r_lenF Tryz.underlying26 rfl (show FrS h 1 (elH h v1 4 (Int.toNat x12_2) 2) (t14.Likes.map e_i64) from (g_face_Person_p2 (f1.at h_t14))) rfl) ?_
    refine l_val rfl rfl rfl (r_gtr rfl rfl) ?_
    refine l_val rfl rfl rfl (r_move (v := .bool (decide (0 < (t14.Likes.length : Int)))) rfl) ?_
    refine split (fun hb => ?_) (fun hb => ?_)
    ·have H26 := cnd_t hb H25; clear H25
     refine l_val rfl rfl rfl (r_field Tryz.runUnderlying28 rfl Tryz.sizeOf26 rfl rfl) ?_
     refine l_load1 (i := 1) (v := (elH h v1 4 (Int.toNat x12_2) 3)) Tryz.isAgg26 rfl rfl rfl rfl rfl ?_
     refine l_val rfl rfl rfl (r_move (v := .int .i64 a2) rfl) ?_
     obtain ⟨t24, h_t24, H27⟩ := bnd_some H26; clear H26
     refine l_callG (fun w hF hS => k50 (know_all w) ((show FrS h 1 (elH h v1 4 (Int.toNat x12_2) 3) (t14.Nots.map e_i64) from (g_face_Person_p3 (f1.at h_t14))).mono (hw.now hF)) h_t24) Tryz.call50 rfl rfl rfl ?_
     refine l_val rfl rfl rfl (r_not rfl) ?_
     refine l_val rfl rfl rfl (r_pickT (v := .bool (!t24)) rfl rfl) ?_
     refine l_val rfl rfl rfl (r_move (v := .bool (!t24)) rfl) ?_
     refine split (fun hb => ?_) (fun hb => ?_)
     ·have H28 := cnd_t hb H27; clear H27
      refine l_val rfl rfl rfl (r_move (v := v0) rfl) ?_
      refine l_loadN (i := 1) (vs := [.int .i64 t14.Id, str t14.Name, (elH h v1 4 (Int.toNat x12_2) 2), (elH h v1 4 (Int.toNat x12_2) 3)]) Tryz.isAgg28 Tryz.sizeOf28 rfl rfl rfl rfl rfl ?_
      refine l_val rfl rfl rfl (r_move (v := .int .i64 a2) rfl) ?_
      obtain ⟨t31, h_t31, H29⟩ := bnd_some H28; clear H28
      refine l_callG (fun w hF hS => k51 (know_all w) (f0.mono (hw.now hF)) ((show FrS h 1 (elH h v1 4 (Int.toNat x12_2) 2) (t14.Likes.map e_i64) from (g_face_Person_p2 (f1.at h_t14))).mono (hw.now hF)) ((show FrS h 1 (elH h v1 4 (Int.toNat x12_2) 3) (t14.Nots.map e_i64) from (g_face_Person_p3 (f1.at h_t14))).mono (hw.now hF)) h_t31) Tryz.call51 rfl rfl rfl ?_
      refine l_val rfl rfl rfl (r_not rfl) ?_
      refine l_val rfl rfl rfl (r_pickT (v := .bool (!t31)) rfl rfl) ?_
      refine l_nil ?_
      refine c_if (b := (!t31)) rfl (fun hb => ?_) (fun hb => ?_)
      ·have H30 := cnd_t hb H29; clear H29
       exact c_regionD (Kd.p :: Kd.p :: Kd.d [1] _ :: Kd.p :: Kd.d [1] _ :: Kd.p :: Kd.d [] _ :: Kd.p :: Kd.ns 2 [_, _] 42 1 :: Kd.t 0 [2] _ _ :: Kd.p :: []) 1 mixed (by
        refine d_val rfl rfl (r_move (v := .slice p_2.1 l_3.length p_2.2) rfl) ?_
        refine d_val rfl rfl (r_field Tryz.runUnderlying28 rfl Tryz.sizeOf3 rfl rfl) ?_
        refine d_load1 (i := 1) (v := .int .i64 t14.Id) Tryz.isAgg3 rfl rfl rfl rfl ?_
        refine d_val rfl rfl (r_move (v := v0) rfl) ?_
        refine d_loadN (i := 1) (vs := [.int .i64 t14.Id, str t14.Name, (elH h v1 4 (Int.toNat x12_2) 2), (elH h v1 4 (Int.toNat x12_2) 3)]) Tryz.isAgg28 Tryz.sizeOf28 rfl rfl rfl rfl ?_
        refine d_val rfl rfl (r_move (v := .int .i64 a2) rfl) ?_
        have h_t40 := bnd_val H30
        have H31 := bnd_rest H30
        refine d_callD (fun w L' hF hS hi => k21 (know_all w) (f0.mono (hw.now hF)) ((show FrS h 1 (elH h v1 4 (Int.toNat x12_2) 2) (t14.Likes.map e_i64) from (g_face_Person_p2 (f1.at h_t14))).mono (hw.now hF)) ((show FrS h 1 (elH h v1 4 (Int.toNat x12_2) 3) (t14.Nots.map e_i64) from (g_face_Person_p3 (f1.at h_t14))).mono (hw.now hF)) h_t40) Tryz.call21 rfl rfl ?_
        refine d_val rfl rfl (r_build (pl := #[(0, 1), (1, 1)]) (ps := [(0, .int .i64 t14.Id), (1, .int .i64 (val (face_score a0 t14 a2)))]) (cells := #[.int .i64 t14.Id, .int .i64 (val (face_score a0 t14 a2))]) Tryz.zeroValue42 Tryz.runUnderlying42 (fun w => by kernel_rfl) rfl rfl) ?_
        refine d_newS rfl rfl (run_buildSlice (vs := [.agg #[.int .i64 t14.Id, .int .i64 (val (face_score a0 t14 a2))]]) (cs := [.int .i64 t14.Id, .int .i64 (val (face_score a0 t14 a2))]) Tryz.underlying37 Tryz.sizeOf42 Tryz.zeroValue42 rfl rfl rfl rfl rfl) rfl (fun b3 => ?_)
        have h_l43 := bnd_val H31
        have H32 := bnd_rest H31
        refine d_turn (Cv := fun v => rowV 42 2 v (val (gApp 16 l_3 ([(⟨t14.Id, (val (face_score a0 t14 a2))⟩ : T_face_Match)] : List T_face_Match))).length ((val (gApp 16 l_3 ([(⟨t14.Id, (val (face_score a0 t14 a2))⟩ : T_face_Match)] : List T_face_Match))).map e_face_Match)) (none, 0) (turns_appG (i := 0) (hn := rfl) (rds := [2]) (p := p_2) (sz := 2) (by_ := 16) (f := e_face_Match) (ys := l_3) (ls := ([(⟨t14.Id, (val (face_score a0 t14 a2))⟩ : T_face_Match)] : List T_face_Match)) (V := .slice (some ⟨b3, 0, none⟩) 1 1) Tryz.underlying37 (info_of Tryz.typeInfo42) rfl rfl rfl rfl rfl rfl rfl rfl rfl rfl (fun w L' hF hS hi => row_box (i := 2) hS ((hi 2 (by simp)).trans rfl) rfl rfl) (fun _ => rfl) (fun _ => rfl) h_l43) (fun _ => rfl) rfl rfl (fun p_4 => ?_)
        refine d_val rfl rfl (r_assign (v := .slice p_4.1 (val (gApp 16 l_3 ([(⟨t14.Id, (val (face_score a0 t14 a2))⟩ : T_face_Match)] : List T_face_Match))).length p_4.2) rfl) ?_
        refine d_nil ?_
        refine c_close (val (gApp 16 l_3 ([(⟨t14.Id, (val (face_score a0 t14 a2))⟩ : T_face_Match)] : List T_face_Match))) p_4 0 [0] (by exact ⟨rfl, rfl, rfl, rfl, rfl, rfl, trivial⟩) (by decide) rfl (by exact ⟨H32, trivial⟩) (Nat.lt_succ_self _)
        ) (by kernel_rfl)
      ·have H33 := cnd_f hb H29; clear H29
       refine c_skip ?_
       refine c_close l_3 p_2 0 [0] (by exact ⟨rfl, rfl, rfl, rfl, rfl, rfl, trivial⟩) (by decide) rfl (by exact ⟨H33, trivial⟩) (Nat.lt_succ_self _)
     ·have H34 := cnd_f hb H27; clear H27
      refine l_passed rfl rfl rfl ?_
      refine l_passed rfl rfl rfl ?_
      refine l_passed rfl rfl rfl ?_
      refine l_passed rfl rfl rfl ?_
      refine l_passed rfl rfl rfl ?_
      refine l_val rfl rfl rfl (r_pickF (v := .bool false) rfl rfl) ?_
      refine l_nil ?_
      refine c_false rfl ?_
      refine c_skip ?_
      refine c_close l_3 p_2 0 [0] (by exact ⟨rfl, rfl, rfl, rfl, rfl, rfl, trivial⟩) (by decide) rfl (by exact ⟨H34, trivial⟩) (Nat.lt_succ_self _)
    ·have H35 := cnd_f hb H25; clear H25
     refine l_passed rfl rfl rfl ?_
     refine l_passed rfl rfl rfl ?_
     refine l_passed rfl rfl rfl ?_
     refine l_passed rfl rfl rfl ?_
     refine l_passed rfl rfl rfl ?_
     refine l_val rfl rfl rfl (r_pickF (v := .bool false) rfl rfl) ?_
     refine l_val rfl rfl rfl (r_move (v := .bool false) rfl) ?_
     refine l_passed rfl rfl rfl ?_
     refine l_passed rfl rfl rfl ?_
     refine l_passed rfl rfl rfl ?_
     refine l_passed rfl rfl rfl ?_
     refine l_passed rfl rfl rfl ?_
     refine l_val rfl rfl rfl (r_pickF (v := .bool false) rfl rfl) ?_
     refine l_nil ?_
     refine c_false rfl ?_
     refine c_skip ?_
     refine c_close l_3 p_2 0 [0] (by exact ⟨rfl, rfl, rfl, rfl, rfl, rfl, trivial⟩) (by decide) rfl (by exact ⟨H35, trivial⟩) (Nat.lt_succ_self _)
   ·rintro l_4 p_3 gg H23 _
    replace H23 : face_matches_j3 x12_2 next2 l_4 = some r := H23
    refine c_tidyF [(0, v0), (2, .int .i64 a2), (7, .slice p_3.1 l_4.length p_3.2), (10, v1), (11, .int .i64 (a1.length : Int)), (12, .int .i64 x12_2)] [rowV 42 2 (.slice p_3.1 l_4.length p_3.2) l_4.length (l_4.map e_face_Match)] rfl rfl ?_
    refine c_region ?_
    obtain ⟨t44, h_t44, H24⟩ := bnd_some H23; clear H23
    refine l_val rfl rfl rfl (r_addG rfl rfl h_t44) ?_
    refine l_val rfl rfl rfl (r_move (v := .int .i64 t44) rfl) ?_
    refine l_nil ?_
    refine c_close (t44, l_4) p_3 m2 [0] (by exact ⟨rfl, rfl, rfl, rfl, rfl, rfl, trivial⟩) (by decide) rfl (by exact ⟨(by subst hn2; exact H24), trivial⟩) (Nat.lt_succ_self _)
  ·have H36 := cnd_f hb H21; clear H21
   refine c_exit ?_
   refine c_close l_3 p_2 0 [0] (by exact ⟨rfl, trivial⟩) (by decide) rfl (by exact ⟨H36, trivial⟩) (Nat.lt_succ_self _)
 ·rintro l p gg H19 _
  replace H19 : face_matches_j1 l = some r := H19
  refine c_tidyF [(7, .slice p.1 l.length p.2)] [rowV 42 2 (.slice p.1 l.length p.2) l.length (l.map e_face_Match)] rfl rfl ?_
  refine c_seq ?_
  refine c_region ?_
  refine l_val rfl rfl rfl (r_move (v := .slice p.1 l.length p.2) rfl) ?_
  obtain ⟨t46, h_t46, H20⟩ := bnd_some H19; clear H19
  refine l_turn (turns_callB (i := 0) (rds := []) (G := fun x : Unit => .tuple #[]) (C := fun x : Unit => rowV 42 2 (.slice p.1 l.length p.2) l.length (t46.map e_face_Match)) rfl (fun w L' S hF hS hi hp hlt ho hA => k52 hp hlt (know_but w S) rfl h_t46) Tryz.call52 rfl) rfl rfl rfl (fun _ => ?_)
  refine c_know (fun w hF hS => lenOf (i := 0) hS rfl) (fun hl_ => ?_)
  have hl : l.length = t46.length := by simpa using hl_.symm
  refine l_nil ?_
  refine c_seq ?_
  refine c_region ?_
  refine l_val rfl rfl rfl (r_move (v := .slice p.1 l.length p.2) rfl) ?_
  refine l_val rfl rfl rfl (r_assign (v := .slice p.1 l.length p.2) rfl) ?_
  refine l_nil ?_
  refine c_ret ?_
  obtain rfl := Option.some.inj H20
  refine ret1 (v := .slice p.1 l.length p.2) rfl rfl (finX p (i := 0) rfl (by first | rfl | rw [(show l.length = t46.length from hl)]) (by first | exact Imp.refl _ | exact Imp.of (by rw [(show l.length = t46.length from hl)])))
theorem k31 {a : Option Addr} {n c : Nat} (hc : n ≤ c) : Ret Tryz.prog 31 [.slice a n c] (.slice (cutA a 0 n 2) n n) := by
  refine enterRet (n := 9) Tryz.func31 rfl rfl rfl (fun wd => ?_)
  refine c_seq ?_
  refine c_region ?_
  refine l_val rfl rfl rfl (r_assign (v := .slice none 0 0) rfl) ?_
  refine l_nil ?_
  refine c_seq ?_
  refine c_region ?_
  refine l_val rfl rfl rfl (r_move (v := .slice a n c) rfl) ?_
  refine l_val rfl rfl rfl (r_move (v := .slice a n c) rfl) ?_
  refine l_val rfl rfl rfl (r_len Tryz.underlying37 rfl) ?_
  refine l_val rfl rfl rfl (r_move (v := .slice a n c) rfl) ?_
  refine l_val rfl rfl rfl (r_len Tryz.underlying37 rfl) ?_
  refine l_val rfl rfl rfl (r_sliceHM (a := a) (m := n) (c := c) (h := (n : Int)) (q := (n : Int)) Tryz.underlying37 Tryz.sizeOf42 rfl rfl rfl (Int.natCast_nonneg n) (Int.le_refl _) (Int.ofNat_le.2 hc)) ?_
  refine l_val rfl rfl rfl (r_assign (v := .slice (cutA a 0 n 2) n n) rfl) ?_
  refine l_nil ?_
  refine c_ret ?_
  exact ret1 (v := .slice (cutA a 0 n 2) n n) rfl rfl (fin rfl)

theorem k12 {a0 : (List T_face_Likeness)} {v0 : Value} {a1 : (List T_face_Person)} {v1 : Value} {a2 : Int} {r : (List T_face_Match) × Int} {w : World} {h : Heap} (hw : Know h w noS) (f0 : FrS h 14 v0 (a0.map e_face_Likeness)) (f1 : FrN h 4 v1 g_face_Person a1) (H : face_Suggest a0 a1 a2 = some r) : Does Tryz.prog 12 (List.toArray [v0, v1, .int .i64 a2]) w (fun v w' => ∃ x : (Option Addr × Nat), v = (.tuple #[.slice x.1 r.1.length x.2, .int .i64 r.2]) ∧ Turn w w' noS (roV 2 (.slice x.1 r.1.length x.2) r.1.length (r.1.map e_face_Match))) := by
 refine enter (n := 40) Tryz.func12 rfl rfl rfl noS [] (Sat.nil _ _) ?_
 refine c_seq ?_
 refine c_region ?_
 refine l_val rfl rfl rfl (r_assign (v := .slice none 0 0) rfl) ?_
 refine l_val rfl rfl rfl (r_assign (v := .int .i64 0) rfl) ?_
 refine l_nil ?_
 refine c_seq ?_
 refine c_seq ?_
 refine c_region ?_
 refine l_val rfl rfl rfl (r_move (v := v0) rfl) ?_
 refine l_val rfl rfl rfl (r_move (v := v1) rfl) ?_
 obtain ⟨t14, h_t14, H23⟩ := bnd_some H; clear H
 refine l_callG (fun w hF hS => k14 (know_all w) (f0.mono (hw.now hF)) (f1.mono (hw.now hF)) h_t14) Tryz.call14 rfl rfl rfl ?_
 refine l_val rfl rfl rfl (r_assign (v := .int .i64 t14) rfl) ?_
 refine l_nil ?_
 refine c_seq ?_
 refine c_region ?_
 refine l_val rfl rfl rfl (r_move (v := .int .i64 t14) rfl) ?_
 refine l_val rfl rfl rfl (r_neq rfl rfl) ?_
 refine l_nil ?_
 refine c_if (b := (decide (t14 ≠ 0))) rfl (fun hb => ?_) (fun hb => ?_)
 ·have H24 := cnd_t hb H23; clear H23
  refine c_seq ?_
  refine c_region ?_
  refine l_val rfl rfl rfl (r_move (v := .int .i64 t14) rfl) ?_
  refine l_val rfl rfl rfl (r_assign (v := .slice none 0 0) rfl) ?_
  refine l_val rfl rfl rfl (r_assign (v := .int .i64 t14) rfl) ?_
  refine l_nil ?_
  refine c_ret ?_
  refine c_nilRow 42 2 ?_
  obtain rfl := Option.some.inj H24
  refine c_imp 0 rfl (row_ro _ _ _ _ _) ?_
  refine ret2 (v1 := .slice ((none, 0) : Option Addr × Nat).1 ([] : List T_face_Match).length ((none, 0) : Option Addr × Nat).2) (v2 := .int .i64 t14) rfl rfl rfl (finX ((none, 0) : Option Addr × Nat) (i := 0) rfl rfl (Imp.refl _))
 ·have H25 := cnd_f hb H23; clear H23
  refine c_skip ?_
  refine c_seq ?_
  refine c_seq ?_
  refine c_region ?_
  refine l_val rfl rfl rfl (r_move (v := v0) rfl) ?_
  refine l_val rfl rfl rfl (r_move (v := .int .i64 a2) rfl) ?_
  obtain ⟨t21, h_t21, H26⟩ := bnd_some H25; clear H25
  refine l_callG (fun w hF hS => k20 (know_all w) (f0.mono (hw.now hF)) h_t21) Tryz.call20 rfl rfl rfl ?_
  refine l_val rfl rfl rfl (r_move (v := .tuple #[.int .i64 t21.1, .bool t21.2]) rfl) ?_
  refine l_val rfl rfl rfl (r_extract (v := .int .i64 t21.1) rfl rfl) ?_
  refine l_val rfl rfl rfl (r_extract (v := .bool t21.2) rfl rfl) ?_
  refine l_val rfl rfl rfl (r_assign (v := .int .i64 t21.1) rfl) ?_
  refine l_val rfl rfl rfl (r_assign (v := .bool t21.2) rfl) ?_
  refine l_nil ?_
  refine c_seq ?_
  refine c_region ?_
  refine l_val rfl rfl rfl (r_move (v := .bool t21.2) rfl) ?_
  refine l_val rfl rfl rfl (r_not rfl) ?_
  refine l_nil ?_
  refine c_if (b := (!t21.2)) rfl (fun hb => ?_) (fun hb => ?_)
  ·have H27 := cnd_t hb H26; clear H26
   refine c_seq ?_
   refine c_region ?_
   refine l_val rfl rfl rfl (r_assign (v := .slice none 0 0) rfl) ?_
   refine l_val rfl rfl rfl (r_assign (v := .int .i64 7) rfl) ?_
   refine l_nil ?_
   refine c_ret ?_
   refine c_nilRow 42 2 ?_
   obtain rfl := Option.some.inj H27
   refine c_imp 0 rfl (row_ro _ _ _ _ _) ?_
   refine ret2 (v1 := .slice ((none, 0) : Option Addr × Nat).1 ([] : List T_face_Match).length ((none, 0) : Option Addr × Nat).2) (v2 := .int .i64 7) rfl rfl rfl (finX ((none, 0) : Option Addr × Nat) (i := 0) rfl rfl (Imp.refl _))
  ·have H28 := cnd_f hb H26; clear H26
   refine c_skip ?_
   refine c_seq ?_
   refine c_seq ?_
   refine c_region ?_
   refine l_val rfl rfl rfl (r_move (v := v1) rfl) ?_
   refine l_val rfl rfl rfl (r_move (v := .int .i64 a2) rfl) ?_
   obtain ⟨t28, h_t28, H29⟩ := bnd_some H28; clear H28
   refine l_callG (fun w hF hS => k29 (know_all w) (f1.mono (hw.now hF)) h_t28) Tryz.call29 rfl rfl rfl ?_
   refine l_val rfl rfl rfl (r_geq rfl rfl) ?_
   refine l_nil ?_
   refine c_if (b := (decide (0 ≤ t28))) rfl (fun hb => ?_) (fun hb => ?_)
   ·have H30 := cnd_t hb H29; clear H29
    refine c_seq ?_
    refine c_region ?_
    refine l_val rfl rfl rfl (r_assign (v := .slice none 0 0) rfl) ?_
    refine l_val rfl rfl rfl (r_assign (v := .int .i64 11) rfl) ?_
    refine l_nil ?_
    refine c_ret ?_
    refine c_nilRow 42 2 ?_
    obtain rfl := Option.some.inj H30
    refine c_imp 0 rfl (row_ro _ _ _ _ _) ?_
    refine ret2 (v1 := .slice ((none, 0) : Option Addr × Nat).1 ([] : List T_face_Match).length ((none, 0) : Option Addr × Nat).2) (v2 := .int .i64 11) rfl rfl rfl (finX ((none, 0) : Option Addr × Nat) (i := 0) rfl rfl (Imp.refl _))
   ·have H31 := cnd_f hb H29; clear H29
    refine c_skip ?_
    refine c_seq ?_
    refine c_region ?_
    refine l_val rfl rfl rfl (r_move (v := v0) rfl) ?_
    refine l_val rfl rfl rfl (r_move (v := v1) rfl) ?_
    refine l_val rfl rfl rfl (r_move (v := .int .i64 a2) rfl) ?_
    obtain ⟨t33, h_t33, H32⟩ := bnd_some H31; clear H31
    refine l_make (makes_call (rds := []) (G := fun x : (Option Addr × Nat) => .slice x.1 t33.length x.2) (C := fun x : (Option Addr × Nat) => rowV 42 2 (.slice x.1 t33.length x.2) t33.length (t33.map e_face_Match)) (fun w L' hF hS hi => k30 (know_all w) (f0.mono (hw.now hF)) (f1.mono (hw.now hF)) h_t33) Tryz.call30 rfl) rfl rfl rfl (fun p => ?_)
    refine l_val rfl rfl rfl (r_assign (v := .slice p.1 t33.length p.2) rfl) ?_
    refine l_nil ?_
    refine c_seq ?_
    refine c_region ?_
    refine l_val rfl rfl rfl (r_move (v := .slice p.1 t33.length p.2) rfl) ?_
    refine l_val rfl rfl rfl (r_move (v := .slice p.1 t33.length p.2) rfl) ?_
    refine l_val rfl rfl rfl (r_len Tryz.underlying37 rfl) ?_
    refine l_val rfl rfl rfl (r_min rfl rfl) ?_
    obtain ⟨t38, h_t38, H33⟩ := bnd_some H32; clear H32
    refine l_read (v := .slice p.1 t38.length p.2) (fun w hF hS => run_sliceHO0 (xs := t33) Tryz.underlying37 Tryz.sizeOf42 rfl rfl rfl (capOf (i := 0) hS rfl) h_t38) rfl rfl rfl ?_
    refine c_imp 0 rfl (imp_shrink rfl h_t38) ?_
    refine c_imp 0 rfl (imp_rowC _ _ _ _ _ _) ?_
    refine l_callG (fun w hF hS => k31 (capOf (i := 0) hS rfl) w) Tryz.call31 rfl rfl rfl ?_
    refine l_val rfl rfl rfl (r_assign (v := .slice (cutA p.1 0 t38.length 2) t38.length t38.length) rfl) ?_
    refine l_val rfl rfl rfl (r_assign (v := .int .i64 0) rfl) ?_
    refine l_nil ?_
    refine c_ret ?_
    obtain rfl := Option.some.inj H33
    refine c_imp 0 rfl (imp_clipO _ _ _ _ _ _) ?_
    refine ret2 (v1 := .slice (cutA p.1 0 t38.length 2) t38.length t38.length) (v2 := .int .i64 0) rfl rfl rfl (finX (cutA p.1 0 t38.length 2, t38.length) (i := 0) rfl rfl (Imp.refl _))
theorem k56 {q0 : Int} {c0 : Nat} {a0 : T_face_Person} {v0_2 : Value} {v0_3 : Value} {r : Bool} {w : World} {h : Heap} (hw : Know h w noS) (hc0 : h c0 = some (.cells (List.toArray [.int .i64 q0]) 3 (0, 0))) (f0_2 : FrS h 1 v0_2 (a0.Likes.map e_i64)) (f0_3 : FrS h 1 v0_3 (a0.Nots.map e_i64)) (H : R_OwnerOf_1 q0 a0 = some r) : Does Tryz.prog 56 (List.toArray [.agg #[.int .i64 a0.Id, str a0.Name, v0_2, v0_3], .pointer (some ⟨c0, 0, none⟩)]) w (fun v w' => v = (.bool r) ∧ Grow w w') := by
 refine enter (n := 8) Tryz.func56 rfl rfl rfl noS [] (Sat.nil _ _) ?_
 refine c_seq ?_
 refine c_region ?_
 refine l_box (cs := [.int .i64 a0.Id, str a0.Name, v0_2, v0_3]) rfl rfl rfl rfl (fun b1 => ?_)
 refine l_val rfl rfl rfl (r_assign (v := .bool false) rfl) ?_
 refine l_nil ?_
 refine c_seq ?_
 refine c_region ?_
 refine l_val rfl rfl rfl (r_field Tryz.runUnderlying28 rfl Tryz.sizeOf26 rfl rfl) ?_
 refine l_load1 (i := 0) (v := v0_2) Tryz.isAgg26 rfl rfl rfl rfl rfl ?_
 refine l_read (fun w hF hS => run_loadK1 (v := .int .i64 q0) Tryz.isAgg3 rfl (hw.now hF _ _ hc0) rfl) rfl rfl rfl ?_
 obtain ⟨t7, h_t7, H2⟩ := bnd_some H; clear H
 refine l_callG (fun w hF hS => k28 (know_all w) (f0_2.mono (hw.now hF)) h_t7) Tryz.call28 rfl rfl rfl ?_
 refine l_val rfl rfl rfl (r_assign (v := .bool t7) rfl) ?_
 refine l_nil ?_
 refine c_ret ?_
 obtain rfl := Option.some.inj H2
 refine ret1 (v := .bool t7) rfl rfl (fin rfl)
theorem k32 {a0 : (List T_face_Person)} {v0 : Value} {a1 : Int} {r : Int} {w : World} {h : Heap} (hw : Know h w noS) (f0 : FrN h 4 v0 g_face_Person a0) (H : R_OwnerOf a0 a1 = some r) : Does Tryz.prog 32 (List.toArray [v0, .int .i64 a1]) w (fun v w' => v = (.int .i64 r) ∧ Grow w w') := by
 refine enter (n := 8) Tryz.func32 rfl rfl rfl noS [] (Sat.nil _ _) ?_
 refine c_seq ?_
 refine c_region ?_
 refine l_box (cs := [.int .i64 a1]) rfl rfl rfl rfl (fun b1 => ?_)
 refine l_val rfl rfl rfl (r_assign (v := .int .i64 0) rfl) ?_
 refine l_nil ?_
 refine c_seq ?_
 refine c_region ?_
 refine l_val rfl rfl rfl (r_move (v := v0) rfl) ?_
 refine l_val rfl rfl rfl (r_makeFn (caps := #[.pointer (some ⟨b1, 0, none⟩)]) rfl) ?_
 obtain ⟨t7, h_t7, H2⟩ := bnd_some H; clear H
 refine l_callG (fun w hF hS => k48 (know_all w) (f0.mono (hw.now hF)) (FnH.mk ⟨56, #[], #[.pointer (some ⟨b1, 0, none⟩)], rfl, Tryz.call56, fun args2 post2 w2 hk2 hR2 => by obtain ⟨a0_, v0_2_, v0_3_, r_, fa0_2_, fa0_3_, rfl, H_, rfl⟩ := hR2; exact k56 (know_all w2) (hk2.up _ _ (sat_cell (i := 0) hS rfl)) fa0_2_ fa0_3_ H_⟩) h_t7) Tryz.call48 rfl rfl rfl ?_
 refine l_val rfl rfl rfl (r_assign (v := .int .i64 t7) rfl) ?_
 refine l_nil ?_
 refine c_ret ?_
 obtain rfl := Option.some.inj H2
 refine ret1 (v := .int .i64 t7) rfl rfl (fin rfl)
theorem k80 {q0 : (List T_face_Likeness)} {vq0 : Value} {c0 : Nat} {q1 : Int} {c1 : Nat} {a0 : Int} {r : Bool} {w : World} {h : Heap} (hw : Know h w noS) (fq0 : FrS h 14 vq0 (q0.map e_face_Likeness)) (hc0 : h c0 = some (.cells (List.toArray [vq0]) 22 (0, 0))) (hc1 : h c1 = some (.cells (List.toArray [.int .i64 q1]) 3 (0, 0))) (H : R_InPhoto_1 q0 q1 a0 = some r) : Does Tryz.prog 80 (List.toArray [.int .i64 a0, .pointer (some ⟨c0, 0, none⟩), .pointer (some ⟨c1, 0, none⟩)]) w (fun v w' => v = (.bool r) ∧ Grow w w') := by
 refine enter (n := 14) Tryz.func80 rfl rfl rfl noS [] (Sat.nil _ _) ?_
 refine c_seq ?_
 refine c_region ?_
 refine l_val rfl rfl rfl (r_assign (v := .bool false) rfl) ?_
 refine l_nil ?_
 refine c_seq ?_
 exact c_regionD (Kd.d [] _ :: Kd.d [] _ :: Kd.p :: Kd.d [] _ :: Kd.p :: Kd.p :: Kd.d [] _ :: Kd.d [] _ :: Kd.p :: Kd.p :: []) 0 mixed (by
  refine d_read (fun w hF => run_loadK1 (v := vq0) Tryz.isAgg22 rfl (hw.now hF _ _ hc0) rfl) rfl rfl ?_
  refine d_read (fun w hF => run_loadK1 (v := vq0) Tryz.isAgg22 rfl (hw.now hF _ _ hc0) rfl) rfl rfl ?_
  refine d_val rfl rfl (r_move (v := .int .i64 a0) rfl) ?_
  have h_t8 := bnd_val H
  have H3 := bnd_rest H
  refine d_callD (fun w L' hF hS hi => k6 (know_all w) (fq0.mono (hw.now hF)) h_t8) Tryz.call6 rfl rfl ?_
  have h_t9 := bnd_val H3
  have H4 := bnd_rest H3
  refine d_val rfl rfl (r_indexF Tryz.underlying22 Tryz.sizeOf47 rfl rfl fq0 h_t9) ?_
  refine d_val rfl rfl (r_fieldP Tryz.runUnderlying47 rfl Tryz.sizeOf3 rfl rfl (some_of_at fq0 h_t9)) ?_
  refine d_read (fun w hF => run_loadG1 (f := e_face_Likeness) (i := (val (R_LikeAt q0 a0))) (sz := 14) (j := 1) (v := .int .i64 (val (gAt q0 (val (R_LikeAt q0 a0)))).Photo) Tryz.isAgg3 rfl rfl (fq0.row (hw.now hF)) h_t9 rfl) rfl rfl ?_
  refine d_read (fun w hF => run_loadK1 (v := .int .i64 q1) Tryz.isAgg3 rfl (hw.now hF _ _ hc1) rfl) rfl rfl ?_
  refine d_val rfl rfl (r_eql rfl rfl) ?_
  refine d_val rfl rfl (r_assign (v := .bool (decide ((val (gAt q0 (val (R_LikeAt q0 a0)))).Photo = q1))) rfl) ?_
  refine d_nil ?_
  refine c_ret ?_
  obtain rfl := Option.some.inj H4
  refine ret1 (v := .bool (decide ((val (gAt q0 (val (R_LikeAt q0 a0)))).Photo = q1))) rfl rfl (fin rfl)
  ) (by kernel_rfl)
theorem k57 {a0 : (List T_face_Likeness)} {v0 : Value} {a1 : T_face_Person} {v1_2 : Value} {v1_3 : Value} {a2 : Int} {r : Bool} {w : World} {h : Heap} (hw : Know h w noS) (f0 : FrS h 14 v0 (a0.map e_face_Likeness)) (f1_2 : FrS h 1 v1_2 (a1.Likes.map e_i64)) (f1_3 : FrS h 1 v1_3 (a1.Nots.map e_i64)) (H : R_InPhoto a0 a1 a2 = some r) : Does Tryz.prog 57 (List.toArray [v0, .agg #[.int .i64 a1.Id, str a1.Name, v1_2, v1_3], .int .i64 a2]) w (fun v w' => v = (.bool r) ∧ Grow w w') := by
 refine enter (n := 11) Tryz.func57 rfl rfl rfl noS [] (Sat.nil _ _) ?_
 refine c_seq ?_
 refine c_region ?_
 refine l_box (cs := [v0]) rfl rfl rfl f0.cells (fun b3 => ?_)
 refine l_box (cs := [.int .i64 a1.Id, str a1.Name, v1_2, v1_3]) rfl rfl rfl rfl (fun b4 => ?_)
 refine l_box (cs := [.int .i64 a2]) rfl rfl rfl rfl (fun b5 => ?_)
 refine l_val rfl rfl rfl (r_assign (v := .bool false) rfl) ?_
 refine l_nil ?_
 refine c_seq ?_
 refine c_region ?_
 refine l_val rfl rfl rfl (r_field Tryz.runUnderlying28 rfl Tryz.sizeOf26 rfl rfl) ?_
 refine l_load1 (i := 1) (v := v1_2) Tryz.isAgg26 rfl rfl rfl rfl rfl ?_
 refine l_val rfl rfl rfl (r_makeFn (caps := #[.pointer (some ⟨b3, 0, none⟩), .pointer (some ⟨b5, 0, none⟩)]) rfl) ?_
 obtain ⟨t10, h_t10, H2⟩ := bnd_some H; clear H
 refine l_callG (fun w hF hS => k7 (know_all w) (f1_2.mono (hw.now hF)) (FnH.mk ⟨80, #[], #[.pointer (some ⟨b3, 0, none⟩), .pointer (some ⟨b5, 0, none⟩)], rfl, Tryz.call80, fun args2 post2 w2 hk2 hR2 => by obtain ⟨a0_, r_, rfl, H_, rfl⟩ := hR2; exact k80 (know_all w2) ((f0.mono (hw.now hF)).mono hk2.up) (hk2.up _ _ (sat_cell (i := 0) hS rfl)) (hk2.up _ _ (sat_cell (i := 2) hS rfl)) H_⟩) h_t10) Tryz.call7 rfl rfl rfl ?_
 refine l_val rfl rfl rfl (r_assign (v := .bool t10) rfl) ?_
 refine l_nil ?_
 refine c_ret ?_
 obtain rfl := Option.some.inj H2
 refine ret1 (v := .bool t10) rfl rfl (fin rfl)
theorem k90 {a0 : (List T_face_Match)} {p0 : Option Addr × Nat} {n0 : Nat} {a1 : Int} {a2 : Int} {a3 : (T_face_Match → T_face_Match → Option (Int))} {v3 : Value} {r : (List T_face_Match)} {w : World} {h : Heap} {S : Nat → Prop} (hcs : (rowV 42 2 (.slice p0.1 n0 p0.2) n0 (a0.map e_face_Match)).P S w) (hlt : ∀ b, S b → b < w.heap.size) (hw : Know h w S) (hn0 : n0 = a0.length) (f3 : FnH Tryz.prog h v3 (fnR_func_face_Match_face_Match_int a3)) (H : slices_insertionSortCmpFunc_face_Match a0 a1 a2 a3 = some r) : Does Tryz.prog 90 (List.toArray [.slice p0.1 n0 p0.2, .int .i64 a1, .int .i64 a2, v3]) w (fun v w' => ∃ x : Unit, v = (.tuple #[]) ∧ Turn w w' S (rowV 42 2 (.slice p0.1 n0 p0.2) n0 (r.map e_face_Match))) := by
 refine enter (n := 53) Tryz.func90 rfl rfl rfl S [rowV 42 2 (.slice p0.1 n0 p0.2) n0 (a0.map e_face_Match)] (Sat.one hcs hlt) ?_
 refine c_seq ?_
 refine c_region ?_
 refine l_val rfl rfl rfl (r_move (v := .int .i64 a1) rfl) ?_
 obtain ⟨t11, h_t11, H25⟩ := bnd_some H; clear H
 refine l_val rfl rfl rfl (r_addG rfl rfl h_t11) ?_
 refine l_val rfl rfl rfl (r_assign (v := .int .i64 t11) rfl) ?_
 refine l_nil ?_
 refine c_block ?_
 refine c_fix (σ := Int × (List T_face_Match)) (τ := Unit) (fun next1 s => slices_insertionSortCmpFunc_face_Match_l1 a1 a2 a3 next1 s.1 s.2) (fun s t => [(0, .slice p0.1 n0 p0.2), (1, .int .i64 a1), (2, .int .i64 a2), (3, v3), (8, .int .i64 s.1)]) (fun s t => [rowV 42 2 (.slice p0.1 n0 p0.2) n0 (s.2.map e_face_Match)]) (fun s t => n0 = s.2.length) (t11, a0) () [0] H25 (by exact hn0) (by exact ⟨rfl, rfl, rfl, rfl, rfl, trivial⟩) (by decide) rfl ?_
 rintro ⟨x8_2, l_2⟩ _ m1 gg H26 hl_2
 clear H25
 replace H26 : slices_insertionSortCmpFunc_face_Match_l1 a1 a2 a3 (it (fun next1 s => slices_insertionSortCmpFunc_face_Match_l1 a1 a2 a3 next1 s.1 s.2) m1) x8_2 l_2 = some r := H26
 generalize hn1 : it (fun next1 s => slices_insertionSortCmpFunc_face_Match_l1 a1 a2 a3 next1 s.1 s.2) m1 = next1 at H26
 refine c_tidyF [(0, .slice p0.1 n0 p0.2), (1, .int .i64 a1), (2, .int .i64 a2), (3, v3), (8, .int .i64 x8_2)] [rowV 42 2 (.slice p0.1 n0 p0.2) n0 (l_2.map e_face_Match)] rfl rfl ?_
 refine c_seq ?_
 refine c_seq ?_
 refine c_region ?_
 refine l_val rfl rfl rfl (r_move (v := .int .i64 x8_2) rfl) ?_
 refine l_val rfl rfl rfl (r_move (v := .int .i64 a2) rfl) ?_
 refine l_val rfl rfl rfl (r_lss rfl rfl) ?_
 refine l_nil ?_
 refine c_if (b := (decide (x8_2 < a2))) rfl (fun hb => ?_) (fun hb => ?_)
 ·have H27 := cnd_t hb H26; clear H26
  refine c_skip ?_
  refine c_meet (r := r) (σ := (List T_face_Match)) (τ := Unit) (fun s => slices_insertionSortCmpFunc_face_Match_j2 x8_2 next1 s) (fun s t => [(0, .slice p0.1 n0 p0.2), (1, .int .i64 a1), (2, .int .i64 a2), (3, v3), (8, .int .i64 x8_2)]) (fun s t => [rowV 42 2 (.slice p0.1 n0 p0.2) n0 (s.map e_face_Match)]) (fun s t => n0 = s.length) ?_ ?_
  ·refine c_block ?_
   refine c_seq ?_
   refine c_region ?_
   refine l_val rfl rfl rfl (r_move (v := .int .i64 x8_2) rfl) ?_
   refine l_val rfl rfl rfl (r_assign (v := .int .i64 x8_2) rfl) ?_
   refine l_nil ?_
   refine c_block ?_
   refine c_fix (σ := Int × (List T_face_Match)) (τ := Unit) (fun next3 s => slices_insertionSortCmpFunc_face_Match_l3 a1 a3 x8_2 next1 next3 s.1 s.2) (fun s t => [(0, .slice p0.1 n0 p0.2), (1, .int .i64 a1), (2, .int .i64 a2), (3, v3), (8, .int .i64 x8_2), (9, .int .i64 s.1)]) (fun s t => [rowV 42 2 (.slice p0.1 n0 p0.2) n0 (s.2.map e_face_Match)]) (fun s t => n0 = s.2.length) (x8_2, l_2) () [0] H27 (by exact hl_2) (by exact ⟨rfl, rfl, rfl, rfl, rfl, rfl, trivial⟩) (by decide) rfl ?_
   rintro ⟨x9_2, l_5⟩ _ m3 gg H30 hl_5
   clear H27
   replace H30 : slices_insertionSortCmpFunc_face_Match_l3 a1 a3 x8_2 next1 (it (fun next3 s => slices_insertionSortCmpFunc_face_Match_l3 a1 a3 x8_2 next1 next3 s.1 s.2) m3) x9_2 l_5 = some r := H30
   generalize hn3 : it (fun next3 s => slices_insertionSortCmpFunc_face_Match_l3 a1 a3 x8_2 next1 next3 s.1 s.2) m3 = next3 at H30
   refine c_tidyF [(0, .slice p0.1 n0 p0.2), (1, .int .i64 a1), (2, .int .i64 a2), (3, v3), (8, .int .i64 x8_2), (9, .int .i64 x9_2)] [rowV 42 2 (.slice p0.1 n0 p0.2) n0 (l_5.map e_face_Match)] rfl rfl ?_
   refine c_seq ?_
   refine c_seq ?_
   exact c_regionD (Kd.p :: Kd.p :: Kd.p :: Kd.p :: Kd.p :: Kd.p :: Kd.p :: Kd.d [0] _ :: Kd.d [0] _ :: Kd.p :: Kd.p :: Kd.p :: Kd.d [0] _ :: Kd.d [0] _ :: Kd.d [] _ :: Kd.p :: Kd.p :: []) 0 mixed (by
    refine d_val rfl rfl (r_move (v := .int .i64 x9_2) rfl) ?_
    refine d_val rfl rfl (r_move (v := .int .i64 a1) rfl) ?_
    refine d_val rfl rfl (r_gtr rfl rfl) ?_
    refine d_val rfl rfl (r_move (v := .bool (decide (a1 < x9_2))) rfl) ?_
    refine splitS (fun hb => ?_) (fun hb => ?_)
    ·have H31 := cnd_t hb H30
     refine d_val rfl rfl (r_move (v := v3) rfl) ?_
     refine d_val rfl rfl (r_move (v := .slice p0.1 n0 p0.2) rfl) ?_
     refine d_val rfl rfl (r_move (v := .int .i64 x9_2) rfl) ?_
     have h_t25 := bnd_val H31
     have H32 := bnd_rest H31
     refine d_readD (fun w L' hF hS hi => run_indexO Tryz.underlying37 Tryz.sizeOf42 rfl rfl (rowOf (i := 0) (E := 42) (sz := 2) (n := n0) (a := p0.1) (c := p0.2) hS ((hi 0 (by simp)).trans rfl)) hl_5 h_t25) rfl rfl ?_
     refine d_readD (fun w L' hF hS hi => run_loadGN (f := e_face_Match) (i := x9_2) (sz := 2) (j := 0) (vs := [.int .i64 (val (gAt l_5 x9_2)).Person, .int .i64 (val (gAt l_5 x9_2)).Far]) Tryz.isAgg42 Tryz.sizeOf42 rfl rfl (rowOf (i := 0) (E := 42) (sz := 2) (n := n0) (a := p0.1) (c := p0.2) hS ((hi 0 (by simp)).trans rfl)) h_t25 rfl) rfl rfl ?_
     refine d_val rfl rfl (r_move (v := .slice p0.1 n0 p0.2) rfl) ?_
     refine d_val rfl rfl (r_move (v := .int .i64 x9_2) rfl) ?_
     have h_t29 := bnd_val H32
     have H33 := bnd_rest H32
     refine d_val rfl rfl (r_subG rfl rfl h_t29) ?_
     have h_t30 := bnd_val H33
     have H34 := bnd_rest H33
     refine d_readD (fun w L' hF hS hi => run_indexO Tryz.underlying37 Tryz.sizeOf42 rfl rfl (rowOf (i := 0) (E := 42) (sz := 2) (n := n0) (a := p0.1) (c := p0.2) hS ((hi 0 (by simp)).trans rfl)) hl_5 h_t30) rfl rfl ?_
     refine d_readD (fun w L' hF hS hi => run_loadGN (f := e_face_Match) (i := (val (gI (x9_2 - 1)))) (sz := 2) (j := 0) (vs := [.int .i64 (val (gAt l_5 (val (gI (x9_2 - 1))))).Person, .int .i64 (val (gAt l_5 (val (gI (x9_2 - 1))))).Far]) Tryz.isAgg42 Tryz.sizeOf42 rfl rfl (rowOf (i := 0) (E := 42) (sz := 2) (n := n0) (a := p0.1) (c := p0.2) hS ((hi 0 (by simp)).trans rfl)) h_t30 rfl) rfl rfl ?_
     have h_t32 := bnd_val H34
     have H35 := bnd_rest H34
     refine d_callV (R := fnR_func_face_Match_face_Match_int a3) (r := .int .i64 (val (a3 (val (gAt l_5 x9_2)) (val (gAt l_5 (val (gI (x9_2 - 1)))))))) (v := v3) (fun w L' hF hS hi => ⟨(f3.mono (hw.now hF)), ⟨(val (gAt l_5 x9_2)), (val (gAt l_5 (val (gI (x9_2 - 1))))), _, rfl, h_t32, rfl⟩⟩) rfl rfl rfl ?_
     refine d_val rfl rfl (r_lss rfl rfl) ?_
     refine d_val rfl rfl (r_pickT (v := .bool (decide ((val (a3 (val (gAt l_5 x9_2)) (val (gAt l_5 (val (gI (x9_2 - 1))))))) < 0))) rfl rfl) ?_
     refine d_nil ?_
     refine c_if (b := (decide ((val (a3 (val (gAt l_5 x9_2)) (val (gAt l_5 (val (gI (x9_2 - 1))))))) < 0))) rfl (fun hb => ?_) (fun hb => ?_)
     ·have H36 := cnd_t hb H35; clear H35
      refine c_skip ?_
      refine c_seq ?_
      refine c_block ?_
      exact c_regionD (Kd.p :: Kd.p :: Kd.p :: Kd.p :: Kd.p :: Kd.p :: Kd.p :: Kd.p :: Kd.d [0] _ :: Kd.d [0] _ :: Kd.p :: Kd.p :: Kd.d [0] _ :: Kd.d [0] _ :: Kd.d [0] _ :: Kd.sr 0 _ :: Kd.d [0] _ :: Kd.sr 0 _ :: []) 0 mixed (by
       refine d_val rfl rfl (r_move (v := .slice p0.1 n0 p0.2) rfl) ?_
       refine d_val rfl rfl (r_move (v := .int .i64 x9_2) rfl) ?_
       refine d_val rfl rfl (r_move (v := .slice p0.1 n0 p0.2) rfl) ?_
       refine d_val rfl rfl (r_move (v := .int .i64 x9_2) rfl) ?_
       have h_t41 := bnd_val H36
       have H37 := bnd_rest H36
       refine d_val rfl rfl (r_subG rfl rfl h_t41) ?_
       refine d_val rfl rfl (r_move (v := .slice p0.1 n0 p0.2) rfl) ?_
       refine d_val rfl rfl (r_move (v := .int .i64 x9_2) rfl) ?_
       have h_t44 := bnd_val H37
       have H38 := bnd_rest H37
       refine d_val rfl rfl (r_subG rfl rfl h_t44) ?_
       have h_t45 := bnd_val H38
       have H39 := bnd_rest H38
       refine d_readD (fun w L' hF hS hi => run_indexO Tryz.underlying37 Tryz.sizeOf42 rfl rfl (rowOf (i := 0) (E := 42) (sz := 2) (n := n0) (a := p0.1) (c := p0.2) hS ((hi 0 (by simp)).trans rfl)) hl_5 h_t45) rfl rfl ?_
       refine d_readD (fun w L' hF hS hi => run_loadGN (f := e_face_Match) (i := (val (gI (x9_2 - 1)))) (sz := 2) (j := 0) (vs := [.int .i64 (val (gAt l_5 (val (gI (x9_2 - 1))))).Person, .int .i64 (val (gAt l_5 (val (gI (x9_2 - 1))))).Far]) Tryz.isAgg42 Tryz.sizeOf42 rfl rfl (rowOf (i := 0) (E := 42) (sz := 2) (n := n0) (a := p0.1) (c := p0.2) hS ((hi 0 (by simp)).trans rfl)) h_t45 rfl) rfl rfl ?_
       refine d_val rfl rfl (r_move (v := .slice p0.1 n0 p0.2) rfl) ?_
       refine d_val rfl rfl (r_move (v := .int .i64 x9_2) rfl) ?_
       have h_t49 := bnd_val H39
       have H40 := bnd_rest H39
       refine d_readD (fun w L' hF hS hi => run_indexO Tryz.underlying37 Tryz.sizeOf42 rfl rfl (rowOf (i := 0) (E := 42) (sz := 2) (n := n0) (a := p0.1) (c := p0.2) hS ((hi 0 (by simp)).trans rfl)) hl_5 h_t49) rfl rfl ?_
       refine d_readD (fun w L' hF hS hi => run_loadGN (f := e_face_Match) (i := x9_2) (sz := 2) (j := 0) (vs := [.int .i64 (val (gAt l_5 x9_2)).Person, .int .i64 (val (gAt l_5 x9_2)).Far]) Tryz.isAgg42 Tryz.sizeOf42 rfl rfl (rowOf (i := 0) (E := 42) (sz := 2) (n := n0) (a := p0.1) (c := p0.2) hS ((hi 0 (by simp)).trans rfl)) h_t49 rfl) rfl rfl ?_
       have h_t51 := bnd_val H40
       have H41 := bnd_rest H40
       refine d_readD (fun w L' hF hS hi => run_indexO Tryz.underlying37 Tryz.sizeOf42 rfl rfl (rowOf (i := 0) (E := 42) (sz := 2) (n := n0) (a := p0.1) (c := p0.2) hS ((hi 0 (by simp)).trans rfl)) hl_5 h_t51) rfl rfl ?_
       have h_l0 := bnd_val H41
       have H42 := bnd_rest H41
       refine d_storeG (q := 0) (j := 0) (i := x9_2) (sz := 2) (hm := hl_5) (f := e_face_Match) (vs := [.int .i64 (val (gAt l_5 (val (gI (x9_2 - 1))))).Person, .int .i64 (val (gAt l_5 (val (gI (x9_2 - 1))))).Far]) Tryz.sizeOf42 rfl rfl rfl rfl rfl rfl rfl rfl rfl (fun y_ hy_ => by first | rfl | (cases hy_.symm.trans h_t51; rfl)) h_l0 ?_
       have h_t52 := bnd_val H42
       have H43 := bnd_rest H42
       refine d_readD (fun w L' hF hS hi => run_indexO Tryz.underlying37 Tryz.sizeOf42 rfl rfl (rowOf (i := 0) (E := 42) (sz := 2) (n := n0) (a := p0.1) (c := p0.2) hS ((hi 0 (by simp)).trans rfl)) (gSet_n hl_5 h_l0) h_t52) rfl rfl ?_
       have h_l0_2 := bnd_val H43
       have H44 := bnd_rest H43
       refine d_storeG (q := 0) (j := 0) (i := (val (gI (x9_2 - 1)))) (sz := 2) (hm := (gSet_n hl_5 h_l0)) (f := e_face_Match) (vs := [.int .i64 (val (gAt l_5 x9_2)).Person, .int .i64 (val (gAt l_5 x9_2)).Far]) Tryz.sizeOf42 rfl rfl rfl rfl rfl rfl rfl rfl rfl (fun y_ hy_ => by first | rfl | (cases hy_.symm.trans h_t52; rfl)) h_l0_2 ?_
       refine d_nil ?_
       refine c_region ?_
       refine l_val rfl rfl rfl (r_move (v := .int .i64 x9_2) rfl) ?_
       obtain ⟨t36, h_t36, H45⟩ := bnd_some H44; clear H44
       refine l_val rfl rfl rfl (r_subG rfl rfl h_t36) ?_
       refine l_val rfl rfl rfl (r_assign (v := .int .i64 t36) rfl) ?_
       refine l_nil ?_
       refine c_close (t36, (val (gSet (val (gSet l_5 x9_2 (val (gAt l_5 (val (gI (x9_2 - 1))))))) (val (gI (x9_2 - 1))) (val (gAt l_5 x9_2))))) () m3 [0] (by exact ⟨rfl, rfl, rfl, rfl, rfl, rfl, trivial⟩) (by decide) rfl (by exact ⟨(by subst hn3; exact H45), (gSet_n (gSet_n hl_5 h_l0) h_l0_2)⟩) (Nat.lt_succ_self _)
       ) (by kernel_rfl)
     ·have H46 := cnd_f hb H35; clear H35
      refine c_exit ?_
      refine c_close l_5 () 0 [0] (by exact ⟨rfl, rfl, rfl, rfl, rfl, trivial⟩) (by decide) rfl (by exact ⟨H46, hl_5⟩) (Nat.lt_succ_self _)
    ·have H47 := cnd_f hb H30
     refine d_pass rfl rfl ?_
     refine d_pass rfl rfl ?_
     refine d_pass rfl rfl ?_
     refine d_pass rfl rfl ?_
     refine d_pass rfl rfl ?_
     refine d_pass rfl rfl ?_
     refine d_pass rfl rfl ?_
     refine d_pass rfl rfl ?_
     refine d_pass rfl rfl ?_
     refine d_pass rfl rfl ?_
     refine d_pass rfl rfl ?_
     refine d_pass rfl rfl ?_
     refine d_val rfl rfl (r_pickF (v := .bool false) rfl rfl) ?_
     refine d_nil ?_
     refine c_false rfl ?_
     refine c_exit ?_
     refine c_close l_5 () 0 [0] (by exact ⟨rfl, rfl, rfl, rfl, rfl, trivial⟩) (by decide) rfl (by exact ⟨H47, hl_5⟩) (Nat.lt_succ_self _)
    ) (by kernel_rfl)
  ·rintro l_3 _ gg H28 hl_3
   replace H28 : slices_insertionSortCmpFunc_face_Match_j2 x8_2 next1 l_3 = some r := H28
   refine c_tidyF [(0, .slice p0.1 n0 p0.2), (1, .int .i64 a1), (2, .int .i64 a2), (3, v3), (8, .int .i64 x8_2)] [rowV 42 2 (.slice p0.1 n0 p0.2) n0 (l_3.map e_face_Match)] rfl rfl ?_
   refine c_region ?_
   refine l_val rfl rfl rfl (r_move (v := .int .i64 x8_2) rfl) ?_
   obtain ⟨t16, h_t16, H29⟩ := bnd_some H28; clear H28
   refine l_val rfl rfl rfl (r_addG rfl rfl h_t16) ?_
   refine l_val rfl rfl rfl (r_assign (v := .int .i64 t16) rfl) ?_
   refine l_nil ?_
   refine c_close (t16, l_3) () m1 [0] (by exact ⟨rfl, rfl, rfl, rfl, rfl, trivial⟩) (by decide) rfl (by exact ⟨(by subst hn1; exact H29), hl_3⟩) (Nat.lt_succ_self _)
 ·have H48 := cnd_f hb H26; clear H26
  refine c_exit ?_
  obtain rfl := Option.some.inj H48
  refine ret0n rfl (finX () (i := 0) rfl rfl (Imp.refl _))
theorem k106 {a0 : (List T_face_Match)} {p0 : Option Addr × Nat} {n0 : Nat} {a1 : Int} {a2 : Int} {a3 : Int} {a4 : (T_face_Match → T_face_Match → Option (Int))} {v4 : Value} {r : (List T_face_Match)} {w : World} {h : Heap} {S : Nat → Prop} (hcs : (rowV 42 2 (.slice p0.1 n0 p0.2) n0 (a0.map e_face_Match)).P S w) (hlt : ∀ b, S b → b < w.heap.size) (hw : Know h w S) (hn0 : n0 = a0.length) (f4 : FnH Tryz.prog h v4 (fnR_func_face_Match_face_Match_int a4)) (H : slices_swapRangeCmpFunc_face_Match a0 a1 a2 a3 a4 = some r) : Does Tryz.prog 106 (List.toArray [.slice p0.1 n0 p0.2, .int .i64 a1, .int .i64 a2, .int .i64 a3, v4]) w (fun v w' => ∃ x : Unit, v = (.tuple #[]) ∧ Turn w w' S (rowV 42 2 (.slice p0.1 n0 p0.2) n0 (r.map e_face_Match))) := by
 refine enter (n := 38) Tryz.func106 rfl rfl rfl S [rowV 42 2 (.slice p0.1 n0 p0.2) n0 (a0.map e_face_Match)] (Sat.one hcs hlt) ?_
 refine c_seq ?_
 refine c_region ?_
 refine l_val rfl rfl rfl (r_assign (v := .int .i64 0) rfl) ?_
 refine l_nil ?_
 refine c_block ?_
 refine c_fix (σ := Int × (List T_face_Match)) (τ := Unit) (fun next1 s => slices_swapRangeCmpFunc_face_Match_l1 a1 a2 a3 next1 s.1 s.2) (fun s t => [(0, .slice p0.1 n0 p0.2), (1, .int .i64 a1), (2, .int .i64 a2), (3, .int .i64 a3), (10, .int .i64 s.1)]) (fun s t => [rowV 42 2 (.slice p0.1 n0 p0.2) n0 (s.2.map e_face_Match)]) (fun s t => n0 = s.2.length) (0, a0) () [0] H (by exact hn0) (by exact ⟨rfl, rfl, rfl, rfl, rfl, trivial⟩) (by decide) rfl ?_
 rintro ⟨x10_2, l_2⟩ _ m1 gg H15 hl_2
 clear H
 replace H15 : slices_swapRangeCmpFunc_face_Match_l1 a1 a2 a3 (it (fun next1 s => slices_swapRangeCmpFunc_face_Match_l1 a1 a2 a3 next1 s.1 s.2) m1) x10_2 l_2 = some r := H15
 generalize hn1 : it (fun next1 s => slices_swapRangeCmpFunc_face_Match_l1 a1 a2 a3 next1 s.1 s.2) m1 = next1 at H15
 refine c_tidyF [(0, .slice p0.1 n0 p0.2), (1, .int .i64 a1), (2, .int .i64 a2), (3, .int .i64 a3), (10, .int .i64 x10_2)] [rowV 42 2 (.slice p0.1 n0 p0.2) n0 (l_2.map e_face_Match)] rfl rfl ?_
 refine c_seq ?_
 refine c_seq ?_
 refine c_region ?_
 refine l_val rfl rfl rfl (r_move (v := .int .i64 x10_2) rfl) ?_
 refine l_val rfl rfl rfl (r_move (v := .int .i64 a3) rfl) ?_
 refine l_val rfl rfl rfl (r_lss rfl rfl) ?_
 refine l_nil ?_
 refine c_if (b := (decide (x10_2 < a3))) rfl (fun hb => ?_) (fun hb => ?_)
 ·have H16 := cnd_t hb H15; clear H15
  refine c_skip ?_
  refine c_seq ?_
  refine c_block ?_
  exact c_regionD (Kd.p :: Kd.p :: Kd.p :: Kd.p :: Kd.p :: Kd.p :: Kd.p :: Kd.p :: Kd.p :: Kd.p :: Kd.p :: Kd.p :: Kd.d [0] _ :: Kd.d [0] _ :: Kd.p :: Kd.p :: Kd.p :: Kd.p :: Kd.d [0] _ :: Kd.d [0] _ :: Kd.d [0] _ :: Kd.sr 0 _ :: Kd.d [0] _ :: Kd.sr 0 _ :: []) 0 mixed (by
   refine d_val rfl rfl (r_move (v := .slice p0.1 n0 p0.2) rfl) ?_
   refine d_val rfl rfl (r_move (v := .int .i64 a1) rfl) ?_
   refine d_val rfl rfl (r_move (v := .int .i64 x10_2) rfl) ?_
   have h_t19 := bnd_val H16
   have H17 := bnd_rest H16
   refine d_val rfl rfl (r_addG rfl rfl h_t19) ?_
   refine d_val rfl rfl (r_move (v := .slice p0.1 n0 p0.2) rfl) ?_
   refine d_val rfl rfl (r_move (v := .int .i64 a2) rfl) ?_
   refine d_val rfl rfl (r_move (v := .int .i64 x10_2) rfl) ?_
   have h_t23 := bnd_val H17
   have H18 := bnd_rest H17
   refine d_val rfl rfl (r_addG rfl rfl h_t23) ?_
   refine d_val rfl rfl (r_move (v := .slice p0.1 n0 p0.2) rfl) ?_
   refine d_val rfl rfl (r_move (v := .int .i64 a2) rfl) ?_
   refine d_val rfl rfl (r_move (v := .int .i64 x10_2) rfl) ?_
   have h_t27 := bnd_val H18
   have H19 := bnd_rest H18
   refine d_val rfl rfl (r_addG rfl rfl h_t27) ?_
   have h_t28 := bnd_val H19
   have H20 := bnd_rest H19
   refine d_readD (fun w L' hF hS hi => run_indexO Tryz.underlying37 Tryz.sizeOf42 rfl rfl (rowOf (i := 0) (E := 42) (sz := 2) (n := n0) (a := p0.1) (c := p0.2) hS ((hi 0 (by simp)).trans rfl)) hl_2 h_t28) rfl rfl ?_
   refine d_readD (fun w L' hF hS hi => run_loadGN (f := e_face_Match) (i := (val (gI (a2 + x10_2)))) (sz := 2) (j := 0) (vs := [.int .i64 (val (gAt l_2 (val (gI (a2 + x10_2))))).Person, .int .i64 (val (gAt l_2 (val (gI (a2 + x10_2))))).Far]) Tryz.isAgg42 Tryz.sizeOf42 rfl rfl (rowOf (i := 0) (E := 42) (sz := 2) (n := n0) (a := p0.1) (c := p0.2) hS ((hi 0 (by simp)).trans rfl)) h_t28 rfl) rfl rfl ?_
   refine d_val rfl rfl (r_move (v := .slice p0.1 n0 p0.2) rfl) ?_
   refine d_val rfl rfl (r_move (v := .int .i64 a1) rfl) ?_
   refine d_val rfl rfl (r_move (v := .int .i64 x10_2) rfl) ?_
   have h_t33 := bnd_val H20
   have H21 := bnd_rest H20
   refine d_val rfl rfl (r_addG rfl rfl h_t33) ?_
   have h_t34 := bnd_val H21
   have H22 := bnd_rest H21
   refine d_readD (fun w L' hF hS hi => run_indexO Tryz.underlying37 Tryz.sizeOf42 rfl rfl (rowOf (i := 0) (E := 42) (sz := 2) (n := n0) (a := p0.1) (c := p0.2) hS ((hi 0 (by simp)).trans rfl)) hl_2 h_t34) rfl rfl ?_
   refine d_readD (fun w L' hF hS hi => run_loadGN (f := e_face_Match) (i := (val (gI (a1 + x10_2)))) (sz := 2) (j := 0) (vs := [.int .i64 (val (gAt l_2 (val (gI (a1 + x10_2))))).Person, .int .i64 (val (gAt l_2 (val (gI (a1 + x10_2))))).Far]) Tryz.isAgg42 Tryz.sizeOf42 rfl rfl (rowOf (i := 0) (E := 42) (sz := 2) (n := n0) (a := p0.1) (c := p0.2) hS ((hi 0 (by simp)).trans rfl)) h_t34 rfl) rfl rfl ?_
   have h_t36 := bnd_val H22
   have H23 := bnd_rest H22
   refine d_readD (fun w L' hF hS hi => run_indexO Tryz.underlying37 Tryz.sizeOf42 rfl rfl (rowOf (i := 0) (E := 42) (sz := 2) (n := n0) (a := p0.1) (c := p0.2) hS ((hi 0 (by simp)).trans rfl)) hl_2 h_t36) rfl rfl ?_
   have h_l0 := bnd_val H23
   have H24 := bnd_rest H23
   refine d_storeG (q := 0) (j := 0) (i := (val (gI (a1 + x10_2)))) (sz := 2) (hm := hl_2) (f := e_face_Match) (vs := [.int .i64 (val (gAt l_2 (val (gI (a2 + x10_2))))).Person, .int .i64 (val (gAt l_2 (val (gI (a2 + x10_2))))).Far]) Tryz.sizeOf42 rfl rfl rfl rfl rfl rfl rfl rfl rfl (fun y_ hy_ => by first | rfl | (cases hy_.symm.trans h_t36; rfl)) h_l0 ?_
   have h_t37 := bnd_val H24
   have H25 := bnd_rest H24
   refine d_readD (fun w L' hF hS hi => run_indexO Tryz.underlying37 Tryz.sizeOf42 rfl rfl (rowOf (i := 0) (E := 42) (sz := 2) (n := n0) (a := p0.1) (c := p0.2) hS ((hi 0 (by simp)).trans rfl)) (gSet_n hl_2 h_l0) h_t37) rfl rfl ?_
   have h_l0_2 := bnd_val H25
   have H26 := bnd_rest H25
   refine d_storeG (q := 0) (j := 0) (i := (val (gI (a2 + x10_2)))) (sz := 2) (hm := (gSet_n hl_2 h_l0)) (f := e_face_Match) (vs := [.int .i64 (val (gAt l_2 (val (gI (a1 + x10_2))))).Person, .int .i64 (val (gAt l_2 (val (gI (a1 + x10_2))))).Far]) Tryz.sizeOf42 rfl rfl rfl rfl rfl rfl rfl rfl rfl (fun y_ hy_ => by first | rfl | (cases hy_.symm.trans h_t37; rfl)) h_l0_2 ?_
   refine d_nil ?_
   refine c_region ?_
   refine l_val rfl rfl rfl (r_move (v := .int .i64 x10_2) rfl) ?_
   obtain ⟨t15, h_t15, H27⟩ := bnd_some H26; clear H26
   refine l_val rfl rfl rfl (r_addG rfl rfl h_t15) ?_
   refine l_val rfl rfl rfl (r_assign (v := .int .i64 t15) rfl) ?_
   refine l_nil ?_
   refine c_close (t15, (val (gSet (val (gSet l_2 (val (gI (a1 + x10_2))) (val (gAt l_2 (val (gI (a2 + x10_2))))))) (val (gI (a2 + x10_2))) (val (gAt l_2 (val (gI (a1 + x10_2)))))))) () m1 [0] (by exact ⟨rfl, rfl, rfl, rfl, rfl, trivial⟩) (by decide) rfl (by exact ⟨(by subst hn1; exact H27), (gSet_n (gSet_n hl_2 h_l0) h_l0_2)⟩) (Nat.lt_succ_self _)
   ) (by kernel_rfl)
 ·have H28 := cnd_f hb H15; clear H15
  refine c_exit ?_
  obtain rfl := Option.some.inj H28
  refine ret0n rfl (finX () (i := 0) rfl rfl (Imp.refl _))
theorem k104 {a0 : (List T_face_Match)} {p0 : Option Addr × Nat} {n0 : Nat} {a1 : Int} {a2 : Int} {a3 : Int} {a4 : (T_face_Match → T_face_Match → Option (Int))} {v4 : Value} {r : (List T_face_Match)} {w : World} {h : Heap} {S : Nat → Prop} (hcs : (rowV 42 2 (.slice p0.1 n0 p0.2) n0 (a0.map e_face_Match)).P S w) (hlt : ∀ b, S b → b < w.heap.size) (hw : Know h w S) (hn0 : n0 = a0.length) (f4 : FnH Tryz.prog h v4 (fnR_func_face_Match_face_Match_int a4)) (H : slices_rotateCmpFunc_face_Match a0 a1 a2 a3 a4 = some r) : Does Tryz.prog 104 (List.toArray [.slice p0.1 n0 p0.2, .int .i64 a1, .int .i64 a2, .int .i64 a3, v4]) w (fun v w' => ∃ x : Unit, v = (.tuple #[]) ∧ Turn w w' S (rowV 42 2 (.slice p0.1 n0 p0.2) n0 (r.map e_face_Match))) := by
 refine enter (n := 58) Tryz.func104 rfl rfl rfl S [rowV 42 2 (.slice p0.1 n0 p0.2) n0 (a0.map e_face_Match)] (Sat.one hcs hlt) ?_
 refine c_seq ?_
 refine c_region ?_
 refine l_val rfl rfl rfl (r_move (v := .int .i64 a2) rfl) ?_
 refine l_val rfl rfl rfl (r_move (v := .int .i64 a1) rfl) ?_
 obtain ⟨t14, h_t14, H19⟩ := bnd_some H; clear H
 refine l_val rfl rfl rfl (r_subG rfl rfl h_t14) ?_
 refine l_val rfl rfl rfl (r_assign (v := .int .i64 t14) rfl) ?_
 refine l_nil ?_
 refine c_seq ?_
 refine c_region ?_
 refine l_val rfl rfl rfl (r_move (v := .int .i64 a3) rfl) ?_
 refine l_val rfl rfl rfl (r_move (v := .int .i64 a2) rfl) ?_
 obtain ⟨t17, h_t17, H20⟩ := bnd_some H19; clear H19
 refine l_val rfl rfl rfl (r_subG rfl rfl h_t17) ?_
 refine l_val rfl rfl rfl (r_assign (v := .int .i64 t17) rfl) ?_
 refine l_nil ?_
 refine c_meet (r := r) (σ := Int × (List T_face_Match)) (τ := Unit) (fun s => slices_rotateCmpFunc_face_Match_j1 a2 a4 s.1 s.2) (fun s t => [(0, .slice p0.1 n0 p0.2), (2, .int .i64 a2), (4, v4), (10, .int .i64 s.1)]) (fun s t => [rowV 42 2 (.slice p0.1 n0 p0.2) n0 (s.2.map e_face_Match)]) (fun s t => n0 = s.2.length) ?_ ?_
 ·refine c_block ?_
  refine c_fix (σ := Int × Int × (List T_face_Match)) (τ := Unit) (fun next2 s => slices_rotateCmpFunc_face_Match_l2 a2 a4 next2 s.1 s.2.1 s.2.2) (fun s t => [(0, .slice p0.1 n0 p0.2), (2, .int .i64 a2), (4, v4), (10, .int .i64 s.1), (11, .int .i64 s.2.1)]) (fun s t => [rowV 42 2 (.slice p0.1 n0 p0.2) n0 (s.2.2.map e_face_Match)]) (fun s t => n0 = s.2.2.length) (t14, t17, a0) () [0] H20 (by exact hn0) (by exact ⟨rfl, rfl, rfl, rfl, rfl, trivial⟩) (by decide) rfl ?_
  rintro ⟨x10_3, x11_2, l_3⟩ _ m2 gg H24 hl_4
  clear H20
  replace H24 : slices_rotateCmpFunc_face_Match_l2 a2 a4 (it (fun next2 s => slices_rotateCmpFunc_face_Match_l2 a2 a4 next2 s.1 s.2.1 s.2.2) m2) x10_3 x11_2 l_3 = some r := H24
  generalize hn2 : it (fun next2 s => slices_rotateCmpFunc_face_Match_l2 a2 a4 next2 s.1 s.2.1 s.2.2) m2 = next2 at H24
  refine c_tidyF [(0, .slice p0.1 n0 p0.2), (2, .int .i64 a2), (4, v4), (10, .int .i64 x10_3), (11, .int .i64 x11_2)] [rowV 42 2 (.slice p0.1 n0 p0.2) n0 (l_3.map e_face_Match)] rfl rfl ?_
  refine c_seq ?_
  refine c_seq ?_
  refine c_region ?_
  refine l_val rfl rfl rfl (r_move (v := .int .i64 x10_3) rfl) ?_
  refine l_val rfl rfl rfl (r_move (v := .int .i64 x11_2) rfl) ?_
  refine l_val rfl rfl rfl (r_neq rfl rfl) ?_
  refine l_nil ?_
  refine c_if (b := (decide (x10_3 ≠ x11_2))) rfl (fun hb => ?_) (fun hb => ?_)
  ·have H25 := cnd_t hb H24; clear H24
   refine c_skip ?_
   refine c_block ?_
   refine c_seq ?_
   refine c_region ?_
   refine l_val rfl rfl rfl (r_move (v := .int .i64 x10_3) rfl) ?_
   refine l_val rfl rfl rfl (r_move (v := .int .i64 x11_2) rfl) ?_
   refine l_val rfl rfl rfl (r_gtr rfl rfl) ?_
   refine l_nil ?_
   refine c_if (b := (decide (x11_2 < x10_3))) rfl (fun hb => ?_) (fun hb => ?_)
   ·have H26 := cnd_t hb H25; clear H25
    refine c_seq ?_
    refine c_region ?_
    refine l_val rfl rfl rfl (r_move (v := .slice p0.1 n0 p0.2) rfl) ?_
    refine l_val rfl rfl rfl (r_move (v := .int .i64 a2) rfl) ?_
    refine l_val rfl rfl rfl (r_move (v := .int .i64 x10_3) rfl) ?_
    obtain ⟨t27, h_t27, H27⟩ := bnd_some H26; clear H26
    refine l_val rfl rfl rfl (r_subG rfl rfl h_t27) ?_
    refine l_val rfl rfl rfl (r_move (v := .int .i64 a2) rfl) ?_
    refine l_val rfl rfl rfl (r_move (v := .int .i64 x11_2) rfl) ?_
    refine l_val rfl rfl rfl (r_move (v := v4) rfl) ?_
    obtain ⟨t31, h_t31, H28⟩ := bnd_some H27; clear H27
    refine l_turn (turns_callB (i := 0) (rds := []) (G := fun x : Unit => .tuple #[]) (C := fun x : Unit => rowV 42 2 (.slice p0.1 n0 p0.2) n0 (t31.map e_face_Match)) rfl (fun w L' S hF hS hi hp hlt ho hA => k106 hp hlt (know_but w S) hl_4 (f4.mono (hw.but hF ho)) h_t31) Tryz.call106 rfl) rfl rfl rfl (fun _ => ?_)
    refine c_know (fun w hF hS => lenOf (i := 0) hS rfl) (fun hl_5_ => ?_)
    have hl_5 : n0 = t31.length := by simpa using hl_5_.symm
    refine l_nil ?_
    refine c_region ?_
    refine l_val rfl rfl rfl (r_move (v := .int .i64 x10_3) rfl) ?_
    refine l_val rfl rfl rfl (r_move (v := .int .i64 x11_2) rfl) ?_
    obtain ⟨t34, h_t34, H29⟩ := bnd_some H28; clear H28
    refine l_val rfl rfl rfl (r_subG rfl rfl h_t34) ?_
    refine l_val rfl rfl rfl (r_assign (v := .int .i64 t34) rfl) ?_
    refine l_nil ?_
    refine c_close (t34, x11_2, t31) () m2 [0] (by exact ⟨rfl, rfl, rfl, rfl, rfl, trivial⟩) (by decide) rfl (by exact ⟨(by subst hn2; exact H29), hl_5⟩) (Nat.lt_succ_self _)
   ·have H30 := cnd_f hb H25; clear H25
    refine c_seq ?_
    refine c_region ?_
    refine l_val rfl rfl rfl (r_move (v := .slice p0.1 n0 p0.2) rfl) ?_
    refine l_val rfl rfl rfl (r_move (v := .int .i64 a2) rfl) ?_
    refine l_val rfl rfl rfl (r_move (v := .int .i64 x10_3) rfl) ?_
    obtain ⟨t38, h_t38, H31⟩ := bnd_some H30; clear H30
    refine l_val rfl rfl rfl (r_subG rfl rfl h_t38) ?_
    refine l_val rfl rfl rfl (r_move (v := .int .i64 a2) rfl) ?_
    refine l_val rfl rfl rfl (r_move (v := .int .i64 x11_2) rfl) ?_
    obtain ⟨t41, h_t41, H32⟩ := bnd_some H31; clear H31
    refine l_val rfl rfl rfl (r_addG rfl rfl h_t41) ?_
    refine l_val rfl rfl rfl (r_move (v := .int .i64 x10_3) rfl) ?_
    obtain ⟨t43, h_t43, H33⟩ := bnd_some H32; clear H32
    refine l_val rfl rfl rfl (r_subG rfl rfl h_t43) ?_
    refine l_val rfl rfl rfl (r_move (v := .int .i64 x10_3) rfl) ?_
    refine l_val rfl rfl rfl (r_move (v := v4) rfl) ?_
    obtain ⟨t46, h_t46, H34⟩ := bnd_some H33; clear H33
    refine l_turn (turns_callB (i := 0) (rds := []) (G := fun x : Unit => .tuple #[]) (C := fun x : Unit => rowV 42 2 (.slice p0.1 n0 p0.2) n0 (t46.map e_face_Match)) rfl (fun w L' S hF hS hi hp hlt ho hA => k106 hp hlt (know_but w S) hl_4 (f4.mono (hw.but hF ho)) h_t46) Tryz.call106 rfl) rfl rfl rfl (fun _ => ?_)
    refine c_know (fun w hF hS => lenOf (i := 0) hS rfl) (fun hl_6_ => ?_)
    have hl_6 : n0 = t46.length := by simpa using hl_6_.symm
    refine l_nil ?_
    refine c_region ?_
    refine l_val rfl rfl rfl (r_move (v := .int .i64 x11_2) rfl) ?_
    refine l_val rfl rfl rfl (r_move (v := .int .i64 x10_3) rfl) ?_
    obtain ⟨t49, h_t49, H35⟩ := bnd_some H34; clear H34
    refine l_val rfl rfl rfl (r_subG rfl rfl h_t49) ?_
    refine l_val rfl rfl rfl (r_assign (v := .int .i64 t49) rfl) ?_
    refine l_nil ?_
    refine c_close (x10_3, t49, t46) () m2 [0] (by exact ⟨rfl, rfl, rfl, rfl, rfl, trivial⟩) (by decide) rfl (by exact ⟨(by subst hn2; exact H35), hl_6⟩) (Nat.lt_succ_self _)
  ·have H36 := cnd_f hb H24; clear H24
   refine c_exit ?_
   refine c_close (x10_3, l_3) () 0 [0] (by exact ⟨rfl, rfl, rfl, rfl, trivial⟩) (by decide) rfl (by exact ⟨H36, hl_4⟩) (Nat.lt_succ_self _)
 ·rintro ⟨x10, l⟩ _ gg H21 hl
  replace H21 : slices_rotateCmpFunc_face_Match_j1 a2 a4 x10 l = some r := H21
  refine c_tidyF [(0, .slice p0.1 n0 p0.2), (2, .int .i64 a2), (4, v4), (10, .int .i64 x10)] [rowV 42 2 (.slice p0.1 n0 p0.2) n0 (l.map e_face_Match)] rfl rfl ?_
  refine c_region ?_
  refine l_val rfl rfl rfl (r_move (v := .slice p0.1 n0 p0.2) rfl) ?_
  refine l_val rfl rfl rfl (r_move (v := .int .i64 a2) rfl) ?_
  refine l_val rfl rfl rfl (r_move (v := .int .i64 x10) rfl) ?_
  obtain ⟨t53, h_t53, H22⟩ := bnd_some H21; clear H21
  refine l_val rfl rfl rfl (r_subG rfl rfl h_t53) ?_
  refine l_val rfl rfl rfl (r_move (v := .int .i64 a2) rfl) ?_
  refine l_val rfl rfl rfl (r_move (v := .int .i64 x10) rfl) ?_
  refine l_val rfl rfl rfl (r_move (v := v4) rfl) ?_
  obtain ⟨t57, h_t57, H23⟩ := bnd_some H22; clear H22
  refine l_turn (turns_callB (i := 0) (rds := []) (G := fun x : Unit => .tuple #[]) (C := fun x : Unit => rowV 42 2 (.slice p0.1 n0 p0.2) n0 (t57.map e_face_Match)) rfl (fun w L' S hF hS hi hp hlt ho hA => k106 hp hlt (know_but w S) hl (f4.mono (hw.but hF ho)) h_t57) Tryz.call106 rfl) rfl rfl rfl (fun _ => ?_)
  refine c_know (fun w hF hS => lenOf (i := 0) hS rfl) (fun hl_2_ => ?_)
  have hl_2 : n0 = t57.length := by simpa using hl_2_.symm
  refine l_nil ?_
  obtain rfl := Option.some.inj H23
  refine ret0n rfl (finX () (i := 0) rfl rfl (Imp.refl _))
theorem k98_it (mm : Nat) : ∀ {a0 : (List T_face_Match)} {p0 : Option Addr × Nat} {n0 : Nat} {a1 : Int} {a2 : Int} {a3 : Int} {a4 : (T_face_Match → T_face_Match → Option (Int))} {v4 : Value} {r : (List T_face_Match)} {w : World} {h : Heap} {S : Nat → Prop} (hcs : (rowV 42 2 (.slice p0.1 n0 p0.2) n0 (a0.map e_face_Match)).P S w) (hlt : ∀ b, S b → b < w.heap.size) (hw : Know h w S) (hn0 : n0 = a0.length) (f4 : FnH Tryz.prog h v4 (fnR_func_face_Match_face_Match_int a4)) (H : it (fun (self : ((List T_face_Match) × Int × Int × Int × (T_face_Match → T_face_Match → Option (Int))) → Option ((List T_face_Match))) (s : (List T_face_Match) × Int × Int × Int × (T_face_Match → T_face_Match → Option (Int))) => slices_symMergeCmpFunc_face_Match_body self s.1 s.2.1 s.2.2.1 s.2.2.2.1 s.2.2.2.2) mm (a0, a1, a2, a3, a4) = some r), Does Tryz.prog 98 (List.toArray [.slice p0.1 n0 p0.2, .int .i64 a1, .int .i64 a2, .int .i64 a3, v4]) w (fun v w' => ∃ x : Unit, v = (.tuple #[]) ∧ Turn w w' S (rowV 42 2 (.slice p0.1 n0 p0.2) n0 (r.map e_face_Match))) := by
 induction mm with
 | zero => intros; rename_i H; exact absurd H (by simp [it])
 | succ mm ih =>
  intro a0 p0 n0 a1 a2 a3 a4 v4 r w h S hcs hlt hw hn0 f4 H
  replace H : slices_symMergeCmpFunc_face_Match_body (it (fun (self : ((List T_face_Match) × Int × Int × Int × (T_face_Match → T_face_Match → Option (Int))) → Option ((List T_face_Match))) (s : (List T_face_Match) × Int × Int × Int × (T_face_Match → T_face_Match → Option (Int))) => slices_symMergeCmpFunc_face_Match_body self s.1 s.2.1 s.2.2.1 s.2.2.2.1 s.2.2.2.2) mm) a0 a1 a2 a3 a4 = some r := H
  generalize it (fun (self : ((List T_face_Match) × Int × Int × Int × (T_face_Match → T_face_Match → Option (Int))) → Option ((List T_face_Match))) (s : (List T_face_Match) × Int × Int × Int × (T_face_Match → T_face_Match → Option (Int))) => slices_symMergeCmpFunc_face_Match_body self s.1 s.2.1 s.2.2.1 s.2.2.2.1 s.2.2.2.2) mm = self at H ih
  refine enter (n := 220) Tryz.func98 rfl rfl rfl S [rowV 42 2 (.slice p0.1 n0 p0.2) n0 (a0.map e_face_Match)] (Sat.one hcs hlt) ?_
  refine c_meet (r := r) (σ := Unit) (τ := Unit) (fun s => slices_symMergeCmpFunc_face_Match_j1 a0 a1 a2 a3 a4 self) (fun s t => [(0, .slice p0.1 n0 p0.2), (1, .int .i64 a1), (2, .int .i64 a2), (3, .int .i64 a3), (4, v4)]) (fun s t => [rowV 42 2 (.slice p0.1 n0 p0.2) n0 (a0.map e_face_Match)]) (fun s t => True) ?_ ?_
  ·refine c_seq ?_
   refine c_region ?_
   refine l_val rfl rfl rfl (r_move (v := .int .i64 a2) rfl) ?_
   refine l_val rfl rfl rfl (r_move (v := .int .i64 a1) rfl) ?_
   obtain ⟨t27, h_t27, H165⟩ := bnd_some H; clear H
   refine l_val rfl rfl rfl (r_subG rfl rfl h_t27) ?_
   refine l_val rfl rfl rfl (r_eql rfl rfl) ?_
   refine l_nil ?_
   refine c_if (b := (decide (t27 = 1))) rfl (fun hb => ?_) (fun hb => ?_)
   ·have H166 := cnd_t hb H165; clear H165
    refine c_seq ?_
    refine c_region ?_
    refine l_val rfl rfl rfl (r_move (v := .int .i64 a2) rfl) ?_
    refine l_val rfl rfl rfl (r_assign (v := .int .i64 a2) rfl) ?_
    refine l_nil ?_
    refine c_seq ?_
    refine c_region ?_
    refine l_val rfl rfl rfl (r_move (v := .int .i64 a3) rfl) ?_
    refine l_val rfl rfl rfl (r_assign (v := .int .i64 a3) rfl) ?_
    refine l_nil ?_
    refine c_meet (r := r) (σ := Int) (τ := Unit) (fun s => slices_symMergeCmpFunc_face_Match_j11 a0 a1 s) (fun s t => [(0, .slice p0.1 n0 p0.2), (1, .int .i64 a1), (2, .int .i64 a2), (3, .int .i64 a3), (4, v4), (10, .int .i64 s)]) (fun s t => [rowV 42 2 (.slice p0.1 n0 p0.2) n0 (a0.map e_face_Match)]) (fun s t => True) ?_ ?_
    ·refine c_block ?_
     refine c_fix (σ := Int × Int) (τ := Unit) (fun next13 s => slices_symMergeCmpFunc_face_Match_l13 a0 a1 a4 next13 s.1 s.2) (fun s t => [(0, .slice p0.1 n0 p0.2), (1, .int .i64 a1), (2, .int .i64 a2), (3, .int .i64 a3), (4, v4), (10, .int .i64 s.1), (11, .int .i64 s.2)]) (fun s t => [rowV 42 2 (.slice p0.1 n0 p0.2) n0 (a0.map e_face_Match)]) (fun s t => True) (a2, a3) () [0] H166 (by exact trivial) (by exact ⟨rfl, rfl, rfl, rfl, rfl, rfl, rfl, trivial⟩) (by decide) rfl ?_
     rintro ⟨x10_3, x11_2⟩ _ m13 gg H181 _
     clear H166
     replace H181 : slices_symMergeCmpFunc_face_Match_l13 a0 a1 a4 (it (fun next13 s => slices_symMergeCmpFunc_face_Match_l13 a0 a1 a4 next13 s.1 s.2) m13) x10_3 x11_2 = some r := H181
     generalize hn13 : it (fun next13 s => slices_symMergeCmpFunc_face_Match_l13 a0 a1 a4 next13 s.1 s.2) m13 = next13 at H181
     refine c_tidyF [(0, .slice p0.1 n0 p0.2), (1, .int .i64 a1), (2, .int .i64 a2), (3, .int .i64 a3), (4, v4), (10, .int .i64 x10_3), (11, .int .i64 x11_2)] [rowV 42 2 (.slice p0.1 n0 p0.2) n0 (a0.map e_face_Match)] rfl rfl ?_
     refine c_seq ?_
     refine c_seq ?_
     refine c_region ?_
     refine l_val rfl rfl rfl (r_move (v := .int .i64 x10_3) rfl) ?_
     refine l_val rfl rfl rfl (r_move (v := .int .i64 x11_2) rfl) ?_
     refine l_val rfl rfl rfl (r_lss rfl rfl) ?_
     refine l_nil ?_
     refine c_if (b := (decide (x10_3 < x11_2))) rfl (fun hb => ?_) (fun hb => ?_)
     ·have H182 := cnd_t hb H181; clear H181
      refine c_skip ?_
      refine c_block ?_
      refine c_seq ?_
      refine c_region ?_
      refine l_val rfl rfl rfl (r_move (v := .int .i64 x10_3) rfl) ?_
      refine l_val rfl rfl rfl (r_move (v := .int .i64 x11_2) rfl) ?_
      obtain ⟨t36, h_t36, H183⟩ := bnd_some H182; clear H182
      refine l_val rfl rfl rfl (r_addG rfl rfl h_t36) ?_
      refine l_val rfl rfl rfl (r_convG Tryz.runUnderlying3 Tryz.runUnderlying74 rfl (wr_u64 _)) ?_
      obtain ⟨t38, h_t38, H184⟩ := bnd_some H183; clear H183
      refine l_val rfl rfl rfl (r_shrG rfl rfl rfl h_t38) ?_
      refine l_val rfl rfl rfl (r_convG Tryz.runUnderlying74 Tryz.runUnderlying3 rfl (wr_i64 _)) ?_
      refine l_val rfl rfl rfl (r_assign (v := .int .i64 (wI64 t38)) rfl) ?_
      refine l_nil ?_
      refine c_seq ?_
      exact c_regionD (Kd.p :: Kd.p :: Kd.p :: Kd.d [0] _ :: Kd.d [0] _ :: Kd.p :: Kd.p :: Kd.d [0] _ :: Kd.d [0] _ :: Kd.d [] _ :: Kd.p :: []) 0 mixed (by
       refine d_val rfl rfl (r_move (v := v4) rfl) ?_
       refine d_val rfl rfl (r_move (v := .slice p0.1 n0 p0.2) rfl) ?_
       refine d_val rfl rfl (r_move (v := .int .i64 (wI64 t38)) rfl) ?_
       have h_t43 := bnd_val H184
       have H185 := bnd_rest H184
       refine d_readD (fun w L' hF hS hi => run_indexO Tryz.underlying37 Tryz.sizeOf42 rfl rfl (rowOf (i := 0) (E := 42) (sz := 2) (n := n0) (a := p0.1) (c := p0.2) hS ((hi 0 (by simp)).trans rfl)) hn0 h_t43) rfl rfl ?_
       refine d_readD (fun w L' hF hS hi => run_loadGN (f := e_face_Match) (i := (wI64 t38)) (sz := 2) (j := 0) (vs := [.int .i64 (val (gAt a0 (wI64 t38))).Person, .int .i64 (val (gAt a0 (wI64 t38))).Far]) Tryz.isAgg42 Tryz.sizeOf42 rfl rfl (rowOf (i := 0) (E := 42) (sz := 2) (n := n0) (a := p0.1) (c := p0.2) hS ((hi 0 (by simp)).trans rfl)) h_t43 rfl) rfl rfl ?_
       refine d_val rfl rfl (r_move (v := .slice p0.1 n0 p0.2) rfl) ?_
       refine d_val rfl rfl (r_move (v := .int .i64 a1) rfl) ?_
       have h_t47 := bnd_val H185
       have H186 := bnd_rest H185
       refine d_readD (fun w L' hF hS hi => run_indexO Tryz.underlying37 Tryz.sizeOf42 rfl rfl (rowOf (i := 0) (E := 42) (sz := 2) (n := n0) (a := p0.1) (c := p0.2) hS ((hi 0 (by simp)).trans rfl)) hn0 h_t47) rfl rfl ?_
       refine d_readD (fun w L' hF hS hi => run_loadGN (f := e_face_Match) (i := a1) (sz := 2) (j := 0) (vs := [.int .i64 (val (gAt a0 a1)).Person, .int .i64 (val (gAt a0 a1)).Far]) Tryz.isAgg42 Tryz.sizeOf42 rfl rfl (rowOf (i := 0) (E := 42) (sz := 2) (n := n0) (a := p0.1) (c := p0.2) hS ((hi 0 (by simp)).trans rfl)) h_t47 rfl) rfl rfl ?_
       have h_t49 := bnd_val H186
       have H187 := bnd_rest H186
       refine d_callV (R := fnR_func_face_Match_face_Match_int a4) (r := .int .i64 (val (a4 (val (gAt a0 (wI64 t38))) (val (gAt a0 a1))))) (v := v4) (fun w L' hF hS hi => ⟨(f4.mono (hw.now hF)), ⟨(val (gAt a0 (wI64 t38))), (val (gAt a0 a1)), _, rfl, h_t49, rfl⟩⟩) rfl rfl rfl ?_
       refine d_val rfl rfl (r_lss rfl rfl) ?_
       refine d_nil ?_
       refine c_if (b := (decide ((val (a4 (val (gAt a0 (wI64 t38))) (val (gAt a0 a1)))) < 0))) rfl (fun hb => ?_) (fun hb => ?_)
       ·have H188 := cnd_t hb H187; clear H187
        refine c_region ?_
        refine l_val rfl rfl rfl (r_move (v := .int .i64 (wI64 t38)) rfl) ?_
        obtain ⟨t52, h_t52, H189⟩ := bnd_some H188; clear H188
        refine l_val rfl rfl rfl (r_addG rfl rfl h_t52) ?_
        refine l_val rfl rfl rfl (r_assign (v := .int .i64 t52) rfl) ?_
        refine l_nil ?_
        refine c_close (t52, x11_2) () m13 [0] (by exact ⟨rfl, rfl, rfl, rfl, rfl, rfl, rfl, trivial⟩) (by decide) rfl (by exact ⟨(by subst hn13; exact H189), trivial⟩) (Nat.lt_succ_self _)
       ·have H190 := cnd_f hb H187; clear H187
        refine c_region ?_
        refine l_val rfl rfl rfl (r_move (v := .int .i64 (wI64 t38)) rfl) ?_
        refine l_val rfl rfl rfl (r_assign (v := .int .i64 (wI64 t38)) rfl) ?_
        refine l_nil ?_
        refine c_close (x10_3, (wI64 t38)) () m13 [0] (by exact ⟨rfl, rfl, rfl, rfl, rfl, rfl, rfl, trivial⟩) (by decide) rfl (by exact ⟨(by subst hn13; exact H190), trivial⟩) (Nat.lt_succ_self _)
       ) (by kernel_rfl)
     ·have H191 := cnd_f hb H181; clear H181
      refine c_exit ?_
      refine c_close x10_3 () 0 [0] (by exact ⟨rfl, rfl, rfl, rfl, rfl, rfl, trivial⟩) (by decide) rfl (by exact ⟨H191, trivial⟩) (Nat.lt_succ_self _)
    ·rintro x10 _ gg H167 _
     replace H167 : slices_symMergeCmpFunc_face_Match_j11 a0 a1 x10 = some r := H167
     refine c_tidyF [(0, .slice p0.1 n0 p0.2), (1, .int .i64 a1), (2, .int .i64 a2), (3, .int .i64 a3), (4, v4), (10, .int .i64 x10)] [rowV 42 2 (.slice p0.1 n0 p0.2) n0 (a0.map e_face_Match)] rfl rfl ?_
     refine c_seq ?_
     refine c_seq ?_
     refine c_region ?_
     refine l_val rfl rfl rfl (r_move (v := .int .i64 a1) rfl) ?_
     refine l_val rfl rfl rfl (r_assign (v := .int .i64 a1) rfl) ?_
     refine l_nil ?_
     refine c_block ?_
     refine c_fix (σ := Int × (List T_face_Match)) (τ := Unit) (fun next12 s => slices_symMergeCmpFunc_face_Match_l12 x10 next12 s.1 s.2) (fun s t => [(0, .slice p0.1 n0 p0.2), (1, .int .i64 a1), (2, .int .i64 a2), (3, .int .i64 a3), (4, v4), (10, .int .i64 x10), (13, .int .i64 s.1)]) (fun s t => [rowV 42 2 (.slice p0.1 n0 p0.2) n0 (s.2.map e_face_Match)]) (fun s t => n0 = s.2.length) (a1, a0) () [0] H167 (by exact hn0) (by exact ⟨rfl, rfl, rfl, rfl, rfl, rfl, rfl, trivial⟩) (by decide) rfl ?_
     rintro ⟨x13_2, l_6⟩ _ m12 gg H168 hl_9
     clear H167
     replace H168 : slices_symMergeCmpFunc_face_Match_l12 x10 (it (fun next12 s => slices_symMergeCmpFunc_face_Match_l12 x10 next12 s.1 s.2) m12) x13_2 l_6 = some r := H168
     generalize hn12 : it (fun next12 s => slices_symMergeCmpFunc_face_Match_l12 x10 next12 s.1 s.2) m12 = next12 at H168
     refine c_tidyF [(0, .slice p0.1 n0 p0.2), (1, .int .i64 a1), (2, .int .i64 a2), (3, .int .i64 a3), (4, v4), (10, .int .i64 x10), (13, .int .i64 x13_2)] [rowV 42 2 (.slice p0.1 n0 p0.2) n0 (l_6.map e_face_Match)] rfl rfl ?_
     refine c_seq ?_
     refine c_seq ?_
     refine c_region ?_
     refine l_val rfl rfl rfl (r_move (v := .int .i64 x13_2) rfl) ?_
     refine l_val rfl rfl rfl (r_move (v := .int .i64 x10) rfl) ?_
     obtain ⟨t57, h_t57, H169⟩ := bnd_some H168; clear H168
     refine l_val rfl rfl rfl (r_subG rfl rfl h_t57) ?_
     refine l_val rfl rfl rfl (r_lss rfl rfl) ?_
     refine l_nil ?_
     refine c_if (b := (decide (x13_2 < t57))) rfl (fun hb => ?_) (fun hb => ?_)
     ·have H170 := cnd_t hb H169; clear H169
      refine c_skip ?_
      refine c_seq ?_
      refine c_block ?_
      exact c_regionD (Kd.p :: Kd.p :: Kd.p :: Kd.p :: Kd.p :: Kd.p :: Kd.p :: Kd.p :: Kd.d [0] _ :: Kd.d [0] _ :: Kd.p :: Kd.p :: Kd.d [0] _ :: Kd.d [0] _ :: Kd.d [0] _ :: Kd.sr 0 _ :: Kd.d [0] _ :: Kd.sr 0 _ :: []) 0 mixed (by
       refine d_val rfl rfl (r_move (v := .slice p0.1 n0 p0.2) rfl) ?_
       refine d_val rfl rfl (r_move (v := .int .i64 x13_2) rfl) ?_
       refine d_val rfl rfl (r_move (v := .slice p0.1 n0 p0.2) rfl) ?_
       refine d_val rfl rfl (r_move (v := .int .i64 x13_2) rfl) ?_
       have h_t65 := bnd_val H170
       have H171 := bnd_rest H170
       refine d_val rfl rfl (r_addG rfl rfl h_t65) ?_
       refine d_val rfl rfl (r_move (v := .slice p0.1 n0 p0.2) rfl) ?_
       refine d_val rfl rfl (r_move (v := .int .i64 x13_2) rfl) ?_
       have h_t68 := bnd_val H171
       have H172 := bnd_rest H171
       refine d_val rfl rfl (r_addG rfl rfl h_t68) ?_
       have h_t69 := bnd_val H172
       have H173 := bnd_rest H172
       refine d_readD (fun w L' hF hS hi => run_indexO Tryz.underlying37 Tryz.sizeOf42 rfl rfl (rowOf (i := 0) (E := 42) (sz := 2) (n := n0) (a := p0.1) (c := p0.2) hS ((hi 0 (by simp)).trans rfl)) hl_9 h_t69) rfl rfl ?_
       refine d_readD (fun w L' hF hS hi => run_loadGN (f := e_face_Match) (i := (val (gI (x13_2 + 1)))) (sz := 2) (j := 0) (vs := [.int .i64 (val (gAt l_6 (val (gI (x13_2 + 1))))).Person, .int .i64 (val (gAt l_6 (val (gI (x13_2 + 1))))).Far]) Tryz.isAgg42 Tryz.sizeOf42 rfl rfl (rowOf (i := 0) (E := 42) (sz := 2) (n := n0) (a := p0.1) (c := p0.2) hS ((hi 0 (by simp)).trans rfl)) h_t69 rfl) rfl rfl ?_
       refine d_val rfl rfl (r_move (v := .slice p0.1 n0 p0.2) rfl) ?_
       refine d_val rfl rfl (r_move (v := .int .i64 x13_2) rfl) ?_
       have h_t73 := bnd_val H173
       have H174 := bnd_rest H173
       refine d_readD (fun w L' hF hS hi => run_indexO Tryz.underlying37 Tryz.sizeOf42 rfl rfl (rowOf (i := 0) (E := 42) (sz := 2) (n := n0) (a := p0.1) (c := p0.2) hS ((hi 0 (by simp)).trans rfl)) hl_9 h_t73) rfl rfl ?_
       refine d_readD (fun w L' hF hS hi => run_loadGN (f := e_face_Match) (i := x13_2) (sz := 2) (j := 0) (vs := [.int .i64 (val (gAt l_6 x13_2)).Person, .int .i64 (val (gAt l_6 x13_2)).Far]) Tryz.isAgg42 Tryz.sizeOf42 rfl rfl (rowOf (i := 0) (E := 42) (sz := 2) (n := n0) (a := p0.1) (c := p0.2) hS ((hi 0 (by simp)).trans rfl)) h_t73 rfl) rfl rfl ?_
       have h_t75 := bnd_val H174
       have H175 := bnd_rest H174
       refine d_readD (fun w L' hF hS hi => run_indexO Tryz.underlying37 Tryz.sizeOf42 rfl rfl (rowOf (i := 0) (E := 42) (sz := 2) (n := n0) (a := p0.1) (c := p0.2) hS ((hi 0 (by simp)).trans rfl)) hl_9 h_t75) rfl rfl ?_
       have h_l0_3 := bnd_val H175
       have H176 := bnd_rest H175
       refine d_storeG (q := 0) (j := 0) (i := x13_2) (sz := 2) (hm := hl_9) (f := e_face_Match) (vs := [.int .i64 (val (gAt l_6 (val (gI (x13_2 + 1))))).Person, .int .i64 (val (gAt l_6 (val (gI (x13_2 + 1))))).Far]) Tryz.sizeOf42 rfl rfl rfl rfl rfl rfl rfl rfl rfl (fun y_ hy_ => by first | rfl | (cases hy_.symm.trans h_t75; rfl)) h_l0_3 ?_
       have h_t76 := bnd_val H176
       have H177 := bnd_rest H176
       refine d_readD (fun w L' hF hS hi => run_indexO Tryz.underlying37 Tryz.sizeOf42 rfl rfl (rowOf (i := 0) (E := 42) (sz := 2) (n := n0) (a := p0.1) (c := p0.2) hS ((hi 0 (by simp)).trans rfl)) (gSet_n hl_9 h_l0_3) h_t76) rfl rfl ?_
       have h_l0_4 := bnd_val H177
       have H178 := bnd_rest H177
       refine d_storeG (q := 0) (j := 0) (i := (val (gI (x13_2 + 1)))) (sz := 2) (hm := (gSet_n hl_9 h_l0_3)) (f := e_face_Match) (vs := [.int .i64 (val (gAt l_6 x13_2)).Person, .int .i64 (val (gAt l_6 x13_2)).Far]) Tryz.sizeOf42 rfl rfl rfl rfl rfl rfl rfl rfl rfl (fun y_ hy_ => by first | rfl | (cases hy_.symm.trans h_t76; rfl)) h_l0_4 ?_
       refine d_nil ?_
       refine c_region ?_
       refine l_val rfl rfl rfl (r_move (v := .int .i64 x13_2) rfl) ?_
       obtain ⟨t60, h_t60, H179⟩ := bnd_some H178; clear H178
       refine l_val rfl rfl rfl (r_addG rfl rfl h_t60) ?_
       refine l_val rfl rfl rfl (r_assign (v := .int .i64 t60) rfl) ?_
       refine l_nil ?_
       refine c_close (t60, (val (gSet (val (gSet l_6 x13_2 (val (gAt l_6 (val (gI (x13_2 + 1))))))) (val (gI (x13_2 + 1))) (val (gAt l_6 x13_2))))) () m12 [0] (by exact ⟨rfl, rfl, rfl, rfl, rfl, rfl, rfl, trivial⟩) (by decide) rfl (by exact ⟨(by subst hn12; exact H179), (gSet_n (gSet_n hl_9 h_l0_3) h_l0_4)⟩) (Nat.lt_succ_self _)
       ) (by kernel_rfl)
     ·have H180 := cnd_f hb H169; clear H169
      refine c_exit ?_
      refine c_ret ?_
      obtain rfl := Option.some.inj H180
      refine ret0 rfl (finX () (i := 0) rfl rfl (Imp.refl _))
   ·have H192 := cnd_f hb H165; clear H165
    refine c_skip ?_
    refine c_close () () 0 [0] (by exact ⟨rfl, rfl, rfl, rfl, rfl, trivial⟩) (by decide) rfl (by exact ⟨H192, trivial⟩) (Nat.lt_succ_self _)
  ·rintro _ _ gg H97 _
   replace H97 : slices_symMergeCmpFunc_face_Match_j1 a0 a1 a2 a3 a4 self = some r := H97
   refine c_tidyF [(0, .slice p0.1 n0 p0.2), (1, .int .i64 a1), (2, .int .i64 a2), (3, .int .i64 a3), (4, v4)] [rowV 42 2 (.slice p0.1 n0 p0.2) n0 (a0.map e_face_Match)] rfl rfl ?_
   refine c_meet (r := r) (σ := Unit) (τ := Unit) (fun s => slices_symMergeCmpFunc_face_Match_j2 a0 a1 a2 a3 a4 self) (fun s t => [(0, .slice p0.1 n0 p0.2), (1, .int .i64 a1), (2, .int .i64 a2), (3, .int .i64 a3), (4, v4)]) (fun s t => [rowV 42 2 (.slice p0.1 n0 p0.2) n0 (a0.map e_face_Match)]) (fun s t => True) ?_ ?_
   ·refine c_seq ?_
    refine c_region ?_
    refine l_val rfl rfl rfl (r_move (v := .int .i64 a3) rfl) ?_
    refine l_val rfl rfl rfl (r_move (v := .int .i64 a2) rfl) ?_
    obtain ⟨t79, h_t79, H138⟩ := bnd_some H97; clear H97
    refine l_val rfl rfl rfl (r_subG rfl rfl h_t79) ?_
    refine l_val rfl rfl rfl (r_eql rfl rfl) ?_
    refine l_nil ?_
    refine c_if (b := (decide (t79 = 1))) rfl (fun hb => ?_) (fun hb => ?_)
    ·have H139 := cnd_t hb H138; clear H138
     refine c_seq ?_
     refine c_region ?_
     refine l_val rfl rfl rfl (r_move (v := .int .i64 a1) rfl) ?_
     refine l_val rfl rfl rfl (r_assign (v := .int .i64 a1) rfl) ?_
     refine l_nil ?_
     refine c_seq ?_
     refine c_region ?_
     refine l_val rfl rfl rfl (r_move (v := .int .i64 a2) rfl) ?_
     refine l_val rfl rfl rfl (r_assign (v := .int .i64 a2) rfl) ?_
     refine l_nil ?_
     refine c_meet (r := r) (σ := Int) (τ := Unit) (fun s => slices_symMergeCmpFunc_face_Match_j8 a0 a2 s) (fun s t => [(0, .slice p0.1 n0 p0.2), (1, .int .i64 a1), (2, .int .i64 a2), (3, .int .i64 a3), (4, v4), (14, .int .i64 s)]) (fun s t => [rowV 42 2 (.slice p0.1 n0 p0.2) n0 (a0.map e_face_Match)]) (fun s t => True) ?_ ?_
     ·refine c_block ?_
      refine c_fix (σ := Int × Int) (τ := Unit) (fun next10 s => slices_symMergeCmpFunc_face_Match_l10 a0 a2 a4 next10 s.1 s.2) (fun s t => [(0, .slice p0.1 n0 p0.2), (1, .int .i64 a1), (2, .int .i64 a2), (3, .int .i64 a3), (4, v4), (14, .int .i64 s.1), (15, .int .i64 s.2)]) (fun s t => [rowV 42 2 (.slice p0.1 n0 p0.2) n0 (a0.map e_face_Match)]) (fun s t => True) (a1, a2) () [0] H139 (by exact trivial) (by exact ⟨rfl, rfl, rfl, rfl, rfl, rfl, rfl, trivial⟩) (by decide) rfl ?_
      rintro ⟨x14_3, x15_2⟩ _ m10 gg H153 _
      clear H139
      replace H153 : slices_symMergeCmpFunc_face_Match_l10 a0 a2 a4 (it (fun next10 s => slices_symMergeCmpFunc_face_Match_l10 a0 a2 a4 next10 s.1 s.2) m10) x14_3 x15_2 = some r := H153
      generalize hn10 : it (fun next10 s => slices_symMergeCmpFunc_face_Match_l10 a0 a2 a4 next10 s.1 s.2) m10 = next10 at H153
      refine c_tidyF [(0, .slice p0.1 n0 p0.2), (1, .int .i64 a1), (2, .int .i64 a2), (3, .int .i64 a3), (4, v4), (14, .int .i64 x14_3), (15, .int .i64 x15_2)] [rowV 42 2 (.slice p0.1 n0 p0.2) n0 (a0.map e_face_Match)] rfl rfl ?_
      refine c_seq ?_
      refine c_seq ?_
      refine c_region ?_
      refine l_val rfl rfl rfl (r_move (v := .int .i64 x14_3) rfl) ?_
      refine l_val rfl rfl rfl (r_move (v := .int .i64 x15_2) rfl) ?_
      refine l_val rfl rfl rfl (r_lss rfl rfl) ?_
      refine l_nil ?_
      refine c_if (b := (decide (x14_3 < x15_2))) rfl (fun hb => ?_) (fun hb => ?_)
      ·have H154 := cnd_t hb H153; clear H153
       refine c_skip ?_
       refine c_block ?_
       refine c_seq ?_
       refine c_region ?_
       refine l_val rfl rfl rfl (r_move (v := .int .i64 x14_3) rfl) ?_
       refine l_val rfl rfl rfl (r_move (v := .int .i64 x15_2) rfl) ?_
       obtain ⟨t88, h_t88, H155⟩ := bnd_some H154; clear H154
       refine l_val rfl rfl rfl (r_addG rfl rfl h_t88) ?_
       refine l_val rfl rfl rfl (r_convG Tryz.runUnderlying3 Tryz.runUnderlying74 rfl (wr_u64 _)) ?_
       obtain ⟨t90, h_t90, H156⟩ := bnd_some H155; clear H155
       refine l_val rfl rfl rfl (r_shrG rfl rfl rfl h_t90) ?_
       refine l_val rfl rfl rfl (r_convG Tryz.runUnderlying74 Tryz.runUnderlying3 rfl (wr_i64 _)) ?_
       refine l_val rfl rfl rfl (r_assign (v := .int .i64 (wI64 t90)) rfl) ?_
       refine l_nil ?_
       refine c_seq ?_
       exact c_regionD (Kd.p :: Kd.p :: Kd.p :: Kd.d [0] _ :: Kd.d [0] _ :: Kd.p :: Kd.p :: Kd.d [0] _ :: Kd.d [0] _ :: Kd.d [] _ :: Kd.p :: Kd.p :: []) 0 mixed (by
        refine d_val rfl rfl (r_move (v := v4) rfl) ?_
        refine d_val rfl rfl (r_move (v := .slice p0.1 n0 p0.2) rfl) ?_
        refine d_val rfl rfl (r_move (v := .int .i64 a2) rfl) ?_
        have h_t95 := bnd_val H156
        have H157 := bnd_rest H156
        refine d_readD (fun w L' hF hS hi => run_indexO Tryz.underlying37 Tryz.sizeOf42 rfl rfl (rowOf (i := 0) (E := 42) (sz := 2) (n := n0) (a := p0.1) (c := p0.2) hS ((hi 0 (by simp)).trans rfl)) hn0 h_t95) rfl rfl ?_
        refine d_readD (fun w L' hF hS hi => run_loadGN (f := e_face_Match) (i := a2) (sz := 2) (j := 0) (vs := [.int .i64 (val (gAt a0 a2)).Person, .int .i64 (val (gAt a0 a2)).Far]) Tryz.isAgg42 Tryz.sizeOf42 rfl rfl (rowOf (i := 0) (E := 42) (sz := 2) (n := n0) (a := p0.1) (c := p0.2) hS ((hi 0 (by simp)).trans rfl)) h_t95 rfl) rfl rfl ?_
        refine d_val rfl rfl (r_move (v := .slice p0.1 n0 p0.2) rfl) ?_
        refine d_val rfl rfl (r_move (v := .int .i64 (wI64 t90)) rfl) ?_
        have h_t99 := bnd_val H157
        have H158 := bnd_rest H157
        refine d_readD (fun w L' hF hS hi => run_indexO Tryz.underlying37 Tryz.sizeOf42 rfl rfl (rowOf (i := 0) (E := 42) (sz := 2) (n := n0) (a := p0.1) (c := p0.2) hS ((hi 0 (by simp)).trans rfl)) hn0 h_t99) rfl rfl ?_
        refine d_readD (fun w L' hF hS hi => run_loadGN (f := e_face_Match) (i := (wI64 t90)) (sz := 2) (j := 0) (vs := [.int .i64 (val (gAt a0 (wI64 t90))).Person, .int .i64 (val (gAt a0 (wI64 t90))).Far]) Tryz.isAgg42 Tryz.sizeOf42 rfl rfl (rowOf (i := 0) (E := 42) (sz := 2) (n := n0) (a := p0.1) (c := p0.2) hS ((hi 0 (by simp)).trans rfl)) h_t99 rfl) rfl rfl ?_
        have h_t101 := bnd_val H158
        have H159 := bnd_rest H158
        refine d_callV (R := fnR_func_face_Match_face_Match_int a4) (r := .int .i64 (val (a4 (val (gAt a0 a2)) (val (gAt a0 (wI64 t90)))))) (v := v4) (fun w L' hF hS hi => ⟨(f4.mono (hw.now hF)), ⟨(val (gAt a0 a2)), (val (gAt a0 (wI64 t90))), _, rfl, h_t101, rfl⟩⟩) rfl rfl rfl ?_
        refine d_val rfl rfl (r_lss rfl rfl) ?_
        refine d_val rfl rfl (r_not rfl) ?_
        refine d_nil ?_
        refine c_if (b := (!(decide ((val (a4 (val (gAt a0 a2)) (val (gAt a0 (wI64 t90))))) < 0)))) rfl (fun hb => ?_) (fun hb => ?_)
        ·have H160 := cnd_t hb H159; clear H159
         refine c_region ?_
         refine l_val rfl rfl rfl (r_move (v := .int .i64 (wI64 t90)) rfl) ?_
         obtain ⟨t105, h_t105, H161⟩ := bnd_some H160; clear H160
         refine l_val rfl rfl rfl (r_addG rfl rfl h_t105) ?_
         refine l_val rfl rfl rfl (r_assign (v := .int .i64 t105) rfl) ?_
         refine l_nil ?_
         refine c_close (t105, x15_2) () m10 [0] (by exact ⟨rfl, rfl, rfl, rfl, rfl, rfl, rfl, trivial⟩) (by decide) rfl (by exact ⟨(by subst hn10; exact H161), trivial⟩) (Nat.lt_succ_self _)
        ·have H162 := cnd_f hb H159; clear H159
         refine c_region ?_
         refine l_val rfl rfl rfl (r_move (v := .int .i64 (wI64 t90)) rfl) ?_
         refine l_val rfl rfl rfl (r_assign (v := .int .i64 (wI64 t90)) rfl) ?_
         refine l_nil ?_
         refine c_close (x14_3, (wI64 t90)) () m10 [0] (by exact ⟨rfl, rfl, rfl, rfl, rfl, rfl, rfl, trivial⟩) (by decide) rfl (by exact ⟨(by subst hn10; exact H162), trivial⟩) (Nat.lt_succ_self _)
        ) (by kernel_rfl)
      ·have H163 := cnd_f hb H153; clear H153
       refine c_exit ?_
       refine c_close x14_3 () 0 [0] (by exact ⟨rfl, rfl, rfl, rfl, rfl, rfl, trivial⟩) (by decide) rfl (by exact ⟨H163, trivial⟩) (Nat.lt_succ_self _)
     ·rintro x14 _ gg H140 _
      replace H140 : slices_symMergeCmpFunc_face_Match_j8 a0 a2 x14 = some r := H140
      refine c_tidyF [(0, .slice p0.1 n0 p0.2), (1, .int .i64 a1), (2, .int .i64 a2), (3, .int .i64 a3), (4, v4), (14, .int .i64 x14)] [rowV 42 2 (.slice p0.1 n0 p0.2) n0 (a0.map e_face_Match)] rfl rfl ?_
      refine c_seq ?_
      refine c_seq ?_
      refine c_region ?_
      refine l_val rfl rfl rfl (r_move (v := .int .i64 a2) rfl) ?_
      refine l_val rfl rfl rfl (r_assign (v := .int .i64 a2) rfl) ?_
      refine l_nil ?_
      refine c_block ?_
      refine c_fix (σ := Int × (List T_face_Match)) (τ := Unit) (fun next9 s => slices_symMergeCmpFunc_face_Match_l9 x14 next9 s.1 s.2) (fun s t => [(0, .slice p0.1 n0 p0.2), (1, .int .i64 a1), (2, .int .i64 a2), (3, .int .i64 a3), (4, v4), (14, .int .i64 x14), (17, .int .i64 s.1)]) (fun s t => [rowV 42 2 (.slice p0.1 n0 p0.2) n0 (s.2.map e_face_Match)]) (fun s t => n0 = s.2.length) (a2, a0) () [0] H140 (by exact hn0) (by exact ⟨rfl, rfl, rfl, rfl, rfl, rfl, rfl, trivial⟩) (by decide) rfl ?_
      rintro ⟨x17_2, l_4⟩ _ m9 gg H141 hl_7
      clear H140
      replace H141 : slices_symMergeCmpFunc_face_Match_l9 x14 (it (fun next9 s => slices_symMergeCmpFunc_face_Match_l9 x14 next9 s.1 s.2) m9) x17_2 l_4 = some r := H141
      generalize hn9 : it (fun next9 s => slices_symMergeCmpFunc_face_Match_l9 x14 next9 s.1 s.2) m9 = next9 at H141
      refine c_tidyF [(0, .slice p0.1 n0 p0.2), (1, .int .i64 a1), (2, .int .i64 a2), (3, .int .i64 a3), (4, v4), (14, .int .i64 x14), (17, .int .i64 x17_2)] [rowV 42 2 (.slice p0.1 n0 p0.2) n0 (l_4.map e_face_Match)] rfl rfl ?_
      refine c_seq ?_
      refine c_seq ?_
      refine c_region ?_
      refine l_val rfl rfl rfl (r_move (v := .int .i64 x17_2) rfl) ?_
      refine l_val rfl rfl rfl (r_move (v := .int .i64 x14) rfl) ?_
      refine l_val rfl rfl rfl (r_gtr rfl rfl) ?_
      refine l_nil ?_
      refine c_if (b := (decide (x14 < x17_2))) rfl (fun hb => ?_) (fun hb => ?_)
      ·have H142 := cnd_t hb H141; clear H141
       refine c_skip ?_
       refine c_seq ?_
       refine c_block ?_
       exact c_regionD (Kd.p :: Kd.p :: Kd.p :: Kd.p :: Kd.p :: Kd.p :: Kd.p :: Kd.p :: Kd.d [0] _ :: Kd.d [0] _ :: Kd.p :: Kd.p :: Kd.d [0] _ :: Kd.d [0] _ :: Kd.d [0] _ :: Kd.sr 0 _ :: Kd.d [0] _ :: Kd.sr 0 _ :: []) 0 mixed (by
        refine d_val rfl rfl (r_move (v := .slice p0.1 n0 p0.2) rfl) ?_
        refine d_val rfl rfl (r_move (v := .int .i64 x17_2) rfl) ?_
        refine d_val rfl rfl (r_move (v := .slice p0.1 n0 p0.2) rfl) ?_
        refine d_val rfl rfl (r_move (v := .int .i64 x17_2) rfl) ?_
        have h_t117 := bnd_val H142
        have H143 := bnd_rest H142
        refine d_val rfl rfl (r_subG rfl rfl h_t117) ?_
        refine d_val rfl rfl (r_move (v := .slice p0.1 n0 p0.2) rfl) ?_
        refine d_val rfl rfl (r_move (v := .int .i64 x17_2) rfl) ?_
        have h_t120 := bnd_val H143
        have H144 := bnd_rest H143
        refine d_val rfl rfl (r_subG rfl rfl h_t120) ?_
        have h_t121 := bnd_val H144
        have H145 := bnd_rest H144
        refine d_readD (fun w L' hF hS hi => run_indexO Tryz.underlying37 Tryz.sizeOf42 rfl rfl (rowOf (i := 0) (E := 42) (sz := 2) (n := n0) (a := p0.1) (c := p0.2) hS ((hi 0 (by simp)).trans rfl)) hl_7 h_t121) rfl rfl ?_
        refine d_readD (fun w L' hF hS hi => run_loadGN (f := e_face_Match) (i := (val (gI (x17_2 - 1)))) (sz := 2) (j := 0) (vs := [.int .i64 (val (gAt l_4 (val (gI (x17_2 - 1))))).Person, .int .i64 (val (gAt l_4 (val (gI (x17_2 - 1))))).Far]) Tryz.isAgg42 Tryz.sizeOf42 rfl rfl (rowOf (i := 0) (E := 42) (sz := 2) (n := n0) (a := p0.1) (c := p0.2) hS ((hi 0 (by simp)).trans rfl)) h_t121 rfl) rfl rfl ?_
        refine d_val rfl rfl (r_move (v := .slice p0.1 n0 p0.2) rfl) ?_
        refine d_val rfl rfl (r_move (v := .int .i64 x17_2) rfl) ?_
        have h_t125 := bnd_val H145
        have H146 := bnd_rest H145
        refine d_readD (fun w L' hF hS hi => run_indexO Tryz.underlying37 Tryz.sizeOf42 rfl rfl (rowOf (i := 0) (E := 42) (sz := 2) (n := n0) (a := p0.1) (c := p0.2) hS ((hi 0 (by simp)).trans rfl)) hl_7 h_t125) rfl rfl ?_
        refine d_readD (fun w L' hF hS hi => run_loadGN (f := e_face_Match) (i := x17_2) (sz := 2) (j := 0) (vs := [.int .i64 (val (gAt l_4 x17_2)).Person, .int .i64 (val (gAt l_4 x17_2)).Far]) Tryz.isAgg42 Tryz.sizeOf42 rfl rfl (rowOf (i := 0) (E := 42) (sz := 2) (n := n0) (a := p0.1) (c := p0.2) hS ((hi 0 (by simp)).trans rfl)) h_t125 rfl) rfl rfl ?_
        have h_t127 := bnd_val H146
        have H147 := bnd_rest H146
        refine d_readD (fun w L' hF hS hi => run_indexO Tryz.underlying37 Tryz.sizeOf42 rfl rfl (rowOf (i := 0) (E := 42) (sz := 2) (n := n0) (a := p0.1) (c := p0.2) hS ((hi 0 (by simp)).trans rfl)) hl_7 h_t127) rfl rfl ?_
        have h_l0 := bnd_val H147
        have H148 := bnd_rest H147
        refine d_storeG (q := 0) (j := 0) (i := x17_2) (sz := 2) (hm := hl_7) (f := e_face_Match) (vs := [.int .i64 (val (gAt l_4 (val (gI (x17_2 - 1))))).Person, .int .i64 (val (gAt l_4 (val (gI (x17_2 - 1))))).Far]) Tryz.sizeOf42 rfl rfl rfl rfl rfl rfl rfl rfl rfl (fun y_ hy_ => by first | rfl | (cases hy_.symm.trans h_t127; rfl)) h_l0 ?_
        have h_t128 := bnd_val H148
        have H149 := bnd_rest H148
        refine d_readD (fun w L' hF hS hi => run_indexO Tryz.underlying37 Tryz.sizeOf42 rfl rfl (rowOf (i := 0) (E := 42) (sz := 2) (n := n0) (a := p0.1) (c := p0.2) hS ((hi 0 (by simp)).trans rfl)) (gSet_n hl_7 h_l0) h_t128) rfl rfl ?_
        have h_l0_2 := bnd_val H149
        have H150 := bnd_rest H149
        refine d_storeG (q := 0) (j := 0) (i := (val (gI (x17_2 - 1)))) (sz := 2) (hm := (gSet_n hl_7 h_l0)) (f := e_face_Match) (vs := [.int .i64 (val (gAt l_4 x17_2)).Person, .int .i64 (val (gAt l_4 x17_2)).Far]) Tryz.sizeOf42 rfl rfl rfl rfl rfl rfl rfl rfl rfl (fun y_ hy_ => by first | rfl | (cases hy_.symm.trans h_t128; rfl)) h_l0_2 ?_
        refine d_nil ?_
        refine c_region ?_
        refine l_val rfl rfl rfl (r_move (v := .int .i64 x17_2) rfl) ?_
        obtain ⟨t112, h_t112, H151⟩ := bnd_some H150; clear H150
        refine l_val rfl rfl rfl (r_subG rfl rfl h_t112) ?_
        refine l_val rfl rfl rfl (r_assign (v := .int .i64 t112) rfl) ?_
        refine l_nil ?_
        refine c_close (t112, (val (gSet (val (gSet l_4 x17_2 (val (gAt l_4 (val (gI (x17_2 - 1))))))) (val (gI (x17_2 - 1))) (val (gAt l_4 x17_2))))) () m9 [0] (by exact ⟨rfl, rfl, rfl, rfl, rfl, rfl, rfl, trivial⟩) (by decide) rfl (by exact ⟨(by subst hn9; exact H151), (gSet_n (gSet_n hl_7 h_l0) h_l0_2)⟩) (Nat.lt_succ_self _)
        ) (by kernel_rfl)
      ·have H152 := cnd_f hb H141; clear H141
       refine c_exit ?_
       refine c_ret ?_
       obtain rfl := Option.some.inj H152
       refine ret0 rfl (finX () (i := 0) rfl rfl (Imp.refl _))
    ·have H164 := cnd_f hb H138; clear H138
     refine c_skip ?_
     refine c_close () () 0 [0] (by exact ⟨rfl, rfl, rfl, rfl, rfl, trivial⟩) (by decide) rfl (by exact ⟨H164, trivial⟩) (Nat.lt_succ_self _)
   ·rintro _ _ gg H98 _
    replace H98 : slices_symMergeCmpFunc_face_Match_j2 a0 a1 a2 a3 a4 self = some r := H98
    refine c_tidyF [(0, .slice p0.1 n0 p0.2), (1, .int .i64 a1), (2, .int .i64 a2), (3, .int .i64 a3), (4, v4)] [rowV 42 2 (.slice p0.1 n0 p0.2) n0 (a0.map e_face_Match)] rfl rfl ?_
    refine c_seq ?_
    refine c_region ?_
    refine l_val rfl rfl rfl (r_move (v := .int .i64 a1) rfl) ?_
    refine l_val rfl rfl rfl (r_move (v := .int .i64 a3) rfl) ?_
    obtain ⟨t131, h_t131, H99⟩ := bnd_some H98; clear H98
    refine l_val rfl rfl rfl (r_addG rfl rfl h_t131) ?_
    refine l_val rfl rfl rfl (r_convG Tryz.runUnderlying3 Tryz.runUnderlying74 rfl (wr_u64 _)) ?_
    obtain ⟨t133, h_t133, H100⟩ := bnd_some H99; clear H99
    refine l_val rfl rfl rfl (r_shrG rfl rfl rfl h_t133) ?_
    refine l_val rfl rfl rfl (r_convG Tryz.runUnderlying74 Tryz.runUnderlying3 rfl (wr_i64 _)) ?_
    refine l_val rfl rfl rfl (r_assign (v := .int .i64 (wI64 t133)) rfl) ?_
    refine l_nil ?_
    refine c_seq ?_
    refine c_region ?_
    refine l_val rfl rfl rfl (r_move (v := .int .i64 (wI64 t133)) rfl) ?_
    refine l_val rfl rfl rfl (r_move (v := .int .i64 a2) rfl) ?_
    obtain ⟨t137, h_t137, H101⟩ := bnd_some H100; clear H100
    refine l_val rfl rfl rfl (r_addG rfl rfl h_t137) ?_
    refine l_val rfl rfl rfl (r_assign (v := .int .i64 t137) rfl) ?_
    refine l_nil ?_
    refine c_seq ?_
    refine c_region ?_
    refine l_val rfl rfl rfl (r_assign (v := .int .i64 0) rfl) ?_
    refine l_val rfl rfl rfl (r_assign (v := .int .i64 0) rfl) ?_
    refine l_nil ?_
    refine c_meet (r := r) (σ := Int × Int) (τ := Unit) (fun s => slices_symMergeCmpFunc_face_Match_j3 a0 a1 a2 a3 a4 self t133 t137 s.1 s.2) (fun s t => [(0, .slice p0.1 n0 p0.2), (1, .int .i64 a1), (2, .int .i64 a2), (3, .int .i64 a3), (4, v4), (18, .int .i64 (wI64 t133)), (19, .int .i64 t137), (20, .int .i64 s.1), (21, .int .i64 s.2)]) (fun s t => [rowV 42 2 (.slice p0.1 n0 p0.2) n0 (a0.map e_face_Match)]) (fun s t => True) ?_ ?_
    ·refine c_seq ?_
     refine c_region ?_
     refine l_val rfl rfl rfl (r_move (v := .int .i64 a2) rfl) ?_
     refine l_val rfl rfl rfl (r_move (v := .int .i64 (wI64 t133)) rfl) ?_
     refine l_val rfl rfl rfl (r_gtr rfl rfl) ?_
     refine l_nil ?_
     refine c_if (b := (decide ((wI64 t133) < a2))) rfl (fun hb => ?_) (fun hb => ?_)
     ·have H135 := cnd_t hb H101; clear H101
      refine c_seq ?_
      refine c_region ?_
      refine l_val rfl rfl rfl (r_move (v := .int .i64 t137) rfl) ?_
      refine l_val rfl rfl rfl (r_move (v := .int .i64 a3) rfl) ?_
      obtain ⟨t143, h_t143, H136⟩ := bnd_some H135; clear H135
      refine l_val rfl rfl rfl (r_subG rfl rfl h_t143) ?_
      refine l_val rfl rfl rfl (r_assign (v := .int .i64 t143) rfl) ?_
      refine l_nil ?_
      refine c_region ?_
      refine l_val rfl rfl rfl (r_move (v := .int .i64 (wI64 t133)) rfl) ?_
      refine l_val rfl rfl rfl (r_assign (v := .int .i64 (wI64 t133)) rfl) ?_
      refine l_nil ?_
      refine c_close (t143, (wI64 t133)) () 0 [0] (by exact ⟨rfl, rfl, rfl, rfl, rfl, rfl, rfl, rfl, rfl, trivial⟩) (by decide) rfl (by exact ⟨H136, trivial⟩) (Nat.lt_succ_self _)
     ·have H137 := cnd_f hb H101; clear H101
      refine c_seq ?_
      refine c_region ?_
      refine l_val rfl rfl rfl (r_move (v := .int .i64 a1) rfl) ?_
      refine l_val rfl rfl rfl (r_assign (v := .int .i64 a1) rfl) ?_
      refine l_nil ?_
      refine c_region ?_
      refine l_val rfl rfl rfl (r_move (v := .int .i64 a2) rfl) ?_
      refine l_val rfl rfl rfl (r_assign (v := .int .i64 a2) rfl) ?_
      refine l_nil ?_
      refine c_close (a1, a2) () 0 [0] (by exact ⟨rfl, rfl, rfl, rfl, rfl, rfl, rfl, rfl, rfl, trivial⟩) (by decide) rfl (by exact ⟨H137, trivial⟩) (Nat.lt_succ_self _)
    ·rintro ⟨x20, x21⟩ _ gg H102 _
     replace H102 : slices_symMergeCmpFunc_face_Match_j3 a0 a1 a2 a3 a4 self t133 t137 x20 x21 = some r := H102
     refine c_tidyF [(0, .slice p0.1 n0 p0.2), (1, .int .i64 a1), (2, .int .i64 a2), (3, .int .i64 a3), (4, v4), (18, .int .i64 (wI64 t133)), (19, .int .i64 t137), (20, .int .i64 x20), (21, .int .i64 x21)] [rowV 42 2 (.slice p0.1 n0 p0.2) n0 (a0.map e_face_Match)] rfl rfl ?_
     refine c_seq ?_
     refine c_region ?_
     refine l_val rfl rfl rfl (r_move (v := .int .i64 t137) rfl) ?_
     obtain ⟨t148, h_t148, H103⟩ := bnd_some H102; clear H102
     refine l_val rfl rfl rfl (r_subG rfl rfl h_t148) ?_
     refine l_val rfl rfl rfl (r_assign (v := .int .i64 t148) rfl) ?_
     refine l_nil ?_
     refine c_meet (r := r) (σ := Int) (τ := Unit) (fun s => slices_symMergeCmpFunc_face_Match_j4 a0 a1 a2 a3 a4 self t133 t137 s) (fun s t => [(0, .slice p0.1 n0 p0.2), (1, .int .i64 a1), (2, .int .i64 a2), (3, .int .i64 a3), (4, v4), (18, .int .i64 (wI64 t133)), (19, .int .i64 t137), (20, .int .i64 s)]) (fun s t => [rowV 42 2 (.slice p0.1 n0 p0.2) n0 (a0.map e_face_Match)]) (fun s t => True) ?_ ?_
     ·refine c_block ?_
      refine c_fix (σ := Int × Int) (τ := Unit) (fun next7 s => slices_symMergeCmpFunc_face_Match_l7 a0 a1 a2 a3 a4 self t133 t137 t148 next7 s.1 s.2) (fun s t => [(0, .slice p0.1 n0 p0.2), (1, .int .i64 a1), (2, .int .i64 a2), (3, .int .i64 a3), (4, v4), (18, .int .i64 (wI64 t133)), (19, .int .i64 t137), (20, .int .i64 s.1), (21, .int .i64 s.2), (22, .int .i64 t148)]) (fun s t => [rowV 42 2 (.slice p0.1 n0 p0.2) n0 (a0.map e_face_Match)]) (fun s t => True) (x20, x21) () [0] H103 (by exact trivial) (by exact ⟨rfl, rfl, rfl, rfl, rfl, rfl, rfl, rfl, rfl, rfl, trivial⟩) (by decide) rfl ?_
      rintro ⟨x20_4, x21_3⟩ _ m7 gg H123 _
      clear H103
      replace H123 : slices_symMergeCmpFunc_face_Match_l7 a0 a1 a2 a3 a4 self t133 t137 t148 (it (fun next7 s => slices_symMergeCmpFunc_face_Match_l7 a0 a1 a2 a3 a4 self t133 t137 t148 next7 s.1 s.2) m7) x20_4 x21_3 = some r := H123
      generalize hn7 : it (fun next7 s => slices_symMergeCmpFunc_face_Match_l7 a0 a1 a2 a3 a4 self t133 t137 t148 next7 s.1 s.2) m7 = next7 at H123
      refine c_tidyF [(0, .slice p0.1 n0 p0.2), (1, .int .i64 a1), (2, .int .i64 a2), (3, .int .i64 a3), (4, v4), (18, .int .i64 (wI64 t133)), (19, .int .i64 t137), (20, .int .i64 x20_4), (21, .int .i64 x21_3), (22, .int .i64 t148)] [rowV 42 2 (.slice p0.1 n0 p0.2) n0 (a0.map e_face_Match)] rfl rfl ?_
      refine c_seq ?_
      refine c_seq ?_
      refine c_region ?_
      refine l_val rfl rfl rfl (r_move (v := .int .i64 x20_4) rfl) ?_
      refine l_val rfl rfl rfl (r_move (v := .int .i64 x21_3) rfl) ?_
      refine l_val rfl rfl rfl (r_lss rfl rfl) ?_
      refine l_nil ?_
      refine c_if (b := (decide (x20_4 < x21_3))) rfl (fun hb => ?_) (fun hb => ?_)
      ·have H124 := cnd_t hb H123; clear H123
       refine c_skip ?_
       refine c_block ?_
       refine c_seq ?_
       refine c_region ?_
       refine l_val rfl rfl rfl (r_move (v := .int .i64 x20_4) rfl) ?_
       refine l_val rfl rfl rfl (r_move (v := .int .i64 x21_3) rfl) ?_
       obtain ⟨t154, h_t154, H125⟩ := bnd_some H124; clear H124
       refine l_val rfl rfl rfl (r_addG rfl rfl h_t154) ?_
       refine l_val rfl rfl rfl (r_convG Tryz.runUnderlying3 Tryz.runUnderlying74 rfl (wr_u64 _)) ?_
       obtain ⟨t156, h_t156, H126⟩ := bnd_some H125; clear H125
       refine l_val rfl rfl rfl (r_shrG rfl rfl rfl h_t156) ?_
       refine l_val rfl rfl rfl (r_convG Tryz.runUnderlying74 Tryz.runUnderlying3 rfl (wr_i64 _)) ?_
       refine l_val rfl rfl rfl (r_assign (v := .int .i64 (wI64 t156)) rfl) ?_
       refine l_nil ?_
       refine c_seq ?_
       exact c_regionD (Kd.p :: Kd.p :: Kd.p :: Kd.p :: Kd.p :: Kd.d [0] _ :: Kd.d [0] _ :: Kd.p :: Kd.p :: Kd.d [0] _ :: Kd.d [0] _ :: Kd.d [] _ :: Kd.p :: Kd.p :: []) 0 mixed (by
        refine d_val rfl rfl (r_move (v := v4) rfl) ?_
        refine d_val rfl rfl (r_move (v := .slice p0.1 n0 p0.2) rfl) ?_
        refine d_val rfl rfl (r_move (v := .int .i64 t148) rfl) ?_
        refine d_val rfl rfl (r_move (v := .int .i64 (wI64 t156)) rfl) ?_
        have h_t162 := bnd_val H126
        have H127 := bnd_rest H126
        refine d_val rfl rfl (r_subG rfl rfl h_t162) ?_
        have h_t163 := bnd_val H127
        have H128 := bnd_rest H127
        refine d_readD (fun w L' hF hS hi => run_indexO Tryz.underlying37 Tryz.sizeOf42 rfl rfl (rowOf (i := 0) (E := 42) (sz := 2) (n := n0) (a := p0.1) (c := p0.2) hS ((hi 0 (by simp)).trans rfl)) hn0 h_t163) rfl rfl ?_
        refine d_readD (fun w L' hF hS hi => run_loadGN (f := e_face_Match) (i := (val (gI (t148 - (wI64 t156))))) (sz := 2) (j := 0) (vs := [.int .i64 (val (gAt a0 (val (gI (t148 - (wI64 t156)))))).Person, .int .i64 (val (gAt a0 (val (gI (t148 - (wI64 t156)))))).Far]) Tryz.isAgg42 Tryz.sizeOf42 rfl rfl (rowOf (i := 0) (E := 42) (sz := 2) (n := n0) (a := p0.1) (c := p0.2) hS ((hi 0 (by simp)).trans rfl)) h_t163 rfl) rfl rfl ?_
        refine d_val rfl rfl (r_move (v := .slice p0.1 n0 p0.2) rfl) ?_
        refine d_val rfl rfl (r_move (v := .int .i64 (wI64 t156)) rfl) ?_
        have h_t167 := bnd_val H128
        have H129 := bnd_rest H128
        refine d_readD (fun w L' hF hS hi => run_indexO Tryz.underlying37 Tryz.sizeOf42 rfl rfl (rowOf (i := 0) (E := 42) (sz := 2) (n := n0) (a := p0.1) (c := p0.2) hS ((hi 0 (by simp)).trans rfl)) hn0 h_t167) rfl rfl ?_
        refine d_readD (fun w L' hF hS hi => run_loadGN (f := e_face_Match) (i := (wI64 t156)) (sz := 2) (j := 0) (vs := [.int .i64 (val (gAt a0 (wI64 t156))).Person, .int .i64 (val (gAt a0 (wI64 t156))).Far]) Tryz.isAgg42 Tryz.sizeOf42 rfl rfl (rowOf (i := 0) (E := 42) (sz := 2) (n := n0) (a := p0.1) (c := p0.2) hS ((hi 0 (by simp)).trans rfl)) h_t167 rfl) rfl rfl ?_
        have h_t169 := bnd_val H129
        have H130 := bnd_rest H129
        refine d_callV (R := fnR_func_face_Match_face_Match_int a4) (r := .int .i64 (val (a4 (val (gAt a0 (val (gI (t148 - (wI64 t156)))))) (val (gAt a0 (wI64 t156)))))) (v := v4) (fun w L' hF hS hi => ⟨(f4.mono (hw.now hF)), ⟨(val (gAt a0 (val (gI (t148 - (wI64 t156)))))), (val (gAt a0 (wI64 t156))), _, rfl, h_t169, rfl⟩⟩) rfl rfl rfl ?_
        refine d_val rfl rfl (r_lss rfl rfl) ?_
        refine d_val rfl rfl (r_not rfl) ?_
        refine d_nil ?_
        refine c_if (b := (!(decide ((val (a4 (val (gAt a0 (val (gI (t148 - (wI64 t156)))))) (val (gAt a0 (wI64 t156))))) < 0)))) rfl (fun hb => ?_) (fun hb => ?_)
        ·have H131 := cnd_t hb H130; clear H130
         refine c_region ?_
         refine l_val rfl rfl rfl (r_move (v := .int .i64 (wI64 t156)) rfl) ?_
         obtain ⟨t173, h_t173, H132⟩ := bnd_some H131; clear H131
         refine l_val rfl rfl rfl (r_addG rfl rfl h_t173) ?_
         refine l_val rfl rfl rfl (r_assign (v := .int .i64 t173) rfl) ?_
         refine l_nil ?_
         refine c_close (t173, x21_3) () m7 [0] (by exact ⟨rfl, rfl, rfl, rfl, rfl, rfl, rfl, rfl, rfl, rfl, trivial⟩) (by decide) rfl (by exact ⟨(by subst hn7; exact H132), trivial⟩) (Nat.lt_succ_self _)
        ·have H133 := cnd_f hb H130; clear H130
         refine c_region ?_
         refine l_val rfl rfl rfl (r_move (v := .int .i64 (wI64 t156)) rfl) ?_
         refine l_val rfl rfl rfl (r_assign (v := .int .i64 (wI64 t156)) rfl) ?_
         refine l_nil ?_
         refine c_close (x20_4, (wI64 t156)) () m7 [0] (by exact ⟨rfl, rfl, rfl, rfl, rfl, rfl, rfl, rfl, rfl, rfl, trivial⟩) (by decide) rfl (by exact ⟨(by subst hn7; exact H133), trivial⟩) (Nat.lt_succ_self _)
        ) (by kernel_rfl)
      ·have H134 := cnd_f hb H123; clear H123
       refine c_exit ?_
       refine c_close x20_4 () 0 [0] (by exact ⟨rfl, rfl, rfl, rfl, rfl, rfl, rfl, rfl, trivial⟩) (by decide) rfl (by exact ⟨H134, trivial⟩) (Nat.lt_succ_self _)
     ·rintro x20_2 _ gg H104 _
      replace H104 : slices_symMergeCmpFunc_face_Match_j4 a0 a1 a2 a3 a4 self t133 t137 x20_2 = some r := H104
      refine c_tidyF [(0, .slice p0.1 n0 p0.2), (1, .int .i64 a1), (2, .int .i64 a2), (3, .int .i64 a3), (4, v4), (18, .int .i64 (wI64 t133)), (19, .int .i64 t137), (20, .int .i64 x20_2)] [rowV 42 2 (.slice p0.1 n0 p0.2) n0 (a0.map e_face_Match)] rfl rfl ?_
      refine c_seq ?_
      refine c_region ?_
      refine l_val rfl rfl rfl (r_move (v := .int .i64 t137) rfl) ?_
      refine l_val rfl rfl rfl (r_move (v := .int .i64 x20_2) rfl) ?_
      obtain ⟨t177, h_t177, H105⟩ := bnd_some H104; clear H104
      refine l_val rfl rfl rfl (r_subG rfl rfl h_t177) ?_
      refine l_val rfl rfl rfl (r_assign (v := .int .i64 t177) rfl) ?_
      refine l_nil ?_
      refine c_meet (r := r) (σ := (List T_face_Match)) (τ := Unit) (fun s => slices_symMergeCmpFunc_face_Match_j5 a1 a3 a4 self t133 x20_2 t177 s) (fun s t => [(0, .slice p0.1 n0 p0.2), (1, .int .i64 a1), (3, .int .i64 a3), (4, v4), (18, .int .i64 (wI64 t133)), (20, .int .i64 x20_2), (24, .int .i64 t177)]) (fun s t => [rowV 42 2 (.slice p0.1 n0 p0.2) n0 (s.map e_face_Match)]) (fun s t => n0 = s.length) ?_ ?_
      ·refine c_seq ?_
       refine c_region ?_
       refine l_val rfl rfl rfl (r_move (v := .int .i64 x20_2) rfl) ?_
       refine l_val rfl rfl rfl (r_move (v := .int .i64 a2) rfl) ?_
       refine l_val rfl rfl rfl (r_lss rfl rfl) ?_
       refine l_val rfl rfl rfl (r_move (v := .bool (decide (x20_2 < a2))) rfl) ?_
       refine split (fun hb => ?_) (fun hb => ?_)
       ·have H118 := cnd_t hb H105; clear H105
        refine l_val rfl rfl rfl (r_move (v := .int .i64 a2) rfl) ?_
        refine l_val rfl rfl rfl (r_move (v := .int .i64 t177) rfl) ?_
        refine l_val rfl rfl rfl (r_lss rfl rfl) ?_
        refine l_val rfl rfl rfl (r_pickT (v := .bool (decide (a2 < t177))) rfl rfl) ?_
        refine l_nil ?_
        refine c_if (b := (decide (a2 < t177))) rfl (fun hb => ?_) (fun hb => ?_)
        ·have H119 := cnd_t hb H118; clear H118
         refine c_region ?_
         refine l_val rfl rfl rfl (r_move (v := .slice p0.1 n0 p0.2) rfl) ?_
         refine l_val rfl rfl rfl (r_move (v := .int .i64 x20_2) rfl) ?_
         refine l_val rfl rfl rfl (r_move (v := .int .i64 a2) rfl) ?_
         refine l_val rfl rfl rfl (r_move (v := .int .i64 t177) rfl) ?_
         refine l_val rfl rfl rfl (r_move (v := v4) rfl) ?_
         obtain ⟨t191, h_t191, H120⟩ := bnd_some H119; clear H119
         refine l_turn (turns_callB (i := 0) (rds := []) (G := fun x : Unit => .tuple #[]) (C := fun x : Unit => rowV 42 2 (.slice p0.1 n0 p0.2) n0 (t191.map e_face_Match)) rfl (fun w L' S hF hS hi hp hlt ho hA => k104 hp hlt (know_but w S) hn0 (f4.mono (hw.but hF ho)) h_t191) Tryz.call104 rfl) rfl rfl rfl (fun _ => ?_)
         refine c_know (fun w hF hS => lenOf (i := 0) hS rfl) (fun hl_5_ => ?_)
         have hl_5 : n0 = t191.length := by simpa using hl_5_.symm
         refine l_nil ?_
         refine c_close t191 () 0 [0] (by exact ⟨rfl, rfl, rfl, rfl, rfl, rfl, rfl, trivial⟩) (by decide) rfl (by exact ⟨H120, hl_5⟩) (Nat.lt_succ_self _)
        ·have H121 := cnd_f hb H118; clear H118
         refine c_skip ?_
         refine c_close a0 () 0 [0] (by exact ⟨rfl, rfl, rfl, rfl, rfl, rfl, rfl, trivial⟩) (by decide) rfl (by exact ⟨H121, hn0⟩) (Nat.lt_succ_self _)
       ·have H122 := cnd_f hb H105; clear H105
        refine l_passed rfl rfl rfl ?_
        refine l_passed rfl rfl rfl ?_
        refine l_passed rfl rfl rfl ?_
        refine l_val rfl rfl rfl (r_pickF (v := .bool false) rfl rfl) ?_
        refine l_nil ?_
        refine c_false rfl ?_
        refine c_skip ?_
        refine c_close a0 () 0 [0] (by exact ⟨rfl, rfl, rfl, rfl, rfl, rfl, rfl, trivial⟩) (by decide) rfl (by exact ⟨H122, hn0⟩) (Nat.lt_succ_self _)
      ·rintro l _ gg H106 hl
       replace H106 : slices_symMergeCmpFunc_face_Match_j5 a1 a3 a4 self t133 x20_2 t177 l = some r := H106
       refine c_tidyF [(0, .slice p0.1 n0 p0.2), (1, .int .i64 a1), (3, .int .i64 a3), (4, v4), (18, .int .i64 (wI64 t133)), (20, .int .i64 x20_2), (24, .int .i64 t177)] [rowV 42 2 (.slice p0.1 n0 p0.2) n0 (l.map e_face_Match)] rfl rfl ?_
       refine c_meet (r := r) (σ := (List T_face_Match)) (τ := Unit) (fun s => slices_symMergeCmpFunc_face_Match_j6 a3 a4 self t133 t177 s) (fun s t => [(0, .slice p0.1 n0 p0.2), (3, .int .i64 a3), (4, v4), (18, .int .i64 (wI64 t133)), (24, .int .i64 t177)]) (fun s t => [rowV 42 2 (.slice p0.1 n0 p0.2) n0 (s.map e_face_Match)]) (fun s t => n0 = s.length) ?_ ?_
       ·refine c_seq ?_
        refine c_region ?_
        refine l_val rfl rfl rfl (r_move (v := .int .i64 a1) rfl) ?_
        refine l_val rfl rfl rfl (r_move (v := .int .i64 x20_2) rfl) ?_
        refine l_val rfl rfl rfl (r_lss rfl rfl) ?_
        refine l_val rfl rfl rfl (r_move (v := .bool (decide (a1 < x20_2))) rfl) ?_
        refine split (fun hb => ?_) (fun hb => ?_)
        ·have H113 := cnd_t hb H106; clear H106
         refine l_val rfl rfl rfl (r_move (v := .int .i64 x20_2) rfl) ?_
         refine l_val rfl rfl rfl (r_move (v := .int .i64 (wI64 t133)) rfl) ?_
         refine l_val rfl rfl rfl (r_lss rfl rfl) ?_
         refine l_val rfl rfl rfl (r_pickT (v := .bool (decide (x20_2 < (wI64 t133)))) rfl rfl) ?_
         refine l_nil ?_
         refine c_if (b := (decide (x20_2 < (wI64 t133)))) rfl (fun hb => ?_) (fun hb => ?_)
         ·have H114 := cnd_t hb H113; clear H113
          refine c_region ?_
          refine l_val rfl rfl rfl (r_move (v := .slice p0.1 n0 p0.2) rfl) ?_
          refine l_val rfl rfl rfl (r_move (v := .int .i64 a1) rfl) ?_
          refine l_val rfl rfl rfl (r_move (v := .int .i64 x20_2) rfl) ?_
          refine l_val rfl rfl rfl (r_move (v := .int .i64 (wI64 t133)) rfl) ?_
          refine l_val rfl rfl rfl (r_move (v := v4) rfl) ?_
          obtain ⟨t205, h_t205, H115⟩ := bnd_some H114; clear H114
          refine l_turn (turns_callB (i := 0) (rds := []) (G := fun x : Unit => .tuple #[]) (C := fun x : Unit => rowV 42 2 (.slice p0.1 n0 p0.2) n0 (t205.map e_face_Match)) rfl (fun w L' S hF hS hi hp hlt ho hA => ih hp hlt (know_but w S) hl (f4.mono (hw.but hF ho)) h_t205) Tryz.call98 rfl) rfl rfl rfl (fun _ => ?_)
          refine c_know (fun w hF hS => lenOf (i := 0) hS rfl) (fun hl_4_ => ?_)
          have hl_4 : n0 = t205.length := by simpa using hl_4_.symm
          refine l_nil ?_
          refine c_close t205 () 0 [0] (by exact ⟨rfl, rfl, rfl, rfl, rfl, trivial⟩) (by decide) rfl (by exact ⟨H115, hl_4⟩) (Nat.lt_succ_self _)
         ·have H116 := cnd_f hb H113; clear H113
          refine c_skip ?_
          refine c_close l () 0 [0] (by exact ⟨rfl, rfl, rfl, rfl, rfl, trivial⟩) (by decide) rfl (by exact ⟨H116, hl⟩) (Nat.lt_succ_self _)
        ·have H117 := cnd_f hb H106; clear H106
         refine l_passed rfl rfl rfl ?_
         refine l_passed rfl rfl rfl ?_
         refine l_passed rfl rfl rfl ?_
         refine l_val rfl rfl rfl (r_pickF (v := .bool false) rfl rfl) ?_
         refine l_nil ?_
         refine c_false rfl ?_
         refine c_skip ?_
         refine c_close l () 0 [0] (by exact ⟨rfl, rfl, rfl, rfl, rfl, trivial⟩) (by decide) rfl (by exact ⟨H117, hl⟩) (Nat.lt_succ_self _)
       ·rintro l_2 _ gg H107 hl_2
        replace H107 : slices_symMergeCmpFunc_face_Match_j6 a3 a4 self t133 t177 l_2 = some r := H107
        refine c_tidyF [(0, .slice p0.1 n0 p0.2), (3, .int .i64 a3), (4, v4), (18, .int .i64 (wI64 t133)), (24, .int .i64 t177)] [rowV 42 2 (.slice p0.1 n0 p0.2) n0 (l_2.map e_face_Match)] rfl rfl ?_
        refine c_seq ?_
        refine c_region ?_
        refine l_val rfl rfl rfl (r_move (v := .int .i64 (wI64 t133)) rfl) ?_
        refine l_val rfl rfl rfl (r_move (v := .int .i64 t177) rfl) ?_
        refine l_val rfl rfl rfl (r_lss rfl rfl) ?_
        refine l_val rfl rfl rfl (r_move (v := .bool (decide ((wI64 t133) < t177))) rfl) ?_
        refine split (fun hb => ?_) (fun hb => ?_)
        ·have H108 := cnd_t hb H107; clear H107
         refine l_val rfl rfl rfl (r_move (v := .int .i64 t177) rfl) ?_
         refine l_val rfl rfl rfl (r_move (v := .int .i64 a3) rfl) ?_
         refine l_val rfl rfl rfl (r_lss rfl rfl) ?_
         refine l_val rfl rfl rfl (r_pickT (v := .bool (decide (t177 < a3))) rfl rfl) ?_
         refine l_nil ?_
         refine c_if (b := (decide (t177 < a3))) rfl (fun hb => ?_) (fun hb => ?_)
         ·have H109 := cnd_t hb H108; clear H108
          refine c_region ?_
          refine l_val rfl rfl rfl (r_move (v := .slice p0.1 n0 p0.2) rfl) ?_
          refine l_val rfl rfl rfl (r_move (v := .int .i64 (wI64 t133)) rfl) ?_
          refine l_val rfl rfl rfl (r_move (v := .int .i64 t177) rfl) ?_
          refine l_val rfl rfl rfl (r_move (v := .int .i64 a3) rfl) ?_
          refine l_val rfl rfl rfl (r_move (v := v4) rfl) ?_
          obtain ⟨t219, h_t219, H110⟩ := bnd_some H109; clear H109
          refine l_turn (turns_callB (i := 0) (rds := []) (G := fun x : Unit => .tuple #[]) (C := fun x : Unit => rowV 42 2 (.slice p0.1 n0 p0.2) n0 (t219.map e_face_Match)) rfl (fun w L' S hF hS hi hp hlt ho hA => ih hp hlt (know_but w S) hl_2 (f4.mono (hw.but hF ho)) h_t219) Tryz.call98 rfl) rfl rfl rfl (fun _ => ?_)
          refine c_know (fun w hF hS => lenOf (i := 0) hS rfl) (fun hl_3_ => ?_)
          have hl_3 : n0 = t219.length := by simpa using hl_3_.symm
          refine l_nil ?_
          obtain rfl := Option.some.inj H110
          refine ret0n rfl (finX () (i := 0) rfl rfl (Imp.refl _))
         ·have H111 := cnd_f hb H108; clear H108
          refine c_skip ?_
          obtain rfl := Option.some.inj H111
          refine ret0n rfl (finX () (i := 0) rfl rfl (Imp.refl _))
        ·have H112 := cnd_f hb H107; clear H107
         refine l_passed rfl rfl rfl ?_
         refine l_passed rfl rfl rfl ?_
         refine l_passed rfl rfl rfl ?_
         refine l_val rfl rfl rfl (r_pickF (v := .bool false) rfl rfl) ?_
         refine l_nil ?_
         refine c_false rfl ?_
         refine c_skip ?_
         obtain rfl := Option.some.inj H112
         refine ret0n rfl (finX () (i := 0) rfl rfl (Imp.refl _))
theorem k98 {a0 : (List T_face_Match)} {p0 : Option Addr × Nat} {n0 : Nat} {a1 : Int} {a2 : Int} {a3 : Int} {a4 : (T_face_Match → T_face_Match → Option (Int))} {v4 : Value} {r : (List T_face_Match)} {w : World} {h : Heap} {S : Nat → Prop} (hcs : (rowV 42 2 (.slice p0.1 n0 p0.2) n0 (a0.map e_face_Match)).P S w) (hlt : ∀ b, S b → b < w.heap.size) (hw : Know h w S) (hn0 : n0 = a0.length) (f4 : FnH Tryz.prog h v4 (fnR_func_face_Match_face_Match_int a4)) (H : slices_symMergeCmpFunc_face_Match a0 a1 a2 a3 a4 = some r) : Does Tryz.prog 98 (List.toArray [.slice p0.1 n0 p0.2, .int .i64 a1, .int .i64 a2, .int .i64 a3, v4]) w (fun v w' => ∃ x : Unit, v = (.tuple #[]) ∧ Turn w w' S (rowV 42 2 (.slice p0.1 n0 p0.2) n0 (r.map e_face_Match))) := by
 obtain ⟨mm, hm⟩ := fix_it (show fix (fun (self : ((List T_face_Match) × Int × Int × Int × (T_face_Match → T_face_Match → Option (Int))) → Option ((List T_face_Match))) (s : (List T_face_Match) × Int × Int × Int × (T_face_Match → T_face_Match → Option (Int))) => slices_symMergeCmpFunc_face_Match_body self s.1 s.2.1 s.2.2.1 s.2.2.2.1 s.2.2.2.2) (a0, a1, a2, a3, a4) = some r from H)
 exact k98_it mm hcs hlt hw hn0 f4 hm
theorem k81 {a0 : (List T_face_Match)} {p0 : Option Addr × Nat} {n0 : Nat} {a1 : Int} {a2 : (T_face_Match → T_face_Match → Option (Int))} {v2 : Value} {r : (List T_face_Match)} {w : World} {h : Heap} {S : Nat → Prop} (hcs : (rowV 42 2 (.slice p0.1 n0 p0.2) n0 (a0.map e_face_Match)).P S w) (hlt : ∀ b, S b → b < w.heap.size) (hw : Know h w S) (hn0 : n0 = a0.length) (f2 : FnH Tryz.prog h v2 (fnR_func_face_Match_face_Match_int a2)) (H : slices_stableCmpFunc_face_Match a0 a1 a2 = some r) : Does Tryz.prog 81 (List.toArray [.slice p0.1 n0 p0.2, .int .i64 a1, v2]) w (fun v w' => ∃ x : Unit, v = (.tuple #[]) ∧ Turn w w' S (rowV 42 2 (.slice p0.1 n0 p0.2) n0 (r.map e_face_Match))) := by
 refine enter (n := 63) Tryz.func81 rfl rfl rfl S [rowV 42 2 (.slice p0.1 n0 p0.2) n0 (a0.map e_face_Match)] (Sat.one hcs hlt) ?_
 refine c_seq ?_
 refine c_region ?_
 refine l_val rfl rfl rfl (r_assign (v := .int .i64 20) rfl) ?_
 refine l_nil ?_
 refine c_seq ?_
 refine c_region ?_
 refine l_val rfl rfl rfl (r_move (v := .int .i64 20) rfl) ?_
 refine l_val rfl rfl rfl (r_assign (v := .int .i64 0) rfl) ?_
 refine l_val rfl rfl rfl (r_assign (v := .int .i64 20) rfl) ?_
 refine l_nil ?_
 refine c_meet (r := r) (σ := Int × (List T_face_Match)) (τ := Unit) (fun s => slices_stableCmpFunc_face_Match_j1 a1 a2 s.1 s.2) (fun s t => [(0, .slice p0.1 n0 p0.2), (1, .int .i64 a1), (2, v2), (6, .int .i64 20), (7, .int .i64 s.1)]) (fun s t => [rowV 42 2 (.slice p0.1 n0 p0.2) n0 (s.2.map e_face_Match)]) (fun s t => n0 = s.2.length) ?_ ?_
 ·refine c_block ?_
  refine c_fix (σ := Int × Int × (List T_face_Match)) (τ := Unit) (fun next6 s => slices_stableCmpFunc_face_Match_l6 a1 a2 next6 s.1 s.2.1 s.2.2) (fun s t => [(0, .slice p0.1 n0 p0.2), (1, .int .i64 a1), (2, v2), (6, .int .i64 20), (7, .int .i64 s.1), (8, .int .i64 s.2.1)]) (fun s t => [rowV 42 2 (.slice p0.1 n0 p0.2) n0 (s.2.2.map e_face_Match)]) (fun s t => n0 = s.2.2.length) (0, 20, a0) () [0] H (by exact hn0) (by exact ⟨rfl, rfl, rfl, rfl, rfl, rfl, trivial⟩) (by decide) rfl ?_
  rintro ⟨x7_6, x8_4, l_9⟩ _ m6 gg H46 hl_12
  clear H
  replace H46 : slices_stableCmpFunc_face_Match_l6 a1 a2 (it (fun next6 s => slices_stableCmpFunc_face_Match_l6 a1 a2 next6 s.1 s.2.1 s.2.2) m6) x7_6 x8_4 l_9 = some r := H46
  generalize hn6 : it (fun next6 s => slices_stableCmpFunc_face_Match_l6 a1 a2 next6 s.1 s.2.1 s.2.2) m6 = next6 at H46
  refine c_tidyF [(0, .slice p0.1 n0 p0.2), (1, .int .i64 a1), (2, v2), (6, .int .i64 20), (7, .int .i64 x7_6), (8, .int .i64 x8_4)] [rowV 42 2 (.slice p0.1 n0 p0.2) n0 (l_9.map e_face_Match)] rfl rfl ?_
  refine c_seq ?_
  refine c_seq ?_
  refine c_region ?_
  refine l_val rfl rfl rfl (r_move (v := .int .i64 x8_4) rfl) ?_
  refine l_val rfl rfl rfl (r_move (v := .int .i64 a1) rfl) ?_
  refine l_val rfl rfl rfl (r_leq rfl rfl) ?_
  refine l_nil ?_
  refine c_if (b := (decide (x8_4 ≤ a1))) rfl (fun hb => ?_) (fun hb => ?_)
  ·have H47 := cnd_t hb H46; clear H46
   refine c_skip ?_
   refine c_block ?_
   refine c_seq ?_
   refine c_region ?_
   refine l_val rfl rfl rfl (r_move (v := .slice p0.1 n0 p0.2) rfl) ?_
   refine l_val rfl rfl rfl (r_move (v := .int .i64 x7_6) rfl) ?_
   refine l_val rfl rfl rfl (r_move (v := .int .i64 x8_4) rfl) ?_
   refine l_val rfl rfl rfl (r_move (v := v2) rfl) ?_
   obtain ⟨t18, h_t18, H48⟩ := bnd_some H47; clear H47
   refine l_turn (turns_callB (i := 0) (rds := []) (G := fun x : Unit => .tuple #[]) (C := fun x : Unit => rowV 42 2 (.slice p0.1 n0 p0.2) n0 (t18.map e_face_Match)) rfl (fun w L' S hF hS hi hp hlt ho hA => k90 hp hlt (know_but w S) hl_12 (f2.mono (hw.but hF ho)) h_t18) Tryz.call90 rfl) rfl rfl rfl (fun _ => ?_)
   refine c_know (fun w hF hS => lenOf (i := 0) hS rfl) (fun hl_13_ => ?_)
   have hl_13 : n0 = t18.length := by simpa using hl_13_.symm
   refine l_nil ?_
   refine c_seq ?_
   refine c_region ?_
   refine l_val rfl rfl rfl (r_move (v := .int .i64 x8_4) rfl) ?_
   refine l_val rfl rfl rfl (r_assign (v := .int .i64 x8_4) rfl) ?_
   refine l_nil ?_
   refine c_region ?_
   refine l_val rfl rfl rfl (r_move (v := .int .i64 x8_4) rfl) ?_
   refine l_val rfl rfl rfl (r_move (v := .int .i64 20) rfl) ?_
   obtain ⟨t22, h_t22, H49⟩ := bnd_some H48; clear H48
   refine l_val rfl rfl rfl (r_addG rfl rfl h_t22) ?_
   refine l_val rfl rfl rfl (r_assign (v := .int .i64 t22) rfl) ?_
   refine l_nil ?_
   refine c_close (x8_4, t22, t18) () m6 [0] (by exact ⟨rfl, rfl, rfl, rfl, rfl, rfl, trivial⟩) (by decide) rfl (by exact ⟨(by subst hn6; exact H49), hl_13⟩) (Nat.lt_succ_self _)
  ·have H50 := cnd_f hb H46; clear H46
   refine c_exit ?_
   refine c_close (x7_6, l_9) () 0 [0] (by exact ⟨rfl, rfl, rfl, rfl, rfl, trivial⟩) (by decide) rfl (by exact ⟨H50, hl_12⟩) (Nat.lt_succ_self _)
 ·rintro ⟨x7, l⟩ _ gg H26 hl
  replace H26 : slices_stableCmpFunc_face_Match_j1 a1 a2 x7 l = some r := H26
  refine c_tidyF [(0, .slice p0.1 n0 p0.2), (1, .int .i64 a1), (2, v2), (6, .int .i64 20), (7, .int .i64 x7)] [rowV 42 2 (.slice p0.1 n0 p0.2) n0 (l.map e_face_Match)] rfl rfl ?_
  refine c_seq ?_
  refine c_region ?_
  refine l_val rfl rfl rfl (r_move (v := .slice p0.1 n0 p0.2) rfl) ?_
  refine l_val rfl rfl rfl (r_move (v := .int .i64 x7) rfl) ?_
  refine l_val rfl rfl rfl (r_move (v := .int .i64 a1) rfl) ?_
  refine l_val rfl rfl rfl (r_move (v := v2) rfl) ?_
  obtain ⟨t27, h_t27, H27⟩ := bnd_some H26; clear H26
  refine l_turn (turns_callB (i := 0) (rds := []) (G := fun x : Unit => .tuple #[]) (C := fun x : Unit => rowV 42 2 (.slice p0.1 n0 p0.2) n0 (t27.map e_face_Match)) rfl (fun w L' S hF hS hi hp hlt ho hA => k90 hp hlt (know_but w S) hl (f2.mono (hw.but hF ho)) h_t27) Tryz.call90 rfl) rfl rfl rfl (fun _ => ?_)
  refine c_know (fun w hF hS => lenOf (i := 0) hS rfl) (fun hl_2_ => ?_)
  have hl_2 : n0 = t27.length := by simpa using hl_2_.symm
  refine l_nil ?_
  refine c_block ?_
  refine c_fix (σ := Int × (List T_face_Match)) (τ := Unit) (fun next2 s => slices_stableCmpFunc_face_Match_l2 a1 a2 next2 s.1 s.2) (fun s t => [(0, .slice p0.1 n0 p0.2), (1, .int .i64 a1), (2, v2), (6, .int .i64 s.1)]) (fun s t => [rowV 42 2 (.slice p0.1 n0 p0.2) n0 (s.2.map e_face_Match)]) (fun s t => n0 = s.2.length) (20, t27) () [0] H27 (by exact hl_2) (by exact ⟨rfl, rfl, rfl, rfl, trivial⟩) (by decide) rfl ?_
  rintro ⟨x6_2, l_3⟩ _ m2 gg H28 hl_4
  clear H27
  replace H28 : slices_stableCmpFunc_face_Match_l2 a1 a2 (it (fun next2 s => slices_stableCmpFunc_face_Match_l2 a1 a2 next2 s.1 s.2) m2) x6_2 l_3 = some r := H28
  generalize hn2 : it (fun next2 s => slices_stableCmpFunc_face_Match_l2 a1 a2 next2 s.1 s.2) m2 = next2 at H28
  refine c_tidyF [(0, .slice p0.1 n0 p0.2), (1, .int .i64 a1), (2, v2), (6, .int .i64 x6_2)] [rowV 42 2 (.slice p0.1 n0 p0.2) n0 (l_3.map e_face_Match)] rfl rfl ?_
  refine c_seq ?_
  refine c_seq ?_
  refine c_region ?_
  refine l_val rfl rfl rfl (r_move (v := .int .i64 x6_2) rfl) ?_
  refine l_val rfl rfl rfl (r_move (v := .int .i64 a1) rfl) ?_
  refine l_val rfl rfl rfl (r_lss rfl rfl) ?_
  refine l_nil ?_
  refine c_if (b := (decide (x6_2 < a1))) rfl (fun hb => ?_) (fun hb => ?_)
  ·have H29 := cnd_t hb H28; clear H28
   refine c_skip ?_
   refine c_block ?_
   refine c_seq ?_
   refine c_region ?_
   refine l_val rfl rfl rfl (r_move (v := .int .i64 x6_2) rfl) ?_
   obtain ⟨t32, h_t32, H30⟩ := bnd_some H29; clear H29
   refine l_val rfl rfl rfl (r_mulG rfl rfl h_t32) ?_
   refine l_val rfl rfl rfl (r_assign (v := .int .i64 0) rfl) ?_
   refine l_val rfl rfl rfl (r_assign (v := .int .i64 t32) rfl) ?_
   refine l_nil ?_
   refine c_meet (r := r) (σ := Int × (List T_face_Match)) (τ := Unit) (fun s => slices_stableCmpFunc_face_Match_j3 a1 a2 x6_2 next2 s.1 s.2) (fun s t => [(0, .slice p0.1 n0 p0.2), (1, .int .i64 a1), (2, v2), (6, .int .i64 x6_2), (7, .int .i64 s.1)]) (fun s t => [rowV 42 2 (.slice p0.1 n0 p0.2) n0 (s.2.map e_face_Match)]) (fun s t => n0 = s.2.length) ?_ ?_
   ·refine c_block ?_
    refine c_fix (σ := Int × Int × (List T_face_Match)) (τ := Unit) (fun next5 s => slices_stableCmpFunc_face_Match_l5 a1 a2 x6_2 next2 next5 s.1 s.2.1 s.2.2) (fun s t => [(0, .slice p0.1 n0 p0.2), (1, .int .i64 a1), (2, v2), (6, .int .i64 x6_2), (7, .int .i64 s.1), (8, .int .i64 s.2.1)]) (fun s t => [rowV 42 2 (.slice p0.1 n0 p0.2) n0 (s.2.2.map e_face_Match)]) (fun s t => n0 = s.2.2.length) (0, t32, l_3) () [0] H30 (by exact hl_4) (by exact ⟨rfl, rfl, rfl, rfl, rfl, rfl, trivial⟩) (by decide) rfl ?_
    rintro ⟨x7_4, x8_2, l_7⟩ _ m5 gg H38 hl_9
    clear H30
    replace H38 : slices_stableCmpFunc_face_Match_l5 a1 a2 x6_2 next2 (it (fun next5 s => slices_stableCmpFunc_face_Match_l5 a1 a2 x6_2 next2 next5 s.1 s.2.1 s.2.2) m5) x7_4 x8_2 l_7 = some r := H38
    generalize hn5 : it (fun next5 s => slices_stableCmpFunc_face_Match_l5 a1 a2 x6_2 next2 next5 s.1 s.2.1 s.2.2) m5 = next5 at H38
    refine c_tidyF [(0, .slice p0.1 n0 p0.2), (1, .int .i64 a1), (2, v2), (6, .int .i64 x6_2), (7, .int .i64 x7_4), (8, .int .i64 x8_2)] [rowV 42 2 (.slice p0.1 n0 p0.2) n0 (l_7.map e_face_Match)] rfl rfl ?_
    refine c_seq ?_
    refine c_seq ?_
    refine c_region ?_
    refine l_val rfl rfl rfl (r_move (v := .int .i64 x8_2) rfl) ?_
    refine l_val rfl rfl rfl (r_move (v := .int .i64 a1) rfl) ?_
    refine l_val rfl rfl rfl (r_leq rfl rfl) ?_
    refine l_nil ?_
    refine c_if (b := (decide (x8_2 ≤ a1))) rfl (fun hb => ?_) (fun hb => ?_)
    ·have H39 := cnd_t hb H38; clear H38
     refine c_skip ?_
     refine c_block ?_
     refine c_seq ?_
     refine c_region ?_
     refine l_val rfl rfl rfl (r_move (v := .slice p0.1 n0 p0.2) rfl) ?_
     refine l_val rfl rfl rfl (r_move (v := .int .i64 x7_4) rfl) ?_
     refine l_val rfl rfl rfl (r_move (v := .int .i64 x7_4) rfl) ?_
     refine l_val rfl rfl rfl (r_move (v := .int .i64 x6_2) rfl) ?_
     obtain ⟨t40, h_t40, H40⟩ := bnd_some H39; clear H39
     refine l_val rfl rfl rfl (r_addG rfl rfl h_t40) ?_
     refine l_val rfl rfl rfl (r_move (v := .int .i64 x8_2) rfl) ?_
     refine l_val rfl rfl rfl (r_move (v := v2) rfl) ?_
     obtain ⟨t43, h_t43, H41⟩ := bnd_some H40; clear H40
     refine l_turn (turns_callB (i := 0) (rds := []) (G := fun x : Unit => .tuple #[]) (C := fun x : Unit => rowV 42 2 (.slice p0.1 n0 p0.2) n0 (t43.map e_face_Match)) rfl (fun w L' S hF hS hi hp hlt ho hA => k98 hp hlt (know_but w S) hl_9 (f2.mono (hw.but hF ho)) h_t43) Tryz.call98 rfl) rfl rfl rfl (fun _ => ?_)
     refine c_know (fun w hF hS => lenOf (i := 0) hS rfl) (fun hl_10_ => ?_)
     have hl_10 : n0 = t43.length := by simpa using hl_10_.symm
     refine l_nil ?_
     refine c_seq ?_
     refine c_region ?_
     refine l_val rfl rfl rfl (r_move (v := .int .i64 x8_2) rfl) ?_
     refine l_val rfl rfl rfl (r_assign (v := .int .i64 x8_2) rfl) ?_
     refine l_nil ?_
     refine c_region ?_
     refine l_val rfl rfl rfl (r_move (v := .int .i64 x8_2) rfl) ?_
     refine l_val rfl rfl rfl (r_move (v := .int .i64 x6_2) rfl) ?_
     obtain ⟨t47, h_t47, H42⟩ := bnd_some H41; clear H41
     refine l_val rfl rfl rfl (r_mulG rfl rfl h_t47) ?_
     obtain ⟨t48, h_t48, H43⟩ := bnd_some H42; clear H42
     refine l_val rfl rfl rfl (r_addG rfl rfl h_t48) ?_
     refine l_val rfl rfl rfl (r_assign (v := .int .i64 t48) rfl) ?_
     refine l_nil ?_
     refine c_close (x8_2, t48, t43) () m5 [0] (by exact ⟨rfl, rfl, rfl, rfl, rfl, rfl, trivial⟩) (by decide) rfl (by exact ⟨(by subst hn5; exact H43), hl_10⟩) (Nat.lt_succ_self _)
    ·have H44 := cnd_f hb H38; clear H38
     refine c_exit ?_
     refine c_close (x7_4, l_7) () 0 [0] (by exact ⟨rfl, rfl, rfl, rfl, rfl, trivial⟩) (by decide) rfl (by exact ⟨H44, hl_9⟩) (Nat.lt_succ_self _)
   ·rintro ⟨x7_2, l_4⟩ _ gg H31 hl_5
    replace H31 : slices_stableCmpFunc_face_Match_j3 a1 a2 x6_2 next2 x7_2 l_4 = some r := H31
    refine c_tidyF [(0, .slice p0.1 n0 p0.2), (1, .int .i64 a1), (2, v2), (6, .int .i64 x6_2), (7, .int .i64 x7_2)] [rowV 42 2 (.slice p0.1 n0 p0.2) n0 (l_4.map e_face_Match)] rfl rfl ?_
    refine c_meet (r := r) (σ := (List T_face_Match)) (τ := Unit) (fun s => slices_stableCmpFunc_face_Match_j4 x6_2 next2 s) (fun s t => [(0, .slice p0.1 n0 p0.2), (1, .int .i64 a1), (2, v2), (6, .int .i64 x6_2)]) (fun s t => [rowV 42 2 (.slice p0.1 n0 p0.2) n0 (s.map e_face_Match)]) (fun s t => n0 = s.length) ?_ ?_
    ·refine c_seq ?_
     refine c_region ?_
     refine l_val rfl rfl rfl (r_move (v := .int .i64 x7_2) rfl) ?_
     refine l_val rfl rfl rfl (r_move (v := .int .i64 x6_2) rfl) ?_
     obtain ⟨t51, h_t51, H34⟩ := bnd_some H31; clear H31
     refine l_val rfl rfl rfl (r_addG rfl rfl h_t51) ?_
     refine l_val rfl rfl rfl (r_assign (v := .int .i64 t51) rfl) ?_
     refine l_nil ?_
     refine c_seq ?_
     refine c_region ?_
     refine l_val rfl rfl rfl (r_move (v := .int .i64 t51) rfl) ?_
     refine l_val rfl rfl rfl (r_move (v := .int .i64 a1) rfl) ?_
     refine l_val rfl rfl rfl (r_lss rfl rfl) ?_
     refine l_nil ?_
     refine c_if (b := (decide (t51 < a1))) rfl (fun hb => ?_) (fun hb => ?_)
     ·have H35 := cnd_t hb H34; clear H34
      refine c_region ?_
      refine l_val rfl rfl rfl (r_move (v := .slice p0.1 n0 p0.2) rfl) ?_
      refine l_val rfl rfl rfl (r_move (v := .int .i64 x7_2) rfl) ?_
      refine l_val rfl rfl rfl (r_move (v := .int .i64 t51) rfl) ?_
      refine l_val rfl rfl rfl (r_move (v := .int .i64 a1) rfl) ?_
      refine l_val rfl rfl rfl (r_move (v := v2) rfl) ?_
      obtain ⟨t60, h_t60, H36⟩ := bnd_some H35; clear H35
      refine l_turn (turns_callB (i := 0) (rds := []) (G := fun x : Unit => .tuple #[]) (C := fun x : Unit => rowV 42 2 (.slice p0.1 n0 p0.2) n0 (t60.map e_face_Match)) rfl (fun w L' S hF hS hi hp hlt ho hA => k98 hp hlt (know_but w S) hl_5 (f2.mono (hw.but hF ho)) h_t60) Tryz.call98 rfl) rfl rfl rfl (fun _ => ?_)
      refine c_know (fun w hF hS => lenOf (i := 0) hS rfl) (fun hl_7_ => ?_)
      have hl_7 : n0 = t60.length := by simpa using hl_7_.symm
      refine l_nil ?_
      refine c_close t60 () 0 [0] (by exact ⟨rfl, rfl, rfl, rfl, trivial⟩) (by decide) rfl (by exact ⟨H36, hl_7⟩) (Nat.lt_succ_self _)
     ·have H37 := cnd_f hb H34; clear H34
      refine c_skip ?_
      refine c_close l_4 () 0 [0] (by exact ⟨rfl, rfl, rfl, rfl, trivial⟩) (by decide) rfl (by exact ⟨H37, hl_5⟩) (Nat.lt_succ_self _)
    ·rintro l_5 _ gg H32 hl_6
     replace H32 : slices_stableCmpFunc_face_Match_j4 x6_2 next2 l_5 = some r := H32
     refine c_tidyF [(0, .slice p0.1 n0 p0.2), (1, .int .i64 a1), (2, v2), (6, .int .i64 x6_2)] [rowV 42 2 (.slice p0.1 n0 p0.2) n0 (l_5.map e_face_Match)] rfl rfl ?_
     refine c_region ?_
     refine l_val rfl rfl rfl (r_move (v := .int .i64 x6_2) rfl) ?_
     obtain ⟨t62, h_t62, H33⟩ := bnd_some H32; clear H32
     refine l_val rfl rfl rfl (r_mulG rfl rfl h_t62) ?_
     refine l_val rfl rfl rfl (r_assign (v := .int .i64 t62) rfl) ?_
     refine l_nil ?_
     refine c_close (t62, l_5) () m2 [0] (by exact ⟨rfl, rfl, rfl, rfl, trivial⟩) (by decide) rfl (by exact ⟨(by subst hn2; exact H33), hl_6⟩) (Nat.lt_succ_self _)
  ·have H45 := cnd_f hb H28; clear H28
   refine c_exit ?_
   obtain rfl := Option.some.inj H45
   refine ret0n rfl (finX () (i := 0) rfl rfl (Imp.refl _))
theorem k58 {a0 : (List T_face_Match)} {p0 : Option Addr × Nat} {n0 : Nat} {a1 : (T_face_Match → T_face_Match → Option (Int))} {v1 : Value} {r : (List T_face_Match)} {w : World} {h : Heap} {S : Nat → Prop} (hcs : (rowV 42 2 (.slice p0.1 n0 p0.2) n0 (a0.map e_face_Match)).P S w) (hlt : ∀ b, S b → b < w.heap.size) (hw : Know h w S) (hn0 : n0 = a0.length) (f1 : FnH Tryz.prog h v1 (fnR_func_face_Match_face_Match_int a1)) (H : slices_SortStableFunc_face_Match a0 a1 = some r) : Does Tryz.prog 58 (List.toArray [.slice p0.1 n0 p0.2, v1]) w (fun v w' => ∃ x : Unit, v = (.tuple #[]) ∧ Turn w w' S (rowV 42 2 (.slice p0.1 n0 p0.2) n0 (r.map e_face_Match))) := by
 refine enter (n := 9) Tryz.func58 rfl rfl rfl S [rowV 42 2 (.slice p0.1 n0 p0.2) n0 (a0.map e_face_Match)] (Sat.one hcs hlt) ?_
 refine c_region ?_
 refine l_val rfl rfl rfl (r_move (v := .slice p0.1 n0 p0.2) rfl) ?_
 refine l_val rfl rfl rfl (r_move (v := .slice p0.1 n0 p0.2) rfl) ?_
 refine l_val rfl rfl rfl (r_lenN Tryz.underlying37 rfl hn0) ?_
 refine l_val rfl rfl rfl (r_move (v := v1) rfl) ?_
 obtain ⟨t8, h_t8, H2⟩ := bnd_some H; clear H
 refine l_turn (turns_callB (i := 0) (rds := []) (G := fun x : Unit => .tuple #[]) (C := fun x : Unit => rowV 42 2 (.slice p0.1 n0 p0.2) n0 (t8.map e_face_Match)) rfl (fun w L' S hF hS hi hp hlt ho hA => k81 hp hlt (know_but w S) hn0 (f1.mono (hw.but hF ho)) h_t8) Tryz.call81 rfl) rfl rfl rfl (fun _ => ?_)
 refine c_know (fun w hF hS => lenOf (i := 0) hS rfl) (fun hl_ => ?_)
 have hl : n0 = t8.length := by simpa using hl_.symm
 refine l_nil ?_
 obtain rfl := Option.some.inj H2
 refine ret0n rfl (finX () (i := 0) rfl rfl (Imp.refl _))
theorem k59 {a0 : T_face_Match} {a1 : T_face_Match} {r : Int} (H : R_matches_1 a0 a1 = some r) : Ret Tryz.prog 59 [.agg #[.int .i64 a0.Person, .int .i64 a0.Far], .agg #[.int .i64 a1.Person, .int .i64 a1.Far]] (.int .i64 r) := by
 refine enterRet (n := 10) Tryz.func59 rfl rfl rfl (fun wd => ?_)
 refine c_seq ?_
 refine c_region ?_
 refine l_box (cs := [.int .i64 a0.Person, .int .i64 a0.Far]) rfl rfl rfl rfl (fun b2 => ?_)
 refine l_box (cs := [.int .i64 a1.Person, .int .i64 a1.Far]) rfl rfl rfl rfl (fun b3 => ?_)
 refine l_val rfl rfl rfl (r_assign (v := .int .i64 0) rfl) ?_
 refine l_nil ?_
 refine c_seq ?_
 refine c_region ?_
 refine l_val rfl rfl rfl (r_field Tryz.runUnderlying42 rfl Tryz.sizeOf3 rfl rfl) ?_
 refine l_load1 (i := 0) (v := .int .i64 a0.Far) Tryz.isAgg3 rfl rfl rfl rfl rfl ?_
 refine l_val rfl rfl rfl (r_field Tryz.runUnderlying42 rfl Tryz.sizeOf3 rfl rfl) ?_
 refine l_load1 (i := 1) (v := .int .i64 a1.Far) Tryz.isAgg3 rfl rfl rfl rfl rfl ?_
 obtain ⟨t9, h_t9, H2⟩ := bnd_some H; clear H
 refine l_call (k55 h_t9) Tryz.call55 rfl rfl rfl ?_
 refine l_val rfl rfl rfl (r_assign (v := .int .i64 t9) rfl) ?_
 refine l_nil ?_
 refine c_ret ?_
 obtain rfl := Option.some.inj H2
 refine ret1 (v := .int .i64 t9) rfl rfl (fin rfl)
theorem k33 {a0 : (List T_face_Likeness)} {v0 : Value} {a1 : (List T_face_Person)} {v1 : Value} {a2 : Int} {r : (List T_face_Match)} {w : World} {h : Heap} (hw : Know h w noS) (f0 : FrS h 14 v0 (a0.map e_face_Likeness)) (f1 : FrN h 4 v1 g_face_Person a1) (H : R_matches a0 a1 a2 = some r) : Does Tryz.prog 33 (List.toArray [v0, v1, .int .i64 a2]) w (fun v w' => ∃ x : (Option Addr × Nat), v = (.slice x.1 r.length x.2) ∧ Turn w w' noS (rowV 42 2 (.slice x.1 r.length x.2) r.length (r.map e_face_Match))) := by
 refine enter (n := 54) Tryz.func33 rfl rfl rfl noS [] (Sat.nil _ _) ?_
 refine c_seq ?_
 refine c_region ?_
 refine l_val rfl rfl rfl (r_assign (v := .slice none 0 0) rfl) ?_
 refine l_nil ?_
 refine c_seq ?_
 refine c_region ?_
 refine l_val rfl rfl rfl (r_assign (v := .slice none 0 0) rfl) ?_
 refine l_nil ?_
 refine c_meet (r := r) (σ := (List T_face_Match)) (τ := (Option Addr × Nat)) (fun s => R_matches_j1 s) (fun s t => [(7, .slice t.1 s.length t.2)]) (fun s t => [rowV 42 2 (.slice t.1 s.length t.2) s.length (s.map e_face_Match)]) (fun s t => True) ?_ ?_
 ·refine c_seq ?_
  refine c_region ?_
  refine l_val rfl rfl rfl (r_move (v := v1) rfl) ?_
  refine l_val rfl rfl rfl (r_lenFN Tryz.underlying23 rfl f1) ?_
  refine l_val rfl rfl rfl (r_move (v := .int .i64 0) rfl) ?_
  refine l_nil ?_
  refine c_block ?_
  refine c_nilRow 42 2 ?_
  refine c_fix (σ := Int × (List T_face_Match)) (τ := (Option Addr × Nat)) (fun next2 s => R_matches_l2 a0 a1 a2 next2 s.1 s.2) (fun s t => [(0, v0), (2, .int .i64 a2), (7, .slice t.1 s.2.length t.2), (10, v1), (11, .int .i64 (a1.length : Int)), (12, .int .i64 s.1)]) (fun s t => [rowV 42 2 (.slice t.1 s.2.length t.2) s.2.length (s.2.map e_face_Match)]) (fun s t => True) (0, ([] : List T_face_Match)) ((none, 0) : Option Addr × Nat) [0] H (by exact trivial) (by exact ⟨rfl, rfl, rfl, rfl, rfl, rfl, trivial⟩) (by decide) rfl ?_
  rintro ⟨x12_2, l_3⟩ p_2 m2 gg H23 _
  clear H
  replace H23 : R_matches_l2 a0 a1 a2 (it (fun next2 s => R_matches_l2 a0 a1 a2 next2 s.1 s.2) m2) x12_2 l_3 = some r := H23
  generalize hn2 : it (fun next2 s => R_matches_l2 a0 a1 a2 next2 s.1 s.2) m2 = next2 at H23
  refine c_tidyF [(0, v0), (2, .int .i64 a2), (7, .slice p_2.1 l_3.length p_2.2), (10, v1), (11, .int .i64 (a1.length : Int)), (12, .int .i64 x12_2)] [rowV 42 2 (.slice p_2.1 l_3.length p_2.2) l_3.length (l_3.map e_face_Match)] rfl rfl ?_
  refine c_seq ?_
  refine c_region ?_
  refine l_val rfl rfl rfl (r_lss rfl rfl) ?_
  refine l_nil ?_
  refine c_seq ?_
  refine c_if (b := (decide (x12_2 < (a1.length : Int)))) rfl (fun hb => ?_) (fun hb => ?_)
  ·have H24 := cnd_t hb H23; clear H23
   refine c_skip ?_
   refine c_meet (r := r) (σ := (List T_face_Match)) (τ := (Option Addr × Nat)) (fun s => R_matches_j3 x12_2 next2 s) (fun s t => [(0, v0), (2, .int .i64 a2), (7, .slice t.1 s.length t.2), (10, v1), (11, .int .i64 (a1.length : Int)), (12, .int .i64 x12_2)]) (fun s t => [rowV 42 2 (.slice t.1 s.length t.2) s.length (s.map e_face_Match)]) (fun s t => True) ?_ ?_
   ·refine c_block ?_
    refine c_seq ?_
    refine c_region ?_
    obtain ⟨t14, h_t14, H27⟩ := bnd_some H24; clear H24
    refine l_val rfl rfl rfl (r_indexF Tryz.underlying23 Tryz.sizeOf28 rfl rfl f1.frs (f1.ix h_t14)) ?_
    refine l_read (fun w hF hS => run_loadGN (f := (elC h v1 4)) (i := x12_2) (sz := 4) (j := 0) (vs := [.int .i64 t14.Id, str t14.Name, (elH h v1 4 (Int.toNat x12_2) 2), (elH h v1 4 (Int.toNat x12_2) 3)]) Tryz.isAgg28 Tryz.sizeOf28 rfl rfl (f1.frs.row (hw.now hF)) (f1.ix h_t14) (rd_of (cg_face_Person (f1.at h_t14)) rfl)) rfl rfl rfl ?_
    refine l_alloc (cs := [.int .i64 0, str [], .slice none 0 0, .slice none 0 0]) Tryz.zeroValue28 rfl rfl rfl (fun b2 => ?_)
    refine l_store (i := 1) (vs := [.int .i64 t14.Id, str t14.Name, (elH h v1 4 (Int.toNat x12_2) 2), (elH h v1 4 (Int.toNat x12_2) 3)]) (cs' := [.int .i64 t14.Id, str t14.Name, (elH h v1 4 (Int.toNat x12_2) 2), (elH h v1 4 (Int.toNat x12_2) 3)]) Tryz.sizeOf28 rfl rfl rfl rfl rfl rfl (by simp only [List.all_cons, List.all_nil, (show FrS h 1 (elH h v1 4 (Int.toNat x12_2) 2) (t14.Likes.map e_i64) from (g_face_Person_p2 (f1.at h_t14))).one, (show FrS h 1 (elH h v1 4 (Int.toNat x12_2) 3) (t14.Nots.map e_i64) from (g_face_Person_p3 (f1.at h_t14))).one] <;> rfl) rfl rfl ?_
    refine l_nil ?_
    refine c_seq ?_
    exact c_regionD (Kd.p :: Kd.d [1] _ :: Kd.p :: Kd.p :: Kd.p :: Kd.p :: Kd.d [1] _ :: Kd.p :: Kd.d [] _ :: Kd.p :: Kd.p :: Kd.p :: Kd.p :: Kd.d [1] _ :: Kd.p :: Kd.p :: Kd.p :: Kd.d [] _ :: Kd.p :: Kd.p :: Kd.d [] _ :: Kd.d [] _ :: Kd.p :: Kd.p :: []) 0 mixed (by
     refine d_val rfl rfl (r_field Tryz.runUnderlying28 rfl Tryz.sizeOf26 rfl rfl) ?_
     refine d_load1 (i := 1) (v := (elH h v1 4 (Int.toNat x12_2) 2)) Tryz.isAgg26 rfl rfl rfl rfl ?_
     refine d_val rfl rfl (r_lenF Tryz.underlying26 rfl (show FrS h 1 (elH h v1 4 (Int.toNat x12_2) 2) (t14.Likes.map e_i64) from (g_face_Person_p2 (f1.at h_t14))) rfl) ?_
     refine d_val rfl rfl (r_gtr rfl rfl) ?_
     refine d_val rfl rfl (r_move (v := .bool (decide (0 < (t14.Likes.length : Int)))) rfl) ?_
     refine splitS (fun hb => ?_) (fun hb => ?_)
     ·have H28 := cnd_t hb H27
      refine d_val rfl rfl (r_field Tryz.runUnderlying28 rfl Tryz.sizeOf26 rfl rfl) ?_
      refine d_load1 (i := 1) (v := (elH h v1 4 (Int.toNat x12_2) 3)) Tryz.isAgg26 rfl rfl rfl rfl ?_
      refine d_val rfl rfl (r_move (v := .int .i64 a2) rfl) ?_
      have h_t24 := bnd_val H28
      have H29 := bnd_rest H28
      refine d_callD (fun w L' hF hS hi => k28 (know_all w) ((show FrS h 1 (elH h v1 4 (Int.toNat x12_2) 3) (t14.Nots.map e_i64) from (g_face_Person_p3 (f1.at h_t14))).mono (hw.now hF)) h_t24) Tryz.call28 rfl rfl ?_
      refine d_val rfl rfl (r_not rfl) ?_
      refine d_val rfl rfl (r_pickT (v := .bool (!(val (slices_Contains_int t14.Nots a2)))) rfl rfl) ?_
      refine d_val rfl rfl (r_move (v := .bool (!(val (slices_Contains_int t14.Nots a2)))) rfl) ?_
      refine splitS (fun hb => ?_) (fun hb => ?_)
      ·have H30 := cnd_t hb H29
       refine d_val rfl rfl (r_move (v := v0) rfl) ?_
       refine d_loadN (i := 1) (vs := [.int .i64 t14.Id, str t14.Name, (elH h v1 4 (Int.toNat x12_2) 2), (elH h v1 4 (Int.toNat x12_2) 3)]) Tryz.isAgg28 Tryz.sizeOf28 rfl rfl rfl rfl ?_
       refine d_val rfl rfl (r_move (v := v0) rfl) ?_
       refine d_val rfl rfl (r_move (v := v0) rfl) ?_
       refine d_val rfl rfl (r_move (v := .int .i64 a2) rfl) ?_
       have h_t33 := bnd_val H30
       have H31 := bnd_rest H30
       refine d_callD (fun w L' hF hS hi => k6 (know_all w) (f0.mono (hw.now hF)) h_t33) Tryz.call6 rfl rfl ?_
       have h_t34 := bnd_val H31
       have H32 := bnd_rest H31
       refine d_val rfl rfl (r_indexF Tryz.underlying22 Tryz.sizeOf47 rfl rfl f0 h_t34) ?_
       refine d_val rfl rfl (r_fieldP Tryz.runUnderlying47 rfl Tryz.sizeOf3 rfl rfl (some_of_at f0 h_t34)) ?_
       refine d_read (fun w hF => run_loadG1 (f := e_face_Likeness) (i := (val (R_LikeAt a0 a2))) (sz := 14) (j := 1) (v := .int .i64 (val (gAt a0 (val (R_LikeAt a0 a2)))).Photo) Tryz.isAgg3 rfl rfl (f0.row (hw.now hF)) h_t34 rfl) rfl rfl ?_
       have h_t37 := bnd_val H32
       have H33 := bnd_rest H32
       refine d_callD (fun w L' hF hS hi => k57 (know_all w) (f0.mono (hw.now hF)) ((show FrS h 1 (elH h v1 4 (Int.toNat x12_2) 2) (t14.Likes.map e_i64) from (g_face_Person_p2 (f1.at h_t14))).mono (hw.now hF)) ((show FrS h 1 (elH h v1 4 (Int.toNat x12_2) 3) (t14.Nots.map e_i64) from (g_face_Person_p3 (f1.at h_t14))).mono (hw.now hF)) h_t37) Tryz.call57 rfl rfl ?_
       refine d_val rfl rfl (r_not rfl) ?_
       refine d_val rfl rfl (r_pickT (v := .bool (!(val (R_InPhoto a0 t14 (val (gAt a0 (val (R_LikeAt a0 a2)))).Photo)))) rfl rfl) ?_
       refine d_nil ?_
       refine c_if (b := (!(val (R_InPhoto a0 t14 (val (gAt a0 (val (R_LikeAt a0 a2)))).Photo)))) rfl (fun hb => ?_) (fun hb => ?_)
       ·have H34 := cnd_t hb H33; clear H33
        exact c_regionD (Kd.p :: Kd.p :: Kd.d [1] _ :: Kd.p :: Kd.d [1] _ :: Kd.p :: Kd.d [] _ :: Kd.p :: Kd.ns 2 [_, _] 42 1 :: Kd.t 0 [2] _ _ :: Kd.p :: []) 1 mixed (by
         refine d_val rfl rfl (r_move (v := .slice p_2.1 l_3.length p_2.2) rfl) ?_
         refine d_val rfl rfl (r_field Tryz.runUnderlying28 rfl Tryz.sizeOf3 rfl rfl) ?_
         refine d_load1 (i := 1) (v := .int .i64 t14.Id) Tryz.isAgg3 rfl rfl rfl rfl ?_
         refine d_val rfl rfl (r_move (v := v0) rfl) ?_
         refine d_loadN (i := 1) (vs := [.int .i64 t14.Id, str t14.Name, (elH h v1 4 (Int.toNat x12_2) 2), (elH h v1 4 (Int.toNat x12_2) 3)]) Tryz.isAgg28 Tryz.sizeOf28 rfl rfl rfl rfl ?_
         refine d_val rfl rfl (r_move (v := .int .i64 a2) rfl) ?_
         have h_t46 := bnd_val H34
         have H35 := bnd_rest H34
         refine d_callD (fun w L' hF hS hi => k9 (know_all w) (f0.mono (hw.now hF)) ((show FrS h 1 (elH h v1 4 (Int.toNat x12_2) 2) (t14.Likes.map e_i64) from (g_face_Person_p2 (f1.at h_t14))).mono (hw.now hF)) ((show FrS h 1 (elH h v1 4 (Int.toNat x12_2) 3) (t14.Nots.map e_i64) from (g_face_Person_p3 (f1.at h_t14))).mono (hw.now hF)) h_t46) Tryz.call9 rfl rfl ?_
         refine d_val rfl rfl (r_build (pl := #[(0, 1), (1, 1)]) (ps := [(0, .int .i64 t14.Id), (1, .int .i64 (val (R_ScoreOf a0 t14 a2)))]) (cells := #[.int .i64 t14.Id, .int .i64 (val (R_ScoreOf a0 t14 a2))]) Tryz.zeroValue42 Tryz.runUnderlying42 (fun w => by kernel_rfl) rfl rfl) ?_
         refine d_newS rfl rfl (run_buildSlice (vs := [.agg #[.int .i64 t14.Id, .int .i64 (val (R_ScoreOf a0 t14 a2))]]) (cs := [.int .i64 t14.Id, .int .i64 (val (R_ScoreOf a0 t14 a2))]) Tryz.underlying37 Tryz.sizeOf42 Tryz.zeroValue42 rfl rfl rfl rfl rfl) rfl (fun b3 => ?_)
         have h_l49 := bnd_val H35
         have H36 := bnd_rest H35
         refine d_turn (Cv := fun v => rowV 42 2 v (val (gApp 16 l_3 ([(⟨t14.Id, (val (R_ScoreOf a0 t14 a2))⟩ : T_face_Match)] : List T_face_Match))).length ((val (gApp 16 l_3 ([(⟨t14.Id, (val (R_ScoreOf a0 t14 a2))⟩ : T_face_Match)] : List T_face_Match))).map e_face_Match)) (none, 0) (turns_appG (i := 0) (hn := rfl) (rds := [2]) (p := p_2) (sz := 2) (by_ := 16) (f := e_face_Match) (ys := l_3) (ls := ([(⟨t14.Id, (val (R_ScoreOf a0 t14 a2))⟩ : T_face_Match)] : List T_face_Match)) (V := .slice (some ⟨b3, 0, none⟩) 1 1) Tryz.underlying37 (info_of Tryz.typeInfo42) rfl rfl rfl rfl rfl rfl rfl rfl rfl rfl (fun w L' hF hS hi => row_box (i := 2) hS ((hi 2 (by simp)).trans rfl) rfl rfl) (fun _ => rfl) (fun _ => rfl) h_l49) (fun _ => rfl) rfl rfl (fun p_4 => ?_)
         refine d_val rfl rfl (r_assign (v := .slice p_4.1 (val (gApp 16 l_3 ([(⟨t14.Id, (val (R_ScoreOf a0 t14 a2))⟩ : T_face_Match)] : List T_face_Match))).length p_4.2) rfl) ?_
         refine d_nil ?_
         refine c_close (val (gApp 16 l_3 ([(⟨t14.Id, (val (R_ScoreOf a0 t14 a2))⟩ : T_face_Match)] : List T_face_Match))) p_4 0 [0] (by exact ⟨rfl, rfl, rfl, rfl, rfl, rfl, trivial⟩) (by decide) rfl (by exact ⟨H36, trivial⟩) (Nat.lt_succ_self _)
         ) (by kernel_rfl)
       ·have H37 := cnd_f hb H33; clear H33
        refine c_skip ?_
        refine c_close l_3 p_2 0 [0] (by exact ⟨rfl, rfl, rfl, rfl, rfl, rfl, trivial⟩) (by decide) rfl (by exact ⟨H37, trivial⟩) (Nat.lt_succ_self _)
      ·have H38 := cnd_f hb H29
       refine d_pass rfl rfl ?_
       refine d_pass rfl rfl ?_
       refine d_pass rfl rfl ?_
       refine d_pass rfl rfl ?_
       refine d_pass rfl rfl ?_
       refine d_pass rfl rfl ?_
       refine d_pass rfl rfl ?_
       refine d_pass rfl rfl ?_
       refine d_pass rfl rfl ?_
       refine d_pass rfl rfl ?_
       refine d_pass rfl rfl ?_
       refine d_val rfl rfl (r_pickF (v := .bool false) rfl rfl) ?_
       refine d_nil ?_
       refine c_false rfl ?_
       refine c_skip ?_
       refine c_close l_3 p_2 0 [0] (by exact ⟨rfl, rfl, rfl, rfl, rfl, rfl, trivial⟩) (by decide) rfl (by exact ⟨H38, trivial⟩) (Nat.lt_succ_self _)
     ·have H39 := cnd_f hb H27
      refine d_pass rfl rfl ?_
      refine d_pass rfl rfl ?_
      refine d_pass rfl rfl ?_
      refine d_pass rfl rfl ?_
      refine d_pass rfl rfl ?_
      refine d_val rfl rfl (r_pickF (v := .bool false) rfl rfl) ?_
      refine d_val rfl rfl (r_move (v := .bool false) rfl) ?_
      refine d_pass rfl rfl ?_
      refine d_pass rfl rfl ?_
      refine d_pass rfl rfl ?_
      refine d_pass rfl rfl ?_
      refine d_pass rfl rfl ?_
      refine d_pass rfl rfl ?_
      refine d_pass rfl rfl ?_
      refine d_pass rfl rfl ?_
      refine d_pass rfl rfl ?_
      refine d_pass rfl rfl ?_
      refine d_pass rfl rfl ?_
      refine d_val rfl rfl (r_pickF (v := .bool false) rfl rfl) ?_
      refine d_nil ?_
      refine c_false rfl ?_
      refine c_skip ?_
      refine c_close l_3 p_2 0 [0] (by exact ⟨rfl, rfl, rfl, rfl, rfl, rfl, trivial⟩) (by decide) rfl (by exact ⟨H39, trivial⟩) (Nat.lt_succ_self _)
     ) (by kernel_rfl)
   ·rintro l_4 p_3 gg H25 _
    replace H25 : R_matches_j3 x12_2 next2 l_4 = some r := H25
    refine c_tidyF [(0, v0), (2, .int .i64 a2), (7, .slice p_3.1 l_4.length p_3.2), (10, v1), (11, .int .i64 (a1.length : Int)), (12, .int .i64 x12_2)] [rowV 42 2 (.slice p_3.1 l_4.length p_3.2) l_4.length (l_4.map e_face_Match)] rfl rfl ?_
    refine c_region ?_
    obtain ⟨t50, h_t50, H26⟩ := bnd_some H25; clear H25
    refine l_val rfl rfl rfl (r_addG rfl rfl h_t50) ?_
    refine l_val rfl rfl rfl (r_move (v := .int .i64 t50) rfl) ?_
    refine l_nil ?_
    refine c_close (t50, l_4) p_3 m2 [0] (by exact ⟨rfl, rfl, rfl, rfl, rfl, rfl, trivial⟩) (by decide) rfl (by exact ⟨(by subst hn2; exact H26), trivial⟩) (Nat.lt_succ_self _)
  ·have H40 := cnd_f hb H23; clear H23
   refine c_exit ?_
   refine c_close l_3 p_2 0 [0] (by exact ⟨rfl, trivial⟩) (by decide) rfl (by exact ⟨H40, trivial⟩) (Nat.lt_succ_self _)
 ·rintro l p gg H21 _
  replace H21 : R_matches_j1 l = some r := H21
  refine c_tidyF [(7, .slice p.1 l.length p.2)] [rowV 42 2 (.slice p.1 l.length p.2) l.length (l.map e_face_Match)] rfl rfl ?_
  refine c_seq ?_
  refine c_region ?_
  refine l_val rfl rfl rfl (r_move (v := .slice p.1 l.length p.2) rfl) ?_
  obtain ⟨t52, h_t52, H22⟩ := bnd_some H21; clear H21
  refine l_turn (turns_callB (i := 0) (rds := []) (G := fun x : Unit => .tuple #[]) (C := fun x : Unit => rowV 42 2 (.slice p.1 l.length p.2) l.length (t52.map e_face_Match)) rfl (fun w L' S hF hS hi hp hlt ho hA => k58 hp hlt (know_but w S) rfl (FnH.mk ⟨59, #[], #[], rfl, Tryz.call59, fun args2 post2 w2 hk2 hR2 => by obtain ⟨a0_, a1_, r_, rfl, H_, rfl⟩ := hR2; exact k59 H_ w2⟩) h_t52) Tryz.call58 rfl) rfl rfl rfl (fun _ => ?_)
  refine c_know (fun w hF hS => lenOf (i := 0) hS rfl) (fun hl_ => ?_)
  have hl : l.length = t52.length := by simpa using hl_.symm
  refine l_nil ?_
  refine c_seq ?_
  refine c_region ?_
  refine l_val rfl rfl rfl (r_move (v := .slice p.1 l.length p.2) rfl) ?_
  refine l_val rfl rfl rfl (r_assign (v := .slice p.1 l.length p.2) rfl) ?_
  refine l_nil ?_
  refine c_ret ?_
  obtain rfl := Option.some.inj H22
  refine ret1 (v := .slice p.1 l.length p.2) rfl rfl (finX p (i := 0) rfl (by first | rfl | rw [(show l.length = t52.length from hl)]) (by first | exact Imp.refl _ | exact Imp.of (by rw [(show l.length = t52.length from hl)])))
theorem k13 {a0 : (List T_face_Likeness)} {v0 : Value} {a1 : (List T_face_Person)} {v1 : Value} {a2 : Int} {r : (List T_face_Match) × Int} {w : World} {h : Heap} (hw : Know h w noS) (f0 : FrS h 14 v0 (a0.map e_face_Likeness)) (f1 : FrN h 4 v1 g_face_Person a1) (H : R_SuggestOf a0 a1 a2 = some r) : Does Tryz.prog 13 (List.toArray [v0, v1, .int .i64 a2]) w (fun v w' => ∃ x : (Option Addr × Nat), v = (.tuple #[.slice x.1 r.1.length x.2, .int .i64 r.2]) ∧ Turn w w' noS (rowV 42 2 (.slice x.1 r.1.length x.2) r.1.length (r.1.map e_face_Match))) := by
 refine enter (n := 28) Tryz.func13 rfl rfl rfl noS [] (Sat.nil _ _) ?_
 refine c_seq ?_
 refine c_region ?_
 refine l_val rfl rfl rfl (r_assign (v := .slice none 0 0) rfl) ?_
 refine l_val rfl rfl rfl (r_assign (v := .int .i64 0) rfl) ?_
 refine l_nil ?_
 refine c_seq ?_
 refine c_block ?_
 refine c_seq ?_
 refine c_region ?_
 refine l_val rfl rfl rfl (r_move (v := v0) rfl) ?_
 refine l_val rfl rfl rfl (r_move (v := .int .i64 a2) rfl) ?_
 obtain ⟨t12, h_t12, H9⟩ := bnd_some H; clear H
 refine l_callG (fun w hF hS => k6 (know_all w) (f0.mono (hw.now hF)) h_t12) Tryz.call6 rfl rfl rfl ?_
 refine l_val rfl rfl rfl (r_lss rfl rfl) ?_
 refine l_val rfl rfl rfl (r_assign (v := .bool (decide (t12 < 0))) rfl) ?_
 refine l_nil ?_
 refine c_if (b := (decide (t12 < 0))) rfl (fun hb => ?_) (fun hb => ?_)
 ·have H10 := cnd_t hb H9; clear H9
  refine c_seq ?_
  refine c_region ?_
  refine l_val rfl rfl rfl (r_assign (v := .slice none 0 0) rfl) ?_
  refine l_val rfl rfl rfl (r_assign (v := .int .i64 7) rfl) ?_
  refine l_nil ?_
  refine c_ret ?_
  refine c_nilRow 42 2 ?_
  obtain rfl := Option.some.inj H10
  refine ret2 (v1 := .slice ((none, 0) : Option Addr × Nat).1 ([] : List T_face_Match).length ((none, 0) : Option Addr × Nat).2) (v2 := .int .i64 7) rfl rfl rfl (finX ((none, 0) : Option Addr × Nat) (i := 0) rfl rfl (Imp.refl _))
 ·have H11 := cnd_f hb H9; clear H9
  refine c_seq ?_
  refine c_region ?_
  refine l_val rfl rfl rfl (r_move (v := v1) rfl) ?_
  refine l_val rfl rfl rfl (r_move (v := .int .i64 a2) rfl) ?_
  obtain ⟨t17, h_t17, H12⟩ := bnd_some H11; clear H11
  refine l_callG (fun w hF hS => k32 (know_all w) (f1.mono (hw.now hF)) h_t17) Tryz.call32 rfl rfl rfl ?_
  refine l_val rfl rfl rfl (r_geq rfl rfl) ?_
  refine l_val rfl rfl rfl (r_assign (v := .bool (decide (0 ≤ t17))) rfl) ?_
  refine l_nil ?_
  refine c_if (b := (decide (0 ≤ t17))) rfl (fun hb => ?_) (fun hb => ?_)
  ·have H13 := cnd_t hb H12; clear H12
   refine c_seq ?_
   refine c_region ?_
   refine l_val rfl rfl rfl (r_assign (v := .slice none 0 0) rfl) ?_
   refine l_val rfl rfl rfl (r_assign (v := .int .i64 11) rfl) ?_
   refine l_nil ?_
   refine c_ret ?_
   refine c_nilRow 42 2 ?_
   obtain rfl := Option.some.inj H13
   refine ret2 (v1 := .slice ((none, 0) : Option Addr × Nat).1 ([] : List T_face_Match).length ((none, 0) : Option Addr × Nat).2) (v2 := .int .i64 11) rfl rfl rfl (finX ((none, 0) : Option Addr × Nat) (i := 0) rfl rfl (Imp.refl _))
  ·have H14 := cnd_f hb H12; clear H12
   refine c_skip ?_
   refine c_seq ?_
   refine c_region ?_
   refine l_val rfl rfl rfl (r_move (v := v0) rfl) ?_
   refine l_val rfl rfl rfl (r_move (v := v1) rfl) ?_
   refine l_val rfl rfl rfl (r_move (v := .int .i64 a2) rfl) ?_
   obtain ⟨t22, h_t22, H15⟩ := bnd_some H14; clear H14
   refine l_make (makes_call (rds := []) (G := fun x : (Option Addr × Nat) => .slice x.1 t22.length x.2) (C := fun x : (Option Addr × Nat) => rowV 42 2 (.slice x.1 t22.length x.2) t22.length (t22.map e_face_Match)) (fun w L' hF hS hi => k33 (know_all w) (f0.mono (hw.now hF)) (f1.mono (hw.now hF)) h_t22) Tryz.call33 rfl) rfl rfl rfl (fun p => ?_)
   refine l_val rfl rfl rfl (r_assign (v := .slice p.1 t22.length p.2) rfl) ?_
   refine l_nil ?_
   refine c_seq ?_
   refine c_region ?_
   refine l_val rfl rfl rfl (r_move (v := .slice p.1 t22.length p.2) rfl) ?_
   refine l_val rfl rfl rfl (r_move (v := .slice p.1 t22.length p.2) rfl) ?_
   refine l_val rfl rfl rfl (r_len Tryz.underlying37 rfl) ?_
   refine l_val rfl rfl rfl (r_min rfl rfl) ?_
   obtain ⟨t27, h_t27, H16⟩ := bnd_some H15; clear H15
   refine l_read (v := .slice p.1 t27.length p.2) (fun w hF hS => run_sliceHO0 (xs := t22) Tryz.underlying37 Tryz.sizeOf42 rfl rfl rfl (capOf (i := 0) hS rfl) h_t27) rfl rfl rfl ?_
   refine l_val rfl rfl rfl (r_assign (v := .slice p.1 t27.length p.2) rfl) ?_
   refine l_val rfl rfl rfl (r_assign (v := .int .i64 0) rfl) ?_
   refine l_nil ?_
   refine c_ret ?_
   refine c_imp 0 rfl (imp_shrink rfl h_t27) ?_
   obtain rfl := Option.some.inj H16
   refine c_imp 0 rfl (imp_rowC _ _ _ _ _ _) ?_
   refine ret2 (v1 := .slice p.1 t27.length p.2) (v2 := .int .i64 0) rfl rfl rfl (finX p (i := 0) rfl rfl (Imp.refl _))
theorem k39 {a0 : (List T_face_Match)} {v0 : Value} {a1 : (List T_face_Match)} {v1 : Value} {r : Bool} {w : World} {h : Heap} (hw : Know h w noS) (f0 : FrS h 2 v0 (a0.map e_face_Match)) (f1 : FrS h 2 v1 (a1.map e_face_Match)) (H : slices_Equal_face_Match a0 a1 = some r) : Does Tryz.prog 39 (List.toArray [v0, v1]) w (fun v w' => v = (.bool r) ∧ Grow w w') := by
 refine enter (n := 26) Tryz.func39 rfl rfl rfl noS [] (Sat.nil _ _) ?_
 refine c_seq ?_
 refine c_region ?_
 refine l_val rfl rfl rfl (r_assign (v := .bool false) rfl) ?_
 refine l_nil ?_
 refine c_seq ?_
 refine c_seq ?_
 refine c_region ?_
 refine l_val rfl rfl rfl (r_move (v := v0) rfl) ?_
 refine l_val rfl rfl rfl (r_lenF Tryz.underlying37 rfl f0 rfl) ?_
 refine l_val rfl rfl rfl (r_move (v := v1) rfl) ?_
 refine l_val rfl rfl rfl (r_lenF Tryz.underlying37 rfl f1 rfl) ?_
 refine l_val rfl rfl rfl (r_neq rfl rfl) ?_
 refine l_nil ?_
 refine c_if (b := (decide ((a0.length : Int) ≠ (a1.length : Int)))) rfl (fun hb => ?_) (fun hb => ?_)
 ·have H11 := cnd_t hb H; clear H
  refine c_seq ?_
  refine c_region ?_
  refine l_val rfl rfl rfl (r_assign (v := .bool false) rfl) ?_
  refine l_nil ?_
  refine c_ret ?_
  obtain rfl := Option.some.inj H11
  refine ret1 (v := .bool false) rfl rfl (fin rfl)
 ·have H12 := cnd_f hb H; clear H
  refine c_skip ?_
  refine c_seq ?_
  refine c_seq ?_
  refine c_region ?_
  refine l_val rfl rfl rfl (r_move (v := v0) rfl) ?_
  refine l_val rfl rfl rfl (r_lenF Tryz.underlying37 rfl f0 rfl) ?_
  refine l_val rfl rfl rfl (r_move (v := .int .i64 0) rfl) ?_
  refine l_nil ?_
  refine c_block ?_
  refine c_fix (σ := Int) (τ := Unit) (fun next1 s => slices_Equal_face_Match_l1 a0 a1 next1 s) (fun s t => [(0, v0), (1, v1), (12, .int .i64 (a0.length : Int)), (13, .int .i64 s)]) (fun s t => []) (fun s t => True) 0 () [] H12 (by exact trivial) (by exact ⟨rfl, rfl, rfl, rfl, trivial⟩) (by decide) rfl ?_
  rintro x13_2 _ m1 gg H13 _
  clear H12
  replace H13 : slices_Equal_face_Match_l1 a0 a1 (it (fun next1 s => slices_Equal_face_Match_l1 a0 a1 next1 s) m1) x13_2 = some r := H13
  generalize hn1 : it (fun next1 s => slices_Equal_face_Match_l1 a0 a1 next1 s) m1 = next1 at H13
  refine c_tidyF [(0, v0), (1, v1), (12, .int .i64 (a0.length : Int)), (13, .int .i64 x13_2)] [] rfl rfl ?_
  refine c_seq ?_
  refine c_region ?_
  refine l_val rfl rfl rfl (r_lss rfl rfl) ?_
  refine l_nil ?_
  refine c_seq ?_
  refine c_if (b := (decide (x13_2 < (a0.length : Int)))) rfl (fun hb => ?_) (fun hb => ?_)
  ·have H14 := cnd_t hb H13; clear H13
   refine c_skip ?_
   refine c_seq ?_
   refine c_block ?_
   refine c_seq ?_
   refine c_region ?_
   refine l_val rfl rfl rfl (r_move (v := .int .i64 x13_2) rfl) ?_
   refine l_val rfl rfl rfl (r_assign (v := .int .i64 x13_2) rfl) ?_
   refine l_nil ?_
   refine c_seq ?_
   exact c_regionD (Kd.p :: Kd.p :: Kd.p :: Kd.d [] _ :: Kd.p :: Kd.p :: Kd.p :: Kd.d [] _ :: Kd.p :: []) 0 mixed (by
    refine d_val rfl rfl (r_move (v := v0) rfl) ?_
    refine d_val rfl rfl (r_move (v := .int .i64 x13_2) rfl) ?_
    have h_t18 := bnd_val H14
    have H15 := bnd_rest H14
    refine d_val rfl rfl (r_indexF Tryz.underlying37 Tryz.sizeOf42 rfl rfl f0 h_t18) ?_
    refine d_read (fun w hF => run_loadGN (f := e_face_Match) (i := x13_2) (sz := 2) (j := 0) (vs := [.int .i64 (val (gAt a0 x13_2)).Person, .int .i64 (val (gAt a0 x13_2)).Far]) Tryz.isAgg42 Tryz.sizeOf42 rfl rfl (f0.row (hw.now hF)) h_t18 rfl) rfl rfl ?_
    refine d_val rfl rfl (r_move (v := v1) rfl) ?_
    refine d_val rfl rfl (r_move (v := .int .i64 x13_2) rfl) ?_
    have h_t22 := bnd_val H15
    have H16 := bnd_rest H15
    refine d_val rfl rfl (r_indexF Tryz.underlying37 Tryz.sizeOf42 rfl rfl f1 h_t22) ?_
    refine d_read (fun w hF => run_loadGN (f := e_face_Match) (i := x13_2) (sz := 2) (j := 0) (vs := [.int .i64 (val (gAt a1 x13_2)).Person, .int .i64 (val (gAt a1 x13_2)).Far]) Tryz.isAgg42 Tryz.sizeOf42 rfl rfl (f1.row (hw.now hF)) h_t22 rfl) rfl rfl ?_
    refine d_val rfl rfl (r_neqA (xs := #[.int .i64 (val (gAt a0 x13_2)).Person, .int .i64 (val (gAt a0 x13_2)).Far]) (ys := #[.int .i64 (val (gAt a1 x13_2)).Person, .int .i64 (val (gAt a1 x13_2)).Far]) Tryz.eqGuardType42 (fun w => run_eq_face_Match w (val (gAt a0 x13_2)) (val (gAt a1 x13_2))) rfl rfl) ?_
    refine d_nil ?_
    refine c_if (b := (!(eq_face_Match (val (gAt a0 x13_2)) (val (gAt a1 x13_2))))) rfl (fun hb => ?_) (fun hb => ?_)
    ·have H17 := cnd_t hb H16; clear H16
     refine c_seq ?_
     refine c_region ?_
     refine l_val rfl rfl rfl (r_assign (v := .bool false) rfl) ?_
     refine l_nil ?_
     refine c_ret ?_
     obtain rfl := Option.some.inj H17
     refine ret1 (v := .bool false) rfl rfl (fin rfl)
    ·have H18 := cnd_f hb H16; clear H16
     refine c_skip ?_
     refine c_region ?_
     obtain ⟨t25, h_t25, H19⟩ := bnd_some H18; clear H18
     refine l_val rfl rfl rfl (r_addG rfl rfl h_t25) ?_
     refine l_val rfl rfl rfl (r_move (v := .int .i64 t25) rfl) ?_
     refine l_nil ?_
     refine c_close t25 () m1 [] (by exact ⟨rfl, rfl, rfl, rfl, trivial⟩) (by decide) rfl (by exact ⟨(by subst hn1; exact H19), trivial⟩) (Nat.lt_succ_self _)
    ) (by kernel_rfl)
  ·have H20 := cnd_f hb H13; clear H13
   refine c_exit ?_
   refine c_seq ?_
   refine c_region ?_
   refine l_val rfl rfl rfl (r_assign (v := .bool true) rfl) ?_
   refine l_nil ?_
   refine c_ret ?_
   obtain rfl := Option.some.inj H20
   refine ret1 (v := .bool true) rfl rfl (fin rfl)
theorem k15 {a0 : (List T_face_Match)} {v0 : Value} {a1 : Int} {a2 : (List T_face_Match)} {v2 : Value} {a3 : Int} {r : Bool} {w : World} {h : Heap} (hw : Know h w noS) (f0 : FrS h 2 v0 (a0.map e_face_Match)) (f2 : FrS h 2 v2 (a2.map e_face_Match)) (H : Law_listed_face_Match a0 a1 a2 a3 = some r) : Does Tryz.prog 15 (List.toArray [v0, .int .i64 a1, v2, .int .i64 a3]) w (fun v w' => v = (.bool r) ∧ Grow w w') := by
 refine enter (n := 19) Tryz.func15 rfl rfl rfl noS [] (Sat.nil _ _) ?_
 refine c_seq ?_
 refine c_region ?_
 refine l_val rfl rfl rfl (r_assign (v := .bool false) rfl) ?_
 refine l_nil ?_
 refine c_meet (r := r) (σ := (List T_face_Match)) (τ := Value) (fun s => Law_listed_face_Match_j1 a0 a1 a3 s) (fun s t => [(0, v0), (1, .int .i64 a1), (2, t), (3, .int .i64 a3)]) (fun s t => []) (fun s t => FrS h 2 t (s.map e_face_Match)) ?_ ?_
 ·refine c_seq ?_
  refine c_region ?_
  refine l_val rfl rfl rfl (r_move (v := .int .i64 a3) rfl) ?_
  refine l_val rfl rfl rfl (r_neq rfl rfl) ?_
  refine l_nil ?_
  refine c_if (b := (decide (a3 ≠ 0))) rfl (fun hb => ?_) (fun hb => ?_)
  ·have H11 := cnd_t hb H; clear H
   refine c_region ?_
   refine l_val rfl rfl rfl (r_assign (v := .slice none 0 0) rfl) ?_
   refine l_nil ?_
   refine c_close ([] : (List T_face_Match)) (.slice none 0 0) 0 [] (by exact ⟨rfl, rfl, rfl, rfl, trivial⟩) (by decide) rfl (by exact ⟨H11, (FrS.nil _ _)⟩) (Nat.lt_succ_self _)
  ·have H12 := cnd_f hb H; clear H
   refine c_skip ?_
   refine c_close a2 v2 0 [] (by exact ⟨rfl, rfl, rfl, rfl, trivial⟩) (by decide) rfl (by exact ⟨H12, f2⟩) (Nat.lt_succ_self _)
 ·rintro x2 gv gg H7 gf
  replace H7 : Law_listed_face_Match_j1 a0 a1 a3 x2 = some r := H7
  refine c_tidyF [(0, v0), (1, .int .i64 a1), (2, gv), (3, .int .i64 a3)] [] rfl rfl ?_
  refine c_seq ?_
  refine c_region ?_
  refine l_val rfl rfl rfl (r_move (v := v0) rfl) ?_
  refine l_val rfl rfl rfl (r_move (v := gv) rfl) ?_
  obtain ⟨t13, h_t13, H8⟩ := bnd_some H7; clear H7
  refine l_callG (fun w hF hS => k39 (know_all w) (f0.mono (hw.now hF)) (gf.mono (hw.now hF)) h_t13) Tryz.call39 rfl rfl rfl ?_
  refine l_val rfl rfl rfl (r_move (v := .bool t13) rfl) ?_
  refine split (fun hb => ?_) (fun hb => ?_)
  ·have H9 := cnd_t hb H8; clear H8
   refine l_val rfl rfl rfl (r_move (v := .int .i64 a1) rfl) ?_
   refine l_val rfl rfl rfl (r_move (v := .int .i64 a3) rfl) ?_
   refine l_val rfl rfl rfl (r_eql rfl rfl) ?_
   refine l_val rfl rfl rfl (r_pickT (v := .bool (decide (a1 = a3))) rfl rfl) ?_
   refine l_val rfl rfl rfl (r_assign (v := .bool (decide (a1 = a3))) rfl) ?_
   refine l_nil ?_
   refine c_ret ?_
   obtain rfl := Option.some.inj H9
   refine ret1 (v := .bool (decide (a1 = a3))) rfl rfl (fin rfl)
  ·have H10 := cnd_f hb H8; clear H8
   refine l_passed rfl rfl rfl ?_
   refine l_passed rfl rfl rfl ?_
   refine l_passed rfl rfl rfl ?_
   refine l_val rfl rfl rfl (r_pickF (v := .bool false) rfl rfl) ?_
   refine l_val rfl rfl rfl (r_assign (v := .bool false) rfl) ?_
   refine l_nil ?_
   refine c_ret ?_
   obtain rfl := Option.some.inj H10
   refine ret1 (v := .bool false) rfl rfl (fin rfl)
theorem k3 {a0 : (List T_face_Likeness)} {v0 : Value} {a1 : (List T_face_Person)} {v1 : Value} {a2 : Int} {r : Bool} {w : World} {h : Heap} (hw : Know h w noS) (f0 : FrS h 14 v0 (a0.map e_face_Likeness)) (f1 : FrN h 4 v1 g_face_Person a1) (H : Law_FacePeople a0 a1 a2 = some r) : Does Tryz.prog 3 (List.toArray [v0, v1, .int .i64 a2]) w (fun v w' => v = (.bool r) ∧ Grow w w') := by
 refine enter (n := 95) Tryz.func3 rfl rfl rfl noS [] (Sat.nil _ _) ?_
 refine c_seq ?_
 refine c_region ?_
 refine l_box (cs := [v0]) rfl rfl rfl f0.cells (fun b2 => ?_)
 refine l_val rfl rfl rfl (r_assign (v := .bool false) rfl) ?_
 refine l_nil ?_
 refine c_seq ?_
 refine c_region ?_
 refine l_load1 (i := 0) (v := v0) Tryz.isAgg22 rfl rfl rfl rfl rfl ?_
 obtain ⟨t19, h_t19, H38⟩ := bnd_some H; clear H
 refine l_callG (fun w hF hS => k4 (know_all w) (f0.mono (hw.now hF)) h_t19) Tryz.call4 rfl rfl rfl ?_
 refine l_val rfl rfl rfl (r_assign (v := .int .i64 t19) rfl) ?_
 refine l_nil ?_
 refine c_meet (r := r) (σ := Unit) (τ := Unit) (fun s => Law_FacePeople_j1 a0 a1 a2 t19) (fun s t => [(1, v1), (2, .int .i64 a2), (3, .pointer (some ⟨b2, 0, none⟩)), (7, .int .i64 t19)]) (fun s t => [cellsC b2 [v0] 22]) (fun s t => True) ?_ ?_
 ·refine c_seq ?_
  refine c_region ?_
  refine l_val rfl rfl rfl (r_move (v := v1) rfl) ?_
  refine l_val rfl rfl rfl (r_lenFN Tryz.underlying23 rfl f1) ?_
  refine l_val rfl rfl rfl (r_move (v := .int .i64 0) rfl) ?_
  refine l_nil ?_
  refine c_block ?_
  refine c_fix (σ := Int) (τ := Unit) (fun next4 s => Law_FacePeople_l4 a0 a1 a2 t19 next4 s) (fun s t => [(1, v1), (2, .int .i64 a2), (3, .pointer (some ⟨b2, 0, none⟩)), (7, .int .i64 t19), (20, v1), (21, .int .i64 (a1.length : Int)), (22, .int .i64 s)]) (fun s t => [cellsC b2 [v0] 22]) (fun s t => True) 0 () [0] H38 (by exact trivial) (by exact ⟨rfl, rfl, rfl, rfl, rfl, rfl, rfl, trivial⟩) (by decide) rfl ?_
  rintro x22_2 _ m4 gg H53 _
  clear H38
  replace H53 : Law_FacePeople_l4 a0 a1 a2 t19 (it (fun next4 s => Law_FacePeople_l4 a0 a1 a2 t19 next4 s) m4) x22_2 = some r := H53
  generalize hn4 : it (fun next4 s => Law_FacePeople_l4 a0 a1 a2 t19 next4 s) m4 = next4 at H53
  refine c_tidyF [(1, v1), (2, .int .i64 a2), (3, .pointer (some ⟨b2, 0, none⟩)), (7, .int .i64 t19), (20, v1), (21, .int .i64 (a1.length : Int)), (22, .int .i64 x22_2)] [cellsC b2 [v0] 22] rfl rfl ?_
  refine c_seq ?_
  refine c_region ?_
  refine l_val rfl rfl rfl (r_lss rfl rfl) ?_
  refine l_nil ?_
  refine c_seq ?_
  refine c_if (b := (decide (x22_2 < (a1.length : Int)))) rfl (fun hb => ?_) (fun hb => ?_)
  ·have H54 := cnd_t hb H53; clear H53
   refine c_skip ?_
   refine c_seq ?_
   refine c_block ?_
   refine c_seq ?_
   refine c_region ?_
   obtain ⟨t24, h_t24, H55⟩ := bnd_some H54; clear H54
   refine l_val rfl rfl rfl (r_indexF Tryz.underlying23 Tryz.sizeOf28 rfl rfl f1.frs (f1.ix h_t24)) ?_
   refine l_read (fun w hF hS => run_loadGN (f := (elC h v1 4)) (i := x22_2) (sz := 4) (j := 0) (vs := [.int .i64 t24.Id, str t24.Name, (elH h v1 4 (Int.toNat x22_2) 2), (elH h v1 4 (Int.toNat x22_2) 3)]) Tryz.isAgg28 Tryz.sizeOf28 rfl rfl (f1.frs.row (hw.now hF)) (f1.ix h_t24) (rd_of (cg_face_Person (f1.at h_t24)) rfl)) rfl rfl rfl ?_
   refine l_alloc (cs := [.int .i64 0, str [], .slice none 0 0, .slice none 0 0]) Tryz.zeroValue28 rfl rfl rfl (fun b3 => ?_)
   refine l_store (i := 1) (vs := [.int .i64 t24.Id, str t24.Name, (elH h v1 4 (Int.toNat x22_2) 2), (elH h v1 4 (Int.toNat x22_2) 3)]) (cs' := [.int .i64 t24.Id, str t24.Name, (elH h v1 4 (Int.toNat x22_2) 2), (elH h v1 4 (Int.toNat x22_2) 3)]) Tryz.sizeOf28 rfl rfl rfl rfl rfl rfl (by simp only [List.all_cons, List.all_nil, (show FrS h 1 (elH h v1 4 (Int.toNat x22_2) 2) (t24.Likes.map e_i64) from (g_face_Person_p2 (f1.at h_t24))).one, (show FrS h 1 (elH h v1 4 (Int.toNat x22_2) 3) (t24.Nots.map e_i64) from (g_face_Person_p3 (f1.at h_t24))).one] <;> rfl) rfl rfl ?_
   refine l_nil ?_
   refine c_seq ?_
   refine c_region ?_
   refine l_load1 (i := 0) (v := v0) Tryz.isAgg22 rfl rfl rfl rfl rfl ?_
   refine l_loadN (i := 1) (vs := [.int .i64 t24.Id, str t24.Name, (elH h v1 4 (Int.toNat x22_2) 2), (elH h v1 4 (Int.toNat x22_2) 3)]) Tryz.isAgg28 Tryz.sizeOf28 rfl rfl rfl rfl rfl ?_
   refine l_val rfl rfl rfl (r_move (v := .int .i64 a2) rfl) ?_
   obtain ⟨t30, h_t30, H56⟩ := bnd_some H55; clear H55
   refine l_callG (fun w hF hS => k5 (know_all w) (f0.mono (hw.now hF)) ((show FrS h 1 (elH h v1 4 (Int.toNat x22_2) 2) (t24.Likes.map e_i64) from (g_face_Person_p2 (f1.at h_t24))).mono (hw.now hF)) ((show FrS h 1 (elH h v1 4 (Int.toNat x22_2) 3) (t24.Nots.map e_i64) from (g_face_Person_p3 (f1.at h_t24))).mono (hw.now hF)) h_t30) Tryz.call5 rfl rfl rfl ?_
   refine l_val rfl rfl rfl (r_move (v := .tuple #[.int .i64 t30.1, .int .i64 t30.2]) rfl) ?_
   refine l_val rfl rfl rfl (r_extract (v := .int .i64 t30.1) rfl rfl) ?_
   refine l_val rfl rfl rfl (r_extract (v := .int .i64 t30.2) rfl rfl) ?_
   refine l_val rfl rfl rfl (r_assign (v := .int .i64 t30.1) rfl) ?_
   refine l_val rfl rfl rfl (r_assign (v := .int .i64 t30.2) rfl) ?_
   refine l_nil ?_
   refine c_seq ?_
   refine c_region ?_
   refine l_val rfl rfl rfl (r_move (v := .int .i64 t19) rfl) ?_
   refine l_val rfl rfl rfl (r_assign (v := .int .i64 t19) rfl) ?_
   refine l_nil ?_
   refine c_meet (r := r) (σ := Int) (τ := Unit) (fun s => Law_FacePeople_j5 a0 a2 x22_2 next4 t24 t30 s) (fun s t => [(1, v1), (2, .int .i64 a2), (3, .pointer (some ⟨b2, 0, none⟩)), (7, .int .i64 t19), (9, .pointer (some ⟨b3, 0, none⟩)), (10, .int .i64 t30.1), (11, .int .i64 t30.2), (12, .int .i64 s), (20, v1), (21, .int .i64 (a1.length : Int)), (22, .int .i64 x22_2)]) (fun s t => [cellsC b2 [v0] 22, cellsC b3 [.int .i64 t24.Id, str t24.Name, (elH h v1 4 (Int.toNat x22_2) 2), (elH h v1 4 (Int.toNat x22_2) 3)] 28]) (fun s t => True) ?_ ?_
   ·refine c_seq ?_
    refine c_region ?_
    refine l_val rfl rfl rfl (r_move (v := .int .i64 t19) rfl) ?_
    refine l_val rfl rfl rfl (r_eql rfl rfl) ?_
    refine l_val rfl rfl rfl (r_move (v := .bool (decide (t19 = 0))) rfl) ?_
    refine split (fun hb => ?_) (fun hb => ?_)
    ·have H66 := cnd_t hb H56; clear H56
     refine l_load1 (i := 0) (v := v0) Tryz.isAgg22 rfl rfl rfl rfl rfl ?_
     refine l_val rfl rfl rfl (r_move (v := .int .i64 a2) rfl) ?_
     obtain ⟨t39, h_t39, H67⟩ := bnd_some H66; clear H66
     refine l_callG (fun w hF hS => k6 (know_all w) (f0.mono (hw.now hF)) h_t39) Tryz.call6 rfl rfl rfl ?_
     refine l_val rfl rfl rfl (r_lss rfl rfl) ?_
     refine l_val rfl rfl rfl (r_move (v := .bool (decide (t39 < 0))) rfl) ?_
     refine split (fun hb => ?_) (fun hb => ?_)
     ·have H68 := cnd_t hb H67; clear H67
      refine l_passed rfl rfl rfl ?_
      refine l_passed rfl rfl rfl ?_
      refine l_passed rfl rfl rfl ?_
      refine l_passed rfl rfl rfl ?_
      refine l_val rfl rfl rfl (r_pickT (v := .bool true) rfl rfl) ?_
      refine l_val rfl rfl rfl (r_pickT (v := .bool true) rfl rfl) ?_
      refine l_nil ?_
      refine c_true rfl ?_
      refine c_region ?_
      refine l_val rfl rfl rfl (r_assign (v := .int .i64 7) rfl) ?_
      refine l_nil ?_
      refine c_close 7 () 0 [0, 1] (by exact ⟨rfl, rfl, rfl, rfl, rfl, rfl, rfl, rfl, rfl, rfl, rfl, trivial⟩) (by decide) rfl (by exact ⟨H68, trivial⟩) (Nat.lt_succ_self _)
     ·have H69 := cnd_f hb H67; clear H67
      refine l_val rfl rfl rfl (r_field Tryz.runUnderlying28 rfl Tryz.sizeOf26 rfl rfl) ?_
      refine l_load1 (i := 1) (v := (elH h v1 4 (Int.toNat x22_2) 2)) Tryz.isAgg26 rfl rfl rfl rfl rfl ?_
      refine l_val rfl rfl rfl (r_makeFn (caps := #[.pointer (some ⟨b2, 0, none⟩)]) rfl) ?_
      obtain ⟨t45, h_t45, H70⟩ := bnd_some H69; clear H69
      refine l_callG (fun w hF hS => k7 (know_all w) ((show FrS h 1 (elH h v1 4 (Int.toNat x22_2) 2) (t24.Likes.map e_i64) from (g_face_Person_p2 (f1.at h_t24))).mono (hw.now hF)) (FnH.mk ⟨8, #[], #[.pointer (some ⟨b2, 0, none⟩)], rfl, Tryz.call8, fun args2 post2 w2 hk2 hR2 => by obtain ⟨a0_, r_, rfl, H_, rfl⟩ := hR2; exact k8 (know_all w2) ((f0.mono (hw.now hF)).mono hk2.up) (hk2.up _ _ (sat_cell (i := 0) hS rfl)) H_⟩) h_t45) Tryz.call7 rfl rfl rfl ?_
      refine l_val rfl rfl rfl (r_pickF (v := .bool t45) rfl rfl) ?_
      refine l_val rfl rfl rfl (r_pickT (v := .bool t45) rfl rfl) ?_
      refine l_nil ?_
      refine c_if (b := t45) rfl (fun hb => ?_) (fun hb => ?_)
      ·have H71 := cnd_t hb H70; clear H70
       refine c_region ?_
       refine l_val rfl rfl rfl (r_assign (v := .int .i64 7) rfl) ?_
       refine l_nil ?_
       refine c_close 7 () 0 [0, 1] (by exact ⟨rfl, rfl, rfl, rfl, rfl, rfl, rfl, rfl, rfl, rfl, rfl, trivial⟩) (by decide) rfl (by exact ⟨H71, trivial⟩) (Nat.lt_succ_self _)
      ·have H72 := cnd_f hb H70; clear H70
       refine c_skip ?_
       refine c_close t19 () 0 [0, 1] (by exact ⟨rfl, rfl, rfl, rfl, rfl, rfl, rfl, rfl, rfl, rfl, rfl, trivial⟩) (by decide) rfl (by exact ⟨H72, trivial⟩) (Nat.lt_succ_self _)
    ·have H73 := cnd_f hb H56; clear H56
     refine l_passed rfl rfl rfl ?_
     refine l_passed rfl rfl rfl ?_
     refine l_passed rfl rfl rfl ?_
     refine l_passed rfl rfl rfl ?_
     refine l_passed rfl rfl rfl ?_
     refine l_passed rfl rfl rfl ?_
     refine l_passed rfl rfl rfl ?_
     refine l_passed rfl rfl rfl ?_
     refine l_passed rfl rfl rfl ?_
     refine l_passed rfl rfl rfl ?_
     refine l_val rfl rfl rfl (r_pickF (v := .bool false) rfl rfl) ?_
     refine l_nil ?_
     refine c_false rfl ?_
     refine c_skip ?_
     refine c_close t19 () 0 [0, 1] (by exact ⟨rfl, rfl, rfl, rfl, rfl, rfl, rfl, rfl, rfl, rfl, rfl, trivial⟩) (by decide) rfl (by exact ⟨H73, trivial⟩) (Nat.lt_succ_self _)
   ·rintro x12 _ gg H57 _
    replace H57 : Law_FacePeople_j5 a0 a2 x22_2 next4 t24 t30 x12 = some r := H57
    refine c_tidyF [(1, v1), (2, .int .i64 a2), (3, .pointer (some ⟨b2, 0, none⟩)), (7, .int .i64 t19), (9, .pointer (some ⟨b3, 0, none⟩)), (10, .int .i64 t30.1), (11, .int .i64 t30.2), (12, .int .i64 x12), (20, v1), (21, .int .i64 (a1.length : Int)), (22, .int .i64 x22_2)] [cellsC b2 [v0] 22, cellsC b3 [.int .i64 t24.Id, str t24.Name, (elH h v1 4 (Int.toNat x22_2) 2), (elH h v1 4 (Int.toNat x22_2) 3)] 28] rfl rfl ?_
    refine c_seq ?_
    refine c_region ?_
    refine l_val rfl rfl rfl (r_assign (v := .int .i64 0) rfl) ?_
    refine l_nil ?_
    refine c_meet (r := r) (σ := Int) (τ := Unit) (fun s => Law_FacePeople_j6 x22_2 next4 t30 x12 s) (fun s t => [(1, v1), (2, .int .i64 a2), (3, .pointer (some ⟨b2, 0, none⟩)), (7, .int .i64 t19), (10, .int .i64 t30.1), (11, .int .i64 t30.2), (12, .int .i64 x12), (13, .int .i64 s), (20, v1), (21, .int .i64 (a1.length : Int)), (22, .int .i64 x22_2)]) (fun s t => [cellsC b2 [v0] 22]) (fun s t => True) ?_ ?_
    ·refine c_seq ?_
     refine c_region ?_
     refine l_val rfl rfl rfl (r_move (v := .int .i64 x12) rfl) ?_
     refine l_val rfl rfl rfl (r_eql rfl rfl) ?_
     refine l_nil ?_
     refine c_if (b := (decide (x12 = 0))) rfl (fun hb => ?_) (fun hb => ?_)
     ·have H63 := cnd_t hb H57; clear H57
      refine c_region ?_
      refine l_load1 (i := 0) (v := v0) Tryz.isAgg22 rfl rfl rfl rfl rfl ?_
      refine l_loadN (i := 1) (vs := [.int .i64 t24.Id, str t24.Name, (elH h v1 4 (Int.toNat x22_2) 2), (elH h v1 4 (Int.toNat x22_2) 3)]) Tryz.isAgg28 Tryz.sizeOf28 rfl rfl rfl rfl rfl ?_
      refine l_val rfl rfl rfl (r_move (v := .int .i64 a2) rfl) ?_
      obtain ⟨t53, h_t53, H64⟩ := bnd_some H63; clear H63
      refine l_callG (fun w hF hS => k9 (know_all w) (f0.mono (hw.now hF)) ((show FrS h 1 (elH h v1 4 (Int.toNat x22_2) 2) (t24.Likes.map e_i64) from (g_face_Person_p2 (f1.at h_t24))).mono (hw.now hF)) ((show FrS h 1 (elH h v1 4 (Int.toNat x22_2) 3) (t24.Nots.map e_i64) from (g_face_Person_p3 (f1.at h_t24))).mono (hw.now hF)) h_t53) Tryz.call9 rfl rfl rfl ?_
      refine l_val rfl rfl rfl (r_assign (v := .int .i64 t53) rfl) ?_
      refine l_nil ?_
      refine c_close t53 () 0 [0] (by exact ⟨rfl, rfl, rfl, rfl, rfl, rfl, rfl, rfl, rfl, rfl, rfl, trivial⟩) (by decide) rfl (by exact ⟨H64, trivial⟩) (Nat.lt_succ_self _)
     ·have H65 := cnd_f hb H57; clear H57
      refine c_skip ?_
      refine c_close 0 () 0 [0] (by exact ⟨rfl, rfl, rfl, rfl, rfl, rfl, rfl, rfl, rfl, rfl, rfl, trivial⟩) (by decide) rfl (by exact ⟨H65, trivial⟩) (Nat.lt_succ_self _)
    ·rintro x13 _ gg H58 _
     replace H58 : Law_FacePeople_j6 x22_2 next4 t30 x12 x13 = some r := H58
     refine c_tidyF [(1, v1), (2, .int .i64 a2), (3, .pointer (some ⟨b2, 0, none⟩)), (7, .int .i64 t19), (10, .int .i64 t30.1), (11, .int .i64 t30.2), (12, .int .i64 x12), (13, .int .i64 x13), (20, v1), (21, .int .i64 (a1.length : Int)), (22, .int .i64 x22_2)] [cellsC b2 [v0] 22] rfl rfl ?_
     refine c_seq ?_
     refine c_region ?_
     refine l_val rfl rfl rfl (r_move (v := .int .i64 t30.1) rfl) ?_
     refine l_val rfl rfl rfl (r_move (v := .int .i64 t30.2) rfl) ?_
     refine l_val rfl rfl rfl (r_move (v := .int .i64 x13) rfl) ?_
     refine l_val rfl rfl rfl (r_move (v := .int .i64 x12) rfl) ?_
     obtain ⟨t58, h_t58, H59⟩ := bnd_some H58; clear H58
     refine l_call (k10 h_t58) Tryz.call10 rfl rfl rfl ?_
     refine l_val rfl rfl rfl (r_not rfl) ?_
     refine l_nil ?_
     refine c_if (b := (!t58)) rfl (fun hb => ?_) (fun hb => ?_)
     ·have H60 := cnd_t hb H59; clear H59
      refine c_seq ?_
      refine c_region ?_
      refine l_val rfl rfl rfl (r_assign (v := .bool false) rfl) ?_
      refine l_nil ?_
      refine c_ret ?_
      obtain rfl := Option.some.inj H60
      refine ret1 (v := .bool false) rfl rfl (fin rfl)
     ·have H61 := cnd_f hb H59; clear H59
      refine c_skip ?_
      refine c_region ?_
      obtain ⟨t60, h_t60, H62⟩ := bnd_some H61; clear H61
      refine l_val rfl rfl rfl (r_addG rfl rfl h_t60) ?_
      refine l_val rfl rfl rfl (r_move (v := .int .i64 t60) rfl) ?_
      refine l_nil ?_
      refine c_close t60 () m4 [0] (by exact ⟨rfl, rfl, rfl, rfl, rfl, rfl, rfl, trivial⟩) (by decide) rfl (by exact ⟨(by subst hn4; exact H62), trivial⟩) (Nat.lt_succ_self _)
  ·have H74 := cnd_f hb H53; clear H53
   refine c_exit ?_
   refine c_close () () 0 [0] (by exact ⟨rfl, rfl, rfl, rfl, trivial⟩) (by decide) rfl (by exact ⟨H74, trivial⟩) (Nat.lt_succ_self _)
 ·rintro _ _ gg H39 _
  replace H39 : Law_FacePeople_j1 a0 a1 a2 t19 = some r := H39
  refine c_tidyF [(1, v1), (2, .int .i64 a2), (3, .pointer (some ⟨b2, 0, none⟩)), (7, .int .i64 t19)] [cellsC b2 [v0] 22] rfl rfl ?_
  refine c_meet (r := r) (σ := Int) (τ := Unit) (fun s => Law_FacePeople_j2 a0 a1 a2 s) (fun s t => [(1, v1), (2, .int .i64 a2), (3, .pointer (some ⟨b2, 0, none⟩)), (7, .int .i64 s)]) (fun s t => [cellsC b2 [v0] 22]) (fun s t => True) ?_ ?_
  ·refine c_seq ?_
   refine c_region ?_
   refine l_val rfl rfl rfl (r_move (v := .int .i64 t19) rfl) ?_
   refine l_val rfl rfl rfl (r_eql rfl rfl) ?_
   refine l_nil ?_
   refine c_if (b := (decide (t19 = 0))) rfl (fun hb => ?_) (fun hb => ?_)
   ·have H50 := cnd_t hb H39; clear H39
    refine c_region ?_
    refine l_load1 (i := 0) (v := v0) Tryz.isAgg22 rfl rfl rfl rfl rfl ?_
    refine l_val rfl rfl rfl (r_move (v := v1) rfl) ?_
    obtain ⟨t65, h_t65, H51⟩ := bnd_some H50; clear H50
    refine l_callG (fun w hF hS => k11 (know_all w) (f0.mono (hw.now hF)) (f1.mono (hw.now hF)) h_t65) Tryz.call11 rfl rfl rfl ?_
    refine l_val rfl rfl rfl (r_assign (v := .int .i64 t65) rfl) ?_
    refine l_nil ?_
    refine c_close t65 () 0 [0] (by exact ⟨rfl, rfl, rfl, rfl, trivial⟩) (by decide) rfl (by exact ⟨H51, trivial⟩) (Nat.lt_succ_self _)
   ·have H52 := cnd_f hb H39; clear H39
    refine c_skip ?_
    refine c_close t19 () 0 [0] (by exact ⟨rfl, rfl, rfl, rfl, trivial⟩) (by decide) rfl (by exact ⟨H52, trivial⟩) (Nat.lt_succ_self _)
  ·rintro x7 _ gg H40 _
   replace H40 : Law_FacePeople_j2 a0 a1 a2 x7 = some r := H40
   refine c_tidyF [(1, v1), (2, .int .i64 a2), (3, .pointer (some ⟨b2, 0, none⟩)), (7, .int .i64 x7)] [cellsC b2 [v0] 22] rfl rfl ?_
   refine c_seq ?_
   refine c_region ?_
   refine l_load1 (i := 0) (v := v0) Tryz.isAgg22 rfl rfl rfl rfl rfl ?_
   refine l_val rfl rfl rfl (r_move (v := v1) rfl) ?_
   refine l_val rfl rfl rfl (r_move (v := .int .i64 a2) rfl) ?_
   obtain ⟨t70, h_t70, H41⟩ := bnd_some H40; clear H40
   refine l_make (makes_call (rds := []) (G := fun x : (Option Addr × Nat) => .tuple #[.slice x.1 t70.1.length x.2, .int .i64 t70.2]) (C := fun x : (Option Addr × Nat) => roV 2 (.slice x.1 t70.1.length x.2) t70.1.length (t70.1.map e_face_Match)) (fun w L' hF hS hi => k12 (know_all w) (f0.mono (hw.now hF)) (f1.mono (hw.now hF)) h_t70) Tryz.call12 rfl) rfl rfl rfl (fun p => ?_)
   refine l_val rfl rfl rfl (r_move (v := .tuple #[.slice p.1 t70.1.length p.2, .int .i64 t70.2]) rfl) ?_
   refine l_val rfl rfl rfl (r_extract (v := .slice p.1 t70.1.length p.2) rfl rfl) ?_
   refine l_val rfl rfl rfl (r_extract (v := .int .i64 t70.2) rfl rfl) ?_
   refine l_val rfl rfl rfl (r_assign (v := .slice p.1 t70.1.length p.2) rfl) ?_
   refine l_val rfl rfl rfl (r_assign (v := .int .i64 t70.2) rfl) ?_
   refine l_nil ?_
   refine c_seq ?_
   refine c_region ?_
   refine l_val rfl rfl rfl (r_assign (v := .slice none 0 0) rfl) ?_
   refine l_nil ?_
   refine c_seq ?_
   refine c_region ?_
   refine l_val rfl rfl rfl (r_move (v := .int .i64 x7) rfl) ?_
   refine l_val rfl rfl rfl (r_assign (v := .int .i64 x7) rfl) ?_
   refine l_nil ?_
   refine c_meet (r := r) (σ := Int × (List T_face_Match)) (τ := (Option Addr × Nat)) (fun s => Law_FacePeople_j3 a0 a1 x7 t70 s.1 s.2) (fun s t => [(1, v1), (3, .pointer (some ⟨b2, 0, none⟩)), (7, .int .i64 x7), (14, .slice p.1 t70.1.length p.2), (15, .int .i64 t70.2), (16, .slice t.1 s.2.length t.2), (17, .int .i64 s.1)]) (fun s t => [cellsC b2 [v0] 22, roV 2 (.slice p.1 t70.1.length p.2) t70.1.length (t70.1.map e_face_Match), rowV 42 2 (.slice t.1 s.2.length t.2) s.2.length (s.2.map e_face_Match)]) (fun s t => True) ?_ ?_
   ·refine c_seq ?_
    refine c_region ?_
    refine l_val rfl rfl rfl (r_move (v := .int .i64 x7) rfl) ?_
    refine l_val rfl rfl rfl (r_eql rfl rfl) ?_
    refine l_nil ?_
    refine c_if (b := (decide (x7 = 0))) rfl (fun hb => ?_) (fun hb => ?_)
    ·have H47 := cnd_t hb H41; clear H41
     refine c_region ?_
     refine l_load1 (i := 0) (v := v0) Tryz.isAgg22 rfl rfl rfl rfl rfl ?_
     refine l_val rfl rfl rfl (r_move (v := v1) rfl) ?_
     refine l_val rfl rfl rfl (r_move (v := .int .i64 a2) rfl) ?_
     obtain ⟨t80, h_t80, H48⟩ := bnd_some H47; clear H47
     refine l_make (makes_call (rds := []) (G := fun x : (Option Addr × Nat) => .tuple #[.slice x.1 t80.1.length x.2, .int .i64 t80.2]) (C := fun x : (Option Addr × Nat) => rowV 42 2 (.slice x.1 t80.1.length x.2) t80.1.length (t80.1.map e_face_Match)) (fun w L' hF hS hi => k13 (know_all w) (f0.mono (hw.now hF)) (f1.mono (hw.now hF)) h_t80) Tryz.call13 rfl) rfl rfl rfl (fun p_3 => ?_)
     refine l_val rfl rfl rfl (r_move (v := .tuple #[.slice p_3.1 t80.1.length p_3.2, .int .i64 t80.2]) rfl) ?_
     refine l_val rfl rfl rfl (r_extract (v := .slice p_3.1 t80.1.length p_3.2) rfl rfl) ?_
     refine l_val rfl rfl rfl (r_extract (v := .int .i64 t80.2) rfl rfl) ?_
     refine l_val rfl rfl rfl (r_assign (v := .slice p_3.1 t80.1.length p_3.2) rfl) ?_
     refine l_val rfl rfl rfl (r_assign (v := .int .i64 t80.2) rfl) ?_
     refine l_nil ?_
     refine c_close (t80.2, t80.1) p_3 0 [0, 1, 2] (by exact ⟨rfl, rfl, rfl, rfl, rfl, rfl, rfl, trivial⟩) (by decide) rfl (by exact ⟨H48, trivial⟩) (Nat.lt_succ_self _)
    ·have H49 := cnd_f hb H41; clear H41
     refine c_skip ?_
     refine c_nilRow 42 2 ?_
     refine c_close (x7, ([] : List T_face_Match)) ((none, 0) : Option Addr × Nat) 0 [0, 1, 2] (by exact ⟨rfl, rfl, rfl, rfl, rfl, rfl, rfl, trivial⟩) (by decide) rfl (by exact ⟨H49, trivial⟩) (Nat.lt_succ_self _)
   ·rintro ⟨x17, l⟩ p_2 gg H42 _
    replace H42 : Law_FacePeople_j3 a0 a1 x7 t70 x17 l = some r := H42
    refine c_tidyF [(1, v1), (3, .pointer (some ⟨b2, 0, none⟩)), (7, .int .i64 x7), (14, .slice p.1 t70.1.length p.2), (15, .int .i64 t70.2), (16, .slice p_2.1 l.length p_2.2), (17, .int .i64 x17)] [cellsC b2 [v0] 22, roV 2 (.slice p.1 t70.1.length p.2) t70.1.length (t70.1.map e_face_Match), rowV 42 2 (.slice p_2.1 l.length p_2.2) l.length (l.map e_face_Match)] rfl rfl ?_
    refine c_seq ?_
    refine c_region ?_
    refine l_load1 (i := 0) (v := v0) Tryz.isAgg22 rfl rfl rfl rfl rfl ?_
    refine l_val rfl rfl rfl (r_move (v := v1) rfl) ?_
    obtain ⟨t85, h_t85, H43⟩ := bnd_some H42; clear H42
    refine l_callG (fun w hF hS => k14 (know_all w) (f0.mono (hw.now hF)) (f1.mono (hw.now hF)) h_t85) Tryz.call14 rfl rfl rfl ?_
    refine l_val rfl rfl rfl (r_move (v := .int .i64 x7) rfl) ?_
    refine l_val rfl rfl rfl (r_eql rfl rfl) ?_
    refine l_val rfl rfl rfl (r_move (v := .bool (decide (t85 = x7))) rfl) ?_
    refine split (fun hb => ?_) (fun hb => ?_)
    ·have H44 := cnd_t hb H43; clear H43
     refine l_val rfl rfl rfl (r_move (v := .slice p.1 t70.1.length p.2) rfl) ?_
     refine l_val rfl rfl rfl (r_move (v := .int .i64 t70.2) rfl) ?_
     refine l_val rfl rfl rfl (r_move (v := .slice p_2.1 l.length p_2.2) rfl) ?_
     refine l_val rfl rfl rfl (r_move (v := .int .i64 x17) rfl) ?_
     obtain ⟨t93, h_t93, H45⟩ := bnd_some H44; clear H44
     refine l_callG (fun w hF hS => k15 (know_all w) (frs_rd (i := 1) hS rfl) (frs_own (i := 2) rfl hS rfl) h_t93) Tryz.call15 rfl rfl rfl ?_
     refine l_val rfl rfl rfl (r_pickT (v := .bool t93) rfl rfl) ?_
     refine l_val rfl rfl rfl (r_assign (v := .bool t93) rfl) ?_
     refine l_nil ?_
     refine c_ret ?_
     obtain rfl := Option.some.inj H45
     refine ret1 (v := .bool t93) rfl rfl (fin rfl)
    ·have H46 := cnd_f hb H43; clear H43
     refine l_passed rfl rfl rfl ?_
     refine l_passed rfl rfl rfl ?_
     refine l_passed rfl rfl rfl ?_
     refine l_passed rfl rfl rfl ?_
     refine l_passed rfl rfl rfl ?_
     refine l_val rfl rfl rfl (r_pickF (v := .bool false) rfl rfl) ?_
     refine l_val rfl rfl rfl (r_assign (v := .bool false) rfl) ?_
     refine l_nil ?_
     refine c_ret ?_
     obtain rfl := Option.some.inj H46
     refine ret1 (v := .bool false) rfl rfl (fin rfl)
end Go.Proofs.YtgchdmkpjaakcaaGreat
