/- FaceVecs: the walks, printed by our generator; each follows its model. Conditions: the model yields a value. -/
import Derived.Test.YtngogocmhmfbjaaMFace
import Derived.Test.YtngogocmhmfbjaaProg
import Derived.Test.YtngogocmhmfbjaaLx2
namespace Go.Proofs.Ytngogocmhmfbjaa
open Go Go.Vc Go.Md Go.M Go.Lx
set_option maxRecDepth 100000
set_option maxHeartbeats 4000000
set_option linter.unusedVariables false

theorem mixed : Try.prog.follows .mixedOrders = true := by kernel_rfl

abbrev e_face_Vec (x : (Nat → Int)) : List Value := [.int .i64 (x 0), .int .i64 (x 1), .int .i64 (x 2), .int .i64 (x 3), .int .i64 (x 4), .int .i64 (x 5), .int .i64 (x 6), .int .i64 (x 7), .int .i64 (x 8), .int .i64 (x 9), .int .i64 (x 10), .int .i64 (x 11)]
abbrev e_i64 (x : Int) : List Value := [.int .i64 x]
abbrev e_face_Likeness (x : T_face_Likeness) : List Value := [.int .i64 x.Id, .int .i64 x.Photo, .int .i64 (x.Vec 0), .int .i64 (x.Vec 1), .int .i64 (x.Vec 2), .int .i64 (x.Vec 3), .int .i64 (x.Vec 4), .int .i64 (x.Vec 5), .int .i64 (x.Vec 6), .int .i64 (x.Vec 7), .int .i64 (x.Vec 8), .int .i64 (x.Vec 9), .int .i64 (x.Vec 10), .int .i64 (x.Vec 11)]

theorem run_eq_face_Vec (w : World) (x y : (Nat → Int)) : (Op.equalIn Op.maxDepth 23 (.agg #[.int .i64 (x 0), .int .i64 (x 1), .int .i64 (x 2), .int .i64 (x 3), .int .i64 (x 4), .int .i64 (x 5), .int .i64 (x 6), .int .i64 (x 7), .int .i64 (x 8), .int .i64 (x 9), .int .i64 (x 10), .int .i64 (x 11)]) (.agg #[.int .i64 (y 0), .int .i64 (y 1), .int .i64 (y 2), .int .i64 (y 3), .int .i64 (y 4), .int .i64 (y 5), .int .i64 (y 6), .int .i64 (y 7), .int .i64 (y 8), .int .i64 (y 9), .int .i64 (y 10), .int .i64 (y 11)])).run Try.prog w = .ok (eq_face_Vec x y) w :=
  run_eqInts (d := 9998) (len := 12) (k := .i64) (k' := .i64) ((List.range 12).map x) ((List.range 12).map y) (by simp) (by simp) Try.underlying23 Try.underlying3 Try.isAgg3 Try.sizeOf3 w

theorem k12 {a0 : (Nat → Int)} {r : Int} (H : R_VecFault a0 = some r) : Ret Try.prog 12 [.agg #[.int .i64 (a0 0), .int .i64 (a0 1), .int .i64 (a0 2), .int .i64 (a0 3), .int .i64 (a0 4), .int .i64 (a0 5), .int .i64 (a0 6), .int .i64 (a0 7), .int .i64 (a0 8), .int .i64 (a0 9), .int .i64 (a0 10), .int .i64 (a0 11)]] (.int .i64 r) := by
  refine enterRet (n := 16) Try.func12 rfl rfl rfl (fun wd => ?_)
  refine c_seq ?_
  refine c_region ?_
  refine l_box (cs := [.int .i64 (a0 0), .int .i64 (a0 1), .int .i64 (a0 2), .int .i64 (a0 3), .int .i64 (a0 4), .int .i64 (a0 5), .int .i64 (a0 6), .int .i64 (a0 7), .int .i64 (a0 8), .int .i64 (a0 9), .int .i64 (a0 10), .int .i64 (a0 11)]) rfl rfl rfl rfl (fun b1 => ?_)
  refine l_val rfl rfl rfl (r_assign (v := .int .i64 0) rfl) ?_
  refine l_nil ?_
  refine c_seq ?_
  refine c_seq ?_
  refine c_region ?_
  refine l_loadN (i := 0) (vs := [.int .i64 (a0 0), .int .i64 (a0 1), .int .i64 (a0 2), .int .i64 (a0 3), .int .i64 (a0 4), .int .i64 (a0 5), .int .i64 (a0 6), .int .i64 (a0 7), .int .i64 (a0 8), .int .i64 (a0 9), .int .i64 (a0 10), .int .i64 (a0 11)]) Try.isAgg23 Try.sizeOf23 rfl rfl rfl rfl rfl ?_
  refine l_val rfl rfl rfl (r_move (v := .int .i64 0) rfl) ?_
  refine l_nil ?_
  refine c_block ?_
  refine c_fix (σ := Int) (τ := Unit) (fun next1 s => R_VecFault_l1 a0 next1 s) [2, 4, 6, 7, 8, 9, 10, 11, 12, 13, 14, 15] (fun s t => [(6, .int .i64 s)]) (fun s t => []) (fun s t => True) 0 () H (by exact trivial) (by exact ⟨rfl, trivial⟩) rfl ?_
  rintro x6_2 _ m1 gg H10 _
  clear H
  replace H10 : R_VecFault_l1 a0 (it (fun next1 s => R_VecFault_l1 a0 next1 s) m1) x6_2 = some r := H10
  generalize hn1 : it (fun next1 s => R_VecFault_l1 a0 next1 s) m1 = next1 at H10
  refine c_tidyF [(6, .int .i64 x6_2)] [] rfl rfl ?_
  refine c_seq ?_
  refine c_region ?_
  refine l_val rfl rfl rfl (r_lss rfl rfl) ?_
  refine l_nil ?_
  refine c_seq ?_
  refine c_if (b := (decide (x6_2 < 12))) rfl (fun hb => ?_) (fun hb => ?_)
  · have H11 := cnd_t hb H10; clear H10
    refine c_skip ?_
    refine c_seq ?_
    refine c_block ?_
    refine c_seq ?_
    refine c_region ?_
    obtain ⟨k8, h_k8, H12⟩ := bnd_some H11; clear H11
    refine l_val rfl rfl rfl (r_indexAG (f := fun j_ => .int .i64 (a0 j_)) Try.runUnderlying23 Try.isAgg3 Try.sizeOf3 rfl rfl rfl h_k8) ?_
    refine l_val rfl rfl rfl (r_assign (v := .int .i64 (a0 k8)) rfl) ?_
    refine l_nil ?_
    refine c_seq ?_
    refine c_region ?_
    refine l_val rfl rfl rfl (r_move (v := .int .i64 (a0 k8)) rfl) ?_
    refine l_val rfl rfl rfl (r_lss rfl rfl) ?_
    refine l_val rfl rfl rfl (r_move (v := .bool (decide ((a0 k8) < (-127)))) rfl) ?_
    refine split (fun hb => ?_) (fun hb => ?_)
    · have H13 := cnd_t hb H12; clear H12
      refine l_passed rfl rfl rfl ?_
      refine l_passed rfl rfl rfl ?_
      refine l_val rfl rfl rfl (r_pickT (v := .bool true) rfl rfl) ?_
      refine l_nil ?_
      refine c_true rfl ?_
      refine c_seq ?_
      refine c_region ?_
      refine l_val rfl rfl rfl (r_assign (v := .int .i64 2) rfl) ?_
      refine l_nil ?_
      refine c_ret ?_
      obtain rfl := Option.some.inj H13
      refine ret1 (v := .int .i64 2) rfl rfl (fin rfl)
    · have H14 := cnd_f hb H12; clear H12
      refine l_val rfl rfl rfl (r_move (v := .int .i64 (a0 k8)) rfl) ?_
      refine l_val rfl rfl rfl (r_gtr rfl rfl) ?_
      refine l_val rfl rfl rfl (r_pickF (v := .bool (decide (127 < (a0 k8)))) rfl rfl) ?_
      refine l_nil ?_
      refine c_if (b := (decide (127 < (a0 k8)))) rfl (fun hb => ?_) (fun hb => ?_)
      · have H15 := cnd_t hb H14; clear H14
        refine c_seq ?_
        refine c_region ?_
        refine l_val rfl rfl rfl (r_assign (v := .int .i64 2) rfl) ?_
        refine l_nil ?_
        refine c_ret ?_
        obtain rfl := Option.some.inj H15
        refine ret1 (v := .int .i64 2) rfl rfl (fin rfl)
      · have H16 := cnd_f hb H14; clear H14
        refine c_skip ?_
        refine c_region ?_
        obtain ⟨t15, h_t15, H17⟩ := bnd_some H16; clear H16
        refine l_val rfl rfl rfl (r_addG rfl rfl h_t15) ?_
        refine l_val rfl rfl rfl (r_move (v := .int .i64 t15) rfl) ?_
        refine l_nil ?_
        refine c_roundK (t15, (), m1) [0] (by exact ⟨rfl, trivial⟩) (by repeat (first | exact Keeps.refl _ _ | exact Keeps.mix | refine Keeps.upd ?_ rfl | refine Keeps.mkE ?_ _ rfl | refine Keeps.mix2 ?_ rfl)) (by decide) rfl (by exact ⟨(by subst hn1; exact H17), trivial⟩) (Nat.lt_succ_self _)
  · have H18 := cnd_f hb H10; clear H10
    refine c_exit ?_
    refine c_seq ?_
    refine c_region ?_
    refine l_val rfl rfl rfl (r_assign (v := .int .i64 0) rfl) ?_
    refine l_nil ?_
    refine c_ret ?_
    obtain rfl := Option.some.inj H18
    refine ret1 (v := .int .i64 0) rfl rfl (fin rfl)
theorem k82 {a0 : Int} {a1 : Int} {a2 : Int} {r : Bool} (H : face_outside a0 a1 a2 = some r) : Ret Try.prog 82 [.int .i64 a0, .int .i64 a1, .int .i64 a2] (.bool r) := by
  refine enterRet (n := 15) Try.func82 rfl rfl rfl (fun wd => ?_)
  refine c_seq ?_
  refine c_region ?_
  refine l_val rfl rfl rfl (r_assign (v := .bool false) rfl) ?_
  refine l_nil ?_
  refine c_seq ?_
  refine c_region ?_
  refine l_val rfl rfl rfl (r_move (v := .int .i64 a0) rfl) ?_
  refine l_val rfl rfl rfl (r_move (v := .int .i64 a1) rfl) ?_
  refine l_val rfl rfl rfl (r_lss rfl rfl) ?_
  refine l_val rfl rfl rfl (r_move (v := .bool (decide (a0 < a1))) rfl) ?_
  refine split (fun hb => ?_) (fun hb => ?_)
  · have H3 := cnd_t hb H; clear H
    refine l_passed rfl rfl rfl ?_
    refine l_passed rfl rfl rfl ?_
    refine l_passed rfl rfl rfl ?_
    refine l_val rfl rfl rfl (r_pickT (v := .bool true) rfl rfl) ?_
    refine l_val rfl rfl rfl (r_assign (v := .bool true) rfl) ?_
    refine l_nil ?_
    refine c_ret ?_
    obtain rfl := Option.some.inj H3
    refine ret1 (v := .bool true) rfl rfl (fin rfl)
  · have H4 := cnd_f hb H; clear H
    refine l_val rfl rfl rfl (r_move (v := .int .i64 a0) rfl) ?_
    refine l_val rfl rfl rfl (r_move (v := .int .i64 a2) rfl) ?_
    refine l_val rfl rfl rfl (r_gtr rfl rfl) ?_
    refine l_val rfl rfl rfl (r_pickF (v := .bool (decide (a2 < a0))) rfl rfl) ?_
    refine l_val rfl rfl rfl (r_assign (v := .bool (decide (a2 < a0))) rfl) ?_
    refine l_nil ?_
    refine c_ret ?_
    obtain rfl := Option.some.inj H4
    refine ret1 (v := .bool (decide (a2 < a0))) rfl rfl (fin rfl)
theorem k18 {a0 : (Nat → Int)} {r : Int} (H : face_CheckVec a0 = some r) : Ret Try.prog 18 [.agg #[.int .i64 (a0 0), .int .i64 (a0 1), .int .i64 (a0 2), .int .i64 (a0 3), .int .i64 (a0 4), .int .i64 (a0 5), .int .i64 (a0 6), .int .i64 (a0 7), .int .i64 (a0 8), .int .i64 (a0 9), .int .i64 (a0 10), .int .i64 (a0 11)]] (.int .i64 r) := by
  refine enterRet (n := 12) Try.func18 rfl rfl rfl (fun wd => ?_)
  refine c_seq ?_
  refine c_region ?_
  refine l_box (cs := [.int .i64 (a0 0), .int .i64 (a0 1), .int .i64 (a0 2), .int .i64 (a0 3), .int .i64 (a0 4), .int .i64 (a0 5), .int .i64 (a0 6), .int .i64 (a0 7), .int .i64 (a0 8), .int .i64 (a0 9), .int .i64 (a0 10), .int .i64 (a0 11)]) rfl rfl rfl rfl (fun b1 => ?_)
  refine l_val rfl rfl rfl (r_assign (v := .int .i64 0) rfl) ?_
  refine l_nil ?_
  refine c_seq ?_
  refine c_seq ?_
  refine c_region ?_
  refine l_loadN (i := 0) (vs := [.int .i64 (a0 0), .int .i64 (a0 1), .int .i64 (a0 2), .int .i64 (a0 3), .int .i64 (a0 4), .int .i64 (a0 5), .int .i64 (a0 6), .int .i64 (a0 7), .int .i64 (a0 8), .int .i64 (a0 9), .int .i64 (a0 10), .int .i64 (a0 11)]) Try.isAgg23 Try.sizeOf23 rfl rfl rfl rfl rfl ?_
  refine l_val rfl rfl rfl (r_move (v := .int .i64 0) rfl) ?_
  refine l_nil ?_
  refine c_block ?_
  refine c_fix (σ := Int) (τ := Unit) (fun next1 s => face_CheckVec_l1 a0 next1 s) [2, 4, 6, 7, 8, 9, 10, 11] (fun s t => [(6, .int .i64 s)]) (fun s t => []) (fun s t => True) 0 () H (by exact trivial) (by exact ⟨rfl, trivial⟩) rfl ?_
  rintro x6_2 _ m1 gg H9 _
  clear H
  replace H9 : face_CheckVec_l1 a0 (it (fun next1 s => face_CheckVec_l1 a0 next1 s) m1) x6_2 = some r := H9
  generalize hn1 : it (fun next1 s => face_CheckVec_l1 a0 next1 s) m1 = next1 at H9
  refine c_tidyF [(6, .int .i64 x6_2)] [] rfl rfl ?_
  refine c_seq ?_
  refine c_region ?_
  refine l_val rfl rfl rfl (r_lss rfl rfl) ?_
  refine l_nil ?_
  refine c_seq ?_
  refine c_if (b := (decide (x6_2 < 12))) rfl (fun hb => ?_) (fun hb => ?_)
  · have H10 := cnd_t hb H9; clear H9
    refine c_skip ?_
    refine c_seq ?_
    refine c_block ?_
    refine c_seq ?_
    refine c_region ?_
    obtain ⟨k8, h_k8, H11⟩ := bnd_some H10; clear H10
    refine l_val rfl rfl rfl (r_indexAG (f := fun j_ => .int .i64 (a0 j_)) Try.runUnderlying23 Try.isAgg3 Try.sizeOf3 rfl rfl rfl h_k8) ?_
    refine l_val rfl rfl rfl (r_assign (v := .int .i64 (a0 k8)) rfl) ?_
    refine l_nil ?_
    refine c_seq ?_
    refine c_region ?_
    refine l_val rfl rfl rfl (r_move (v := .int .i64 (a0 k8)) rfl) ?_
    obtain ⟨t10, h_t10, H12⟩ := bnd_some H11; clear H11
    refine l_call (k82 h_t10) Try.call82 rfl rfl rfl ?_
    refine l_nil ?_
    refine c_if (b := t10) rfl (fun hb => ?_) (fun hb => ?_)
    · have H13 := cnd_t hb H12; clear H12
      refine c_seq ?_
      refine c_region ?_
      refine l_val rfl rfl rfl (r_assign (v := .int .i64 2) rfl) ?_
      refine l_nil ?_
      refine c_ret ?_
      obtain rfl := Option.some.inj H13
      refine ret1 (v := .int .i64 2) rfl rfl (fin rfl)
    · have H14 := cnd_f hb H12; clear H12
      refine c_skip ?_
      refine c_region ?_
      obtain ⟨t11, h_t11, H15⟩ := bnd_some H14; clear H14
      refine l_val rfl rfl rfl (r_addG rfl rfl h_t11) ?_
      refine l_val rfl rfl rfl (r_move (v := .int .i64 t11) rfl) ?_
      refine l_nil ?_
      refine c_roundK (t11, (), m1) [0] (by exact ⟨rfl, trivial⟩) (by repeat (first | exact Keeps.refl _ _ | exact Keeps.mix | refine Keeps.upd ?_ rfl | refine Keeps.mkE ?_ _ rfl | refine Keeps.mix2 ?_ rfl)) (by decide) rfl (by exact ⟨(by subst hn1; exact H15), trivial⟩) (Nat.lt_succ_self _)
  · have H16 := cnd_f hb H9; clear H9
    refine c_exit ?_
    refine c_seq ?_
    refine c_region ?_
    refine l_val rfl rfl rfl (r_assign (v := .int .i64 0) rfl) ?_
    refine l_nil ?_
    refine c_ret ?_
    obtain rfl := Option.some.inj H16
    refine ret1 (v := .int .i64 0) rfl rfl (fin rfl)
theorem k78 {a0 : (List (Nat → Int))} {v0 : Value} {r : Int} {w : World} {h : Heap} (hw : Know h w noS) (f0 : FrS h 12 v0 (a0.map e_face_Vec)) (H : face_checkVecs a0 = some r) : Does Try.prog 78 (List.toArray [v0]) w (fun v w' => v = (.int .i64 r) ∧ Grow w w') := by
  refine enter (n := 18) Try.func78 rfl rfl rfl noS [] (Sat.nil _ _) ?_
  refine c_seq ?_
  refine c_region ?_
  refine l_val rfl rfl rfl (r_assign (v := .int .i64 0) rfl) ?_
  refine l_nil ?_
  refine c_seq ?_
  refine c_seq ?_
  refine c_region ?_
  refine l_val rfl rfl rfl (r_move (v := v0) rfl) ?_
  refine l_val rfl rfl rfl (r_lenF Try.underlying24 rfl f0 rfl) ?_
  refine l_val rfl rfl rfl (r_move (v := .int .i64 0) rfl) ?_
  refine l_nil ?_
  refine c_block ?_
  refine c_fix (σ := Int) (τ := Unit) (fun next1 s => face_checkVecs_l1 a0 next1 s) [2, 4, 5, 8, 9, 10, 11, 12, 13, 14, 15, 16, 17] (fun s t => [(8, .int .i64 s)]) (fun s t => []) (fun s t => True) 0 () H (by exact trivial) (by exact ⟨rfl, trivial⟩) rfl ?_
  rintro x8_2 _ m1 gg H9 _
  clear H
  replace H9 : face_checkVecs_l1 a0 (it (fun next1 s => face_checkVecs_l1 a0 next1 s) m1) x8_2 = some r := H9
  generalize hn1 : it (fun next1 s => face_checkVecs_l1 a0 next1 s) m1 = next1 at H9
  refine c_tidyF [(8, .int .i64 x8_2)] [] rfl rfl ?_
  refine c_seq ?_
  refine c_region ?_
  refine l_val rfl rfl rfl (r_lss rfl rfl) ?_
  refine l_nil ?_
  refine c_seq ?_
  refine c_if (b := (decide (x8_2 < (a0.length : Int)))) rfl (fun hb => ?_) (fun hb => ?_)
  · have H10 := cnd_t hb H9; clear H9
    refine c_skip ?_
    refine c_seq ?_
    refine c_block ?_
    refine c_seq ?_
    refine c_region ?_
    obtain ⟨t10, h_t10, H11⟩ := bnd_some H10; clear H10
    refine l_val rfl rfl rfl (r_indexF Try.underlying24 Try.sizeOf23 rfl rfl f0 h_t10) ?_
    refine l_read (fun w hF hS => run_loadGN (j := 0) (vs := [.int .i64 (t10 0), .int .i64 (t10 1), .int .i64 (t10 2), .int .i64 (t10 3), .int .i64 (t10 4), .int .i64 (t10 5), .int .i64 (t10 6), .int .i64 (t10 7), .int .i64 (t10 8), .int .i64 (t10 9), .int .i64 (t10 10), .int .i64 (t10 11)]) Try.isAgg23 Try.sizeOf23 rfl rfl (f0.row (hw.now hF)) h_t10 rfl) rfl rfl rfl ?_
    refine l_alloc (cs := [.int .i64 ((fun _ => 0) 0), .int .i64 ((fun _ => 0) 1), .int .i64 ((fun _ => 0) 2), .int .i64 ((fun _ => 0) 3), .int .i64 ((fun _ => 0) 4), .int .i64 ((fun _ => 0) 5), .int .i64 ((fun _ => 0) 6), .int .i64 ((fun _ => 0) 7), .int .i64 ((fun _ => 0) 8), .int .i64 ((fun _ => 0) 9), .int .i64 ((fun _ => 0) 10), .int .i64 ((fun _ => 0) 11)]) Try.zeroValue23 rfl rfl rfl (fun b1 => ?_)
    refine l_store (i := 0) (vs := [.int .i64 (t10 0), .int .i64 (t10 1), .int .i64 (t10 2), .int .i64 (t10 3), .int .i64 (t10 4), .int .i64 (t10 5), .int .i64 (t10 6), .int .i64 (t10 7), .int .i64 (t10 8), .int .i64 (t10 9), .int .i64 (t10 10), .int .i64 (t10 11)]) (cs' := [.int .i64 (t10 0), .int .i64 (t10 1), .int .i64 (t10 2), .int .i64 (t10 3), .int .i64 (t10 4), .int .i64 (t10 5), .int .i64 (t10 6), .int .i64 (t10 7), .int .i64 (t10 8), .int .i64 (t10 9), .int .i64 (t10 10), .int .i64 (t10 11)]) Try.sizeOf23 rfl rfl rfl rfl rfl rfl rfl rfl rfl ?_
    refine l_nil ?_
    refine c_seq ?_
    refine c_region ?_
    refine l_loadN (i := 0) (vs := [.int .i64 (t10 0), .int .i64 (t10 1), .int .i64 (t10 2), .int .i64 (t10 3), .int .i64 (t10 4), .int .i64 (t10 5), .int .i64 (t10 6), .int .i64 (t10 7), .int .i64 (t10 8), .int .i64 (t10 9), .int .i64 (t10 10), .int .i64 (t10 11)]) Try.isAgg23 Try.sizeOf23 rfl rfl rfl rfl rfl ?_
    obtain ⟨t13, h_t13, H12⟩ := bnd_some H11; clear H11
    refine l_call (k18 h_t13) Try.call18 rfl rfl rfl ?_
    refine l_val rfl rfl rfl (r_assign (v := .int .i64 t13) rfl) ?_
    refine l_nil ?_
    refine c_seq ?_
    refine c_region ?_
    refine l_val rfl rfl rfl (r_move (v := .int .i64 t13) rfl) ?_
    refine l_val rfl rfl rfl (r_neq rfl rfl) ?_
    refine l_nil ?_
    refine c_if (b := (decide (t13 ≠ 0))) rfl (fun hb => ?_) (fun hb => ?_)
    · have H13 := cnd_t hb H12; clear H12
      refine c_seq ?_
      refine c_region ?_
      refine l_val rfl rfl rfl (r_move (v := .int .i64 t13) rfl) ?_
      refine l_val rfl rfl rfl (r_assign (v := .int .i64 t13) rfl) ?_
      refine l_nil ?_
      refine c_ret ?_
      obtain rfl := Option.some.inj H13
      refine ret1 (v := .int .i64 t13) rfl rfl (fin rfl)
    · have H14 := cnd_f hb H12; clear H12
      refine c_skip ?_
      refine c_region ?_
      obtain ⟨t17, h_t17, H15⟩ := bnd_some H14; clear H14
      refine l_val rfl rfl rfl (r_addG rfl rfl h_t17) ?_
      refine l_val rfl rfl rfl (r_move (v := .int .i64 t17) rfl) ?_
      refine l_nil ?_
      refine c_roundK (t17, (), m1) [] (by exact ⟨rfl, trivial⟩) (by repeat (first | exact Keeps.refl _ _ | exact Keeps.mix | refine Keeps.upd ?_ rfl | refine Keeps.mkE ?_ _ rfl | refine Keeps.mix2 ?_ rfl)) (by decide) rfl (by exact ⟨(by subst hn1; exact H15), trivial⟩) (Nat.lt_succ_self _)
  · have H16 := cnd_f hb H9; clear H9
    refine c_exit ?_
    refine c_seq ?_
    refine c_region ?_
    refine l_val rfl rfl rfl (r_assign (v := .int .i64 0) rfl) ?_
    refine l_nil ?_
    refine c_ret ?_
    obtain rfl := Option.some.inj H16
    refine ret1 (v := .int .i64 0) rfl rfl (fin rfl)
theorem k79 {a0 : (Nat → Int)} {a1 : (Nat → Int)} {r : Int} (H : face_far a0 a1 = some r) : Ret Try.prog 79 [.agg #[.int .i64 (a0 0), .int .i64 (a0 1), .int .i64 (a0 2), .int .i64 (a0 3), .int .i64 (a0 4), .int .i64 (a0 5), .int .i64 (a0 6), .int .i64 (a0 7), .int .i64 (a0 8), .int .i64 (a0 9), .int .i64 (a0 10), .int .i64 (a0 11)], .agg #[.int .i64 (a1 0), .int .i64 (a1 1), .int .i64 (a1 2), .int .i64 (a1 3), .int .i64 (a1 4), .int .i64 (a1 5), .int .i64 (a1 6), .int .i64 (a1 7), .int .i64 (a1 8), .int .i64 (a1 9), .int .i64 (a1 10), .int .i64 (a1 11)]] (.int .i64 r) := by
  refine enterRet (n := 28) Try.func79 rfl rfl rfl (fun wd => ?_)
  refine c_seq ?_
  refine c_region ?_
  refine l_box (cs := [.int .i64 (a0 0), .int .i64 (a0 1), .int .i64 (a0 2), .int .i64 (a0 3), .int .i64 (a0 4), .int .i64 (a0 5), .int .i64 (a0 6), .int .i64 (a0 7), .int .i64 (a0 8), .int .i64 (a0 9), .int .i64 (a0 10), .int .i64 (a0 11)]) rfl rfl rfl rfl (fun b2 => ?_)
  refine l_box (cs := [.int .i64 (a1 0), .int .i64 (a1 1), .int .i64 (a1 2), .int .i64 (a1 3), .int .i64 (a1 4), .int .i64 (a1 5), .int .i64 (a1 6), .int .i64 (a1 7), .int .i64 (a1 8), .int .i64 (a1 9), .int .i64 (a1 10), .int .i64 (a1 11)]) rfl rfl rfl rfl (fun b3 => ?_)
  refine l_val rfl rfl rfl (r_assign (v := .int .i64 0) rfl) ?_
  refine l_nil ?_
  refine c_seq ?_
  refine c_region ?_
  refine l_val rfl rfl rfl (r_assign (v := .int .i64 0) rfl) ?_
  refine l_nil ?_
  refine c_seq ?_
  refine c_seq ?_
  refine c_region ?_
  refine l_loadN (i := 0) (vs := [.int .i64 (a0 0), .int .i64 (a0 1), .int .i64 (a0 2), .int .i64 (a0 3), .int .i64 (a0 4), .int .i64 (a0 5), .int .i64 (a0 6), .int .i64 (a0 7), .int .i64 (a0 8), .int .i64 (a0 9), .int .i64 (a0 10), .int .i64 (a0 11)]) Try.isAgg23 Try.sizeOf23 rfl rfl rfl rfl rfl ?_
  refine l_val rfl rfl rfl (r_move (v := .int .i64 0) rfl) ?_
  refine l_nil ?_
  refine c_block ?_
  refine c_fix (σ := Int × Int) (τ := Unit) (fun next1 s => face_far_l1 a0 a1 next1 s.1 s.2) [5, 6, 7, 9, 10, 11, 12, 13, 14, 15, 16, 17, 18, 19, 20, 21, 22, 23, 24, 25, 26] (fun s t => [(5, .int .i64 s.1), (9, .int .i64 s.2)]) (fun s t => []) (fun s t => True) (0, 0) () H (by exact trivial) (by exact ⟨rfl, rfl, trivial⟩) rfl ?_
  rintro ⟨x5_2, x9_2⟩ _ m1 gg H12 _
  clear H
  replace H12 : face_far_l1 a0 a1 (it (fun next1 s => face_far_l1 a0 a1 next1 s.1 s.2) m1) x5_2 x9_2 = some r := H12
  generalize hn1 : it (fun next1 s => face_far_l1 a0 a1 next1 s.1 s.2) m1 = next1 at H12
  refine c_tidyF [(5, .int .i64 x5_2), (9, .int .i64 x9_2)] [] rfl rfl ?_
  refine c_seq ?_
  refine c_region ?_
  refine l_val rfl rfl rfl (r_lss rfl rfl) ?_
  refine l_nil ?_
  refine c_seq ?_
  refine c_if (b := (decide (x9_2 < 12))) rfl (fun hb => ?_) (fun hb => ?_)
  · have H13 := cnd_t hb H12; clear H12
    refine c_skip ?_
    refine c_seq ?_
    refine c_block ?_
    refine c_seq ?_
    refine c_region ?_
    refine l_val rfl rfl rfl (r_move (v := .int .i64 x9_2) rfl) ?_
    obtain ⟨k12, h_k12, H14⟩ := bnd_some H13; clear H13
    refine l_val rfl rfl rfl (r_indexAG (f := fun j_ => .int .i64 (a0 j_)) Try.runUnderlying23 Try.isAgg3 Try.sizeOf3 rfl rfl rfl h_k12) ?_
    refine l_val rfl rfl rfl (r_assign (v := .int .i64 x9_2) rfl) ?_
    refine l_val rfl rfl rfl (r_assign (v := .int .i64 (a0 k12)) rfl) ?_
    refine l_nil ?_
    exact c_regionD (Kd.p :: Kd.p :: Kd.p :: Kd.p :: Kd.d [1] _ :: Kd.p :: Kd.p :: Kd.p :: Kd.p :: Kd.d [1] _ :: Kd.p :: Kd.p :: Kd.p :: Kd.p :: []) 0 mixed (by
      refine d_val rfl rfl (r_move (v := .int .i64 x5_2) rfl) ?_
      refine d_val rfl rfl (r_move (v := .int .i64 (a0 k12)) rfl) ?_
      refine d_val rfl rfl (r_move (v := .int .i64 x9_2) rfl) ?_
      have h_k16 := bnd_val H14
      have H15 := bnd_rest H14
      refine d_val rfl rfl (r_indexPG Try.runUnderlying23 Try.sizeOf3 rfl rfl h_k16) ?_
      refine d_load1 (i := 1) (v := .int .i64 (a1 (val (gIx 12 x9_2)))) Try.isAgg3 rfl rfl rfl (rg_arr (pre := []) (post := []) (f := fun j_ => [.int .i64 (a1 j_)]) (n := 12) (sz := 1) (q := 0) rfl rfl (fun _ => rfl) (gIx_lt h_k16) rfl) ?_
      have h_t18 := bnd_val H15
      have H16 := bnd_rest H15
      refine d_val rfl rfl (r_subG rfl rfl h_t18) ?_
      refine d_val rfl rfl (r_move (v := .int .i64 (a0 k12)) rfl) ?_
      refine d_val rfl rfl (r_move (v := .int .i64 x9_2) rfl) ?_
      have h_k21 := bnd_val H16
      have H17 := bnd_rest H16
      refine d_val rfl rfl (r_indexPG Try.runUnderlying23 Try.sizeOf3 rfl rfl h_k21) ?_
      refine d_load1 (i := 1) (v := .int .i64 (a1 (val (gIx 12 x9_2)))) Try.isAgg3 rfl rfl rfl (rg_arr (pre := []) (post := []) (f := fun j_ => [.int .i64 (a1 j_)]) (n := 12) (sz := 1) (q := 0) rfl rfl (fun _ => rfl) (gIx_lt h_k21) rfl) ?_
      have h_t23 := bnd_val H17
      have H18 := bnd_rest H17
      refine d_val rfl rfl (r_subG rfl rfl h_t23) ?_
      have h_t24 := bnd_val H18
      have H19 := bnd_rest H18
      refine d_val rfl rfl (r_mulG rfl rfl h_t24) ?_
      have h_t25 := bnd_val H19
      have H20 := bnd_rest H19
      refine d_val rfl rfl (r_addG rfl rfl h_t25) ?_
      refine d_val rfl rfl (r_assign (v := .int .i64 (val (gI (x5_2 + (val (gI ((val (gI ((a0 k12) - (a1 (val (gIx 12 x9_2)))))) * (val (gI ((a0 k12) - (a1 (val (gIx 12 x9_2))))))))))))) rfl) ?_
      refine d_nil ?_
      refine c_region ?_
      obtain ⟨t26, h_t26, H21⟩ := bnd_some H20; clear H20
      refine l_val rfl rfl rfl (r_addG rfl rfl h_t26) ?_
      refine l_val rfl rfl rfl (r_move (v := .int .i64 t26) rfl) ?_
      refine l_nil ?_
      refine c_roundK (((val (gI (x5_2 + (val (gI ((val (gI ((a0 k12) - (a1 (val (gIx 12 x9_2)))))) * (val (gI ((a0 k12) - (a1 (val (gIx 12 x9_2)))))))))))), t26), (), m1) [0, 1] (by exact ⟨rfl, rfl, trivial⟩) (by repeat (first | exact Keeps.refl _ _ | exact Keeps.mix | refine Keeps.upd ?_ rfl | refine Keeps.mkE ?_ _ rfl | refine Keeps.mix2 ?_ rfl)) (by decide) rfl (by exact ⟨(by subst hn1; exact H21), trivial⟩) (Nat.lt_succ_self _)
      ) (by kernel_rfl)
  · have H22 := cnd_f hb H12; clear H12
    refine c_exit ?_
    refine c_seq ?_
    refine c_region ?_
    refine l_val rfl rfl rfl (r_move (v := .int .i64 x5_2) rfl) ?_
    refine l_val rfl rfl rfl (r_assign (v := .int .i64 x5_2) rfl) ?_
    refine l_nil ?_
    refine c_ret ?_
    obtain rfl := Option.some.inj H22
    refine ret1 (v := .int .i64 x5_2) rfl rfl (fin rfl)
theorem k13 {a0 : (Nat → Int)} {a1 : (Nat → Int)} {r : Int × Int} (H : face_Far a0 a1 = some r) : Ret Try.prog 13 [.agg #[.int .i64 (a0 0), .int .i64 (a0 1), .int .i64 (a0 2), .int .i64 (a0 3), .int .i64 (a0 4), .int .i64 (a0 5), .int .i64 (a0 6), .int .i64 (a0 7), .int .i64 (a0 8), .int .i64 (a0 9), .int .i64 (a0 10), .int .i64 (a0 11)], .agg #[.int .i64 (a1 0), .int .i64 (a1 1), .int .i64 (a1 2), .int .i64 (a1 3), .int .i64 (a1 4), .int .i64 (a1 5), .int .i64 (a1 6), .int .i64 (a1 7), .int .i64 (a1 8), .int .i64 (a1 9), .int .i64 (a1 10), .int .i64 (a1 11)]] (.tuple #[.int .i64 r.1, .int .i64 r.2]) := by
  refine enterRet (n := 17) Try.func13 rfl rfl rfl (fun wd => ?_)
  refine c_seq ?_
  refine c_region ?_
  refine l_box (cs := [.int .i64 (a0 0), .int .i64 (a0 1), .int .i64 (a0 2), .int .i64 (a0 3), .int .i64 (a0 4), .int .i64 (a0 5), .int .i64 (a0 6), .int .i64 (a0 7), .int .i64 (a0 8), .int .i64 (a0 9), .int .i64 (a0 10), .int .i64 (a0 11)]) rfl rfl rfl rfl (fun b3 => ?_)
  refine l_box (cs := [.int .i64 (a1 0), .int .i64 (a1 1), .int .i64 (a1 2), .int .i64 (a1 3), .int .i64 (a1 4), .int .i64 (a1 5), .int .i64 (a1 6), .int .i64 (a1 7), .int .i64 (a1 8), .int .i64 (a1 9), .int .i64 (a1 10), .int .i64 (a1 11)]) rfl rfl rfl rfl (fun b4 => ?_)
  refine l_val rfl rfl rfl (r_assign (v := .int .i64 0) rfl) ?_
  refine l_val rfl rfl rfl (r_assign (v := .int .i64 0) rfl) ?_
  refine l_nil ?_
  refine c_seq ?_
  refine c_seq ?_
  refine c_region ?_
  refine l_loadN (i := 0) (vs := [.int .i64 (a0 0), .int .i64 (a0 1), .int .i64 (a0 2), .int .i64 (a0 3), .int .i64 (a0 4), .int .i64 (a0 5), .int .i64 (a0 6), .int .i64 (a0 7), .int .i64 (a0 8), .int .i64 (a0 9), .int .i64 (a0 10), .int .i64 (a0 11)]) Try.isAgg23 Try.sizeOf23 rfl rfl rfl rfl rfl ?_
  refine l_loadN (i := 1) (vs := [.int .i64 (a1 0), .int .i64 (a1 1), .int .i64 (a1 2), .int .i64 (a1 3), .int .i64 (a1 4), .int .i64 (a1 5), .int .i64 (a1 6), .int .i64 (a1 7), .int .i64 (a1 8), .int .i64 (a1 9), .int .i64 (a1 10), .int .i64 (a1 11)]) Try.isAgg23 Try.sizeOf23 rfl rfl rfl rfl rfl ?_
  refine l_buildSlice (vs := [.agg #[.int .i64 (a0 0), .int .i64 (a0 1), .int .i64 (a0 2), .int .i64 (a0 3), .int .i64 (a0 4), .int .i64 (a0 5), .int .i64 (a0 6), .int .i64 (a0 7), .int .i64 (a0 8), .int .i64 (a0 9), .int .i64 (a0 10), .int .i64 (a0 11)], .agg #[.int .i64 (a1 0), .int .i64 (a1 1), .int .i64 (a1 2), .int .i64 (a1 3), .int .i64 (a1 4), .int .i64 (a1 5), .int .i64 (a1 6), .int .i64 (a1 7), .int .i64 (a1 8), .int .i64 (a1 9), .int .i64 (a1 10), .int .i64 (a1 11)]]) (cs := [.int .i64 (a0 0), .int .i64 (a0 1), .int .i64 (a0 2), .int .i64 (a0 3), .int .i64 (a0 4), .int .i64 (a0 5), .int .i64 (a0 6), .int .i64 (a0 7), .int .i64 (a0 8), .int .i64 (a0 9), .int .i64 (a0 10), .int .i64 (a0 11), .int .i64 (a1 0), .int .i64 (a1 1), .int .i64 (a1 2), .int .i64 (a1 3), .int .i64 (a1 4), .int .i64 (a1 5), .int .i64 (a1 6), .int .i64 (a1 7), .int .i64 (a1 8), .int .i64 (a1 9), .int .i64 (a1 10), .int .i64 (a1 11)]) Try.underlying24 Try.sizeOf23 Try.zeroValue23 rfl rfl rfl rfl rfl rfl rfl (fun b5 => ?_)
  obtain ⟨t10, h_t10, H5⟩ := bnd_some H; clear H
  refine l_callG (fun w hF hS => k78 (know_all w) (frs_box (i := 2) (xs := ([a0, a1] : List (Nat → Int))) (f := e_face_Vec) hS rfl rfl rfl rfl rfl) h_t10) Try.call78 rfl rfl rfl ?_
  refine l_val rfl rfl rfl (r_assign (v := .int .i64 t10) rfl) ?_
  refine l_nil ?_
  refine c_seq ?_
  refine c_region ?_
  refine l_val rfl rfl rfl (r_move (v := .int .i64 t10) rfl) ?_
  refine l_val rfl rfl rfl (r_neq rfl rfl) ?_
  refine l_nil ?_
  refine c_if (b := (decide (t10 ≠ 0))) rfl (fun hb => ?_) (fun hb => ?_)
  · have H6 := cnd_t hb H5; clear H5
    refine c_seq ?_
    refine c_region ?_
    refine l_val rfl rfl rfl (r_move (v := .int .i64 t10) rfl) ?_
    refine l_val rfl rfl rfl (r_assign (v := .int .i64 0) rfl) ?_
    refine l_val rfl rfl rfl (r_assign (v := .int .i64 t10) rfl) ?_
    refine l_nil ?_
    refine c_ret ?_
    obtain rfl := Option.some.inj H6
    refine ret2 (v1 := .int .i64 0) (v2 := .int .i64 t10) rfl rfl rfl (fin rfl)
  · have H7 := cnd_f hb H5; clear H5
    refine c_skip ?_
    refine c_seq ?_
    refine c_region ?_
    refine l_loadN (i := 0) (vs := [.int .i64 (a0 0), .int .i64 (a0 1), .int .i64 (a0 2), .int .i64 (a0 3), .int .i64 (a0 4), .int .i64 (a0 5), .int .i64 (a0 6), .int .i64 (a0 7), .int .i64 (a0 8), .int .i64 (a0 9), .int .i64 (a0 10), .int .i64 (a0 11)]) Try.isAgg23 Try.sizeOf23 rfl rfl rfl rfl rfl ?_
    refine l_loadN (i := 1) (vs := [.int .i64 (a1 0), .int .i64 (a1 1), .int .i64 (a1 2), .int .i64 (a1 3), .int .i64 (a1 4), .int .i64 (a1 5), .int .i64 (a1 6), .int .i64 (a1 7), .int .i64 (a1 8), .int .i64 (a1 9), .int .i64 (a1 10), .int .i64 (a1 11)]) Try.isAgg23 Try.sizeOf23 rfl rfl rfl rfl rfl ?_
    obtain ⟨t16, h_t16, H8⟩ := bnd_some H7; clear H7
    refine l_call (k79 h_t16) Try.call79 rfl rfl rfl ?_
    refine l_val rfl rfl rfl (r_assign (v := .int .i64 t16) rfl) ?_
    refine l_val rfl rfl rfl (r_assign (v := .int .i64 0) rfl) ?_
    refine l_nil ?_
    refine c_ret ?_
    obtain rfl := Option.some.inj H8
    refine ret2 (v1 := .int .i64 t16) (v2 := .int .i64 0) rfl rfl rfl (fin rfl)
theorem k80 {a0 : Int} {a1 : Int} {r : Int} (H : face_floor a0 a1 = some r) : Ret Try.prog 80 [.int .i64 a0, .int .i64 a1] (.int .i64 r) := by
  refine enterRet (n := 16) Try.func80 rfl rfl rfl (fun wd => ?_)
  refine c_seq ?_
  refine c_region ?_
  refine l_val rfl rfl rfl (r_assign (v := .int .i64 0) rfl) ?_
  refine l_nil ?_
  refine c_seq ?_
  refine c_region ?_
  refine l_val rfl rfl rfl (r_move (v := .int .i64 a0) rfl) ?_
  refine l_val rfl rfl rfl (r_move (v := .int .i64 a1) rfl) ?_
  obtain ⟨t8, h_t8, H6⟩ := bnd_some H; clear H
  refine l_val rfl rfl rfl (r_quoG rfl rfl h_t8) ?_
  refine l_val rfl rfl rfl (r_assign (v := .int .i64 t8) rfl) ?_
  refine l_nil ?_
  refine c_seq ?_
  refine c_seq ?_
  refine c_region ?_
  refine l_val rfl rfl rfl (r_move (v := .int .i64 a0) rfl) ?_
  refine l_val rfl rfl rfl (r_move (v := .int .i64 a1) rfl) ?_
  obtain ⟨t11, h_t11, H7⟩ := bnd_some H6; clear H6
  refine l_val rfl rfl rfl (r_remG rfl rfl h_t11) ?_
  refine l_val rfl rfl rfl (r_lss rfl rfl) ?_
  refine l_nil ?_
  refine c_if (b := (decide (t11 < 0))) rfl (fun hb => ?_) (fun hb => ?_)
  · have H8 := cnd_t hb H7; clear H7
    refine c_region ?_
    refine l_val rfl rfl rfl (r_move (v := .int .i64 t8) rfl) ?_
    obtain ⟨t14, h_t14, H9⟩ := bnd_some H8; clear H8
    refine l_val rfl rfl rfl (r_subG rfl rfl h_t14) ?_
    refine l_val rfl rfl rfl (r_assign (v := .int .i64 t14) rfl) ?_
    refine l_nil ?_
    refine c_seq ?_
    refine c_region ?_
    refine l_val rfl rfl rfl (r_move (v := .int .i64 t14) rfl) ?_
    refine l_val rfl rfl rfl (r_assign (v := .int .i64 t14) rfl) ?_
    refine l_nil ?_
    refine c_ret ?_
    obtain rfl := Option.some.inj H9
    refine ret1 (v := .int .i64 t14) rfl rfl (fin rfl)
  · have H10 := cnd_f hb H7; clear H7
    refine c_skip ?_
    refine c_seq ?_
    refine c_region ?_
    refine l_val rfl rfl rfl (r_move (v := .int .i64 t8) rfl) ?_
    refine l_val rfl rfl rfl (r_assign (v := .int .i64 t8) rfl) ?_
    refine l_nil ?_
    refine c_ret ?_
    obtain rfl := Option.some.inj H10
    refine ret1 (v := .int .i64 t8) rfl rfl (fin rfl)
theorem k14 {a0 : (List (Nat → Int))} {v0 : Value} {r : (Nat → Int) × Int} {w : World} {h : Heap} (hw : Know h w noS) (f0 : FrS h 12 v0 (a0.map e_face_Vec)) (H : face_Mean a0 = some r) : Does Try.prog 14 (List.toArray [v0]) w (fun v w' => v = (.tuple #[.agg #[.int .i64 (r.1 0), .int .i64 (r.1 1), .int .i64 (r.1 2), .int .i64 (r.1 3), .int .i64 (r.1 4), .int .i64 (r.1 5), .int .i64 (r.1 6), .int .i64 (r.1 7), .int .i64 (r.1 8), .int .i64 (r.1 9), .int .i64 (r.1 10), .int .i64 (r.1 11)], .int .i64 r.2]) ∧ Grow w w') := by
  refine enter (n := 60) Try.func14 rfl rfl rfl noS [] (Sat.nil _ _) ?_
  refine c_seq ?_
  refine c_region ?_
  refine l_alloc (cs := [.int .i64 ((fun _ => 0) 0), .int .i64 ((fun _ => 0) 1), .int .i64 ((fun _ => 0) 2), .int .i64 ((fun _ => 0) 3), .int .i64 ((fun _ => 0) 4), .int .i64 ((fun _ => 0) 5), .int .i64 ((fun _ => 0) 6), .int .i64 ((fun _ => 0) 7), .int .i64 ((fun _ => 0) 8), .int .i64 ((fun _ => 0) 9), .int .i64 ((fun _ => 0) 10), .int .i64 ((fun _ => 0) 11)]) Try.zeroValue23 rfl rfl rfl (fun b3 => ?_)
  refine l_val rfl rfl rfl (r_assign (v := .int .i64 0) rfl) ?_
  refine l_nil ?_
  refine c_seq ?_
  refine c_block ?_
  refine c_seq ?_
  refine c_region ?_
  refine l_val rfl rfl rfl (r_move (v := v0) rfl) ?_
  refine l_val rfl rfl rfl (r_lenF Try.underlying24 rfl f0 rfl) ?_
  refine l_val rfl rfl rfl (r_eql rfl rfl) ?_
  refine l_val rfl rfl rfl (r_assign (v := .bool (decide ((a0.length : Int) = 0))) rfl) ?_
  refine l_nil ?_
  refine c_if (b := (decide ((a0.length : Int) = 0))) rfl (fun hb => ?_) (fun hb => ?_)
  · have H31 := cnd_t hb H; clear H
    refine c_seq ?_
    refine c_region ?_
    refine l_val rfl rfl rfl (r_buildA (ps := []) (cells := #[.int .i64 0, .int .i64 0, .int .i64 0, .int .i64 0, .int .i64 0, .int .i64 0, .int .i64 0, .int .i64 0, .int .i64 0, .int .i64 0, .int .i64 0, .int .i64 0]) Try.zeroValue23 Try.runUnderlying23 Try.sizeOf3 rfl rfl) ?_
    refine l_store (i := 0) (vs := [.int .i64 ((fun _ => 0) 0), .int .i64 ((fun _ => 0) 1), .int .i64 ((fun _ => 0) 2), .int .i64 ((fun _ => 0) 3), .int .i64 ((fun _ => 0) 4), .int .i64 ((fun _ => 0) 5), .int .i64 ((fun _ => 0) 6), .int .i64 ((fun _ => 0) 7), .int .i64 ((fun _ => 0) 8), .int .i64 ((fun _ => 0) 9), .int .i64 ((fun _ => 0) 10), .int .i64 ((fun _ => 0) 11)]) (cs' := [.int .i64 ((fun _ => 0) 0), .int .i64 ((fun _ => 0) 1), .int .i64 ((fun _ => 0) 2), .int .i64 ((fun _ => 0) 3), .int .i64 ((fun _ => 0) 4), .int .i64 ((fun _ => 0) 5), .int .i64 ((fun _ => 0) 6), .int .i64 ((fun _ => 0) 7), .int .i64 ((fun _ => 0) 8), .int .i64 ((fun _ => 0) 9), .int .i64 ((fun _ => 0) 10), .int .i64 ((fun _ => 0) 11)]) Try.sizeOf23 rfl rfl rfl rfl rfl rfl rfl rfl rfl ?_
    refine l_val rfl rfl rfl (r_assign (v := .int .i64 7) rfl) ?_
    refine l_nil ?_
    refine c_ret ?_
    obtain rfl := Option.some.inj H31
    refine retCt (i := 0) (vs := [.int .i64 ((fun _ => 0) 0), .int .i64 ((fun _ => 0) 1), .int .i64 ((fun _ => 0) 2), .int .i64 ((fun _ => 0) 3), .int .i64 ((fun _ => 0) 4), .int .i64 ((fun _ => 0) 5), .int .i64 ((fun _ => 0) 6), .int .i64 ((fun _ => 0) 7), .int .i64 ((fun _ => 0) 8), .int .i64 ((fun _ => 0) 9), .int .i64 ((fun _ => 0) 10), .int .i64 ((fun _ => 0) 11)]) (v2 := .int .i64 7) Try.isAgg23 Try.sizeOf23 rfl rfl rfl rfl rfl (fin rfl)
  · have H32 := cnd_f hb H; clear H
    refine c_seq ?_
    refine c_region ?_
    refine l_val rfl rfl rfl (r_move (v := v0) rfl) ?_
    refine l_val rfl rfl rfl (r_lenF Try.underlying24 rfl f0 rfl) ?_
    refine l_val rfl rfl rfl (r_gtr rfl rfl) ?_
    refine l_val rfl rfl rfl (r_assign (v := .bool (decide (300 < (a0.length : Int)))) rfl) ?_
    refine l_nil ?_
    refine c_if (b := (decide (300 < (a0.length : Int)))) rfl (fun hb => ?_) (fun hb => ?_)
    · have H33 := cnd_t hb H32; clear H32
      refine c_seq ?_
      refine c_region ?_
      refine l_val rfl rfl rfl (r_buildA (ps := []) (cells := #[.int .i64 0, .int .i64 0, .int .i64 0, .int .i64 0, .int .i64 0, .int .i64 0, .int .i64 0, .int .i64 0, .int .i64 0, .int .i64 0, .int .i64 0, .int .i64 0]) Try.zeroValue23 Try.runUnderlying23 Try.sizeOf3 rfl rfl) ?_
      refine l_store (i := 0) (vs := [.int .i64 ((fun _ => 0) 0), .int .i64 ((fun _ => 0) 1), .int .i64 ((fun _ => 0) 2), .int .i64 ((fun _ => 0) 3), .int .i64 ((fun _ => 0) 4), .int .i64 ((fun _ => 0) 5), .int .i64 ((fun _ => 0) 6), .int .i64 ((fun _ => 0) 7), .int .i64 ((fun _ => 0) 8), .int .i64 ((fun _ => 0) 9), .int .i64 ((fun _ => 0) 10), .int .i64 ((fun _ => 0) 11)]) (cs' := [.int .i64 ((fun _ => 0) 0), .int .i64 ((fun _ => 0) 1), .int .i64 ((fun _ => 0) 2), .int .i64 ((fun _ => 0) 3), .int .i64 ((fun _ => 0) 4), .int .i64 ((fun _ => 0) 5), .int .i64 ((fun _ => 0) 6), .int .i64 ((fun _ => 0) 7), .int .i64 ((fun _ => 0) 8), .int .i64 ((fun _ => 0) 9), .int .i64 ((fun _ => 0) 10), .int .i64 ((fun _ => 0) 11)]) Try.sizeOf23 rfl rfl rfl rfl rfl rfl rfl rfl rfl ?_
      refine l_val rfl rfl rfl (r_assign (v := .int .i64 4) rfl) ?_
      refine l_nil ?_
      refine c_ret ?_
      obtain rfl := Option.some.inj H33
      refine retCt (i := 0) (vs := [.int .i64 ((fun _ => 0) 0), .int .i64 ((fun _ => 0) 1), .int .i64 ((fun _ => 0) 2), .int .i64 ((fun _ => 0) 3), .int .i64 ((fun _ => 0) 4), .int .i64 ((fun _ => 0) 5), .int .i64 ((fun _ => 0) 6), .int .i64 ((fun _ => 0) 7), .int .i64 ((fun _ => 0) 8), .int .i64 ((fun _ => 0) 9), .int .i64 ((fun _ => 0) 10), .int .i64 ((fun _ => 0) 11)]) (v2 := .int .i64 4) Try.isAgg23 Try.sizeOf23 rfl rfl rfl rfl rfl (fin rfl)
    · have H34 := cnd_f hb H32; clear H32
      refine c_skip ?_
      refine c_seq ?_
      refine c_seq ?_
      refine c_region ?_
      refine l_val rfl rfl rfl (r_move (v := v0) rfl) ?_
      obtain ⟨t23, h_t23, H35⟩ := bnd_some H34; clear H34
      refine l_callG (fun w hF hS => k78 (know_all w) (f0.mono (hw.now hF)) h_t23) Try.call78 rfl rfl rfl ?_
      refine l_val rfl rfl rfl (r_assign (v := .int .i64 t23) rfl) ?_
      refine l_nil ?_
      refine c_seq ?_
      refine c_region ?_
      refine l_val rfl rfl rfl (r_move (v := .int .i64 t23) rfl) ?_
      refine l_val rfl rfl rfl (r_neq rfl rfl) ?_
      refine l_nil ?_
      refine c_if (b := (decide (t23 ≠ 0))) rfl (fun hb => ?_) (fun hb => ?_)
      · have H36 := cnd_t hb H35; clear H35
        refine c_seq ?_
        refine c_region ?_
        refine l_val rfl rfl rfl (r_buildA (ps := []) (cells := #[.int .i64 0, .int .i64 0, .int .i64 0, .int .i64 0, .int .i64 0, .int .i64 0, .int .i64 0, .int .i64 0, .int .i64 0, .int .i64 0, .int .i64 0, .int .i64 0]) Try.zeroValue23 Try.runUnderlying23 Try.sizeOf3 rfl rfl) ?_
        refine l_val rfl rfl rfl (r_move (v := .int .i64 t23) rfl) ?_
        refine l_store (i := 0) (vs := [.int .i64 ((fun _ => 0) 0), .int .i64 ((fun _ => 0) 1), .int .i64 ((fun _ => 0) 2), .int .i64 ((fun _ => 0) 3), .int .i64 ((fun _ => 0) 4), .int .i64 ((fun _ => 0) 5), .int .i64 ((fun _ => 0) 6), .int .i64 ((fun _ => 0) 7), .int .i64 ((fun _ => 0) 8), .int .i64 ((fun _ => 0) 9), .int .i64 ((fun _ => 0) 10), .int .i64 ((fun _ => 0) 11)]) (cs' := [.int .i64 ((fun _ => 0) 0), .int .i64 ((fun _ => 0) 1), .int .i64 ((fun _ => 0) 2), .int .i64 ((fun _ => 0) 3), .int .i64 ((fun _ => 0) 4), .int .i64 ((fun _ => 0) 5), .int .i64 ((fun _ => 0) 6), .int .i64 ((fun _ => 0) 7), .int .i64 ((fun _ => 0) 8), .int .i64 ((fun _ => 0) 9), .int .i64 ((fun _ => 0) 10), .int .i64 ((fun _ => 0) 11)]) Try.sizeOf23 rfl rfl rfl rfl rfl rfl rfl rfl rfl ?_
        refine l_val rfl rfl rfl (r_assign (v := .int .i64 t23) rfl) ?_
        refine l_nil ?_
        refine c_ret ?_
        obtain rfl := Option.some.inj H36
        refine retCt (i := 0) (vs := [.int .i64 ((fun _ => 0) 0), .int .i64 ((fun _ => 0) 1), .int .i64 ((fun _ => 0) 2), .int .i64 ((fun _ => 0) 3), .int .i64 ((fun _ => 0) 4), .int .i64 ((fun _ => 0) 5), .int .i64 ((fun _ => 0) 6), .int .i64 ((fun _ => 0) 7), .int .i64 ((fun _ => 0) 8), .int .i64 ((fun _ => 0) 9), .int .i64 ((fun _ => 0) 10), .int .i64 ((fun _ => 0) 11)]) (v2 := .int .i64 t23) Try.isAgg23 Try.sizeOf23 rfl rfl rfl rfl rfl (fin rfl)
      · have H37 := cnd_f hb H35; clear H35
        refine c_skip ?_
        refine c_seq ?_
        refine c_region ?_
        refine l_alloc (cs := [.int .i64 ((fun _ => 0) 0), .int .i64 ((fun _ => 0) 1), .int .i64 ((fun _ => 0) 2), .int .i64 ((fun _ => 0) 3), .int .i64 ((fun _ => 0) 4), .int .i64 ((fun _ => 0) 5), .int .i64 ((fun _ => 0) 6), .int .i64 ((fun _ => 0) 7), .int .i64 ((fun _ => 0) 8), .int .i64 ((fun _ => 0) 9), .int .i64 ((fun _ => 0) 10), .int .i64 ((fun _ => 0) 11)]) Try.zeroValue23 rfl rfl rfl (fun b4 => ?_)
        refine l_nil ?_
        refine c_meet (r := r) (σ := (Nat → Int)) (τ := Unit) (fun s => face_Mean_j1 a0 s) [7, 8, 9, 28, 29, 30, 31, 32, 33, 34, 35, 36, 37, 38, 39, 40, 41, 42, 43, 44, 45, 46] (fun s t => []) (fun s t => [(1, cellsC b4 [.int .i64 (s 0), .int .i64 (s 1), .int .i64 (s 2), .int .i64 (s 3), .int .i64 (s 4), .int .i64 (s 5), .int .i64 (s 6), .int .i64 (s 7), .int .i64 (s 8), .int .i64 (s 9), .int .i64 (s 10), .int .i64 (s 11)] 23)]) (fun s t => []) (fun s t => True) ?_ ?_
        · refine c_seq ?_
          refine c_region ?_
          refine l_val rfl rfl rfl (r_move (v := v0) rfl) ?_
          refine l_val rfl rfl rfl (r_lenF Try.underlying24 rfl f0 rfl) ?_
          refine l_val rfl rfl rfl (r_move (v := .int .i64 0) rfl) ?_
          refine l_nil ?_
          refine c_block ?_
          refine c_fix (σ := Int × (Nat → Int)) (τ := Unit) (fun next4 s => face_Mean_l4 a0 next4 s.1 s.2) [7, 8, 9, 30, 31, 32, 33, 34, 35, 36, 37, 38, 39, 40, 41, 42, 43, 44, 45, 46] (fun s t => [(30, .int .i64 s.1)]) (fun s t => [(1, cellsC b4 [.int .i64 (s.2 0), .int .i64 (s.2 1), .int .i64 (s.2 2), .int .i64 (s.2 3), .int .i64 (s.2 4), .int .i64 (s.2 5), .int .i64 (s.2 6), .int .i64 (s.2 7), .int .i64 (s.2 8), .int .i64 (s.2 9), .int .i64 (s.2 10), .int .i64 (s.2 11)] 23)]) (fun s t => True) (0, (fun _ => 0)) () H37 (by exact trivial) (by exact ⟨rfl, trivial⟩) rfl ?_
          rintro ⟨x30_2, m_6⟩ _ m4 gg H47 _
          clear H37
          replace H47 : face_Mean_l4 a0 (it (fun next4 s => face_Mean_l4 a0 next4 s.1 s.2) m4) x30_2 m_6 = some r := H47
          generalize hn4 : it (fun next4 s => face_Mean_l4 a0 next4 s.1 s.2) m4 = next4 at H47
          refine c_tidyF [(30, .int .i64 x30_2)] [(1, cellsC b4 [.int .i64 (m_6 0), .int .i64 (m_6 1), .int .i64 (m_6 2), .int .i64 (m_6 3), .int .i64 (m_6 4), .int .i64 (m_6 5), .int .i64 (m_6 6), .int .i64 (m_6 7), .int .i64 (m_6 8), .int .i64 (m_6 9), .int .i64 (m_6 10), .int .i64 (m_6 11)] 23)] rfl rfl ?_
          refine c_seq ?_
          refine c_region ?_
          refine l_val rfl rfl rfl (r_lss rfl rfl) ?_
          refine l_nil ?_
          refine c_seq ?_
          refine c_if (b := (decide (x30_2 < (a0.length : Int)))) rfl (fun hb => ?_) (fun hb => ?_)
          · have H48 := cnd_t hb H47; clear H47
            refine c_skip ?_
            refine c_meet (r := r) (σ := (Nat → Int)) (τ := Unit) (fun s => face_Mean_j5 x30_2 next4 s) [7, 8, 9, 32, 33, 34, 35, 36, 37, 38, 39, 40, 41, 42, 43, 44, 45] (fun s t => []) (fun s t => [(1, cellsC b4 [.int .i64 (s 0), .int .i64 (s 1), .int .i64 (s 2), .int .i64 (s 3), .int .i64 (s 4), .int .i64 (s 5), .int .i64 (s 6), .int .i64 (s 7), .int .i64 (s 8), .int .i64 (s 9), .int .i64 (s 10), .int .i64 (s 11)] 23)]) (fun s t => []) (fun s t => True) ?_ ?_
            · refine c_block ?_
              refine c_seq ?_
              refine c_region ?_
              obtain ⟨t32, h_t32, H51⟩ := bnd_some H48; clear H48
              refine l_val rfl rfl rfl (r_indexF Try.underlying24 Try.sizeOf23 rfl rfl f0 h_t32) ?_
              refine l_read (fun w hF hS => run_loadGN (j := 0) (vs := [.int .i64 (t32 0), .int .i64 (t32 1), .int .i64 (t32 2), .int .i64 (t32 3), .int .i64 (t32 4), .int .i64 (t32 5), .int .i64 (t32 6), .int .i64 (t32 7), .int .i64 (t32 8), .int .i64 (t32 9), .int .i64 (t32 10), .int .i64 (t32 11)]) Try.isAgg23 Try.sizeOf23 rfl rfl (f0.row (hw.now hF)) h_t32 rfl) rfl rfl rfl ?_
              refine l_alloc (cs := [.int .i64 ((fun _ => 0) 0), .int .i64 ((fun _ => 0) 1), .int .i64 ((fun _ => 0) 2), .int .i64 ((fun _ => 0) 3), .int .i64 ((fun _ => 0) 4), .int .i64 ((fun _ => 0) 5), .int .i64 ((fun _ => 0) 6), .int .i64 ((fun _ => 0) 7), .int .i64 ((fun _ => 0) 8), .int .i64 ((fun _ => 0) 9), .int .i64 ((fun _ => 0) 10), .int .i64 ((fun _ => 0) 11)]) Try.zeroValue23 rfl rfl rfl (fun b5 => ?_)
              refine l_store (i := 2) (vs := [.int .i64 (t32 0), .int .i64 (t32 1), .int .i64 (t32 2), .int .i64 (t32 3), .int .i64 (t32 4), .int .i64 (t32 5), .int .i64 (t32 6), .int .i64 (t32 7), .int .i64 (t32 8), .int .i64 (t32 9), .int .i64 (t32 10), .int .i64 (t32 11)]) (cs' := [.int .i64 (t32 0), .int .i64 (t32 1), .int .i64 (t32 2), .int .i64 (t32 3), .int .i64 (t32 4), .int .i64 (t32 5), .int .i64 (t32 6), .int .i64 (t32 7), .int .i64 (t32 8), .int .i64 (t32 9), .int .i64 (t32 10), .int .i64 (t32 11)]) Try.sizeOf23 rfl rfl rfl rfl rfl rfl rfl rfl rfl ?_
              refine l_nil ?_
              refine c_seq ?_
              refine c_region ?_
              refine l_loadN (i := 2) (vs := [.int .i64 (t32 0), .int .i64 (t32 1), .int .i64 (t32 2), .int .i64 (t32 3), .int .i64 (t32 4), .int .i64 (t32 5), .int .i64 (t32 6), .int .i64 (t32 7), .int .i64 (t32 8), .int .i64 (t32 9), .int .i64 (t32 10), .int .i64 (t32 11)]) Try.isAgg23 Try.sizeOf23 rfl rfl rfl rfl rfl ?_
              refine l_val rfl rfl rfl (r_move (v := .int .i64 0) rfl) ?_
              refine l_nil ?_
              refine c_block ?_
              refine c_fix (σ := Int × (Nat → Int)) (τ := Unit) (fun next6 s => face_Mean_l6 x30_2 next4 t32 next6 s.1 s.2) [8, 9, 35, 36, 37, 38, 39, 40, 41, 42, 43, 44, 45] (fun s t => [(35, .int .i64 s.1)]) (fun s t => [(1, cellsC b4 [.int .i64 (s.2 0), .int .i64 (s.2 1), .int .i64 (s.2 2), .int .i64 (s.2 3), .int .i64 (s.2 4), .int .i64 (s.2 5), .int .i64 (s.2 6), .int .i64 (s.2 7), .int .i64 (s.2 8), .int .i64 (s.2 9), .int .i64 (s.2 10), .int .i64 (s.2 11)] 23)]) (fun s t => True) (0, m_6) () H51 (by exact trivial) (by exact ⟨rfl, trivial⟩) rfl ?_
              rintro ⟨x35_2, m_9⟩ _ m6 gg H52 _
              clear H51
              replace H52 : face_Mean_l6 x30_2 next4 t32 (it (fun next6 s => face_Mean_l6 x30_2 next4 t32 next6 s.1 s.2) m6) x35_2 m_9 = some r := H52
              generalize hn6 : it (fun next6 s => face_Mean_l6 x30_2 next4 t32 next6 s.1 s.2) m6 = next6 at H52
              refine c_tidyF [(35, .int .i64 x35_2)] [(1, cellsC b4 [.int .i64 (m_9 0), .int .i64 (m_9 1), .int .i64 (m_9 2), .int .i64 (m_9 3), .int .i64 (m_9 4), .int .i64 (m_9 5), .int .i64 (m_9 6), .int .i64 (m_9 7), .int .i64 (m_9 8), .int .i64 (m_9 9), .int .i64 (m_9 10), .int .i64 (m_9 11)] 23)] rfl rfl ?_
              refine c_seq ?_
              refine c_region ?_
              refine l_val rfl rfl rfl (r_lss rfl rfl) ?_
              refine l_nil ?_
              refine c_seq ?_
              refine c_if (b := (decide (x35_2 < 12))) rfl (fun hb => ?_) (fun hb => ?_)
              · have H53 := cnd_t hb H52; clear H52
                refine c_skip ?_
                refine c_seq ?_
                refine c_block ?_
                refine c_seq ?_
                refine c_region ?_
                refine l_val rfl rfl rfl (r_move (v := .int .i64 x35_2) rfl) ?_
                obtain ⟨k38, h_k38, H54⟩ := bnd_some H53; clear H53
                refine l_val rfl rfl rfl (r_indexAG (f := fun j_ => .int .i64 (t32 j_)) Try.runUnderlying23 Try.isAgg3 Try.sizeOf3 rfl rfl rfl h_k38) ?_
                refine l_val rfl rfl rfl (r_assign (v := .int .i64 x35_2) rfl) ?_
                refine l_val rfl rfl rfl (r_assign (v := .int .i64 (t32 k38)) rfl) ?_
                refine l_nil ?_
                refine c_region ?_
                refine l_val rfl rfl rfl (r_move (v := .int .i64 x35_2) rfl) ?_
                obtain ⟨k40, h_k40, H55⟩ := bnd_some H54; clear H54
                refine l_val rfl rfl rfl (r_indexPG Try.runUnderlying23 Try.sizeOf3 rfl rfl h_k40) ?_
                refine l_load1 (i := 1) (v := .int .i64 (m_9 k40)) Try.isAgg3 rfl rfl rfl rfl (rg_arr (pre := []) (post := []) (f := fun j_ => [.int .i64 (m_9 j_)]) (n := 12) (sz := 1) (q := 0) rfl rfl (fun _ => rfl) (gIx_lt h_k40) rfl) ?_
                refine l_val rfl rfl rfl (r_move (v := .int .i64 (t32 k38)) rfl) ?_
                obtain ⟨t43, h_t43, H56⟩ := bnd_some H55; clear H55
                refine l_val rfl rfl rfl (r_addG rfl rfl h_t43) ?_
                obtain ⟨k44, h_k44, H57⟩ := bnd_some H56; clear H56
                refine l_val rfl rfl rfl (r_indexPG Try.runUnderlying23 Try.sizeOf3 rfl rfl h_k44) ?_
                refine l_store (i := 1) (vs := [.int .i64 t43]) (cs' := [.int .i64 ((setA m_9 k44 t43) 0), .int .i64 ((setA m_9 k44 t43) 1), .int .i64 ((setA m_9 k44 t43) 2), .int .i64 ((setA m_9 k44 t43) 3), .int .i64 ((setA m_9 k44 t43) 4), .int .i64 ((setA m_9 k44 t43) 5), .int .i64 ((setA m_9 k44 t43) 6), .int .i64 ((setA m_9 k44 t43) 7), .int .i64 ((setA m_9 k44 t43) 8), .int .i64 ((setA m_9 k44 t43) 9), .int .i64 ((setA m_9 k44 t43) 10), .int .i64 ((setA m_9 k44 t43) 11)]) Try.sizeOf3 rfl rfl rfl rfl rfl rfl rfl rfl (wr_arr (pre := []) (post := []) (f := fun (j_ : Int) => [.int .i64 j_]) (n := 12) (sz := 1) (a := m_9) (x := t43) rfl rfl (fun _ => rfl) (gIx_lt h_k44) rfl rfl) ?_
                refine l_nil ?_
                refine c_region ?_
                obtain ⟨t45, h_t45, H58⟩ := bnd_some H57; clear H57
                refine l_val rfl rfl rfl (r_addG rfl rfl h_t45) ?_
                refine l_val rfl rfl rfl (r_move (v := .int .i64 t45) rfl) ?_
                refine l_nil ?_
                refine c_roundK ((t45, (setA m_9 k44 t43)), (), m6) [0, 1, 2] (by exact ⟨rfl, trivial⟩) (by repeat (first | exact Keeps.refl _ _ | exact Keeps.mix | refine Keeps.upd ?_ rfl | refine Keeps.mkE ?_ _ rfl | refine Keeps.mix2 ?_ rfl)) (by decide) rfl (by exact ⟨(by subst hn6; exact H58), trivial⟩) (Nat.lt_succ_self _)
              · have H59 := cnd_f hb H52; clear H52
                refine c_exit ?_
                refine c_roundK (m_9, (), 0) [0, 1] (by exact trivial) (by repeat (first | exact Keeps.refl _ _ | exact Keeps.mix | refine Keeps.upd ?_ rfl | refine Keeps.mkE ?_ _ rfl | refine Keeps.mix2 ?_ rfl)) (by decide) rfl (by exact ⟨H59, trivial⟩) (Nat.lt_succ_self _)
            · rintro m_7 _ gg H49 _
              replace H49 : face_Mean_j5 x30_2 next4 m_7 = some r := H49
              refine c_tidyJ [] [(1, cellsC b4 [.int .i64 (m_7 0), .int .i64 (m_7 1), .int .i64 (m_7 2), .int .i64 (m_7 3), .int .i64 (m_7 4), .int .i64 (m_7 5), .int .i64 (m_7 6), .int .i64 (m_7 7), .int .i64 (m_7 8), .int .i64 (m_7 9), .int .i64 (m_7 10), .int .i64 (m_7 11)] 23)] [] rfl rfl rfl ?_
              refine c_region ?_
              obtain ⟨t46, h_t46, H50⟩ := bnd_some H49; clear H49
              refine l_val rfl rfl rfl (r_addG rfl rfl h_t46) ?_
              refine l_val rfl rfl rfl (r_move (v := .int .i64 t46) rfl) ?_
              refine l_nil ?_
              refine c_roundK ((t46, m_7), (), m4) [0, 1] (by exact ⟨rfl, trivial⟩) (by repeat (first | exact Keeps.refl _ _ | exact Keeps.mix | refine Keeps.upd ?_ rfl | refine Keeps.mkE ?_ _ rfl | refine Keeps.mix2 ?_ rfl)) (by decide) rfl (by exact ⟨(by subst hn4; exact H50), trivial⟩) (Nat.lt_succ_self _)
          · have H60 := cnd_f hb H47; clear H47
            refine c_exit ?_
            refine c_roundK (m_6, (), 0) [0, 1] (by exact trivial) (by repeat (first | exact Keeps.refl _ _ | exact Keeps.mix | refine Keeps.upd ?_ rfl | refine Keeps.mkE ?_ _ rfl | refine Keeps.mix2 ?_ rfl)) (by decide) rfl (by exact ⟨H60, trivial⟩) (Nat.lt_succ_self _)
        · rintro m _ gg H38 _
          replace H38 : face_Mean_j1 a0 m = some r := H38
          refine c_tidyJ [] [(1, cellsC b4 [.int .i64 (m 0), .int .i64 (m 1), .int .i64 (m 2), .int .i64 (m 3), .int .i64 (m 4), .int .i64 (m 5), .int .i64 (m 6), .int .i64 (m 7), .int .i64 (m 8), .int .i64 (m 9), .int .i64 (m 10), .int .i64 (m 11)] 23)] [] rfl rfl rfl ?_
          refine c_meet (r := r) (σ := (Nat → Int)) (τ := Unit) (fun s => face_Mean_j2 s) [10, 11, 47, 48, 49, 50, 51, 52, 53, 54, 55, 56, 57, 58] (fun s t => []) (fun s t => [(1, cellsC b4 [.int .i64 (s 0), .int .i64 (s 1), .int .i64 (s 2), .int .i64 (s 3), .int .i64 (s 4), .int .i64 (s 5), .int .i64 (s 6), .int .i64 (s 7), .int .i64 (s 8), .int .i64 (s 9), .int .i64 (s 10), .int .i64 (s 11)] 23)]) (fun s t => []) (fun s t => True) ?_ ?_
          · refine c_seq ?_
            refine c_region ?_
            refine l_loadN (i := 1) (vs := [.int .i64 (m 0), .int .i64 (m 1), .int .i64 (m 2), .int .i64 (m 3), .int .i64 (m 4), .int .i64 (m 5), .int .i64 (m 6), .int .i64 (m 7), .int .i64 (m 8), .int .i64 (m 9), .int .i64 (m 10), .int .i64 (m 11)]) Try.isAgg23 Try.sizeOf23 rfl rfl rfl rfl rfl ?_
            refine l_val rfl rfl rfl (r_move (v := .int .i64 0) rfl) ?_
            refine l_nil ?_
            refine c_block ?_
            refine c_fix (σ := Int × (Nat → Int)) (τ := Unit) (fun next3 s => face_Mean_l3 a0 m next3 s.1 s.2) [10, 11, 48, 49, 50, 51, 52, 53, 54, 55, 56, 57, 58] (fun s t => [(48, .int .i64 s.1)]) (fun s t => [(1, cellsC b4 [.int .i64 (s.2 0), .int .i64 (s.2 1), .int .i64 (s.2 2), .int .i64 (s.2 3), .int .i64 (s.2 4), .int .i64 (s.2 5), .int .i64 (s.2 6), .int .i64 (s.2 7), .int .i64 (s.2 8), .int .i64 (s.2 9), .int .i64 (s.2 10), .int .i64 (s.2 11)] 23)]) (fun s t => True) (0, m) () H38 (by exact trivial) (by exact ⟨rfl, trivial⟩) rfl ?_
            rintro ⟨x48_2, m_4⟩ _ m3 gg H40 _
            clear H38
            replace H40 : face_Mean_l3 a0 m (it (fun next3 s => face_Mean_l3 a0 m next3 s.1 s.2) m3) x48_2 m_4 = some r := H40
            generalize hn3 : it (fun next3 s => face_Mean_l3 a0 m next3 s.1 s.2) m3 = next3 at H40
            refine c_tidyF [(48, .int .i64 x48_2)] [(1, cellsC b4 [.int .i64 (m_4 0), .int .i64 (m_4 1), .int .i64 (m_4 2), .int .i64 (m_4 3), .int .i64 (m_4 4), .int .i64 (m_4 5), .int .i64 (m_4 6), .int .i64 (m_4 7), .int .i64 (m_4 8), .int .i64 (m_4 9), .int .i64 (m_4 10), .int .i64 (m_4 11)] 23)] rfl rfl ?_
            refine c_seq ?_
            refine c_region ?_
            refine l_val rfl rfl rfl (r_lss rfl rfl) ?_
            refine l_nil ?_
            refine c_seq ?_
            refine c_if (b := (decide (x48_2 < 12))) rfl (fun hb => ?_) (fun hb => ?_)
            · have H41 := cnd_t hb H40; clear H40
              refine c_skip ?_
              refine c_seq ?_
              refine c_block ?_
              refine c_seq ?_
              refine c_region ?_
              refine l_val rfl rfl rfl (r_move (v := .int .i64 x48_2) rfl) ?_
              obtain ⟨k51, h_k51, H42⟩ := bnd_some H41; clear H41
              refine l_val rfl rfl rfl (r_indexAG (f := fun j_ => .int .i64 (m j_)) Try.runUnderlying23 Try.isAgg3 Try.sizeOf3 rfl rfl rfl h_k51) ?_
              refine l_val rfl rfl rfl (r_assign (v := .int .i64 x48_2) rfl) ?_
              refine l_val rfl rfl rfl (r_assign (v := .int .i64 (m k51)) rfl) ?_
              refine l_nil ?_
              refine c_region ?_
              refine l_val rfl rfl rfl (r_move (v := .int .i64 x48_2) rfl) ?_
              refine l_val rfl rfl rfl (r_move (v := .int .i64 (m k51)) rfl) ?_
              refine l_val rfl rfl rfl (r_move (v := v0) rfl) ?_
              refine l_val rfl rfl rfl (r_lenF Try.underlying24 rfl f0 rfl) ?_
              obtain ⟨t56, h_t56, H43⟩ := bnd_some H42; clear H42
              refine l_call (k80 h_t56) Try.call80 rfl rfl rfl ?_
              obtain ⟨k57, h_k57, H44⟩ := bnd_some H43; clear H43
              refine l_val rfl rfl rfl (r_indexPG Try.runUnderlying23 Try.sizeOf3 rfl rfl h_k57) ?_
              refine l_store (i := 1) (vs := [.int .i64 t56]) (cs' := [.int .i64 ((setA m_4 k57 t56) 0), .int .i64 ((setA m_4 k57 t56) 1), .int .i64 ((setA m_4 k57 t56) 2), .int .i64 ((setA m_4 k57 t56) 3), .int .i64 ((setA m_4 k57 t56) 4), .int .i64 ((setA m_4 k57 t56) 5), .int .i64 ((setA m_4 k57 t56) 6), .int .i64 ((setA m_4 k57 t56) 7), .int .i64 ((setA m_4 k57 t56) 8), .int .i64 ((setA m_4 k57 t56) 9), .int .i64 ((setA m_4 k57 t56) 10), .int .i64 ((setA m_4 k57 t56) 11)]) Try.sizeOf3 rfl rfl rfl rfl rfl rfl rfl rfl (wr_arr (pre := []) (post := []) (f := fun (j_ : Int) => [.int .i64 j_]) (n := 12) (sz := 1) (a := m_4) (x := t56) rfl rfl (fun _ => rfl) (gIx_lt h_k57) rfl rfl) ?_
              refine l_nil ?_
              refine c_region ?_
              obtain ⟨t58, h_t58, H45⟩ := bnd_some H44; clear H44
              refine l_val rfl rfl rfl (r_addG rfl rfl h_t58) ?_
              refine l_val rfl rfl rfl (r_move (v := .int .i64 t58) rfl) ?_
              refine l_nil ?_
              refine c_roundK ((t58, (setA m_4 k57 t56)), (), m3) [0, 1] (by exact ⟨rfl, trivial⟩) (by repeat (first | exact Keeps.refl _ _ | exact Keeps.mix | refine Keeps.upd ?_ rfl | refine Keeps.mkE ?_ _ rfl | refine Keeps.mix2 ?_ rfl)) (by decide) rfl (by exact ⟨(by subst hn3; exact H45), trivial⟩) (Nat.lt_succ_self _)
            · have H46 := cnd_f hb H40; clear H40
              refine c_exit ?_
              refine c_roundK (m_4, (), 0) [0, 1] (by exact trivial) (by repeat (first | exact Keeps.refl _ _ | exact Keeps.mix | refine Keeps.upd ?_ rfl | refine Keeps.mkE ?_ _ rfl | refine Keeps.mix2 ?_ rfl)) (by decide) rfl (by exact ⟨H46, trivial⟩) (Nat.lt_succ_self _)
          · rintro m_2 _ gg H39 _
            replace H39 : face_Mean_j2 m_2 = some r := H39
            refine c_tidyJ [] [(1, cellsC b4 [.int .i64 (m_2 0), .int .i64 (m_2 1), .int .i64 (m_2 2), .int .i64 (m_2 3), .int .i64 (m_2 4), .int .i64 (m_2 5), .int .i64 (m_2 6), .int .i64 (m_2 7), .int .i64 (m_2 8), .int .i64 (m_2 9), .int .i64 (m_2 10), .int .i64 (m_2 11)] 23)] [] rfl rfl rfl ?_
            refine c_seq ?_
            refine c_region ?_
            refine l_loadN (i := 1) (vs := [.int .i64 (m_2 0), .int .i64 (m_2 1), .int .i64 (m_2 2), .int .i64 (m_2 3), .int .i64 (m_2 4), .int .i64 (m_2 5), .int .i64 (m_2 6), .int .i64 (m_2 7), .int .i64 (m_2 8), .int .i64 (m_2 9), .int .i64 (m_2 10), .int .i64 (m_2 11)]) Try.isAgg23 Try.sizeOf23 rfl rfl rfl rfl rfl ?_
            refine l_store (i := 0) (vs := [.int .i64 (m_2 0), .int .i64 (m_2 1), .int .i64 (m_2 2), .int .i64 (m_2 3), .int .i64 (m_2 4), .int .i64 (m_2 5), .int .i64 (m_2 6), .int .i64 (m_2 7), .int .i64 (m_2 8), .int .i64 (m_2 9), .int .i64 (m_2 10), .int .i64 (m_2 11)]) (cs' := [.int .i64 (m_2 0), .int .i64 (m_2 1), .int .i64 (m_2 2), .int .i64 (m_2 3), .int .i64 (m_2 4), .int .i64 (m_2 5), .int .i64 (m_2 6), .int .i64 (m_2 7), .int .i64 (m_2 8), .int .i64 (m_2 9), .int .i64 (m_2 10), .int .i64 (m_2 11)]) Try.sizeOf23 rfl rfl rfl rfl rfl rfl rfl rfl rfl ?_
            refine l_val rfl rfl rfl (r_assign (v := .int .i64 0) rfl) ?_
            refine l_nil ?_
            refine c_ret ?_
            obtain rfl := Option.some.inj H39
            refine retCt (i := 0) (vs := [.int .i64 (m_2 0), .int .i64 (m_2 1), .int .i64 (m_2 2), .int .i64 (m_2 3), .int .i64 (m_2 4), .int .i64 (m_2 5), .int .i64 (m_2 6), .int .i64 (m_2 7), .int .i64 (m_2 8), .int .i64 (m_2 9), .int .i64 (m_2 10), .int .i64 (m_2 11)]) (v2 := .int .i64 0) Try.isAgg23 Try.sizeOf23 rfl rfl rfl rfl rfl (fin rfl)
theorem k81 {a0 : Int} {a1 : Int} {r : Int} (H : R_down a0 a1 = some r) : Ret Try.prog 81 [.int .i64 a0, .int .i64 a1] (.int .i64 r) := by
  refine enterRet (n := 23) Try.func81 rfl rfl rfl (fun wd => ?_)
  refine c_seq ?_
  refine c_region ?_
  refine l_val rfl rfl rfl (r_assign (v := .int .i64 0) rfl) ?_
  refine l_nil ?_
  refine c_seq ?_
  refine c_region ?_
  refine l_val rfl rfl rfl (r_move (v := .int .i64 a0) rfl) ?_
  refine l_val rfl rfl rfl (r_move (v := .int .i64 a1) rfl) ?_
  obtain ⟨t8, h_t8, H8⟩ := bnd_some H; clear H
  refine l_val rfl rfl rfl (r_quoG rfl rfl h_t8) ?_
  refine l_val rfl rfl rfl (r_assign (v := .int .i64 t8) rfl) ?_
  refine l_nil ?_
  refine c_seq ?_
  refine c_seq ?_
  refine c_region ?_
  refine l_val rfl rfl rfl (r_move (v := .int .i64 a0) rfl) ?_
  refine l_val rfl rfl rfl (r_move (v := .int .i64 a1) rfl) ?_
  obtain ⟨t11, h_t11, H9⟩ := bnd_some H8; clear H8
  refine l_val rfl rfl rfl (r_remG rfl rfl h_t11) ?_
  refine l_val rfl rfl rfl (r_neq rfl rfl) ?_
  refine l_val rfl rfl rfl (r_move (v := .bool (decide (t11 ≠ 0))) rfl) ?_
  refine split (fun hb => ?_) (fun hb => ?_)
  · have H10 := cnd_t hb H9; clear H9
    refine l_val rfl rfl rfl (r_move (v := .int .i64 a0) rfl) ?_
    refine l_val rfl rfl rfl (r_lss rfl rfl) ?_
    refine l_val rfl rfl rfl (r_move (v := .int .i64 a1) rfl) ?_
    refine l_val rfl rfl rfl (r_lss rfl rfl) ?_
    refine l_val rfl rfl rfl (r_neqB Try.underlying4 rfl rfl) ?_
    refine l_val rfl rfl rfl (r_pickT (v := .bool (decide ((decide (a0 < 0)) ≠ (decide (a1 < 0))))) rfl rfl) ?_
    refine l_nil ?_
    refine c_if (b := (decide ((decide (a0 < 0)) ≠ (decide (a1 < 0))))) rfl (fun hb => ?_) (fun hb => ?_)
    · have H11 := cnd_t hb H10; clear H10
      refine c_region ?_
      refine l_val rfl rfl rfl (r_move (v := .int .i64 t8) rfl) ?_
      obtain ⟨t21, h_t21, H12⟩ := bnd_some H11; clear H11
      refine l_val rfl rfl rfl (r_subG rfl rfl h_t21) ?_
      refine l_val rfl rfl rfl (r_assign (v := .int .i64 t21) rfl) ?_
      refine l_nil ?_
      refine c_seq ?_
      refine c_region ?_
      refine l_val rfl rfl rfl (r_move (v := .int .i64 t21) rfl) ?_
      refine l_val rfl rfl rfl (r_assign (v := .int .i64 t21) rfl) ?_
      refine l_nil ?_
      refine c_ret ?_
      obtain rfl := Option.some.inj H12
      refine ret1 (v := .int .i64 t21) rfl rfl (fin rfl)
    · have H13 := cnd_f hb H10; clear H10
      refine c_skip ?_
      refine c_seq ?_
      refine c_region ?_
      refine l_val rfl rfl rfl (r_move (v := .int .i64 t8) rfl) ?_
      refine l_val rfl rfl rfl (r_assign (v := .int .i64 t8) rfl) ?_
      refine l_nil ?_
      refine c_ret ?_
      obtain rfl := Option.some.inj H13
      refine ret1 (v := .int .i64 t8) rfl rfl (fin rfl)
  · have H14 := cnd_f hb H9; clear H9
    refine l_passed rfl rfl rfl ?_
    refine l_passed rfl rfl rfl ?_
    refine l_passed rfl rfl rfl ?_
    refine l_passed rfl rfl rfl ?_
    refine l_passed rfl rfl rfl ?_
    refine l_val rfl rfl rfl (r_pickF (v := .bool false) rfl rfl) ?_
    refine l_nil ?_
    refine c_false rfl ?_
    refine c_skip ?_
    refine c_seq ?_
    refine c_region ?_
    refine l_val rfl rfl rfl (r_move (v := .int .i64 t8) rfl) ?_
    refine l_val rfl rfl rfl (r_assign (v := .int .i64 t8) rfl) ?_
    refine l_nil ?_
    refine c_ret ?_
    obtain rfl := Option.some.inj H14
    refine ret1 (v := .int .i64 t8) rfl rfl (fin rfl)
theorem k15 {a0 : (List (Nat → Int))} {v0 : Value} {r : (Nat → Int) × Int} {w : World} {h : Heap} (hw : Know h w noS) (f0 : FrS h 12 v0 (a0.map e_face_Vec)) (H : R_MeanOf a0 = some r) : Does Try.prog 15 (List.toArray [v0]) w (fun v w' => v = (.tuple #[.agg #[.int .i64 (r.1 0), .int .i64 (r.1 1), .int .i64 (r.1 2), .int .i64 (r.1 3), .int .i64 (r.1 4), .int .i64 (r.1 5), .int .i64 (r.1 6), .int .i64 (r.1 7), .int .i64 (r.1 8), .int .i64 (r.1 9), .int .i64 (r.1 10), .int .i64 (r.1 11)], .int .i64 r.2]) ∧ Grow w w') := by
  refine enter (n := 58) Try.func15 rfl rfl rfl noS [] (Sat.nil _ _) ?_
  refine c_seq ?_
  refine c_region ?_
  refine l_alloc (cs := [.int .i64 ((fun _ => 0) 0), .int .i64 ((fun _ => 0) 1), .int .i64 ((fun _ => 0) 2), .int .i64 ((fun _ => 0) 3), .int .i64 ((fun _ => 0) 4), .int .i64 ((fun _ => 0) 5), .int .i64 ((fun _ => 0) 6), .int .i64 ((fun _ => 0) 7), .int .i64 ((fun _ => 0) 8), .int .i64 ((fun _ => 0) 9), .int .i64 ((fun _ => 0) 10), .int .i64 ((fun _ => 0) 11)]) Try.zeroValue23 rfl rfl rfl (fun b3 => ?_)
  refine l_val rfl rfl rfl (r_assign (v := .int .i64 0) rfl) ?_
  refine l_nil ?_
  refine c_seq ?_
  refine c_seq ?_
  refine c_region ?_
  refine l_val rfl rfl rfl (r_move (v := v0) rfl) ?_
  refine l_val rfl rfl rfl (r_lenF Try.underlying24 rfl f0 rfl) ?_
  refine l_val rfl rfl rfl (r_eql rfl rfl) ?_
  refine l_nil ?_
  refine c_if (b := (decide ((a0.length : Int) = 0))) rfl (fun hb => ?_) (fun hb => ?_)
  · have H31 := cnd_t hb H; clear H
    refine c_seq ?_
    refine c_region ?_
    refine l_loadN (i := 0) (vs := [.int .i64 ((fun _ => 0) 0), .int .i64 ((fun _ => 0) 1), .int .i64 ((fun _ => 0) 2), .int .i64 ((fun _ => 0) 3), .int .i64 ((fun _ => 0) 4), .int .i64 ((fun _ => 0) 5), .int .i64 ((fun _ => 0) 6), .int .i64 ((fun _ => 0) 7), .int .i64 ((fun _ => 0) 8), .int .i64 ((fun _ => 0) 9), .int .i64 ((fun _ => 0) 10), .int .i64 ((fun _ => 0) 11)]) Try.isAgg23 Try.sizeOf23 rfl rfl rfl rfl rfl ?_
    refine l_store (i := 0) (vs := [.int .i64 ((fun _ => 0) 0), .int .i64 ((fun _ => 0) 1), .int .i64 ((fun _ => 0) 2), .int .i64 ((fun _ => 0) 3), .int .i64 ((fun _ => 0) 4), .int .i64 ((fun _ => 0) 5), .int .i64 ((fun _ => 0) 6), .int .i64 ((fun _ => 0) 7), .int .i64 ((fun _ => 0) 8), .int .i64 ((fun _ => 0) 9), .int .i64 ((fun _ => 0) 10), .int .i64 ((fun _ => 0) 11)]) (cs' := [.int .i64 ((fun _ => 0) 0), .int .i64 ((fun _ => 0) 1), .int .i64 ((fun _ => 0) 2), .int .i64 ((fun _ => 0) 3), .int .i64 ((fun _ => 0) 4), .int .i64 ((fun _ => 0) 5), .int .i64 ((fun _ => 0) 6), .int .i64 ((fun _ => 0) 7), .int .i64 ((fun _ => 0) 8), .int .i64 ((fun _ => 0) 9), .int .i64 ((fun _ => 0) 10), .int .i64 ((fun _ => 0) 11)]) Try.sizeOf23 rfl rfl rfl rfl rfl rfl rfl rfl rfl ?_
    refine l_val rfl rfl rfl (r_assign (v := .int .i64 7) rfl) ?_
    refine l_nil ?_
    refine c_ret ?_
    obtain rfl := Option.some.inj H31
    refine retCt (i := 0) (vs := [.int .i64 ((fun _ => 0) 0), .int .i64 ((fun _ => 0) 1), .int .i64 ((fun _ => 0) 2), .int .i64 ((fun _ => 0) 3), .int .i64 ((fun _ => 0) 4), .int .i64 ((fun _ => 0) 5), .int .i64 ((fun _ => 0) 6), .int .i64 ((fun _ => 0) 7), .int .i64 ((fun _ => 0) 8), .int .i64 ((fun _ => 0) 9), .int .i64 ((fun _ => 0) 10), .int .i64 ((fun _ => 0) 11)]) (v2 := .int .i64 7) Try.isAgg23 Try.sizeOf23 rfl rfl rfl rfl rfl (fin rfl)
  · have H32 := cnd_f hb H; clear H
    refine c_skip ?_
    refine c_seq ?_
    refine c_seq ?_
    refine c_region ?_
    refine l_val rfl rfl rfl (r_move (v := v0) rfl) ?_
    refine l_val rfl rfl rfl (r_lenF Try.underlying24 rfl f0 rfl) ?_
    refine l_val rfl rfl rfl (r_gtr rfl rfl) ?_
    refine l_nil ?_
    refine c_if (b := (decide (300 < (a0.length : Int)))) rfl (fun hb => ?_) (fun hb => ?_)
    · have H33 := cnd_t hb H32; clear H32
      refine c_seq ?_
      refine c_region ?_
      refine l_loadN (i := 0) (vs := [.int .i64 ((fun _ => 0) 0), .int .i64 ((fun _ => 0) 1), .int .i64 ((fun _ => 0) 2), .int .i64 ((fun _ => 0) 3), .int .i64 ((fun _ => 0) 4), .int .i64 ((fun _ => 0) 5), .int .i64 ((fun _ => 0) 6), .int .i64 ((fun _ => 0) 7), .int .i64 ((fun _ => 0) 8), .int .i64 ((fun _ => 0) 9), .int .i64 ((fun _ => 0) 10), .int .i64 ((fun _ => 0) 11)]) Try.isAgg23 Try.sizeOf23 rfl rfl rfl rfl rfl ?_
      refine l_store (i := 0) (vs := [.int .i64 ((fun _ => 0) 0), .int .i64 ((fun _ => 0) 1), .int .i64 ((fun _ => 0) 2), .int .i64 ((fun _ => 0) 3), .int .i64 ((fun _ => 0) 4), .int .i64 ((fun _ => 0) 5), .int .i64 ((fun _ => 0) 6), .int .i64 ((fun _ => 0) 7), .int .i64 ((fun _ => 0) 8), .int .i64 ((fun _ => 0) 9), .int .i64 ((fun _ => 0) 10), .int .i64 ((fun _ => 0) 11)]) (cs' := [.int .i64 ((fun _ => 0) 0), .int .i64 ((fun _ => 0) 1), .int .i64 ((fun _ => 0) 2), .int .i64 ((fun _ => 0) 3), .int .i64 ((fun _ => 0) 4), .int .i64 ((fun _ => 0) 5), .int .i64 ((fun _ => 0) 6), .int .i64 ((fun _ => 0) 7), .int .i64 ((fun _ => 0) 8), .int .i64 ((fun _ => 0) 9), .int .i64 ((fun _ => 0) 10), .int .i64 ((fun _ => 0) 11)]) Try.sizeOf23 rfl rfl rfl rfl rfl rfl rfl rfl rfl ?_
      refine l_val rfl rfl rfl (r_assign (v := .int .i64 4) rfl) ?_
      refine l_nil ?_
      refine c_ret ?_
      obtain rfl := Option.some.inj H33
      refine retCt (i := 0) (vs := [.int .i64 ((fun _ => 0) 0), .int .i64 ((fun _ => 0) 1), .int .i64 ((fun _ => 0) 2), .int .i64 ((fun _ => 0) 3), .int .i64 ((fun _ => 0) 4), .int .i64 ((fun _ => 0) 5), .int .i64 ((fun _ => 0) 6), .int .i64 ((fun _ => 0) 7), .int .i64 ((fun _ => 0) 8), .int .i64 ((fun _ => 0) 9), .int .i64 ((fun _ => 0) 10), .int .i64 ((fun _ => 0) 11)]) (v2 := .int .i64 4) Try.isAgg23 Try.sizeOf23 rfl rfl rfl rfl rfl (fin rfl)
    · have H34 := cnd_f hb H32; clear H32
      refine c_skip ?_
      refine c_seq ?_
      refine c_region ?_
      refine l_alloc (cs := [.int .i64 ((fun _ => 0) 0), .int .i64 ((fun _ => 0) 1), .int .i64 ((fun _ => 0) 2), .int .i64 ((fun _ => 0) 3), .int .i64 ((fun _ => 0) 4), .int .i64 ((fun _ => 0) 5), .int .i64 ((fun _ => 0) 6), .int .i64 ((fun _ => 0) 7), .int .i64 ((fun _ => 0) 8), .int .i64 ((fun _ => 0) 9), .int .i64 ((fun _ => 0) 10), .int .i64 ((fun _ => 0) 11)]) Try.zeroValue23 rfl rfl rfl (fun b4 => ?_)
      refine l_nil ?_
      refine c_meet (r := r) (σ := (Nat → Int)) (τ := Unit) (fun s => R_MeanOf_j1 a0 s) [3, 6, 7, 8, 9, 20, 21, 22, 23, 24, 25, 26, 27, 28, 29, 30, 31, 32, 33, 34, 35, 36, 37, 38, 39, 40, 41, 42, 43, 44] (fun s t => []) (fun s t => [(1, cellsC b4 [.int .i64 (s 0), .int .i64 (s 1), .int .i64 (s 2), .int .i64 (s 3), .int .i64 (s 4), .int .i64 (s 5), .int .i64 (s 6), .int .i64 (s 7), .int .i64 (s 8), .int .i64 (s 9), .int .i64 (s 10), .int .i64 (s 11)] 23)]) (fun s t => []) (fun s t => True) ?_ ?_
      · refine c_seq ?_
        refine c_region ?_
        refine l_val rfl rfl rfl (r_move (v := v0) rfl) ?_
        refine l_val rfl rfl rfl (r_lenF Try.underlying24 rfl f0 rfl) ?_
        refine l_val rfl rfl rfl (r_move (v := .int .i64 0) rfl) ?_
        refine l_nil ?_
        refine c_block ?_
        refine c_fix (σ := Int × (Nat → Int)) (τ := Unit) (fun next4 s => R_MeanOf_l4 a0 next4 s.1 s.2) [3, 6, 7, 8, 9, 22, 23, 24, 25, 26, 27, 28, 29, 30, 31, 32, 33, 34, 35, 36, 37, 38, 39, 40, 41, 42, 43, 44] (fun s t => [(22, .int .i64 s.1)]) (fun s t => [(1, cellsC b4 [.int .i64 (s.2 0), .int .i64 (s.2 1), .int .i64 (s.2 2), .int .i64 (s.2 3), .int .i64 (s.2 4), .int .i64 (s.2 5), .int .i64 (s.2 6), .int .i64 (s.2 7), .int .i64 (s.2 8), .int .i64 (s.2 9), .int .i64 (s.2 10), .int .i64 (s.2 11)] 23)]) (fun s t => True) (0, (fun _ => 0)) () H34 (by exact trivial) (by exact ⟨rfl, trivial⟩) rfl ?_
        rintro ⟨x22_2, m_6⟩ _ m4 gg H44 _
        clear H34
        replace H44 : R_MeanOf_l4 a0 (it (fun next4 s => R_MeanOf_l4 a0 next4 s.1 s.2) m4) x22_2 m_6 = some r := H44
        generalize hn4 : it (fun next4 s => R_MeanOf_l4 a0 next4 s.1 s.2) m4 = next4 at H44
        refine c_tidyF [(22, .int .i64 x22_2)] [(1, cellsC b4 [.int .i64 (m_6 0), .int .i64 (m_6 1), .int .i64 (m_6 2), .int .i64 (m_6 3), .int .i64 (m_6 4), .int .i64 (m_6 5), .int .i64 (m_6 6), .int .i64 (m_6 7), .int .i64 (m_6 8), .int .i64 (m_6 9), .int .i64 (m_6 10), .int .i64 (m_6 11)] 23)] rfl rfl ?_
        refine c_seq ?_
        refine c_region ?_
        refine l_val rfl rfl rfl (r_lss rfl rfl) ?_
        refine l_nil ?_
        refine c_seq ?_
        refine c_if (b := (decide (x22_2 < (a0.length : Int)))) rfl (fun hb => ?_) (fun hb => ?_)
        · have H45 := cnd_t hb H44; clear H44
          refine c_skip ?_
          refine c_meet (r := r) (σ := (Nat → Int)) (τ := Unit) (fun s => R_MeanOf_j5 x22_2 next4 s) [3, 6, 7, 8, 9, 24, 25, 26, 27, 28, 29, 30, 31, 32, 33, 34, 35, 36, 37, 38, 39, 40, 41, 42, 43] (fun s t => []) (fun s t => [(1, cellsC b4 [.int .i64 (s 0), .int .i64 (s 1), .int .i64 (s 2), .int .i64 (s 3), .int .i64 (s 4), .int .i64 (s 5), .int .i64 (s 6), .int .i64 (s 7), .int .i64 (s 8), .int .i64 (s 9), .int .i64 (s 10), .int .i64 (s 11)] 23)]) (fun s t => []) (fun s t => True) ?_ ?_
          · refine c_block ?_
            refine c_seq ?_
            refine c_region ?_
            obtain ⟨t24, h_t24, H48⟩ := bnd_some H45; clear H45
            refine l_val rfl rfl rfl (r_indexF Try.underlying24 Try.sizeOf23 rfl rfl f0 h_t24) ?_
            refine l_read (fun w hF hS => run_loadGN (j := 0) (vs := [.int .i64 (t24 0), .int .i64 (t24 1), .int .i64 (t24 2), .int .i64 (t24 3), .int .i64 (t24 4), .int .i64 (t24 5), .int .i64 (t24 6), .int .i64 (t24 7), .int .i64 (t24 8), .int .i64 (t24 9), .int .i64 (t24 10), .int .i64 (t24 11)]) Try.isAgg23 Try.sizeOf23 rfl rfl (f0.row (hw.now hF)) h_t24 rfl) rfl rfl rfl ?_
            refine l_alloc (cs := [.int .i64 ((fun _ => 0) 0), .int .i64 ((fun _ => 0) 1), .int .i64 ((fun _ => 0) 2), .int .i64 ((fun _ => 0) 3), .int .i64 ((fun _ => 0) 4), .int .i64 ((fun _ => 0) 5), .int .i64 ((fun _ => 0) 6), .int .i64 ((fun _ => 0) 7), .int .i64 ((fun _ => 0) 8), .int .i64 ((fun _ => 0) 9), .int .i64 ((fun _ => 0) 10), .int .i64 ((fun _ => 0) 11)]) Try.zeroValue23 rfl rfl rfl (fun b5 => ?_)
            refine l_store (i := 2) (vs := [.int .i64 (t24 0), .int .i64 (t24 1), .int .i64 (t24 2), .int .i64 (t24 3), .int .i64 (t24 4), .int .i64 (t24 5), .int .i64 (t24 6), .int .i64 (t24 7), .int .i64 (t24 8), .int .i64 (t24 9), .int .i64 (t24 10), .int .i64 (t24 11)]) (cs' := [.int .i64 (t24 0), .int .i64 (t24 1), .int .i64 (t24 2), .int .i64 (t24 3), .int .i64 (t24 4), .int .i64 (t24 5), .int .i64 (t24 6), .int .i64 (t24 7), .int .i64 (t24 8), .int .i64 (t24 9), .int .i64 (t24 10), .int .i64 (t24 11)]) Try.sizeOf23 rfl rfl rfl rfl rfl rfl rfl rfl rfl ?_
            refine l_nil ?_
            refine c_seq ?_
            refine c_seq ?_
            refine c_region ?_
            refine l_loadN (i := 2) (vs := [.int .i64 (t24 0), .int .i64 (t24 1), .int .i64 (t24 2), .int .i64 (t24 3), .int .i64 (t24 4), .int .i64 (t24 5), .int .i64 (t24 6), .int .i64 (t24 7), .int .i64 (t24 8), .int .i64 (t24 9), .int .i64 (t24 10), .int .i64 (t24 11)]) Try.isAgg23 Try.sizeOf23 rfl rfl rfl rfl rfl ?_
            obtain ⟨t27, h_t27, H49⟩ := bnd_some H48; clear H48
            refine l_call (k12 h_t27) Try.call12 rfl rfl rfl ?_
            refine l_val rfl rfl rfl (r_assign (v := .int .i64 t27) rfl) ?_
            refine l_nil ?_
            refine c_seq ?_
            refine c_region ?_
            refine l_val rfl rfl rfl (r_move (v := .int .i64 t27) rfl) ?_
            refine l_val rfl rfl rfl (r_neq rfl rfl) ?_
            refine l_nil ?_
            refine c_if (b := (decide (t27 ≠ 0))) rfl (fun hb => ?_) (fun hb => ?_)
            · have H50 := cnd_t hb H49; clear H49
              refine c_seq ?_
              refine c_region ?_
              refine l_loadN (i := 0) (vs := [.int .i64 ((fun _ => 0) 0), .int .i64 ((fun _ => 0) 1), .int .i64 ((fun _ => 0) 2), .int .i64 ((fun _ => 0) 3), .int .i64 ((fun _ => 0) 4), .int .i64 ((fun _ => 0) 5), .int .i64 ((fun _ => 0) 6), .int .i64 ((fun _ => 0) 7), .int .i64 ((fun _ => 0) 8), .int .i64 ((fun _ => 0) 9), .int .i64 ((fun _ => 0) 10), .int .i64 ((fun _ => 0) 11)]) Try.isAgg23 Try.sizeOf23 rfl rfl rfl rfl rfl ?_
              refine l_val rfl rfl rfl (r_move (v := .int .i64 t27) rfl) ?_
              refine l_store (i := 0) (vs := [.int .i64 ((fun _ => 0) 0), .int .i64 ((fun _ => 0) 1), .int .i64 ((fun _ => 0) 2), .int .i64 ((fun _ => 0) 3), .int .i64 ((fun _ => 0) 4), .int .i64 ((fun _ => 0) 5), .int .i64 ((fun _ => 0) 6), .int .i64 ((fun _ => 0) 7), .int .i64 ((fun _ => 0) 8), .int .i64 ((fun _ => 0) 9), .int .i64 ((fun _ => 0) 10), .int .i64 ((fun _ => 0) 11)]) (cs' := [.int .i64 ((fun _ => 0) 0), .int .i64 ((fun _ => 0) 1), .int .i64 ((fun _ => 0) 2), .int .i64 ((fun _ => 0) 3), .int .i64 ((fun _ => 0) 4), .int .i64 ((fun _ => 0) 5), .int .i64 ((fun _ => 0) 6), .int .i64 ((fun _ => 0) 7), .int .i64 ((fun _ => 0) 8), .int .i64 ((fun _ => 0) 9), .int .i64 ((fun _ => 0) 10), .int .i64 ((fun _ => 0) 11)]) Try.sizeOf23 rfl rfl rfl rfl rfl rfl rfl rfl rfl ?_
              refine l_val rfl rfl rfl (r_assign (v := .int .i64 t27) rfl) ?_
              refine l_nil ?_
              refine c_ret ?_
              obtain rfl := Option.some.inj H50
              refine retCt (i := 0) (vs := [.int .i64 ((fun _ => 0) 0), .int .i64 ((fun _ => 0) 1), .int .i64 ((fun _ => 0) 2), .int .i64 ((fun _ => 0) 3), .int .i64 ((fun _ => 0) 4), .int .i64 ((fun _ => 0) 5), .int .i64 ((fun _ => 0) 6), .int .i64 ((fun _ => 0) 7), .int .i64 ((fun _ => 0) 8), .int .i64 ((fun _ => 0) 9), .int .i64 ((fun _ => 0) 10), .int .i64 ((fun _ => 0) 11)]) (v2 := .int .i64 t27) Try.isAgg23 Try.sizeOf23 rfl rfl rfl rfl rfl (fin rfl)
            · have H51 := cnd_f hb H49; clear H49
              refine c_skip ?_
              refine c_seq ?_
              refine c_region ?_
              refine l_loadN (i := 2) (vs := [.int .i64 (t24 0), .int .i64 (t24 1), .int .i64 (t24 2), .int .i64 (t24 3), .int .i64 (t24 4), .int .i64 (t24 5), .int .i64 (t24 6), .int .i64 (t24 7), .int .i64 (t24 8), .int .i64 (t24 9), .int .i64 (t24 10), .int .i64 (t24 11)]) Try.isAgg23 Try.sizeOf23 rfl rfl rfl rfl rfl ?_
              refine l_val rfl rfl rfl (r_move (v := .int .i64 0) rfl) ?_
              refine l_nil ?_
              refine c_block ?_
              refine c_fix (σ := Int × (Nat → Int)) (τ := Unit) (fun next6 s => R_MeanOf_l6 x22_2 next4 t24 next6 s.1 s.2) [8, 9, 33, 34, 35, 36, 37, 38, 39, 40, 41, 42, 43] (fun s t => [(33, .int .i64 s.1)]) (fun s t => [(1, cellsC b4 [.int .i64 (s.2 0), .int .i64 (s.2 1), .int .i64 (s.2 2), .int .i64 (s.2 3), .int .i64 (s.2 4), .int .i64 (s.2 5), .int .i64 (s.2 6), .int .i64 (s.2 7), .int .i64 (s.2 8), .int .i64 (s.2 9), .int .i64 (s.2 10), .int .i64 (s.2 11)] 23)]) (fun s t => True) (0, m_6) () H51 (by exact trivial) (by exact ⟨rfl, trivial⟩) rfl ?_
              rintro ⟨x33_2, m_9⟩ _ m6 gg H52 _
              clear H51
              replace H52 : R_MeanOf_l6 x22_2 next4 t24 (it (fun next6 s => R_MeanOf_l6 x22_2 next4 t24 next6 s.1 s.2) m6) x33_2 m_9 = some r := H52
              generalize hn6 : it (fun next6 s => R_MeanOf_l6 x22_2 next4 t24 next6 s.1 s.2) m6 = next6 at H52
              refine c_tidyF [(33, .int .i64 x33_2)] [(1, cellsC b4 [.int .i64 (m_9 0), .int .i64 (m_9 1), .int .i64 (m_9 2), .int .i64 (m_9 3), .int .i64 (m_9 4), .int .i64 (m_9 5), .int .i64 (m_9 6), .int .i64 (m_9 7), .int .i64 (m_9 8), .int .i64 (m_9 9), .int .i64 (m_9 10), .int .i64 (m_9 11)] 23)] rfl rfl ?_
              refine c_seq ?_
              refine c_region ?_
              refine l_val rfl rfl rfl (r_lss rfl rfl) ?_
              refine l_nil ?_
              refine c_seq ?_
              refine c_if (b := (decide (x33_2 < 12))) rfl (fun hb => ?_) (fun hb => ?_)
              · have H53 := cnd_t hb H52; clear H52
                refine c_skip ?_
                refine c_seq ?_
                refine c_block ?_
                refine c_seq ?_
                refine c_region ?_
                refine l_val rfl rfl rfl (r_move (v := .int .i64 x33_2) rfl) ?_
                obtain ⟨k36, h_k36, H54⟩ := bnd_some H53; clear H53
                refine l_val rfl rfl rfl (r_indexAG (f := fun j_ => .int .i64 (t24 j_)) Try.runUnderlying23 Try.isAgg3 Try.sizeOf3 rfl rfl rfl h_k36) ?_
                refine l_val rfl rfl rfl (r_assign (v := .int .i64 x33_2) rfl) ?_
                refine l_val rfl rfl rfl (r_assign (v := .int .i64 (t24 k36)) rfl) ?_
                refine l_nil ?_
                refine c_region ?_
                refine l_val rfl rfl rfl (r_move (v := .int .i64 x33_2) rfl) ?_
                obtain ⟨k38, h_k38, H55⟩ := bnd_some H54; clear H54
                refine l_val rfl rfl rfl (r_indexPG Try.runUnderlying23 Try.sizeOf3 rfl rfl h_k38) ?_
                refine l_load1 (i := 1) (v := .int .i64 (m_9 k38)) Try.isAgg3 rfl rfl rfl rfl (rg_arr (pre := []) (post := []) (f := fun j_ => [.int .i64 (m_9 j_)]) (n := 12) (sz := 1) (q := 0) rfl rfl (fun _ => rfl) (gIx_lt h_k38) rfl) ?_
                refine l_val rfl rfl rfl (r_move (v := .int .i64 (t24 k36)) rfl) ?_
                obtain ⟨t41, h_t41, H56⟩ := bnd_some H55; clear H55
                refine l_val rfl rfl rfl (r_addG rfl rfl h_t41) ?_
                obtain ⟨k42, h_k42, H57⟩ := bnd_some H56; clear H56
                refine l_val rfl rfl rfl (r_indexPG Try.runUnderlying23 Try.sizeOf3 rfl rfl h_k42) ?_
                refine l_store (i := 1) (vs := [.int .i64 t41]) (cs' := [.int .i64 ((setA m_9 k42 t41) 0), .int .i64 ((setA m_9 k42 t41) 1), .int .i64 ((setA m_9 k42 t41) 2), .int .i64 ((setA m_9 k42 t41) 3), .int .i64 ((setA m_9 k42 t41) 4), .int .i64 ((setA m_9 k42 t41) 5), .int .i64 ((setA m_9 k42 t41) 6), .int .i64 ((setA m_9 k42 t41) 7), .int .i64 ((setA m_9 k42 t41) 8), .int .i64 ((setA m_9 k42 t41) 9), .int .i64 ((setA m_9 k42 t41) 10), .int .i64 ((setA m_9 k42 t41) 11)]) Try.sizeOf3 rfl rfl rfl rfl rfl rfl rfl rfl (wr_arr (pre := []) (post := []) (f := fun (j_ : Int) => [.int .i64 j_]) (n := 12) (sz := 1) (a := m_9) (x := t41) rfl rfl (fun _ => rfl) (gIx_lt h_k42) rfl rfl) ?_
                refine l_nil ?_
                refine c_region ?_
                obtain ⟨t43, h_t43, H58⟩ := bnd_some H57; clear H57
                refine l_val rfl rfl rfl (r_addG rfl rfl h_t43) ?_
                refine l_val rfl rfl rfl (r_move (v := .int .i64 t43) rfl) ?_
                refine l_nil ?_
                refine c_roundK ((t43, (setA m_9 k42 t41)), (), m6) [0, 1, 2] (by exact ⟨rfl, trivial⟩) (by repeat (first | exact Keeps.refl _ _ | exact Keeps.mix | refine Keeps.upd ?_ rfl | refine Keeps.mkE ?_ _ rfl | refine Keeps.mix2 ?_ rfl)) (by decide) rfl (by exact ⟨(by subst hn6; exact H58), trivial⟩) (Nat.lt_succ_self _)
              · have H59 := cnd_f hb H52; clear H52
                refine c_exit ?_
                refine c_roundK (m_9, (), 0) [0, 1] (by exact trivial) (by repeat (first | exact Keeps.refl _ _ | exact Keeps.mix | refine Keeps.upd ?_ rfl | refine Keeps.mkE ?_ _ rfl | refine Keeps.mix2 ?_ rfl)) (by decide) rfl (by exact ⟨H59, trivial⟩) (Nat.lt_succ_self _)
          · rintro m_7 _ gg H46 _
            replace H46 : R_MeanOf_j5 x22_2 next4 m_7 = some r := H46
            refine c_tidyJ [] [(1, cellsC b4 [.int .i64 (m_7 0), .int .i64 (m_7 1), .int .i64 (m_7 2), .int .i64 (m_7 3), .int .i64 (m_7 4), .int .i64 (m_7 5), .int .i64 (m_7 6), .int .i64 (m_7 7), .int .i64 (m_7 8), .int .i64 (m_7 9), .int .i64 (m_7 10), .int .i64 (m_7 11)] 23)] [] rfl rfl rfl ?_
            refine c_region ?_
            obtain ⟨t44, h_t44, H47⟩ := bnd_some H46; clear H46
            refine l_val rfl rfl rfl (r_addG rfl rfl h_t44) ?_
            refine l_val rfl rfl rfl (r_move (v := .int .i64 t44) rfl) ?_
            refine l_nil ?_
            refine c_roundK ((t44, m_7), (), m4) [0, 1] (by exact ⟨rfl, trivial⟩) (by repeat (first | exact Keeps.refl _ _ | exact Keeps.mix | refine Keeps.upd ?_ rfl | refine Keeps.mkE ?_ _ rfl | refine Keeps.mix2 ?_ rfl)) (by decide) rfl (by exact ⟨(by subst hn4; exact H47), trivial⟩) (Nat.lt_succ_self _)
        · have H60 := cnd_f hb H44; clear H44
          refine c_exit ?_
          refine c_roundK (m_6, (), 0) [0, 1] (by exact trivial) (by repeat (first | exact Keeps.refl _ _ | exact Keeps.mix | refine Keeps.upd ?_ rfl | refine Keeps.mkE ?_ _ rfl | refine Keeps.mix2 ?_ rfl)) (by decide) rfl (by exact ⟨H60, trivial⟩) (Nat.lt_succ_self _)
      · rintro m _ gg H35 _
        replace H35 : R_MeanOf_j1 a0 m = some r := H35
        refine c_tidyJ [] [(1, cellsC b4 [.int .i64 (m 0), .int .i64 (m 1), .int .i64 (m 2), .int .i64 (m 3), .int .i64 (m 4), .int .i64 (m 5), .int .i64 (m 6), .int .i64 (m 7), .int .i64 (m 8), .int .i64 (m 9), .int .i64 (m 10), .int .i64 (m 11)] 23)] [] rfl rfl rfl ?_
        refine c_meet (r := r) (σ := (Nat → Int)) (τ := Unit) (fun s => R_MeanOf_j2 s) [10, 11, 45, 46, 47, 48, 49, 50, 51, 52, 53, 54, 55, 56] (fun s t => []) (fun s t => [(0, cellsC b3 [.int .i64 (s 0), .int .i64 (s 1), .int .i64 (s 2), .int .i64 (s 3), .int .i64 (s 4), .int .i64 (s 5), .int .i64 (s 6), .int .i64 (s 7), .int .i64 (s 8), .int .i64 (s 9), .int .i64 (s 10), .int .i64 (s 11)] 23)]) (fun s t => []) (fun s t => True) ?_ ?_
        · refine c_seq ?_
          refine c_region ?_
          refine l_loadN (i := 1) (vs := [.int .i64 (m 0), .int .i64 (m 1), .int .i64 (m 2), .int .i64 (m 3), .int .i64 (m 4), .int .i64 (m 5), .int .i64 (m 6), .int .i64 (m 7), .int .i64 (m 8), .int .i64 (m 9), .int .i64 (m 10), .int .i64 (m 11)]) Try.isAgg23 Try.sizeOf23 rfl rfl rfl rfl rfl ?_
          refine l_val rfl rfl rfl (r_move (v := .int .i64 0) rfl) ?_
          refine l_nil ?_
          refine c_block ?_
          refine c_fix (σ := Int × (Nat → Int)) (τ := Unit) (fun next3 s => R_MeanOf_l3 a0 m next3 s.1 s.2) [10, 11, 46, 47, 48, 49, 50, 51, 52, 53, 54, 55, 56] (fun s t => [(46, .int .i64 s.1)]) (fun s t => [(0, cellsC b3 [.int .i64 (s.2 0), .int .i64 (s.2 1), .int .i64 (s.2 2), .int .i64 (s.2 3), .int .i64 (s.2 4), .int .i64 (s.2 5), .int .i64 (s.2 6), .int .i64 (s.2 7), .int .i64 (s.2 8), .int .i64 (s.2 9), .int .i64 (s.2 10), .int .i64 (s.2 11)] 23)]) (fun s t => True) (0, (fun _ => 0)) () H35 (by exact trivial) (by exact ⟨rfl, trivial⟩) rfl ?_
          rintro ⟨x46_2, m_4⟩ _ m3 gg H37 _
          clear H35
          replace H37 : R_MeanOf_l3 a0 m (it (fun next3 s => R_MeanOf_l3 a0 m next3 s.1 s.2) m3) x46_2 m_4 = some r := H37
          generalize hn3 : it (fun next3 s => R_MeanOf_l3 a0 m next3 s.1 s.2) m3 = next3 at H37
          refine c_tidyF [(46, .int .i64 x46_2)] [(0, cellsC b3 [.int .i64 (m_4 0), .int .i64 (m_4 1), .int .i64 (m_4 2), .int .i64 (m_4 3), .int .i64 (m_4 4), .int .i64 (m_4 5), .int .i64 (m_4 6), .int .i64 (m_4 7), .int .i64 (m_4 8), .int .i64 (m_4 9), .int .i64 (m_4 10), .int .i64 (m_4 11)] 23)] rfl rfl ?_
          refine c_seq ?_
          refine c_region ?_
          refine l_val rfl rfl rfl (r_lss rfl rfl) ?_
          refine l_nil ?_
          refine c_seq ?_
          refine c_if (b := (decide (x46_2 < 12))) rfl (fun hb => ?_) (fun hb => ?_)
          · have H38 := cnd_t hb H37; clear H37
            refine c_skip ?_
            refine c_seq ?_
            refine c_block ?_
            refine c_seq ?_
            refine c_region ?_
            refine l_val rfl rfl rfl (r_move (v := .int .i64 x46_2) rfl) ?_
            obtain ⟨k49, h_k49, H39⟩ := bnd_some H38; clear H38
            refine l_val rfl rfl rfl (r_indexAG (f := fun j_ => .int .i64 (m j_)) Try.runUnderlying23 Try.isAgg3 Try.sizeOf3 rfl rfl rfl h_k49) ?_
            refine l_val rfl rfl rfl (r_assign (v := .int .i64 x46_2) rfl) ?_
            refine l_val rfl rfl rfl (r_assign (v := .int .i64 (m k49)) rfl) ?_
            refine l_nil ?_
            refine c_region ?_
            refine l_val rfl rfl rfl (r_move (v := .int .i64 x46_2) rfl) ?_
            refine l_val rfl rfl rfl (r_move (v := .int .i64 (m k49)) rfl) ?_
            refine l_val rfl rfl rfl (r_move (v := v0) rfl) ?_
            refine l_val rfl rfl rfl (r_lenF Try.underlying24 rfl f0 rfl) ?_
            obtain ⟨t54, h_t54, H40⟩ := bnd_some H39; clear H39
            refine l_call (k81 h_t54) Try.call81 rfl rfl rfl ?_
            obtain ⟨k55, h_k55, H41⟩ := bnd_some H40; clear H40
            refine l_val rfl rfl rfl (r_indexPG Try.runUnderlying23 Try.sizeOf3 rfl rfl h_k55) ?_
            refine l_store (i := 0) (vs := [.int .i64 t54]) (cs' := [.int .i64 ((setA m_4 k55 t54) 0), .int .i64 ((setA m_4 k55 t54) 1), .int .i64 ((setA m_4 k55 t54) 2), .int .i64 ((setA m_4 k55 t54) 3), .int .i64 ((setA m_4 k55 t54) 4), .int .i64 ((setA m_4 k55 t54) 5), .int .i64 ((setA m_4 k55 t54) 6), .int .i64 ((setA m_4 k55 t54) 7), .int .i64 ((setA m_4 k55 t54) 8), .int .i64 ((setA m_4 k55 t54) 9), .int .i64 ((setA m_4 k55 t54) 10), .int .i64 ((setA m_4 k55 t54) 11)]) Try.sizeOf3 rfl rfl rfl rfl rfl rfl rfl rfl (wr_arr (pre := []) (post := []) (f := fun (j_ : Int) => [.int .i64 j_]) (n := 12) (sz := 1) (a := m_4) (x := t54) rfl rfl (fun _ => rfl) (gIx_lt h_k55) rfl rfl) ?_
            refine l_nil ?_
            refine c_region ?_
            obtain ⟨t56, h_t56, H42⟩ := bnd_some H41; clear H41
            refine l_val rfl rfl rfl (r_addG rfl rfl h_t56) ?_
            refine l_val rfl rfl rfl (r_move (v := .int .i64 t56) rfl) ?_
            refine l_nil ?_
            refine c_roundK ((t56, (setA m_4 k55 t54)), (), m3) [0, 1] (by exact ⟨rfl, trivial⟩) (by repeat (first | exact Keeps.refl _ _ | exact Keeps.mix | refine Keeps.upd ?_ rfl | refine Keeps.mkE ?_ _ rfl | refine Keeps.mix2 ?_ rfl)) (by decide) rfl (by exact ⟨(by subst hn3; exact H42), trivial⟩) (Nat.lt_succ_self _)
          · have H43 := cnd_f hb H37; clear H37
            refine c_exit ?_
            refine c_roundK (m_4, (), 0) [0, 1] (by exact trivial) (by repeat (first | exact Keeps.refl _ _ | exact Keeps.mix | refine Keeps.upd ?_ rfl | refine Keeps.mkE ?_ _ rfl | refine Keeps.mix2 ?_ rfl)) (by decide) rfl (by exact ⟨H43, trivial⟩) (Nat.lt_succ_self _)
        · rintro m_2 _ gg H36 _
          replace H36 : R_MeanOf_j2 m_2 = some r := H36
          refine c_tidyJ [] [(0, cellsC b3 [.int .i64 (m_2 0), .int .i64 (m_2 1), .int .i64 (m_2 2), .int .i64 (m_2 3), .int .i64 (m_2 4), .int .i64 (m_2 5), .int .i64 (m_2 6), .int .i64 (m_2 7), .int .i64 (m_2 8), .int .i64 (m_2 9), .int .i64 (m_2 10), .int .i64 (m_2 11)] 23)] [] rfl rfl rfl ?_
          refine c_seq ?_
          refine c_region ?_
          refine l_loadN (i := 0) (vs := [.int .i64 (m_2 0), .int .i64 (m_2 1), .int .i64 (m_2 2), .int .i64 (m_2 3), .int .i64 (m_2 4), .int .i64 (m_2 5), .int .i64 (m_2 6), .int .i64 (m_2 7), .int .i64 (m_2 8), .int .i64 (m_2 9), .int .i64 (m_2 10), .int .i64 (m_2 11)]) Try.isAgg23 Try.sizeOf23 rfl rfl rfl rfl rfl ?_
          refine l_store (i := 0) (vs := [.int .i64 (m_2 0), .int .i64 (m_2 1), .int .i64 (m_2 2), .int .i64 (m_2 3), .int .i64 (m_2 4), .int .i64 (m_2 5), .int .i64 (m_2 6), .int .i64 (m_2 7), .int .i64 (m_2 8), .int .i64 (m_2 9), .int .i64 (m_2 10), .int .i64 (m_2 11)]) (cs' := [.int .i64 (m_2 0), .int .i64 (m_2 1), .int .i64 (m_2 2), .int .i64 (m_2 3), .int .i64 (m_2 4), .int .i64 (m_2 5), .int .i64 (m_2 6), .int .i64 (m_2 7), .int .i64 (m_2 8), .int .i64 (m_2 9), .int .i64 (m_2 10), .int .i64 (m_2 11)]) Try.sizeOf23 rfl rfl rfl rfl rfl rfl rfl rfl rfl ?_
          refine l_val rfl rfl rfl (r_assign (v := .int .i64 0) rfl) ?_
          refine l_nil ?_
          refine c_ret ?_
          obtain rfl := Option.some.inj H36
          refine retCt (i := 0) (vs := [.int .i64 (m_2 0), .int .i64 (m_2 1), .int .i64 (m_2 2), .int .i64 (m_2 3), .int .i64 (m_2 4), .int .i64 (m_2 5), .int .i64 (m_2 6), .int .i64 (m_2 7), .int .i64 (m_2 8), .int .i64 (m_2 9), .int .i64 (m_2 10), .int .i64 (m_2 11)]) (v2 := .int .i64 0) Try.isAgg23 Try.sizeOf23 rfl rfl rfl rfl rfl (fin rfl)
theorem k16 {a0 : (List Int)} {v0 : Value} {r : Int} {w : World} {h : Heap} (hw : Know h w noS) (f0 : FrS h 1 v0 (a0.map e_i64)) (H : Law_first a0 = some r) : Does Try.prog 16 (List.toArray [v0]) w (fun v w' => v = (.int .i64 r) ∧ Grow w w') := by
  refine enter (n := 15) Try.func16 rfl rfl rfl noS [] (Sat.nil _ _) ?_
  refine c_seq ?_
  refine c_region ?_
  refine l_val rfl rfl rfl (r_assign (v := .int .i64 0) rfl) ?_
  refine l_nil ?_
  refine c_seq ?_
  refine c_seq ?_
  refine c_region ?_
  refine l_val rfl rfl rfl (r_move (v := v0) rfl) ?_
  refine l_val rfl rfl rfl (r_lenF Try.underlying128 rfl f0 rfl) ?_
  refine l_val rfl rfl rfl (r_move (v := .int .i64 0) rfl) ?_
  refine l_nil ?_
  refine c_block ?_
  refine c_fix (σ := Int) (τ := Unit) (fun next1 s => Law_first_l1 a0 next1 s) [2, 4, 7, 8, 9, 10, 11, 12, 13, 14] (fun s t => [(7, .int .i64 s)]) (fun s t => []) (fun s t => True) 0 () H (by exact trivial) (by exact ⟨rfl, trivial⟩) rfl ?_
  rintro x7_2 _ m1 gg H8 _
  clear H
  replace H8 : Law_first_l1 a0 (it (fun next1 s => Law_first_l1 a0 next1 s) m1) x7_2 = some r := H8
  generalize hn1 : it (fun next1 s => Law_first_l1 a0 next1 s) m1 = next1 at H8
  refine c_tidyF [(7, .int .i64 x7_2)] [] rfl rfl ?_
  refine c_seq ?_
  refine c_region ?_
  refine l_val rfl rfl rfl (r_lss rfl rfl) ?_
  refine l_nil ?_
  refine c_seq ?_
  refine c_if (b := (decide (x7_2 < (a0.length : Int)))) rfl (fun hb => ?_) (fun hb => ?_)
  · have H9 := cnd_t hb H8; clear H8
    refine c_skip ?_
    refine c_seq ?_
    refine c_block ?_
    refine c_seq ?_
    refine c_region ?_
    obtain ⟨t9, h_t9, H10⟩ := bnd_some H9; clear H9
    refine l_val rfl rfl rfl (r_indexF Try.underlying128 Try.sizeOf26 rfl rfl f0 h_t9) ?_
    refine l_read (fun w hF hS => run_loadG1 (j := 0) (v := .int .i64 t9) Try.isAgg26 rfl rfl (f0.row (hw.now hF)) h_t9 rfl) rfl rfl rfl ?_
    refine l_val rfl rfl rfl (r_assign (v := .int .i64 t9) rfl) ?_
    refine l_nil ?_
    refine c_seq ?_
    refine c_region ?_
    refine l_val rfl rfl rfl (r_move (v := .int .i64 t9) rfl) ?_
    refine l_val rfl rfl rfl (r_neq rfl rfl) ?_
    refine l_nil ?_
    refine c_if (b := (decide (t9 ≠ 0))) rfl (fun hb => ?_) (fun hb => ?_)
    · have H11 := cnd_t hb H10; clear H10
      refine c_seq ?_
      refine c_region ?_
      refine l_val rfl rfl rfl (r_move (v := .int .i64 t9) rfl) ?_
      refine l_val rfl rfl rfl (r_assign (v := .int .i64 t9) rfl) ?_
      refine l_nil ?_
      refine c_ret ?_
      obtain rfl := Option.some.inj H11
      refine ret1 (v := .int .i64 t9) rfl rfl (fin rfl)
    · have H12 := cnd_f hb H10; clear H10
      refine c_skip ?_
      refine c_region ?_
      obtain ⟨t14, h_t14, H13⟩ := bnd_some H12; clear H12
      refine l_val rfl rfl rfl (r_addG rfl rfl h_t14) ?_
      refine l_val rfl rfl rfl (r_move (v := .int .i64 t14) rfl) ?_
      refine l_nil ?_
      refine c_roundK (t14, (), m1) [] (by exact ⟨rfl, trivial⟩) (by repeat (first | exact Keeps.refl _ _ | exact Keeps.mix | refine Keeps.upd ?_ rfl | refine Keeps.mkE ?_ _ rfl | refine Keeps.mix2 ?_ rfl)) (by decide) rfl (by exact ⟨(by subst hn1; exact H13), trivial⟩) (Nat.lt_succ_self _)
  · have H14 := cnd_f hb H8; clear H8
    refine c_exit ?_
    refine c_seq ?_
    refine c_region ?_
    refine l_val rfl rfl rfl (r_assign (v := .int .i64 0) rfl) ?_
    refine l_nil ?_
    refine c_ret ?_
    obtain rfl := Option.some.inj H14
    refine ret1 (v := .int .i64 0) rfl rfl (fin rfl)
theorem k17 {a0 : (Nat → Int)} {a1 : (Nat → Int)} {r : Int} (H : R_FarOf a0 a1 = some r) : Ret Try.prog 17 [.agg #[.int .i64 (a0 0), .int .i64 (a0 1), .int .i64 (a0 2), .int .i64 (a0 3), .int .i64 (a0 4), .int .i64 (a0 5), .int .i64 (a0 6), .int .i64 (a0 7), .int .i64 (a0 8), .int .i64 (a0 9), .int .i64 (a0 10), .int .i64 (a0 11)], .agg #[.int .i64 (a1 0), .int .i64 (a1 1), .int .i64 (a1 2), .int .i64 (a1 3), .int .i64 (a1 4), .int .i64 (a1 5), .int .i64 (a1 6), .int .i64 (a1 7), .int .i64 (a1 8), .int .i64 (a1 9), .int .i64 (a1 10), .int .i64 (a1 11)]] (.int .i64 r) := by
  refine enterRet (n := 28) Try.func17 rfl rfl rfl (fun wd => ?_)
  refine c_seq ?_
  refine c_region ?_
  refine l_box (cs := [.int .i64 (a0 0), .int .i64 (a0 1), .int .i64 (a0 2), .int .i64 (a0 3), .int .i64 (a0 4), .int .i64 (a0 5), .int .i64 (a0 6), .int .i64 (a0 7), .int .i64 (a0 8), .int .i64 (a0 9), .int .i64 (a0 10), .int .i64 (a0 11)]) rfl rfl rfl rfl (fun b2 => ?_)
  refine l_box (cs := [.int .i64 (a1 0), .int .i64 (a1 1), .int .i64 (a1 2), .int .i64 (a1 3), .int .i64 (a1 4), .int .i64 (a1 5), .int .i64 (a1 6), .int .i64 (a1 7), .int .i64 (a1 8), .int .i64 (a1 9), .int .i64 (a1 10), .int .i64 (a1 11)]) rfl rfl rfl rfl (fun b3 => ?_)
  refine l_val rfl rfl rfl (r_assign (v := .int .i64 0) rfl) ?_
  refine l_nil ?_
  refine c_seq ?_
  refine c_region ?_
  refine l_val rfl rfl rfl (r_assign (v := .int .i64 0) rfl) ?_
  refine l_nil ?_
  refine c_seq ?_
  refine c_seq ?_
  refine c_region ?_
  refine l_loadN (i := 0) (vs := [.int .i64 (a0 0), .int .i64 (a0 1), .int .i64 (a0 2), .int .i64 (a0 3), .int .i64 (a0 4), .int .i64 (a0 5), .int .i64 (a0 6), .int .i64 (a0 7), .int .i64 (a0 8), .int .i64 (a0 9), .int .i64 (a0 10), .int .i64 (a0 11)]) Try.isAgg23 Try.sizeOf23 rfl rfl rfl rfl rfl ?_
  refine l_val rfl rfl rfl (r_move (v := .int .i64 0) rfl) ?_
  refine l_nil ?_
  refine c_block ?_
  refine c_fix (σ := Int × Int) (τ := Unit) (fun next1 s => R_FarOf_l1 a0 a1 next1 s.1 s.2) [5, 6, 7, 9, 10, 11, 12, 13, 14, 15, 16, 17, 18, 19, 20, 21, 22, 23, 24, 25, 26] (fun s t => [(5, .int .i64 s.1), (9, .int .i64 s.2)]) (fun s t => []) (fun s t => True) (0, 0) () H (by exact trivial) (by exact ⟨rfl, rfl, trivial⟩) rfl ?_
  rintro ⟨x5_2, x9_2⟩ _ m1 gg H12 _
  clear H
  replace H12 : R_FarOf_l1 a0 a1 (it (fun next1 s => R_FarOf_l1 a0 a1 next1 s.1 s.2) m1) x5_2 x9_2 = some r := H12
  generalize hn1 : it (fun next1 s => R_FarOf_l1 a0 a1 next1 s.1 s.2) m1 = next1 at H12
  refine c_tidyF [(5, .int .i64 x5_2), (9, .int .i64 x9_2)] [] rfl rfl ?_
  refine c_seq ?_
  refine c_region ?_
  refine l_val rfl rfl rfl (r_lss rfl rfl) ?_
  refine l_nil ?_
  refine c_seq ?_
  refine c_if (b := (decide (x9_2 < 12))) rfl (fun hb => ?_) (fun hb => ?_)
  · have H13 := cnd_t hb H12; clear H12
    refine c_skip ?_
    refine c_seq ?_
    refine c_block ?_
    refine c_seq ?_
    refine c_region ?_
    refine l_val rfl rfl rfl (r_move (v := .int .i64 x9_2) rfl) ?_
    obtain ⟨k12, h_k12, H14⟩ := bnd_some H13; clear H13
    refine l_val rfl rfl rfl (r_indexAG (f := fun j_ => .int .i64 (a0 j_)) Try.runUnderlying23 Try.isAgg3 Try.sizeOf3 rfl rfl rfl h_k12) ?_
    refine l_val rfl rfl rfl (r_assign (v := .int .i64 x9_2) rfl) ?_
    refine l_val rfl rfl rfl (r_assign (v := .int .i64 (a0 k12)) rfl) ?_
    refine l_nil ?_
    exact c_regionD (Kd.p :: Kd.p :: Kd.p :: Kd.p :: Kd.d [1] _ :: Kd.p :: Kd.p :: Kd.p :: Kd.p :: Kd.d [1] _ :: Kd.p :: Kd.p :: Kd.p :: Kd.p :: []) 0 mixed (by
      refine d_val rfl rfl (r_move (v := .int .i64 x5_2) rfl) ?_
      refine d_val rfl rfl (r_move (v := .int .i64 (a0 k12)) rfl) ?_
      refine d_val rfl rfl (r_move (v := .int .i64 x9_2) rfl) ?_
      have h_k16 := bnd_val H14
      have H15 := bnd_rest H14
      refine d_val rfl rfl (r_indexPG Try.runUnderlying23 Try.sizeOf3 rfl rfl h_k16) ?_
      refine d_load1 (i := 1) (v := .int .i64 (a1 (val (gIx 12 x9_2)))) Try.isAgg3 rfl rfl rfl (rg_arr (pre := []) (post := []) (f := fun j_ => [.int .i64 (a1 j_)]) (n := 12) (sz := 1) (q := 0) rfl rfl (fun _ => rfl) (gIx_lt h_k16) rfl) ?_
      have h_t18 := bnd_val H15
      have H16 := bnd_rest H15
      refine d_val rfl rfl (r_subG rfl rfl h_t18) ?_
      refine d_val rfl rfl (r_move (v := .int .i64 (a0 k12)) rfl) ?_
      refine d_val rfl rfl (r_move (v := .int .i64 x9_2) rfl) ?_
      have h_k21 := bnd_val H16
      have H17 := bnd_rest H16
      refine d_val rfl rfl (r_indexPG Try.runUnderlying23 Try.sizeOf3 rfl rfl h_k21) ?_
      refine d_load1 (i := 1) (v := .int .i64 (a1 (val (gIx 12 x9_2)))) Try.isAgg3 rfl rfl rfl (rg_arr (pre := []) (post := []) (f := fun j_ => [.int .i64 (a1 j_)]) (n := 12) (sz := 1) (q := 0) rfl rfl (fun _ => rfl) (gIx_lt h_k21) rfl) ?_
      have h_t23 := bnd_val H17
      have H18 := bnd_rest H17
      refine d_val rfl rfl (r_subG rfl rfl h_t23) ?_
      have h_t24 := bnd_val H18
      have H19 := bnd_rest H18
      refine d_val rfl rfl (r_mulG rfl rfl h_t24) ?_
      have h_t25 := bnd_val H19
      have H20 := bnd_rest H19
      refine d_val rfl rfl (r_addG rfl rfl h_t25) ?_
      refine d_val rfl rfl (r_assign (v := .int .i64 (val (gI (x5_2 + (val (gI ((val (gI ((a0 k12) - (a1 (val (gIx 12 x9_2)))))) * (val (gI ((a0 k12) - (a1 (val (gIx 12 x9_2))))))))))))) rfl) ?_
      refine d_nil ?_
      refine c_region ?_
      obtain ⟨t26, h_t26, H21⟩ := bnd_some H20; clear H20
      refine l_val rfl rfl rfl (r_addG rfl rfl h_t26) ?_
      refine l_val rfl rfl rfl (r_move (v := .int .i64 t26) rfl) ?_
      refine l_nil ?_
      refine c_roundK (((val (gI (x5_2 + (val (gI ((val (gI ((a0 k12) - (a1 (val (gIx 12 x9_2)))))) * (val (gI ((a0 k12) - (a1 (val (gIx 12 x9_2)))))))))))), t26), (), m1) [0, 1] (by exact ⟨rfl, rfl, trivial⟩) (by repeat (first | exact Keeps.refl _ _ | exact Keeps.mix | refine Keeps.upd ?_ rfl | refine Keeps.mkE ?_ _ rfl | refine Keeps.mix2 ?_ rfl)) (by decide) rfl (by exact ⟨(by subst hn1; exact H21), trivial⟩) (Nat.lt_succ_self _)
      ) (by kernel_rfl)
  · have H22 := cnd_f hb H12; clear H12
    refine c_exit ?_
    refine c_seq ?_
    refine c_region ?_
    refine l_val rfl rfl rfl (r_move (v := .int .i64 x5_2) rfl) ?_
    refine l_val rfl rfl rfl (r_assign (v := .int .i64 x5_2) rfl) ?_
    refine l_nil ?_
    refine c_ret ?_
    obtain rfl := Option.some.inj H22
    refine ret1 (v := .int .i64 x5_2) rfl rfl (fin rfl)
theorem k19 {a0 : Int} {a1 : Int} {a2 : Int} {a3 : Int} {r : Bool} (H : Law_told_int a0 a1 a2 a3 = some r) : Ret Try.prog 19 [.int .i64 a0, .int .i64 a1, .int .i64 a2, .int .i64 a3] (.bool r) := by
  refine enterRet (n := 21) Try.func19 rfl rfl rfl (fun wd => ?_)
  refine c_seq ?_
  refine c_region ?_
  refine l_val rfl rfl rfl (r_assign (v := .bool false) rfl) ?_
  refine l_nil ?_
  refine c_seq ?_
  refine c_region ?_
  refine l_val rfl rfl rfl (r_assign (v := .int .i64 0) rfl) ?_
  refine l_nil ?_
  refine c_meet (r := r) (σ := Int) (τ := Unit) (fun s => Law_told_int_j1 a0 a1 a3 s) [2, 10, 11, 12] (fun s t => [(2, .int .i64 s)]) (fun s t => []) (fun s t => []) (fun s t => True) ?_ ?_
  · refine c_seq ?_
    refine c_region ?_
    refine l_val rfl rfl rfl (r_move (v := .int .i64 a3) rfl) ?_
    refine l_val rfl rfl rfl (r_neq rfl rfl) ?_
    refine l_nil ?_
    refine c_if (b := (decide (a3 ≠ 0))) rfl (fun hb => ?_) (fun hb => ?_)
    · have H9 := cnd_t hb H; clear H
      refine c_region ?_
      refine l_val rfl rfl rfl (r_move (v := .int .i64 0) rfl) ?_
      refine l_val rfl rfl rfl (r_assign (v := .int .i64 0) rfl) ?_
      refine l_nil ?_
      refine c_roundK (0, (), 0) [] (by exact ⟨rfl, trivial⟩) (by repeat (first | exact Keeps.refl _ _ | exact Keeps.mix | refine Keeps.upd ?_ rfl | refine Keeps.mkE ?_ _ rfl | refine Keeps.mix2 ?_ rfl)) (by decide) rfl (by exact ⟨H9, trivial⟩) (Nat.lt_succ_self _)
    · have H10 := cnd_f hb H; clear H
      refine c_skip ?_
      refine c_roundK (a2, (), 0) [] (by exact ⟨rfl, trivial⟩) (by repeat (first | exact Keeps.refl _ _ | exact Keeps.mix | refine Keeps.upd ?_ rfl | refine Keeps.mkE ?_ _ rfl | refine Keeps.mix2 ?_ rfl)) (by decide) rfl (by exact ⟨H10, trivial⟩) (Nat.lt_succ_self _)
  · rintro x2 _ gg H6 _
    replace H6 : Law_told_int_j1 a0 a1 a3 x2 = some r := H6
    refine c_tidyJ [(2, .int .i64 x2)] [] [] rfl rfl rfl ?_
    refine c_seq ?_
    refine c_region ?_
    refine l_val rfl rfl rfl (r_move (v := .int .i64 a0) rfl) ?_
    refine l_val rfl rfl rfl (r_move (v := .int .i64 x2) rfl) ?_
    refine l_val rfl rfl rfl (r_eql rfl rfl) ?_
    refine l_val rfl rfl rfl (r_move (v := .bool (decide (a0 = x2))) rfl) ?_
    refine split (fun hb => ?_) (fun hb => ?_)
    · have H7 := cnd_t hb H6; clear H6
      refine l_val rfl rfl rfl (r_move (v := .int .i64 a1) rfl) ?_
      refine l_val rfl rfl rfl (r_move (v := .int .i64 a3) rfl) ?_
      refine l_val rfl rfl rfl (r_eql rfl rfl) ?_
      refine l_val rfl rfl rfl (r_pickT (v := .bool (decide (a1 = a3))) rfl rfl) ?_
      refine l_val rfl rfl rfl (r_assign (v := .bool (decide (a1 = a3))) rfl) ?_
      refine l_nil ?_
      refine c_ret ?_
      obtain rfl := Option.some.inj H7
      refine ret1 (v := .bool (decide (a1 = a3))) rfl rfl (fin rfl)
    · have H8 := cnd_f hb H6; clear H6
      refine l_passed rfl rfl rfl ?_
      refine l_passed rfl rfl rfl ?_
      refine l_passed rfl rfl rfl ?_
      refine l_val rfl rfl rfl (r_pickF (v := .bool false) rfl rfl) ?_
      refine l_val rfl rfl rfl (r_assign (v := .bool false) rfl) ?_
      refine l_nil ?_
      refine c_ret ?_
      obtain rfl := Option.some.inj H8
      refine ret1 (v := .bool false) rfl rfl (fin rfl)
theorem k20 {a0 : (Nat → Int)} {a1 : Int} {a2 : (Nat → Int)} {a3 : Int} {r : Bool} (H : Law_told_face_Vec a0 a1 a2 a3 = some r) : Ret Try.prog 20 [.agg #[.int .i64 (a0 0), .int .i64 (a0 1), .int .i64 (a0 2), .int .i64 (a0 3), .int .i64 (a0 4), .int .i64 (a0 5), .int .i64 (a0 6), .int .i64 (a0 7), .int .i64 (a0 8), .int .i64 (a0 9), .int .i64 (a0 10), .int .i64 (a0 11)], .int .i64 a1, .agg #[.int .i64 (a2 0), .int .i64 (a2 1), .int .i64 (a2 2), .int .i64 (a2 3), .int .i64 (a2 4), .int .i64 (a2 5), .int .i64 (a2 6), .int .i64 (a2 7), .int .i64 (a2 8), .int .i64 (a2 9), .int .i64 (a2 10), .int .i64 (a2 11)], .int .i64 a3] (.bool r) := by
  refine enterRet (n := 21) Try.func20 rfl rfl rfl (fun wd => ?_)
  refine c_seq ?_
  refine c_region ?_
  refine l_box (cs := [.int .i64 (a0 0), .int .i64 (a0 1), .int .i64 (a0 2), .int .i64 (a0 3), .int .i64 (a0 4), .int .i64 (a0 5), .int .i64 (a0 6), .int .i64 (a0 7), .int .i64 (a0 8), .int .i64 (a0 9), .int .i64 (a0 10), .int .i64 (a0 11)]) rfl rfl rfl rfl (fun b3 => ?_)
  refine l_box (cs := [.int .i64 (a2 0), .int .i64 (a2 1), .int .i64 (a2 2), .int .i64 (a2 3), .int .i64 (a2 4), .int .i64 (a2 5), .int .i64 (a2 6), .int .i64 (a2 7), .int .i64 (a2 8), .int .i64 (a2 9), .int .i64 (a2 10), .int .i64 (a2 11)]) rfl rfl rfl rfl (fun b4 => ?_)
  refine l_val rfl rfl rfl (r_assign (v := .bool false) rfl) ?_
  refine l_nil ?_
  refine c_seq ?_
  refine c_region ?_
  refine l_alloc (cs := [.int .i64 ((fun _ => 0) 0), .int .i64 ((fun _ => 0) 1), .int .i64 ((fun _ => 0) 2), .int .i64 ((fun _ => 0) 3), .int .i64 ((fun _ => 0) 4), .int .i64 ((fun _ => 0) 5), .int .i64 ((fun _ => 0) 6), .int .i64 ((fun _ => 0) 7), .int .i64 ((fun _ => 0) 8), .int .i64 ((fun _ => 0) 9), .int .i64 ((fun _ => 0) 10), .int .i64 ((fun _ => 0) 11)]) Try.zeroValue23 rfl rfl rfl (fun b5 => ?_)
  refine l_nil ?_
  refine c_meet (r := r) (σ := (Nat → Int)) (τ := Unit) (fun s => Law_told_face_Vec_j1 a0 a1 a3 s) [10, 11, 12] (fun s t => []) (fun s t => [(1, cellsC b4 [.int .i64 (s 0), .int .i64 (s 1), .int .i64 (s 2), .int .i64 (s 3), .int .i64 (s 4), .int .i64 (s 5), .int .i64 (s 6), .int .i64 (s 7), .int .i64 (s 8), .int .i64 (s 9), .int .i64 (s 10), .int .i64 (s 11)] 23)]) (fun s t => []) (fun s t => True) ?_ ?_
  · refine c_seq ?_
    refine c_region ?_
    refine l_val rfl rfl rfl (r_move (v := .int .i64 a3) rfl) ?_
    refine l_val rfl rfl rfl (r_neq rfl rfl) ?_
    refine l_nil ?_
    refine c_if (b := (decide (a3 ≠ 0))) rfl (fun hb => ?_) (fun hb => ?_)
    · have H9 := cnd_t hb H; clear H
      refine c_region ?_
      refine l_loadN (i := 2) (vs := [.int .i64 ((fun _ => 0) 0), .int .i64 ((fun _ => 0) 1), .int .i64 ((fun _ => 0) 2), .int .i64 ((fun _ => 0) 3), .int .i64 ((fun _ => 0) 4), .int .i64 ((fun _ => 0) 5), .int .i64 ((fun _ => 0) 6), .int .i64 ((fun _ => 0) 7), .int .i64 ((fun _ => 0) 8), .int .i64 ((fun _ => 0) 9), .int .i64 ((fun _ => 0) 10), .int .i64 ((fun _ => 0) 11)]) Try.isAgg23 Try.sizeOf23 rfl rfl rfl rfl rfl ?_
      refine l_store (i := 1) (vs := [.int .i64 ((fun _ => 0) 0), .int .i64 ((fun _ => 0) 1), .int .i64 ((fun _ => 0) 2), .int .i64 ((fun _ => 0) 3), .int .i64 ((fun _ => 0) 4), .int .i64 ((fun _ => 0) 5), .int .i64 ((fun _ => 0) 6), .int .i64 ((fun _ => 0) 7), .int .i64 ((fun _ => 0) 8), .int .i64 ((fun _ => 0) 9), .int .i64 ((fun _ => 0) 10), .int .i64 ((fun _ => 0) 11)]) (cs' := [.int .i64 ((fun _ => 0) 0), .int .i64 ((fun _ => 0) 1), .int .i64 ((fun _ => 0) 2), .int .i64 ((fun _ => 0) 3), .int .i64 ((fun _ => 0) 4), .int .i64 ((fun _ => 0) 5), .int .i64 ((fun _ => 0) 6), .int .i64 ((fun _ => 0) 7), .int .i64 ((fun _ => 0) 8), .int .i64 ((fun _ => 0) 9), .int .i64 ((fun _ => 0) 10), .int .i64 ((fun _ => 0) 11)]) Try.sizeOf23 rfl rfl rfl rfl rfl rfl rfl rfl rfl ?_
      refine l_nil ?_
      refine c_roundK ((fun _ => 0), (), 0) [0, 1, 2] (by exact trivial) (by repeat (first | exact Keeps.refl _ _ | exact Keeps.mix | refine Keeps.upd ?_ rfl | refine Keeps.mkE ?_ _ rfl | refine Keeps.mix2 ?_ rfl)) (by decide) rfl (by exact ⟨H9, trivial⟩) (Nat.lt_succ_self _)
    · have H10 := cnd_f hb H; clear H
      refine c_skip ?_
      refine c_roundK (a2, (), 0) [0, 1, 2] (by exact trivial) (by repeat (first | exact Keeps.refl _ _ | exact Keeps.mix | refine Keeps.upd ?_ rfl | refine Keeps.mkE ?_ _ rfl | refine Keeps.mix2 ?_ rfl)) (by decide) rfl (by exact ⟨H10, trivial⟩) (Nat.lt_succ_self _)
  · rintro m _ gg H6 _
    replace H6 : Law_told_face_Vec_j1 a0 a1 a3 m = some r := H6
    refine c_tidyJ [] [(1, cellsC b4 [.int .i64 (m 0), .int .i64 (m 1), .int .i64 (m 2), .int .i64 (m 3), .int .i64 (m 4), .int .i64 (m 5), .int .i64 (m 6), .int .i64 (m 7), .int .i64 (m 8), .int .i64 (m 9), .int .i64 (m 10), .int .i64 (m 11)] 23)] [] rfl rfl rfl ?_
    refine c_seq ?_
    refine c_region ?_
    refine l_loadN (i := 0) (vs := [.int .i64 (a0 0), .int .i64 (a0 1), .int .i64 (a0 2), .int .i64 (a0 3), .int .i64 (a0 4), .int .i64 (a0 5), .int .i64 (a0 6), .int .i64 (a0 7), .int .i64 (a0 8), .int .i64 (a0 9), .int .i64 (a0 10), .int .i64 (a0 11)]) Try.isAgg23 Try.sizeOf23 rfl rfl rfl rfl rfl ?_
    refine l_loadN (i := 1) (vs := [.int .i64 (m 0), .int .i64 (m 1), .int .i64 (m 2), .int .i64 (m 3), .int .i64 (m 4), .int .i64 (m 5), .int .i64 (m 6), .int .i64 (m 7), .int .i64 (m 8), .int .i64 (m 9), .int .i64 (m 10), .int .i64 (m 11)]) Try.isAgg23 Try.sizeOf23 rfl rfl rfl rfl rfl ?_
    refine l_val rfl rfl rfl (r_eqlA (xs := #[.int .i64 (a0 0), .int .i64 (a0 1), .int .i64 (a0 2), .int .i64 (a0 3), .int .i64 (a0 4), .int .i64 (a0 5), .int .i64 (a0 6), .int .i64 (a0 7), .int .i64 (a0 8), .int .i64 (a0 9), .int .i64 (a0 10), .int .i64 (a0 11)]) (ys := #[.int .i64 (m 0), .int .i64 (m 1), .int .i64 (m 2), .int .i64 (m 3), .int .i64 (m 4), .int .i64 (m 5), .int .i64 (m 6), .int .i64 (m 7), .int .i64 (m 8), .int .i64 (m 9), .int .i64 (m 10), .int .i64 (m 11)]) Try.eqGuardType23 (fun w => run_eq_face_Vec w a0 m) rfl rfl) ?_
    refine l_val rfl rfl rfl (r_move (v := .bool (eq_face_Vec a0 m)) rfl) ?_
    refine split (fun hb => ?_) (fun hb => ?_)
    · have H7 := cnd_t hb H6; clear H6
      refine l_val rfl rfl rfl (r_move (v := .int .i64 a1) rfl) ?_
      refine l_val rfl rfl rfl (r_move (v := .int .i64 a3) rfl) ?_
      refine l_val rfl rfl rfl (r_eql rfl rfl) ?_
      refine l_val rfl rfl rfl (r_pickT (v := .bool (decide (a1 = a3))) rfl rfl) ?_
      refine l_val rfl rfl rfl (r_assign (v := .bool (decide (a1 = a3))) rfl) ?_
      refine l_nil ?_
      refine c_ret ?_
      obtain rfl := Option.some.inj H7
      refine ret1 (v := .bool (decide (a1 = a3))) rfl rfl (fin rfl)
    · have H8 := cnd_f hb H6; clear H6
      refine l_passed rfl rfl rfl ?_
      refine l_passed rfl rfl rfl ?_
      refine l_passed rfl rfl rfl ?_
      refine l_val rfl rfl rfl (r_pickF (v := .bool false) rfl rfl) ?_
      refine l_val rfl rfl rfl (r_assign (v := .bool false) rfl) ?_
      refine l_nil ?_
      refine c_ret ?_
      obtain rfl := Option.some.inj H8
      refine ret1 (v := .bool false) rfl rfl (fin rfl)
theorem k21 {a0 : (List T_face_Likeness)} {v0 : Value} {r : Int} {w : World} {h : Heap} (hw : Know h w noS) (f0 : FrS h 14 v0 (a0.map e_face_Likeness)) (H : face_Check a0 = some r) : Does Try.prog 21 (List.toArray [v0]) w (fun v w' => v = (.int .i64 r) ∧ Grow w w') := by
  refine enter (n := 44) Try.func21 rfl rfl rfl noS [] (Sat.nil _ _) ?_
  refine c_seq ?_
  refine c_region ?_
  refine l_val rfl rfl rfl (r_assign (v := .int .i64 0) rfl) ?_
  refine l_nil ?_
  refine c_seq ?_
  refine c_seq ?_
  refine c_region ?_
  refine l_val rfl rfl rfl (r_move (v := v0) rfl) ?_
  refine l_val rfl rfl rfl (r_lenF Try.underlying25 rfl f0 rfl) ?_
  refine l_val rfl rfl rfl (r_gtr rfl rfl) ?_
  refine l_nil ?_
  refine c_if (b := (decide (300 < (a0.length : Int)))) rfl (fun hb => ?_) (fun hb => ?_)
  · have H24 := cnd_t hb H; clear H
    refine c_seq ?_
    refine c_region ?_
    refine l_val rfl rfl rfl (r_assign (v := .int .i64 4) rfl) ?_
    refine l_nil ?_
    refine c_ret ?_
    obtain rfl := Option.some.inj H24
    refine ret1 (v := .int .i64 4) rfl rfl (fin rfl)
  · have H25 := cnd_f hb H; clear H
    refine c_skip ?_
    refine c_seq ?_
    refine c_seq ?_
    refine c_region ?_
    refine l_val rfl rfl rfl (r_move (v := v0) rfl) ?_
    refine l_val rfl rfl rfl (r_lenF Try.underlying25 rfl f0 rfl) ?_
    refine l_val rfl rfl rfl (r_move (v := .int .i64 0) rfl) ?_
    refine l_nil ?_
    refine c_block ?_
    refine c_fix (σ := Int) (τ := Unit) (fun next1 s => face_Check_l1 a0 next1 s) [2, 3, 4, 5, 11, 12, 13, 14, 15, 16, 17, 18, 19, 20, 21, 22, 23, 24, 25, 26, 27, 28, 29, 30, 31, 32, 33, 34, 35, 36, 37, 38, 39, 40, 41, 42, 43] (fun s t => [(11, .int .i64 s)]) (fun s t => []) (fun s t => True) 0 () H25 (by exact trivial) (by exact ⟨rfl, trivial⟩) rfl ?_
    rintro x11_2 _ m1 gg H26 _
    clear H25
    replace H26 : face_Check_l1 a0 (it (fun next1 s => face_Check_l1 a0 next1 s) m1) x11_2 = some r := H26
    generalize hn1 : it (fun next1 s => face_Check_l1 a0 next1 s) m1 = next1 at H26
    refine c_tidyF [(11, .int .i64 x11_2)] [] rfl rfl ?_
    refine c_seq ?_
    refine c_region ?_
    refine l_val rfl rfl rfl (r_lss rfl rfl) ?_
    refine l_nil ?_
    refine c_seq ?_
    refine c_if (b := (decide (x11_2 < (a0.length : Int)))) rfl (fun hb => ?_) (fun hb => ?_)
    · have H27 := cnd_t hb H26; clear H26
      refine c_skip ?_
      refine c_seq ?_
      refine c_block ?_
      refine c_seq ?_
      refine c_region ?_
      refine l_val rfl rfl rfl (r_move (v := .int .i64 x11_2) rfl) ?_
      obtain ⟨t14, h_t14, H28⟩ := bnd_some H27; clear H27
      refine l_val rfl rfl rfl (r_indexF Try.underlying25 Try.sizeOf131 rfl rfl f0 h_t14) ?_
      refine l_read (fun w hF hS => run_loadGN (j := 0) (vs := [.int .i64 t14.Id, .int .i64 t14.Photo, .int .i64 (t14.Vec 0), .int .i64 (t14.Vec 1), .int .i64 (t14.Vec 2), .int .i64 (t14.Vec 3), .int .i64 (t14.Vec 4), .int .i64 (t14.Vec 5), .int .i64 (t14.Vec 6), .int .i64 (t14.Vec 7), .int .i64 (t14.Vec 8), .int .i64 (t14.Vec 9), .int .i64 (t14.Vec 10), .int .i64 (t14.Vec 11)]) Try.isAgg131 Try.sizeOf131 rfl rfl (f0.row (hw.now hF)) h_t14 rfl) rfl rfl rfl ?_
      refine l_alloc (cs := [.int .i64 0, .int .i64 0, .int .i64 ((fun _ => 0) 0), .int .i64 ((fun _ => 0) 1), .int .i64 ((fun _ => 0) 2), .int .i64 ((fun _ => 0) 3), .int .i64 ((fun _ => 0) 4), .int .i64 ((fun _ => 0) 5), .int .i64 ((fun _ => 0) 6), .int .i64 ((fun _ => 0) 7), .int .i64 ((fun _ => 0) 8), .int .i64 ((fun _ => 0) 9), .int .i64 ((fun _ => 0) 10), .int .i64 ((fun _ => 0) 11)]) Try.zeroValue131 rfl rfl rfl (fun b1 => ?_)
      refine l_val rfl rfl rfl (r_assign (v := .int .i64 x11_2) rfl) ?_
      refine l_store (i := 0) (vs := [.int .i64 t14.Id, .int .i64 t14.Photo, .int .i64 (t14.Vec 0), .int .i64 (t14.Vec 1), .int .i64 (t14.Vec 2), .int .i64 (t14.Vec 3), .int .i64 (t14.Vec 4), .int .i64 (t14.Vec 5), .int .i64 (t14.Vec 6), .int .i64 (t14.Vec 7), .int .i64 (t14.Vec 8), .int .i64 (t14.Vec 9), .int .i64 (t14.Vec 10), .int .i64 (t14.Vec 11)]) (cs' := [.int .i64 t14.Id, .int .i64 t14.Photo, .int .i64 (t14.Vec 0), .int .i64 (t14.Vec 1), .int .i64 (t14.Vec 2), .int .i64 (t14.Vec 3), .int .i64 (t14.Vec 4), .int .i64 (t14.Vec 5), .int .i64 (t14.Vec 6), .int .i64 (t14.Vec 7), .int .i64 (t14.Vec 8), .int .i64 (t14.Vec 9), .int .i64 (t14.Vec 10), .int .i64 (t14.Vec 11)]) Try.sizeOf131 rfl rfl rfl rfl rfl rfl rfl rfl rfl ?_
      refine l_nil ?_
      refine c_seq ?_
      refine c_seq ?_
      refine c_region ?_
      refine l_val rfl rfl rfl (r_field Try.runUnderlying131 rfl Try.sizeOf3 rfl rfl) ?_
      refine l_load1 (i := 0) (v := .int .i64 t14.Id) Try.isAgg3 rfl rfl rfl rfl rfl ?_
      obtain ⟨t18, h_t18, H29⟩ := bnd_some H28; clear H28
      refine l_call (k82 h_t18) Try.call82 rfl rfl rfl ?_
      refine l_val rfl rfl rfl (r_move (v := .bool t18) rfl) ?_
      refine split (fun hb => ?_) (fun hb => ?_)
      · have H30 := cnd_t hb H29; clear H29
        refine l_passed rfl rfl rfl ?_
        refine l_passed rfl rfl rfl ?_
        refine l_passed rfl rfl rfl ?_
        refine l_val rfl rfl rfl (r_pickT (v := .bool true) rfl rfl) ?_
        refine l_nil ?_
        refine c_true rfl ?_
        refine c_seq ?_
        refine c_region ?_
        refine l_val rfl rfl rfl (r_assign (v := .int .i64 2) rfl) ?_
        refine l_nil ?_
        refine c_ret ?_
        obtain rfl := Option.some.inj H30
        refine ret1 (v := .int .i64 2) rfl rfl (fin rfl)
      · have H31 := cnd_f hb H29; clear H29
        refine l_val rfl rfl rfl (r_field Try.runUnderlying131 rfl Try.sizeOf3 rfl rfl) ?_
        refine l_load1 (i := 0) (v := .int .i64 t14.Photo) Try.isAgg3 rfl rfl rfl rfl rfl ?_
        obtain ⟨t22, h_t22, H32⟩ := bnd_some H31; clear H31
        refine l_call (k82 h_t22) Try.call82 rfl rfl rfl ?_
        refine l_val rfl rfl rfl (r_pickF (v := .bool t22) rfl rfl) ?_
        refine l_nil ?_
        refine c_if (b := t22) rfl (fun hb => ?_) (fun hb => ?_)
        · have H33 := cnd_t hb H32; clear H32
          refine c_seq ?_
          refine c_region ?_
          refine l_val rfl rfl rfl (r_assign (v := .int .i64 2) rfl) ?_
          refine l_nil ?_
          refine c_ret ?_
          obtain rfl := Option.some.inj H33
          refine ret1 (v := .int .i64 2) rfl rfl (fin rfl)
        · have H34 := cnd_f hb H32; clear H32
          refine c_skip ?_
          refine c_meet (r := r) (σ := Unit) (τ := Unit) (fun s => face_Check_j2 x11_2 next1 t14) [2, 24, 25, 26, 27, 28, 29, 30, 31, 32, 33, 34, 35, 36] (fun s t => []) (fun s t => []) (fun s t => []) (fun s t => True) ?_ ?_
          · refine c_seq ?_
            exact c_regionD (Kd.p :: Kd.p :: Kd.p :: Kd.p :: Kd.d [0] _ :: Kd.p :: Kd.p :: Kd.p :: Kd.p :: Kd.p :: Kd.d [] _ :: Kd.p :: Kd.p :: []) 0 mixed (by
              refine d_val rfl rfl (r_move (v := .int .i64 x11_2) rfl) ?_
              refine d_val rfl rfl (r_gtr rfl rfl) ?_
              refine d_val rfl rfl (r_move (v := .bool (decide (0 < x11_2))) rfl) ?_
              refine splitS (fun hb => ?_) (fun hb => ?_)
              · have H40 := cnd_t hb H34
                refine d_val rfl rfl (r_field Try.runUnderlying131 rfl Try.sizeOf3 rfl rfl) ?_
                refine d_load1 (i := 0) (v := .int .i64 t14.Id) Try.isAgg3 rfl rfl rfl rfl ?_
                refine d_val rfl rfl (r_move (v := v0) rfl) ?_
                refine d_val rfl rfl (r_move (v := .int .i64 x11_2) rfl) ?_
                have h_t31 := bnd_val H40
                have H41 := bnd_rest H40
                refine d_val rfl rfl (r_subG rfl rfl h_t31) ?_
                have h_t32 := bnd_val H41
                have H42 := bnd_rest H41
                refine d_val rfl rfl (r_indexF Try.underlying25 Try.sizeOf131 rfl rfl f0 h_t32) ?_
                refine d_val rfl rfl (r_fieldP Try.runUnderlying131 rfl Try.sizeOf3 rfl rfl (some_of_at f0 h_t32)) ?_
                refine d_read (fun w hF => run_loadG1 (j := 0) (v := .int .i64 (val (gAt a0 (val (gI (x11_2 - 1))))).Id) Try.isAgg3 rfl rfl (f0.row (hw.now hF)) h_t32 rfl) rfl rfl ?_
                refine d_val rfl rfl (r_leq rfl rfl) ?_
                refine d_val rfl rfl (r_pickT (v := .bool (decide (t14.Id ≤ (val (gAt a0 (val (gI (x11_2 - 1))))).Id))) rfl rfl) ?_
                refine d_nil ?_
                refine c_if (b := (decide (t14.Id ≤ (val (gAt a0 (val (gI (x11_2 - 1))))).Id))) rfl (fun hb => ?_) (fun hb => ?_)
                · have H43 := cnd_t hb H42; clear H42
                  refine c_seq ?_
                  refine c_region ?_
                  refine l_val rfl rfl rfl (r_assign (v := .int .i64 5) rfl) ?_
                  refine l_nil ?_
                  refine c_ret ?_
                  obtain rfl := Option.some.inj H43
                  refine ret1 (v := .int .i64 5) rfl rfl (fin rfl)
                · have H44 := cnd_f hb H42; clear H42
                  refine c_skip ?_
                  refine c_roundK ((), (), 0) [0] (by exact trivial) (by repeat (first | exact Keeps.refl _ _ | exact Keeps.mix | refine Keeps.upd ?_ rfl | refine Keeps.mkE ?_ _ rfl | refine Keeps.mix2 ?_ rfl)) (by decide) rfl (by exact ⟨H44, trivial⟩) (Nat.lt_succ_self _)
              · have H45 := cnd_f hb H34
                refine d_pass rfl rfl ?_
                refine d_pass rfl rfl ?_
                refine d_pass rfl rfl ?_
                refine d_pass rfl rfl ?_
                refine d_pass rfl rfl ?_
                refine d_pass rfl rfl ?_
                refine d_pass rfl rfl ?_
                refine d_pass rfl rfl ?_
                refine d_pass rfl rfl ?_
                refine d_val rfl rfl (r_pickF (v := .bool false) rfl rfl) ?_
                refine d_nil ?_
                refine c_false rfl ?_
                refine c_skip ?_
                refine c_roundK ((), (), 0) [0] (by exact trivial) (by repeat (first | exact Keeps.refl _ _ | exact Keeps.mix | refine Keeps.upd ?_ rfl | refine Keeps.mkE ?_ _ rfl | refine Keeps.mix2 ?_ rfl)) (by decide) rfl (by exact ⟨H45, trivial⟩) (Nat.lt_succ_self _)
              ) (by kernel_rfl)
          · rintro _ _ gg H35 _
            replace H35 : face_Check_j2 x11_2 next1 t14 = some r := H35
            refine c_tidyJ [] [] [] rfl rfl rfl ?_
            refine c_seq ?_
            refine c_region ?_
            refine l_val rfl rfl rfl (r_field Try.runUnderlying131 rfl Try.sizeOf23 rfl rfl) ?_
            refine l_loadN (i := 0) (vs := [.int .i64 (t14.Vec 0), .int .i64 (t14.Vec 1), .int .i64 (t14.Vec 2), .int .i64 (t14.Vec 3), .int .i64 (t14.Vec 4), .int .i64 (t14.Vec 5), .int .i64 (t14.Vec 6), .int .i64 (t14.Vec 7), .int .i64 (t14.Vec 8), .int .i64 (t14.Vec 9), .int .i64 (t14.Vec 10), .int .i64 (t14.Vec 11)]) Try.isAgg23 Try.sizeOf23 rfl rfl rfl rfl rfl ?_
            obtain ⟨t39, h_t39, H36⟩ := bnd_some H35; clear H35
            refine l_call (k18 h_t39) Try.call18 rfl rfl rfl ?_
            refine l_val rfl rfl rfl (r_assign (v := .int .i64 t39) rfl) ?_
            refine l_nil ?_
            refine c_seq ?_
            refine c_region ?_
            refine l_val rfl rfl rfl (r_move (v := .int .i64 t39) rfl) ?_
            refine l_val rfl rfl rfl (r_neq rfl rfl) ?_
            refine l_nil ?_
            refine c_if (b := (decide (t39 ≠ 0))) rfl (fun hb => ?_) (fun hb => ?_)
            · have H37 := cnd_t hb H36; clear H36
              refine c_seq ?_
              refine c_region ?_
              refine l_val rfl rfl rfl (r_move (v := .int .i64 t39) rfl) ?_
              refine l_val rfl rfl rfl (r_assign (v := .int .i64 t39) rfl) ?_
              refine l_nil ?_
              refine c_ret ?_
              obtain rfl := Option.some.inj H37
              refine ret1 (v := .int .i64 t39) rfl rfl (fin rfl)
            · have H38 := cnd_f hb H36; clear H36
              refine c_skip ?_
              refine c_region ?_
              obtain ⟨t43, h_t43, H39⟩ := bnd_some H38; clear H38
              refine l_val rfl rfl rfl (r_addG rfl rfl h_t43) ?_
              refine l_val rfl rfl rfl (r_move (v := .int .i64 t43) rfl) ?_
              refine l_nil ?_
              refine c_roundK (t43, (), m1) [] (by exact ⟨rfl, trivial⟩) (by repeat (first | exact Keeps.refl _ _ | exact Keeps.mix | refine Keeps.upd ?_ rfl | refine Keeps.mkE ?_ _ rfl | refine Keeps.mix2 ?_ rfl)) (by decide) rfl (by exact ⟨(by subst hn1; exact H39), trivial⟩) (Nat.lt_succ_self _)
    · have H46 := cnd_f hb H26; clear H26
      refine c_exit ?_
      refine c_seq ?_
      refine c_region ?_
      refine l_val rfl rfl rfl (r_assign (v := .int .i64 0) rfl) ?_
      refine l_nil ?_
      refine c_ret ?_
      obtain rfl := Option.some.inj H46
      refine ret1 (v := .int .i64 0) rfl rfl (fin rfl)
theorem k83 {a0 : Int} {r : Bool} (H : R_idOk a0 = some r) : Ret Try.prog 83 [.int .i64 a0] (.bool r) := by
  refine enterRet (n := 9) Try.func83 rfl rfl rfl (fun wd => ?_)
  refine c_seq ?_
  refine c_region ?_
  refine l_val rfl rfl rfl (r_assign (v := .bool false) rfl) ?_
  refine l_nil ?_
  refine c_seq ?_
  refine c_region ?_
  refine l_val rfl rfl rfl (r_move (v := .int .i64 a0) rfl) ?_
  refine l_val rfl rfl rfl (r_geq rfl rfl) ?_
  refine l_val rfl rfl rfl (r_move (v := .bool (decide (1 ≤ a0))) rfl) ?_
  refine split (fun hb => ?_) (fun hb => ?_)
  · have H3 := cnd_t hb H; clear H
    refine l_val rfl rfl rfl (r_move (v := .int .i64 a0) rfl) ?_
    refine l_val rfl rfl rfl (r_leq rfl rfl) ?_
    refine l_val rfl rfl rfl (r_pickT (v := .bool (decide (a0 ≤ 1000000))) rfl rfl) ?_
    refine l_val rfl rfl rfl (r_assign (v := .bool (decide (a0 ≤ 1000000))) rfl) ?_
    refine l_nil ?_
    refine c_ret ?_
    obtain rfl := Option.some.inj H3
    refine ret1 (v := .bool (decide (a0 ≤ 1000000))) rfl rfl (fin rfl)
  · have H4 := cnd_f hb H; clear H
    refine l_passed rfl rfl rfl ?_
    refine l_passed rfl rfl rfl ?_
    refine l_val rfl rfl rfl (r_pickF (v := .bool false) rfl rfl) ?_
    refine l_val rfl rfl rfl (r_assign (v := .bool false) rfl) ?_
    refine l_nil ?_
    refine c_ret ?_
    obtain rfl := Option.some.inj H4
    refine ret1 (v := .bool false) rfl rfl (fin rfl)
theorem k22 {a0 : (List T_face_Likeness)} {v0 : Value} {r : Int} {w : World} {h : Heap} (hw : Know h w noS) (f0 : FrS h 14 v0 (a0.map e_face_Likeness)) (H : R_LikesFault a0 = some r) : Does Try.prog 22 (List.toArray [v0]) w (fun v w' => v = (.int .i64 r) ∧ Grow w w') := by
  refine enter (n := 48) Try.func22 rfl rfl rfl noS [] (Sat.nil _ _) ?_
  refine c_seq ?_
  refine c_region ?_
  refine l_val rfl rfl rfl (r_assign (v := .int .i64 0) rfl) ?_
  refine l_nil ?_
  refine c_seq ?_
  refine c_seq ?_
  refine c_region ?_
  refine l_val rfl rfl rfl (r_move (v := v0) rfl) ?_
  refine l_val rfl rfl rfl (r_lenF Try.underlying25 rfl f0 rfl) ?_
  refine l_val rfl rfl rfl (r_gtr rfl rfl) ?_
  refine l_nil ?_
  refine c_if (b := (decide (300 < (a0.length : Int)))) rfl (fun hb => ?_) (fun hb => ?_)
  · have H24 := cnd_t hb H; clear H
    refine c_seq ?_
    refine c_region ?_
    refine l_val rfl rfl rfl (r_assign (v := .int .i64 4) rfl) ?_
    refine l_nil ?_
    refine c_ret ?_
    obtain rfl := Option.some.inj H24
    refine ret1 (v := .int .i64 4) rfl rfl (fin rfl)
  · have H25 := cnd_f hb H; clear H
    refine c_skip ?_
    refine c_seq ?_
    refine c_seq ?_
    refine c_region ?_
    refine l_val rfl rfl rfl (r_move (v := v0) rfl) ?_
    refine l_val rfl rfl rfl (r_lenF Try.underlying25 rfl f0 rfl) ?_
    refine l_val rfl rfl rfl (r_move (v := .int .i64 0) rfl) ?_
    refine l_nil ?_
    refine c_block ?_
    refine c_fix (σ := Int) (τ := Unit) (fun next1 s => R_LikesFault_l1 a0 next1 s) [2, 3, 4, 5, 11, 12, 13, 14, 15, 16, 17, 18, 19, 20, 21, 22, 23, 24, 25, 26, 27, 28, 29, 30, 31, 32, 33, 34, 35, 36, 37, 38, 39, 40, 41, 42, 43, 44, 45, 46, 47] (fun s t => [(11, .int .i64 s)]) (fun s t => []) (fun s t => True) 0 () H25 (by exact trivial) (by exact ⟨rfl, trivial⟩) rfl ?_
    rintro x11_2 _ m1 gg H26 _
    clear H25
    replace H26 : R_LikesFault_l1 a0 (it (fun next1 s => R_LikesFault_l1 a0 next1 s) m1) x11_2 = some r := H26
    generalize hn1 : it (fun next1 s => R_LikesFault_l1 a0 next1 s) m1 = next1 at H26
    refine c_tidyF [(11, .int .i64 x11_2)] [] rfl rfl ?_
    refine c_seq ?_
    refine c_region ?_
    refine l_val rfl rfl rfl (r_lss rfl rfl) ?_
    refine l_nil ?_
    refine c_seq ?_
    refine c_if (b := (decide (x11_2 < (a0.length : Int)))) rfl (fun hb => ?_) (fun hb => ?_)
    · have H27 := cnd_t hb H26; clear H26
      refine c_skip ?_
      refine c_seq ?_
      refine c_block ?_
      refine c_seq ?_
      refine c_region ?_
      refine l_val rfl rfl rfl (r_move (v := .int .i64 x11_2) rfl) ?_
      obtain ⟨t14, h_t14, H28⟩ := bnd_some H27; clear H27
      refine l_val rfl rfl rfl (r_indexF Try.underlying25 Try.sizeOf131 rfl rfl f0 h_t14) ?_
      refine l_read (fun w hF hS => run_loadGN (j := 0) (vs := [.int .i64 t14.Id, .int .i64 t14.Photo, .int .i64 (t14.Vec 0), .int .i64 (t14.Vec 1), .int .i64 (t14.Vec 2), .int .i64 (t14.Vec 3), .int .i64 (t14.Vec 4), .int .i64 (t14.Vec 5), .int .i64 (t14.Vec 6), .int .i64 (t14.Vec 7), .int .i64 (t14.Vec 8), .int .i64 (t14.Vec 9), .int .i64 (t14.Vec 10), .int .i64 (t14.Vec 11)]) Try.isAgg131 Try.sizeOf131 rfl rfl (f0.row (hw.now hF)) h_t14 rfl) rfl rfl rfl ?_
      refine l_alloc (cs := [.int .i64 0, .int .i64 0, .int .i64 ((fun _ => 0) 0), .int .i64 ((fun _ => 0) 1), .int .i64 ((fun _ => 0) 2), .int .i64 ((fun _ => 0) 3), .int .i64 ((fun _ => 0) 4), .int .i64 ((fun _ => 0) 5), .int .i64 ((fun _ => 0) 6), .int .i64 ((fun _ => 0) 7), .int .i64 ((fun _ => 0) 8), .int .i64 ((fun _ => 0) 9), .int .i64 ((fun _ => 0) 10), .int .i64 ((fun _ => 0) 11)]) Try.zeroValue131 rfl rfl rfl (fun b1 => ?_)
      refine l_val rfl rfl rfl (r_assign (v := .int .i64 x11_2) rfl) ?_
      refine l_store (i := 0) (vs := [.int .i64 t14.Id, .int .i64 t14.Photo, .int .i64 (t14.Vec 0), .int .i64 (t14.Vec 1), .int .i64 (t14.Vec 2), .int .i64 (t14.Vec 3), .int .i64 (t14.Vec 4), .int .i64 (t14.Vec 5), .int .i64 (t14.Vec 6), .int .i64 (t14.Vec 7), .int .i64 (t14.Vec 8), .int .i64 (t14.Vec 9), .int .i64 (t14.Vec 10), .int .i64 (t14.Vec 11)]) (cs' := [.int .i64 t14.Id, .int .i64 t14.Photo, .int .i64 (t14.Vec 0), .int .i64 (t14.Vec 1), .int .i64 (t14.Vec 2), .int .i64 (t14.Vec 3), .int .i64 (t14.Vec 4), .int .i64 (t14.Vec 5), .int .i64 (t14.Vec 6), .int .i64 (t14.Vec 7), .int .i64 (t14.Vec 8), .int .i64 (t14.Vec 9), .int .i64 (t14.Vec 10), .int .i64 (t14.Vec 11)]) Try.sizeOf131 rfl rfl rfl rfl rfl rfl rfl rfl rfl ?_
      refine l_nil ?_
      refine c_meet (r := r) (σ := Bool × Bool) (τ := Unit) (fun s => R_LikesFault_j2 x11_2 next1 t14 s.1 s.2) [2, 16, 17, 18, 19, 20, 21, 22, 23, 24, 25, 26, 27, 28, 29, 30, 31, 32, 33, 34, 35, 36, 37, 38, 39, 40] (fun s t => [(22, .pointer (some ⟨b1, 1, none⟩)), (23, .int .i64 t14.Photo), (24, .bool s.1), (25, .bool s.2)]) (fun s t => []) (fun s t => []) (fun s t => True) ?_ ?_
      · refine c_block ?_
        refine c_seq ?_
        refine c_region ?_
        refine l_val rfl rfl rfl (r_field Try.runUnderlying131 rfl Try.sizeOf3 rfl rfl) ?_
        refine l_load1 (i := 0) (v := .int .i64 t14.Id) Try.isAgg3 rfl rfl rfl rfl rfl ?_
        obtain ⟨t19, h_t19, H34⟩ := bnd_some H28; clear H28
        refine l_call (k83 h_t19) Try.call83 rfl rfl rfl ?_
        refine l_val rfl rfl rfl (r_not rfl) ?_
        refine l_val rfl rfl rfl (r_move (v := .bool (!t19)) rfl) ?_
        refine split (fun hb => ?_) (fun hb => ?_)
        · have H35 := cnd_t hb H34; clear H34
          refine l_passed rfl rfl rfl ?_
          refine l_passed rfl rfl rfl ?_
          refine l_passed rfl rfl rfl ?_
          refine l_passed rfl rfl rfl ?_
          refine l_val rfl rfl rfl (r_pickT (v := .bool true) rfl rfl) ?_
          refine l_val rfl rfl rfl (r_assign (v := .bool true) rfl) ?_
          refine l_nil ?_
          refine c_true rfl ?_
          refine c_seq ?_
          refine c_region ?_
          refine l_val rfl rfl rfl (r_assign (v := .int .i64 2) rfl) ?_
          refine l_nil ?_
          refine c_ret ?_
          obtain rfl := Option.some.inj H35
          refine ret1 (v := .int .i64 2) rfl rfl (fin rfl)
        · have H36 := cnd_f hb H34; clear H34
          refine l_val rfl rfl rfl (r_field Try.runUnderlying131 rfl Try.sizeOf3 rfl rfl) ?_
          refine l_load1 (i := 0) (v := .int .i64 t14.Photo) Try.isAgg3 rfl rfl rfl rfl rfl ?_
          obtain ⟨t24, h_t24, H37⟩ := bnd_some H36; clear H36
          refine l_call (k83 h_t24) Try.call83 rfl rfl rfl ?_
          refine l_val rfl rfl rfl (r_not rfl) ?_
          refine l_val rfl rfl rfl (r_pickF (v := .bool (!t24)) rfl rfl) ?_
          refine l_val rfl rfl rfl (r_assign (v := .bool (!t24)) rfl) ?_
          refine l_nil ?_
          refine c_if (b := (!t24)) rfl (fun hb => ?_) (fun hb => ?_)
          · have H38 := cnd_t hb H37; clear H37
            refine c_seq ?_
            refine c_region ?_
            refine l_val rfl rfl rfl (r_assign (v := .int .i64 2) rfl) ?_
            refine l_nil ?_
            refine c_ret ?_
            obtain rfl := Option.some.inj H38
            refine ret1 (v := .int .i64 2) rfl rfl (fin rfl)
          · have H39 := cnd_f hb H37; clear H37
            refine c_seq ?_
            exact c_regionD (Kd.p :: Kd.p :: Kd.p :: Kd.p :: Kd.d [0] _ :: Kd.p :: Kd.p :: Kd.p :: Kd.p :: Kd.p :: Kd.d [] _ :: Kd.p :: Kd.p :: Kd.p :: []) 0 mixed (by
              refine d_val rfl rfl (r_move (v := .int .i64 x11_2) rfl) ?_
              refine d_val rfl rfl (r_gtr rfl rfl) ?_
              refine d_val rfl rfl (r_move (v := .bool (decide (0 < x11_2))) rfl) ?_
              refine splitS (fun hb => ?_) (fun hb => ?_)
              · have H40 := cnd_t hb H39
                refine d_val rfl rfl (r_field Try.runUnderlying131 rfl Try.sizeOf3 rfl rfl) ?_
                refine d_load1 (i := 0) (v := .int .i64 t14.Id) Try.isAgg3 rfl rfl rfl rfl ?_
                refine d_val rfl rfl (r_move (v := v0) rfl) ?_
                refine d_val rfl rfl (r_move (v := .int .i64 x11_2) rfl) ?_
                have h_t35 := bnd_val H40
                have H41 := bnd_rest H40
                refine d_val rfl rfl (r_subG rfl rfl h_t35) ?_
                have h_t36 := bnd_val H41
                have H42 := bnd_rest H41
                refine d_val rfl rfl (r_indexF Try.underlying25 Try.sizeOf131 rfl rfl f0 h_t36) ?_
                refine d_val rfl rfl (r_fieldP Try.runUnderlying131 rfl Try.sizeOf3 rfl rfl (some_of_at f0 h_t36)) ?_
                refine d_read (fun w hF => run_loadG1 (j := 0) (v := .int .i64 (val (gAt a0 (val (gI (x11_2 - 1))))).Id) Try.isAgg3 rfl rfl (f0.row (hw.now hF)) h_t36 rfl) rfl rfl ?_
                refine d_val rfl rfl (r_leq rfl rfl) ?_
                refine d_val rfl rfl (r_pickT (v := .bool (decide (t14.Id ≤ (val (gAt a0 (val (gI (x11_2 - 1))))).Id))) rfl rfl) ?_
                refine d_val rfl rfl (r_assign (v := .bool (decide (t14.Id ≤ (val (gAt a0 (val (gI (x11_2 - 1))))).Id))) rfl) ?_
                refine d_nil ?_
                refine c_if (b := (decide (t14.Id ≤ (val (gAt a0 (val (gI (x11_2 - 1))))).Id))) rfl (fun hb => ?_) (fun hb => ?_)
                · have H43 := cnd_t hb H42; clear H42
                  refine c_seq ?_
                  refine c_region ?_
                  refine l_val rfl rfl rfl (r_assign (v := .int .i64 5) rfl) ?_
                  refine l_nil ?_
                  refine c_ret ?_
                  obtain rfl := Option.some.inj H43
                  refine ret1 (v := .int .i64 5) rfl rfl (fin rfl)
                · have H44 := cnd_f hb H42; clear H42
                  refine c_skip ?_
                  refine c_roundK ((t24, (!t24)), (), 0) [0] (by exact ⟨rfl, rfl, rfl, rfl, trivial⟩) (by repeat (first | exact Keeps.refl _ _ | exact Keeps.mix | refine Keeps.upd ?_ rfl | refine Keeps.mkE ?_ _ rfl | refine Keeps.mix2 ?_ rfl)) (by decide) rfl (by exact ⟨H44, trivial⟩) (Nat.lt_succ_self _)
              · have H45 := cnd_f hb H39
                refine d_pass rfl rfl ?_
                refine d_pass rfl rfl ?_
                refine d_pass rfl rfl ?_
                refine d_pass rfl rfl ?_
                refine d_pass rfl rfl ?_
                refine d_pass rfl rfl ?_
                refine d_pass rfl rfl ?_
                refine d_pass rfl rfl ?_
                refine d_pass rfl rfl ?_
                refine d_val rfl rfl (r_pickF (v := .bool false) rfl rfl) ?_
                refine d_val rfl rfl (r_assign (v := .bool false) rfl) ?_
                refine d_nil ?_
                refine c_false rfl ?_
                refine c_skip ?_
                refine c_roundK ((t24, (!t24)), (), 0) [0] (by exact ⟨rfl, rfl, rfl, rfl, trivial⟩) (by repeat (first | exact Keeps.refl _ _ | exact Keeps.mix | refine Keeps.upd ?_ rfl | refine Keeps.mkE ?_ _ rfl | refine Keeps.mix2 ?_ rfl)) (by decide) rfl (by exact ⟨H45, trivial⟩) (Nat.lt_succ_self _)
              ) (by kernel_rfl)
      · rintro ⟨x24, x25⟩ _ gg H29 _
        replace H29 : R_LikesFault_j2 x11_2 next1 t14 x24 x25 = some r := H29
        refine c_tidyJ [(22, .pointer (some ⟨b1, 1, none⟩)), (23, .int .i64 t14.Photo), (24, .bool x24), (25, .bool x25)] [] [] rfl rfl rfl ?_
        refine c_seq ?_
        refine c_region ?_
        refine l_val rfl rfl rfl (r_field Try.runUnderlying131 rfl Try.sizeOf23 rfl rfl) ?_
        refine l_loadN (i := 0) (vs := [.int .i64 (t14.Vec 0), .int .i64 (t14.Vec 1), .int .i64 (t14.Vec 2), .int .i64 (t14.Vec 3), .int .i64 (t14.Vec 4), .int .i64 (t14.Vec 5), .int .i64 (t14.Vec 6), .int .i64 (t14.Vec 7), .int .i64 (t14.Vec 8), .int .i64 (t14.Vec 9), .int .i64 (t14.Vec 10), .int .i64 (t14.Vec 11)]) Try.isAgg23 Try.sizeOf23 rfl rfl rfl rfl rfl ?_
        obtain ⟨t43, h_t43, H30⟩ := bnd_some H29; clear H29
        refine l_call (k12 h_t43) Try.call12 rfl rfl rfl ?_
        refine l_val rfl rfl rfl (r_assign (v := .int .i64 t43) rfl) ?_
        refine l_nil ?_
        refine c_seq ?_
        refine c_region ?_
        refine l_val rfl rfl rfl (r_move (v := .int .i64 t43) rfl) ?_
        refine l_val rfl rfl rfl (r_neq rfl rfl) ?_
        refine l_nil ?_
        refine c_if (b := (decide (t43 ≠ 0))) rfl (fun hb => ?_) (fun hb => ?_)
        · have H31 := cnd_t hb H30; clear H30
          refine c_seq ?_
          refine c_region ?_
          refine l_val rfl rfl rfl (r_move (v := .int .i64 t43) rfl) ?_
          refine l_val rfl rfl rfl (r_assign (v := .int .i64 t43) rfl) ?_
          refine l_nil ?_
          refine c_ret ?_
          obtain rfl := Option.some.inj H31
          refine ret1 (v := .int .i64 t43) rfl rfl (fin rfl)
        · have H32 := cnd_f hb H30; clear H30
          refine c_skip ?_
          refine c_region ?_
          obtain ⟨t47, h_t47, H33⟩ := bnd_some H32; clear H32
          refine l_val rfl rfl rfl (r_addG rfl rfl h_t47) ?_
          refine l_val rfl rfl rfl (r_move (v := .int .i64 t47) rfl) ?_
          refine l_nil ?_
          refine c_roundK (t47, (), m1) [] (by exact ⟨rfl, trivial⟩) (by repeat (first | exact Keeps.refl _ _ | exact Keeps.mix | refine Keeps.upd ?_ rfl | refine Keeps.mkE ?_ _ rfl | refine Keeps.mix2 ?_ rfl)) (by decide) rfl (by exact ⟨(by subst hn1; exact H33), trivial⟩) (Nat.lt_succ_self _)
    · have H46 := cnd_f hb H26; clear H26
      refine c_exit ?_
      refine c_seq ?_
      refine c_region ?_
      refine l_val rfl rfl rfl (r_assign (v := .int .i64 0) rfl) ?_
      refine l_nil ?_
      refine c_ret ?_
      obtain rfl := Option.some.inj H46
      refine ret1 (v := .int .i64 0) rfl rfl (fin rfl)
theorem k3 {a0 : (Nat → Int)} {a1 : (Nat → Int)} {a2 : (List (Nat → Int))} {v2 : Value} {a3 : (List T_face_Likeness)} {v3 : Value} {r : Bool} {w : World} {h : Heap} (hw : Know h w noS) (f2 : FrS h 12 v2 (a2.map e_face_Vec)) (f3 : FrS h 14 v3 (a3.map e_face_Likeness)) (H : Law_FaceVecs a0 a1 a2 a3 = some r) : Does Try.prog 3 (List.toArray [.agg #[.int .i64 (a0 0), .int .i64 (a0 1), .int .i64 (a0 2), .int .i64 (a0 3), .int .i64 (a0 4), .int .i64 (a0 5), .int .i64 (a0 6), .int .i64 (a0 7), .int .i64 (a0 8), .int .i64 (a0 9), .int .i64 (a0 10), .int .i64 (a0 11)], .agg #[.int .i64 (a1 0), .int .i64 (a1 1), .int .i64 (a1 2), .int .i64 (a1 3), .int .i64 (a1 4), .int .i64 (a1 5), .int .i64 (a1 6), .int .i64 (a1 7), .int .i64 (a1 8), .int .i64 (a1 9), .int .i64 (a1 10), .int .i64 (a1 11)], v2, v3]) w (fun v w' => v = (.bool r) ∧ Grow w w') := by
  refine enter (n := 71) Try.func3 rfl rfl rfl noS [] (Sat.nil _ _) ?_
  refine c_seq ?_
  refine c_region ?_
  refine l_box (cs := [.int .i64 (a0 0), .int .i64 (a0 1), .int .i64 (a0 2), .int .i64 (a0 3), .int .i64 (a0 4), .int .i64 (a0 5), .int .i64 (a0 6), .int .i64 (a0 7), .int .i64 (a0 8), .int .i64 (a0 9), .int .i64 (a0 10), .int .i64 (a0 11)]) rfl rfl rfl rfl (fun b5 => ?_)
  refine l_box (cs := [.int .i64 (a1 0), .int .i64 (a1 1), .int .i64 (a1 2), .int .i64 (a1 3), .int .i64 (a1 4), .int .i64 (a1 5), .int .i64 (a1 6), .int .i64 (a1 7), .int .i64 (a1 8), .int .i64 (a1 9), .int .i64 (a1 10), .int .i64 (a1 11)]) rfl rfl rfl rfl (fun b6 => ?_)
  refine l_val rfl rfl rfl (r_assign (v := .bool false) rfl) ?_
  refine l_nil ?_
  refine c_seq ?_
  refine c_region ?_
  refine l_loadN (i := 0) (vs := [.int .i64 (a0 0), .int .i64 (a0 1), .int .i64 (a0 2), .int .i64 (a0 3), .int .i64 (a0 4), .int .i64 (a0 5), .int .i64 (a0 6), .int .i64 (a0 7), .int .i64 (a0 8), .int .i64 (a0 9), .int .i64 (a0 10), .int .i64 (a0 11)]) Try.isAgg23 Try.sizeOf23 rfl rfl rfl rfl rfl ?_
  obtain ⟨t19, h_t19, H22⟩ := bnd_some H; clear H
  refine l_call (k12 h_t19) Try.call12 rfl rfl rfl ?_
  refine l_val rfl rfl rfl (r_assign (v := .int .i64 t19) rfl) ?_
  refine l_nil ?_
  refine c_seq ?_
  refine c_region ?_
  refine l_loadN (i := 0) (vs := [.int .i64 (a0 0), .int .i64 (a0 1), .int .i64 (a0 2), .int .i64 (a0 3), .int .i64 (a0 4), .int .i64 (a0 5), .int .i64 (a0 6), .int .i64 (a0 7), .int .i64 (a0 8), .int .i64 (a0 9), .int .i64 (a0 10), .int .i64 (a0 11)]) Try.isAgg23 Try.sizeOf23 rfl rfl rfl rfl rfl ?_
  refine l_loadN (i := 1) (vs := [.int .i64 (a1 0), .int .i64 (a1 1), .int .i64 (a1 2), .int .i64 (a1 3), .int .i64 (a1 4), .int .i64 (a1 5), .int .i64 (a1 6), .int .i64 (a1 7), .int .i64 (a1 8), .int .i64 (a1 9), .int .i64 (a1 10), .int .i64 (a1 11)]) Try.isAgg23 Try.sizeOf23 rfl rfl rfl rfl rfl ?_
  obtain ⟨t23, h_t23, H23⟩ := bnd_some H22; clear H22
  refine l_call (k13 h_t23) Try.call13 rfl rfl rfl ?_
  refine l_val rfl rfl rfl (r_move (v := .tuple #[.int .i64 t23.1, .int .i64 t23.2]) rfl) ?_
  refine l_val rfl rfl rfl (r_extract (v := .int .i64 t23.1) rfl rfl) ?_
  refine l_val rfl rfl rfl (r_extract (v := .int .i64 t23.2) rfl rfl) ?_
  refine l_val rfl rfl rfl (r_assign (v := .int .i64 t23.1) rfl) ?_
  refine l_val rfl rfl rfl (r_assign (v := .int .i64 t23.2) rfl) ?_
  refine l_nil ?_
  refine c_seq ?_
  refine c_region ?_
  refine l_val rfl rfl rfl (r_move (v := v2) rfl) ?_
  obtain ⟨t28, h_t28, H24⟩ := bnd_some H23; clear H23
  refine l_callG (fun w hF hS => k14 (know_all w) (f2.mono (hw.now hF)) h_t28) Try.call14 rfl rfl rfl ?_
  refine l_val rfl rfl rfl (r_move (v := .tuple #[.agg #[.int .i64 (t28.1 0), .int .i64 (t28.1 1), .int .i64 (t28.1 2), .int .i64 (t28.1 3), .int .i64 (t28.1 4), .int .i64 (t28.1 5), .int .i64 (t28.1 6), .int .i64 (t28.1 7), .int .i64 (t28.1 8), .int .i64 (t28.1 9), .int .i64 (t28.1 10), .int .i64 (t28.1 11)], .int .i64 t28.2]) rfl) ?_
  refine l_val rfl rfl rfl (r_extract (v := .agg #[.int .i64 (t28.1 0), .int .i64 (t28.1 1), .int .i64 (t28.1 2), .int .i64 (t28.1 3), .int .i64 (t28.1 4), .int .i64 (t28.1 5), .int .i64 (t28.1 6), .int .i64 (t28.1 7), .int .i64 (t28.1 8), .int .i64 (t28.1 9), .int .i64 (t28.1 10), .int .i64 (t28.1 11)]) rfl rfl) ?_
  refine l_val rfl rfl rfl (r_extract (v := .int .i64 t28.2) rfl rfl) ?_
  refine l_alloc (cs := [.int .i64 ((fun _ => 0) 0), .int .i64 ((fun _ => 0) 1), .int .i64 ((fun _ => 0) 2), .int .i64 ((fun _ => 0) 3), .int .i64 ((fun _ => 0) 4), .int .i64 ((fun _ => 0) 5), .int .i64 ((fun _ => 0) 6), .int .i64 ((fun _ => 0) 7), .int .i64 ((fun _ => 0) 8), .int .i64 ((fun _ => 0) 9), .int .i64 ((fun _ => 0) 10), .int .i64 ((fun _ => 0) 11)]) Try.zeroValue23 rfl rfl rfl (fun b7 => ?_)
  refine l_store (i := 2) (vs := [.int .i64 (t28.1 0), .int .i64 (t28.1 1), .int .i64 (t28.1 2), .int .i64 (t28.1 3), .int .i64 (t28.1 4), .int .i64 (t28.1 5), .int .i64 (t28.1 6), .int .i64 (t28.1 7), .int .i64 (t28.1 8), .int .i64 (t28.1 9), .int .i64 (t28.1 10), .int .i64 (t28.1 11)]) (cs' := [.int .i64 (t28.1 0), .int .i64 (t28.1 1), .int .i64 (t28.1 2), .int .i64 (t28.1 3), .int .i64 (t28.1 4), .int .i64 (t28.1 5), .int .i64 (t28.1 6), .int .i64 (t28.1 7), .int .i64 (t28.1 8), .int .i64 (t28.1 9), .int .i64 (t28.1 10), .int .i64 (t28.1 11)]) Try.sizeOf23 rfl rfl rfl rfl rfl rfl rfl rfl rfl ?_
  refine l_val rfl rfl rfl (r_assign (v := .int .i64 t28.2) rfl) ?_
  refine l_nil ?_
  refine c_seq ?_
  refine c_region ?_
  refine l_val rfl rfl rfl (r_move (v := v2) rfl) ?_
  obtain ⟨t33, h_t33, H25⟩ := bnd_some H24; clear H24
  refine l_callG (fun w hF hS => k15 (know_all w) (f2.mono (hw.now hF)) h_t33) Try.call15 rfl rfl rfl ?_
  refine l_val rfl rfl rfl (r_move (v := .tuple #[.agg #[.int .i64 (t33.1 0), .int .i64 (t33.1 1), .int .i64 (t33.1 2), .int .i64 (t33.1 3), .int .i64 (t33.1 4), .int .i64 (t33.1 5), .int .i64 (t33.1 6), .int .i64 (t33.1 7), .int .i64 (t33.1 8), .int .i64 (t33.1 9), .int .i64 (t33.1 10), .int .i64 (t33.1 11)], .int .i64 t33.2]) rfl) ?_
  refine l_val rfl rfl rfl (r_extract (v := .agg #[.int .i64 (t33.1 0), .int .i64 (t33.1 1), .int .i64 (t33.1 2), .int .i64 (t33.1 3), .int .i64 (t33.1 4), .int .i64 (t33.1 5), .int .i64 (t33.1 6), .int .i64 (t33.1 7), .int .i64 (t33.1 8), .int .i64 (t33.1 9), .int .i64 (t33.1 10), .int .i64 (t33.1 11)]) rfl rfl) ?_
  refine l_val rfl rfl rfl (r_extract (v := .int .i64 t33.2) rfl rfl) ?_
  refine l_alloc (cs := [.int .i64 ((fun _ => 0) 0), .int .i64 ((fun _ => 0) 1), .int .i64 ((fun _ => 0) 2), .int .i64 ((fun _ => 0) 3), .int .i64 ((fun _ => 0) 4), .int .i64 ((fun _ => 0) 5), .int .i64 ((fun _ => 0) 6), .int .i64 ((fun _ => 0) 7), .int .i64 ((fun _ => 0) 8), .int .i64 ((fun _ => 0) 9), .int .i64 ((fun _ => 0) 10), .int .i64 ((fun _ => 0) 11)]) Try.zeroValue23 rfl rfl rfl (fun b8 => ?_)
  refine l_store (i := 3) (vs := [.int .i64 (t33.1 0), .int .i64 (t33.1 1), .int .i64 (t33.1 2), .int .i64 (t33.1 3), .int .i64 (t33.1 4), .int .i64 (t33.1 5), .int .i64 (t33.1 6), .int .i64 (t33.1 7), .int .i64 (t33.1 8), .int .i64 (t33.1 9), .int .i64 (t33.1 10), .int .i64 (t33.1 11)]) (cs' := [.int .i64 (t33.1 0), .int .i64 (t33.1 1), .int .i64 (t33.1 2), .int .i64 (t33.1 3), .int .i64 (t33.1 4), .int .i64 (t33.1 5), .int .i64 (t33.1 6), .int .i64 (t33.1 7), .int .i64 (t33.1 8), .int .i64 (t33.1 9), .int .i64 (t33.1 10), .int .i64 (t33.1 11)]) Try.sizeOf23 rfl rfl rfl rfl rfl rfl rfl rfl rfl ?_
  refine l_val rfl rfl rfl (r_assign (v := .int .i64 t33.2) rfl) ?_
  refine l_nil ?_
  refine c_seq ?_
  refine c_region ?_
  refine l_val rfl rfl rfl (r_move (v := .int .i64 t19) rfl) ?_
  refine l_loadN (i := 1) (vs := [.int .i64 (a1 0), .int .i64 (a1 1), .int .i64 (a1 2), .int .i64 (a1 3), .int .i64 (a1 4), .int .i64 (a1 5), .int .i64 (a1 6), .int .i64 (a1 7), .int .i64 (a1 8), .int .i64 (a1 9), .int .i64 (a1 10), .int .i64 (a1 11)]) Try.isAgg23 Try.sizeOf23 rfl rfl rfl rfl rfl ?_
  obtain ⟨t38, h_t38, H26⟩ := bnd_some H25; clear H25
  refine l_call (k12 h_t38) Try.call12 rfl rfl rfl ?_
  refine l_buildSlice (vs := [.int .i64 t19, .int .i64 t38]) (cs := [.int .i64 t19, .int .i64 t38]) Try.underlying128 Try.sizeOf26 Try.zeroValue26 rfl rfl rfl rfl rfl rfl rfl (fun b9 => ?_)
  obtain ⟨t40, h_t40, H27⟩ := bnd_some H26; clear H26
  refine l_callG (fun w hF hS => k16 (know_all w) (frs_box (i := 4) (xs := ([t19, t38] : List Int)) (f := e_i64) hS rfl rfl rfl rfl rfl) h_t40) Try.call16 rfl rfl rfl ?_
  refine l_val rfl rfl rfl (r_assign (v := .int .i64 t40) rfl) ?_
  refine l_nil ?_
  refine c_seq ?_
  refine c_region ?_
  refine l_val rfl rfl rfl (r_assign (v := .int .i64 0) rfl) ?_
  refine l_nil ?_
  refine c_meet (r := r) (σ := Int) (τ := Unit) (fun s => Law_FaceVecs_j1 a0 a3 t19 t23 t28 t33 t40 s) [17, 41, 42, 43, 44, 45] (fun s t => [(17, .int .i64 s)]) (fun s t => []) (fun s t => []) (fun s t => True) ?_ ?_
  · refine c_seq ?_
    refine c_region ?_
    refine l_val rfl rfl rfl (r_move (v := .int .i64 t40) rfl) ?_
    refine l_val rfl rfl rfl (r_eql rfl rfl) ?_
    refine l_nil ?_
    refine c_if (b := (decide (t40 = 0))) rfl (fun hb => ?_) (fun hb => ?_)
    · have H40 := cnd_t hb H27; clear H27
      refine c_region ?_
      refine l_loadN (i := 0) (vs := [.int .i64 (a0 0), .int .i64 (a0 1), .int .i64 (a0 2), .int .i64 (a0 3), .int .i64 (a0 4), .int .i64 (a0 5), .int .i64 (a0 6), .int .i64 (a0 7), .int .i64 (a0 8), .int .i64 (a0 9), .int .i64 (a0 10), .int .i64 (a0 11)]) Try.isAgg23 Try.sizeOf23 rfl rfl rfl rfl rfl ?_
      refine l_loadN (i := 1) (vs := [.int .i64 (a1 0), .int .i64 (a1 1), .int .i64 (a1 2), .int .i64 (a1 3), .int .i64 (a1 4), .int .i64 (a1 5), .int .i64 (a1 6), .int .i64 (a1 7), .int .i64 (a1 8), .int .i64 (a1 9), .int .i64 (a1 10), .int .i64 (a1 11)]) Try.isAgg23 Try.sizeOf23 rfl rfl rfl rfl rfl ?_
      obtain ⟨t45, h_t45, H41⟩ := bnd_some H40; clear H40
      refine l_call (k17 h_t45) Try.call17 rfl rfl rfl ?_
      refine l_val rfl rfl rfl (r_assign (v := .int .i64 t45) rfl) ?_
      refine l_nil ?_
      refine c_roundK (t45, (), 0) [0, 1, 2, 3, 4] (by exact ⟨rfl, trivial⟩) (by repeat (first | exact Keeps.refl _ _ | exact Keeps.mix | refine Keeps.upd ?_ rfl | refine Keeps.mkE ?_ _ rfl | refine Keeps.mix2 ?_ rfl)) (by decide) rfl (by exact ⟨H41, trivial⟩) (Nat.lt_succ_self _)
    · have H42 := cnd_f hb H27; clear H27
      refine c_skip ?_
      refine c_roundK (0, (), 0) [0, 1, 2, 3, 4] (by exact ⟨rfl, trivial⟩) (by repeat (first | exact Keeps.refl _ _ | exact Keeps.mix | refine Keeps.upd ?_ rfl | refine Keeps.mkE ?_ _ rfl | refine Keeps.mix2 ?_ rfl)) (by decide) rfl (by exact ⟨H42, trivial⟩) (Nat.lt_succ_self _)
  · rintro x17 _ gg H28 _
    replace H28 : Law_FaceVecs_j1 a0 a3 t19 t23 t28 t33 t40 x17 = some r := H28
    refine c_tidyJ [(17, .int .i64 x17)] [] [] rfl rfl rfl ?_
    refine c_seq ?_
    refine c_region ?_
    refine l_loadN (i := 0) (vs := [.int .i64 (a0 0), .int .i64 (a0 1), .int .i64 (a0 2), .int .i64 (a0 3), .int .i64 (a0 4), .int .i64 (a0 5), .int .i64 (a0 6), .int .i64 (a0 7), .int .i64 (a0 8), .int .i64 (a0 9), .int .i64 (a0 10), .int .i64 (a0 11)]) Try.isAgg23 Try.sizeOf23 rfl rfl rfl rfl rfl ?_
    obtain ⟨t47, h_t47, H29⟩ := bnd_some H28; clear H28
    refine l_call (k18 h_t47) Try.call18 rfl rfl rfl ?_
    refine l_val rfl rfl rfl (r_move (v := .int .i64 t19) rfl) ?_
    refine l_val rfl rfl rfl (r_eql rfl rfl) ?_
    refine l_val rfl rfl rfl (r_move (v := .bool (decide (t47 = t19))) rfl) ?_
    refine split (fun hb => ?_) (fun hb => ?_)
    · have H30 := cnd_t hb H29; clear H29
      refine l_val rfl rfl rfl (r_move (v := .int .i64 t23.1) rfl) ?_
      refine l_val rfl rfl rfl (r_move (v := .int .i64 t23.2) rfl) ?_
      refine l_val rfl rfl rfl (r_move (v := .int .i64 x17) rfl) ?_
      refine l_val rfl rfl rfl (r_move (v := .int .i64 t40) rfl) ?_
      obtain ⟨t55, h_t55, H31⟩ := bnd_some H30; clear H30
      refine l_call (k19 h_t55) Try.call19 rfl rfl rfl ?_
      refine l_val rfl rfl rfl (r_pickT (v := .bool t55) rfl rfl) ?_
      refine l_val rfl rfl rfl (r_move (v := .bool t55) rfl) ?_
      refine split (fun hb => ?_) (fun hb => ?_)
      · have H32 := cnd_t hb H31; clear H31
        refine l_loadN (i := 2) (vs := [.int .i64 (t28.1 0), .int .i64 (t28.1 1), .int .i64 (t28.1 2), .int .i64 (t28.1 3), .int .i64 (t28.1 4), .int .i64 (t28.1 5), .int .i64 (t28.1 6), .int .i64 (t28.1 7), .int .i64 (t28.1 8), .int .i64 (t28.1 9), .int .i64 (t28.1 10), .int .i64 (t28.1 11)]) Try.isAgg23 Try.sizeOf23 rfl rfl rfl rfl rfl ?_
        refine l_val rfl rfl rfl (r_move (v := .int .i64 t28.2) rfl) ?_
        refine l_loadN (i := 3) (vs := [.int .i64 (t33.1 0), .int .i64 (t33.1 1), .int .i64 (t33.1 2), .int .i64 (t33.1 3), .int .i64 (t33.1 4), .int .i64 (t33.1 5), .int .i64 (t33.1 6), .int .i64 (t33.1 7), .int .i64 (t33.1 8), .int .i64 (t33.1 9), .int .i64 (t33.1 10), .int .i64 (t33.1 11)]) Try.isAgg23 Try.sizeOf23 rfl rfl rfl rfl rfl ?_
        refine l_val rfl rfl rfl (r_move (v := .int .i64 t33.2) rfl) ?_
        obtain ⟨t62, h_t62, H33⟩ := bnd_some H32; clear H32
        refine l_call (k20 h_t62) Try.call20 rfl rfl rfl ?_
        refine l_val rfl rfl rfl (r_pickT (v := .bool t62) rfl rfl) ?_
        refine l_val rfl rfl rfl (r_move (v := .bool t62) rfl) ?_
        refine split (fun hb => ?_) (fun hb => ?_)
        · have H34 := cnd_t hb H33; clear H33
          refine l_val rfl rfl rfl (r_move (v := v3) rfl) ?_
          obtain ⟨t66, h_t66, H35⟩ := bnd_some H34; clear H34
          refine l_callG (fun w hF hS => k21 (know_all w) (f3.mono (hw.now hF)) h_t66) Try.call21 rfl rfl rfl ?_
          refine l_val rfl rfl rfl (r_move (v := v3) rfl) ?_
          obtain ⟨t68, h_t68, H36⟩ := bnd_some H35; clear H35
          refine l_callG (fun w hF hS => k22 (know_all w) (f3.mono (hw.now hF)) h_t68) Try.call22 rfl rfl rfl ?_
          refine l_val rfl rfl rfl (r_eql rfl rfl) ?_
          refine l_val rfl rfl rfl (r_pickT (v := .bool (decide (t66 = t68))) rfl rfl) ?_
          refine l_val rfl rfl rfl (r_assign (v := .bool (decide (t66 = t68))) rfl) ?_
          refine l_nil ?_
          refine c_ret ?_
          obtain rfl := Option.some.inj H36
          refine ret1 (v := .bool (decide (t66 = t68))) rfl rfl (fin rfl)
        · have H37 := cnd_f hb H33; clear H33
          refine l_passed rfl rfl rfl ?_
          refine l_passed rfl rfl rfl ?_
          refine l_passed rfl rfl rfl ?_
          refine l_passed rfl rfl rfl ?_
          refine l_passed rfl rfl rfl ?_
          refine l_val rfl rfl rfl (r_pickF (v := .bool false) rfl rfl) ?_
          refine l_val rfl rfl rfl (r_assign (v := .bool false) rfl) ?_
          refine l_nil ?_
          refine c_ret ?_
          obtain rfl := Option.some.inj H37
          refine ret1 (v := .bool false) rfl rfl (fin rfl)
      · have H38 := cnd_f hb H31; clear H31
        refine l_passed rfl rfl rfl ?_
        refine l_passed rfl rfl rfl ?_
        refine l_passed rfl rfl rfl ?_
        refine l_passed rfl rfl rfl ?_
        refine l_passed rfl rfl rfl ?_
        refine l_val rfl rfl rfl (r_pickF (v := .bool false) rfl rfl) ?_
        refine l_val rfl rfl rfl (r_move (v := .bool false) rfl) ?_
        refine l_passed rfl rfl rfl ?_
        refine l_passed rfl rfl rfl ?_
        refine l_passed rfl rfl rfl ?_
        refine l_passed rfl rfl rfl ?_
        refine l_passed rfl rfl rfl ?_
        refine l_val rfl rfl rfl (r_pickF (v := .bool false) rfl rfl) ?_
        refine l_val rfl rfl rfl (r_assign (v := .bool false) rfl) ?_
        refine l_nil ?_
        refine c_ret ?_
        obtain rfl := Option.some.inj H38
        refine ret1 (v := .bool false) rfl rfl (fin rfl)
    · have H39 := cnd_f hb H29; clear H29
      refine l_passed rfl rfl rfl ?_
      refine l_passed rfl rfl rfl ?_
      refine l_passed rfl rfl rfl ?_
      refine l_passed rfl rfl rfl ?_
      refine l_passed rfl rfl rfl ?_
      refine l_val rfl rfl rfl (r_pickF (v := .bool false) rfl rfl) ?_
      refine l_val rfl rfl rfl (r_move (v := .bool false) rfl) ?_
      refine l_passed rfl rfl rfl ?_
      refine l_passed rfl rfl rfl ?_
      refine l_passed rfl rfl rfl ?_
      refine l_passed rfl rfl rfl ?_
      refine l_passed rfl rfl rfl ?_
      refine l_val rfl rfl rfl (r_pickF (v := .bool false) rfl rfl) ?_
      refine l_val rfl rfl rfl (r_move (v := .bool false) rfl) ?_
      refine l_passed rfl rfl rfl ?_
      refine l_passed rfl rfl rfl ?_
      refine l_passed rfl rfl rfl ?_
      refine l_passed rfl rfl rfl ?_
      refine l_passed rfl rfl rfl ?_
      refine l_val rfl rfl rfl (r_pickF (v := .bool false) rfl rfl) ?_
      refine l_val rfl rfl rfl (r_assign (v := .bool false) rfl) ?_
      refine l_nil ?_
      refine c_ret ?_
      obtain rfl := Option.some.inj H39
      refine ret1 (v := .bool false) rfl rfl (fin rfl)
end Go.Proofs.Ytngogocmhmfbjaa
