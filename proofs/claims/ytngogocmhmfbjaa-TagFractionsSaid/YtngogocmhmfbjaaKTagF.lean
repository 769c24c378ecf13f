/- TagFractions and TagDegrees: the walks, printed by our generator; each follows its model. Conditions: the model yields a value. -/
import Derived.Test.YtngogocmhmfbjaaMTagF
import Derived.Test.YtngogocmhmfbjaaProg
import Derived.Test.YtngogocmhmfbjaaLx2
namespace Go.Proofs.Ytngogocmhmfbjaa
open Go Go.Vc Go.Md Go.M Go.Lx
set_option maxRecDepth 100000
set_option maxHeartbeats 4000000
set_option linter.unusedVariables false

theorem mixed : Try.prog.follows .mixedOrders = true := by kernel_rfl

abbrev e_tag_Ratio (x : T_tag_Ratio) : List Value := [.int .i64 x.Num, .int .i64 x.Den]
abbrev e_u64 (x : Int) : List Value := [.int .u64 x]
abbrev e_i64 (x : Int) : List Value := [.int .i64 x]

theorem run_eq_tag_Ratio_d (d : Nat) (w : World) (a0 b0 : Int) (a1 b1 : Int) : (Op.equalIn (d + 2) 44 (.agg #[.int .i64 a0, .int .i64 a1]) (.agg #[.int .i64 b0, .int .i64 b1])).run Try.prog w = .ok (decide (a0 = b0 ∧ a1 = b1)) w := by
  rw [run_equalIn_struct w (d + 1) 44 _ _ (by simp only [Program.fieldsOf, Try.underlying44]) Try.stoodInHeld44]
  simp only [Program.fieldsOf, Try.underlying44, Op.eqFields]
  simp [part, run_equalIn_int, run_equalIn_strL, run_equalIn_bool', Try.underlying3]
  repeat' split
  all_goals simp_all
theorem run_eq_tag_Ratio (w : World) (x y : T_tag_Ratio) : (Op.equalIn Op.maxDepth 44 (.agg #[.int .i64 x.Num, .int .i64 x.Den]) (.agg #[.int .i64 y.Num, .int .i64 y.Den])).run Try.prog w = .ok (eq_tag_Ratio x y) w :=
  run_eq_tag_Ratio_d 9998 w _ _ _ _

theorem k84 {a0 : Int} {a1 : Int} {a2 : Int} {r : Bool} (H : tag_outside a0 a1 a2 = some r) : Ret Try.prog 84 [.int .i64 a0, .int .i64 a1, .int .i64 a2] (.bool r) := by
  refine enterRet (n := 15) Try.func84 rfl rfl rfl (fun wd => ?_)
  refine c_seq ?_
  refine c_region ?_
  refine l_val rfl rfl rfl (r_assign (v := .bool false) rfl) ?_
  refine l_nil ?_
  refine c_seq ?_
  refine c_region ?_
  refine l_val rfl rfl rfl (r_move (v := .int .i64 a0) rfl) ?_
  refine l_val rfl rfl rfl (r_move (v := .int .i64 a1) rfl) ?_
  refine l_val rfl rfl rfl (r_lss rfl rfl) ?_
  refine l_val rfl rfl rfl (r_move (v := .bool (decide (a0 < a1))) rfl) ?_
  refine split (fun hb => ?_) (fun hb => ?_)
  · have H3 := cnd_t hb H; clear H
    refine l_passed rfl rfl rfl ?_
    refine l_passed rfl rfl rfl ?_
    refine l_passed rfl rfl rfl ?_
    refine l_val rfl rfl rfl (r_pickT (v := .bool true) rfl rfl) ?_
    refine l_val rfl rfl rfl (r_assign (v := .bool true) rfl) ?_
    refine l_nil ?_
    refine c_ret ?_
    obtain rfl := Option.some.inj H3
    refine ret1 (v := .bool true) rfl rfl (fin rfl)
  · have H4 := cnd_f hb H; clear H
    refine l_val rfl rfl rfl (r_move (v := .int .i64 a0) rfl) ?_
    refine l_val rfl rfl rfl (r_move (v := .int .i64 a2) rfl) ?_
    refine l_val rfl rfl rfl (r_gtr rfl rfl) ?_
    refine l_val rfl rfl rfl (r_pickF (v := .bool (decide (a2 < a0))) rfl rfl) ?_
    refine l_val rfl rfl rfl (r_assign (v := .bool (decide (a2 < a0))) rfl) ?_
    refine l_nil ?_
    refine c_ret ?_
    obtain rfl := Option.some.inj H4
    refine ret1 (v := .bool (decide (a2 < a0))) rfl rfl (fin rfl)
theorem k85 {a0 : T_tag_Ratio} {r : Int} (H : tag_checkRatio a0 = some r) : Ret Try.prog 85 [.agg #[.int .i64 a0.Num, .int .i64 a0.Den]] (.int .i64 r) := by
  refine enterRet (n := 11) Try.func85 rfl rfl rfl (fun wd => ?_)
  refine c_seq ?_
  refine c_region ?_
  refine l_box (cs := [.int .i64 a0.Num, .int .i64 a0.Den]) rfl rfl rfl rfl (fun b1 => ?_)
  refine l_val rfl rfl rfl (r_assign (v := .int .i64 0) rfl) ?_
  refine l_nil ?_
  refine c_seq ?_
  refine c_seq ?_
  refine c_region ?_
  refine l_val rfl rfl rfl (r_field Try.runUnderlying44 rfl Try.sizeOf3 rfl rfl) ?_
  refine l_load1 (i := 0) (v := .int .i64 a0.Num) Try.isAgg3 rfl rfl rfl rfl rfl ?_
  obtain ⟨t5, h_t5, H7⟩ := bnd_some H; clear H
  refine l_call (k84 h_t5) Try.call84 rfl rfl rfl ?_
  refine l_val rfl rfl rfl (r_move (v := .bool t5) rfl) ?_
  refine split (fun hb => ?_) (fun hb => ?_)
  · have H8 := cnd_t hb H7; clear H7
    refine l_passed rfl rfl rfl ?_
    refine l_passed rfl rfl rfl ?_
    refine l_passed rfl rfl rfl ?_
    refine l_val rfl rfl rfl (r_pickT (v := .bool true) rfl rfl) ?_
    refine l_nil ?_
    refine c_true rfl ?_
    refine c_seq ?_
    refine c_region ?_
    refine l_val rfl rfl rfl (r_assign (v := .int .i64 2) rfl) ?_
    refine l_nil ?_
    refine c_ret ?_
    obtain rfl := Option.some.inj H8
    refine ret1 (v := .int .i64 2) rfl rfl (fin rfl)
  · have H9 := cnd_f hb H7; clear H7
    refine l_val rfl rfl rfl (r_field Try.runUnderlying44 rfl Try.sizeOf3 rfl rfl) ?_
    refine l_load1 (i := 0) (v := .int .i64 a0.Den) Try.isAgg3 rfl rfl rfl rfl rfl ?_
    obtain ⟨t9, h_t9, H10⟩ := bnd_some H9; clear H9
    refine l_call (k84 h_t9) Try.call84 rfl rfl rfl ?_
    refine l_val rfl rfl rfl (r_pickF (v := .bool t9) rfl rfl) ?_
    refine l_nil ?_
    refine c_if (b := t9) rfl (fun hb => ?_) (fun hb => ?_)
    · have H11 := cnd_t hb H10; clear H10
      refine c_seq ?_
      refine c_region ?_
      refine l_val rfl rfl rfl (r_assign (v := .int .i64 2) rfl) ?_
      refine l_nil ?_
      refine c_ret ?_
      obtain rfl := Option.some.inj H11
      refine ret1 (v := .int .i64 2) rfl rfl (fin rfl)
    · have H12 := cnd_f hb H10; clear H10
      refine c_skip ?_
      refine c_seq ?_
      refine c_region ?_
      refine l_val rfl rfl rfl (r_assign (v := .int .i64 0) rfl) ?_
      refine l_nil ?_
      refine c_ret ?_
      obtain rfl := Option.some.inj H12
      refine ret1 (v := .int .i64 0) rfl rfl (fin rfl)
theorem k26 {a0 : T_tag_Ratio} {r : T_tag_Ratio × Int} (H : tag_Lowest a0 = some r) : Ret Try.prog 26 [.agg #[.int .i64 a0.Num, .int .i64 a0.Den]] (.tuple #[.agg #[.int .i64 r.1.Num, .int .i64 r.1.Den], .int .i64 r.2]) := by
  refine enterRet (n := 32) Try.func26 rfl rfl rfl (fun wd => ?_)
  refine c_seq ?_
  refine c_region ?_
  refine l_box (cs := [.int .i64 a0.Num, .int .i64 a0.Den]) rfl rfl rfl rfl (fun b2 => ?_)
  refine l_alloc (cs := [.int .i64 0, .int .i64 0]) Try.zeroValue44 rfl rfl rfl (fun b3 => ?_)
  refine l_val rfl rfl rfl (r_assign (v := .int .i64 0) rfl) ?_
  refine l_nil ?_
  refine c_seq ?_
  refine c_seq ?_
  refine c_region ?_
  refine l_loadN (i := 0) (vs := [.int .i64 a0.Num, .int .i64 a0.Den]) Try.isAgg44 Try.sizeOf44 rfl rfl rfl rfl rfl ?_
  obtain ⟨t8, h_t8, H11⟩ := bnd_some H; clear H
  refine l_call (k85 h_t8) Try.call85 rfl rfl rfl ?_
  refine l_val rfl rfl rfl (r_assign (v := .int .i64 t8) rfl) ?_
  refine l_nil ?_
  refine c_seq ?_
  refine c_region ?_
  refine l_val rfl rfl rfl (r_move (v := .int .i64 t8) rfl) ?_
  refine l_val rfl rfl rfl (r_neq rfl rfl) ?_
  refine l_nil ?_
  refine c_if (b := (decide (t8 ≠ 0))) rfl (fun hb => ?_) (fun hb => ?_)
  · have H12 := cnd_t hb H11; clear H11
    refine c_seq ?_
    refine c_region ?_
    refine l_val rfl rfl rfl (r_build (pl := #[(0, 1), (1, 1)]) (ps := []) (cells := #[.int .i64 0, .int .i64 0]) Try.zeroValue44 Try.runUnderlying44 (fun w => by kernel_rfl) rfl rfl) ?_
    refine l_val rfl rfl rfl (r_move (v := .int .i64 t8) rfl) ?_
    refine l_store (i := 1) (vs := [.int .i64 0, .int .i64 0]) (cs' := [.int .i64 0, .int .i64 0]) Try.sizeOf44 rfl rfl rfl rfl rfl rfl rfl rfl rfl ?_
    refine l_val rfl rfl rfl (r_assign (v := .int .i64 t8) rfl) ?_
    refine l_nil ?_
    refine c_ret ?_
    obtain rfl := Option.some.inj H12
    refine retCt (i := 1) (vs := [.int .i64 0, .int .i64 0]) (v2 := .int .i64 t8) Try.isAgg44 Try.sizeOf44 rfl rfl rfl rfl rfl (fin rfl)
  · have H13 := cnd_f hb H11; clear H11
    refine c_skip ?_
    refine c_seq ?_
    exact c_regionD (Kd.p :: Kd.d [0] _ :: Kd.p :: Kd.d [0] _ :: Kd.p :: Kd.p :: []) 0 mixed (by
      refine d_val rfl rfl (r_field Try.runUnderlying44 rfl Try.sizeOf3 rfl rfl) ?_
      refine d_load1 (i := 0) (v := .int .i64 a0.Num) Try.isAgg3 rfl rfl rfl rfl ?_
      refine d_val rfl rfl (r_field Try.runUnderlying44 rfl Try.sizeOf3 rfl rfl) ?_
      refine d_load1 (i := 0) (v := .int .i64 a0.Den) Try.isAgg3 rfl rfl rfl rfl ?_
      refine d_val rfl rfl (r_assign (v := .int .i64 a0.Num) rfl) ?_
      refine d_val rfl rfl (r_assign (v := .int .i64 a0.Den) rfl) ?_
      refine d_nil ?_
      refine c_meet (r := r) (σ := Int) (τ := Unit) (fun s => tag_Lowest_j1 a0 s) (fun s t => [(1, .pointer (some ⟨b2, 0, none⟩)), (2, .pointer (some ⟨b3, 0, none⟩)), (5, .int .i64 s)]) (fun s t => [cellsC b2 [.int .i64 a0.Num, .int .i64 a0.Den] 44, cellsC b3 [.int .i64 0, .int .i64 0] 44]) (fun s t => True) ?_ ?_
      · refine c_block ?_
        refine c_fix (σ := Int × Int) (τ := Unit) (fun next2 s => tag_Lowest_l2 a0 next2 s.1 s.2) (fun s t => [(1, .pointer (some ⟨b2, 0, none⟩)), (2, .pointer (some ⟨b3, 0, none⟩)), (5, .int .i64 s.1), (6, .int .i64 s.2)]) (fun s t => [cellsC b2 [.int .i64 a0.Num, .int .i64 a0.Den] 44, cellsC b3 [.int .i64 0, .int .i64 0] 44]) (fun s t => True) (a0.Num, a0.Den) () [0, 1] H13 (by exact trivial) (by exact ⟨rfl, rfl, rfl, rfl, trivial⟩) (by decide) rfl ?_
        rintro ⟨x5_3, x6_2⟩ _ m2 gg H17 _
        clear H13
        replace H17 : tag_Lowest_l2 a0 (it (fun next2 s => tag_Lowest_l2 a0 next2 s.1 s.2) m2) x5_3 x6_2 = some r := H17
        generalize hn2 : it (fun next2 s => tag_Lowest_l2 a0 next2 s.1 s.2) m2 = next2 at H17
        refine c_tidyF [(1, .pointer (some ⟨b2, 0, none⟩)), (2, .pointer (some ⟨b3, 0, none⟩)), (5, .int .i64 x5_3), (6, .int .i64 x6_2)] [cellsC b2 [.int .i64 a0.Num, .int .i64 a0.Den] 44, cellsC b3 [.int .i64 0, .int .i64 0] 44] rfl rfl ?_
        refine c_seq ?_
        refine c_seq ?_
        refine c_region ?_
        refine l_val rfl rfl rfl (r_move (v := .int .i64 x6_2) rfl) ?_
        refine l_val rfl rfl rfl (r_neq rfl rfl) ?_
        refine l_nil ?_
        refine c_if (b := (decide (x6_2 ≠ 0))) rfl (fun hb => ?_) (fun hb => ?_)
        · have H18 := cnd_t hb H17; clear H17
          refine c_skip ?_
          refine c_block ?_
          exact c_regionD (Kd.p :: Kd.p :: Kd.p :: Kd.p :: Kd.p :: Kd.p :: []) 0 mixed (by
            refine d_val rfl rfl (r_move (v := .int .i64 x6_2) rfl) ?_
            refine d_val rfl rfl (r_move (v := .int .i64 x5_3) rfl) ?_
            refine d_val rfl rfl (r_move (v := .int .i64 x6_2) rfl) ?_
            have h_t22 := bnd_val H18
            have H19 := bnd_rest H18
            refine d_val rfl rfl (r_remG rfl rfl h_t22) ?_
            refine d_val rfl rfl (r_assign (v := .int .i64 x6_2) rfl) ?_
            refine d_val rfl rfl (r_assign (v := .int .i64 (val (gRem x5_3 x6_2))) rfl) ?_
            refine d_nil ?_
            refine c_close (x6_2, (val (gRem x5_3 x6_2))) () m2 [0, 1] (by exact ⟨rfl, rfl, rfl, rfl, trivial⟩) (by decide) rfl (by exact ⟨(by subst hn2; exact H19), trivial⟩) (Nat.lt_succ_self _)
            ) (by kernel_rfl)
        · have H20 := cnd_f hb H17; clear H17
          refine c_exit ?_
          refine c_close x5_3 () 0 [0, 1] (by exact ⟨rfl, rfl, rfl, trivial⟩) (by decide) rfl (by exact ⟨H20, trivial⟩) (Nat.lt_succ_self _)
      · rintro x5 _ gg H14 _
        replace H14 : tag_Lowest_j1 a0 x5 = some r := H14
        refine c_tidyF [(1, .pointer (some ⟨b2, 0, none⟩)), (2, .pointer (some ⟨b3, 0, none⟩)), (5, .int .i64 x5)] [cellsC b2 [.int .i64 a0.Num, .int .i64 a0.Den] 44, cellsC b3 [.int .i64 0, .int .i64 0] 44] rfl rfl ?_
        refine c_seq ?_
        exact c_regionD (Kd.p :: Kd.d [0] _ :: Kd.p :: Kd.p :: Kd.p :: Kd.d [0] _ :: Kd.p :: Kd.p :: Kd.p :: Kd.st 2 1 [_, _] 44 :: Kd.p :: []) 0 mixed (by
          refine d_val rfl rfl (r_field Try.runUnderlying44 rfl Try.sizeOf3 rfl rfl) ?_
          refine d_load1 (i := 0) (v := .int .i64 a0.Num) Try.isAgg3 rfl rfl rfl rfl ?_
          refine d_val rfl rfl (r_move (v := .int .i64 x5) rfl) ?_
          have h_t26 := bnd_val H14
          have H15 := bnd_rest H14
          refine d_val rfl rfl (r_quoG rfl rfl h_t26) ?_
          refine d_val rfl rfl (r_field Try.runUnderlying44 rfl Try.sizeOf3 rfl rfl) ?_
          refine d_load1 (i := 0) (v := .int .i64 a0.Den) Try.isAgg3 rfl rfl rfl rfl ?_
          refine d_val rfl rfl (r_move (v := .int .i64 x5) rfl) ?_
          have h_t30 := bnd_val H15
          have H16 := bnd_rest H15
          refine d_val rfl rfl (r_quoG rfl rfl h_t30) ?_
          refine d_val rfl rfl (r_build (pl := #[(0, 1), (1, 1)]) (ps := [(0, .int .i64 (val (gQuo a0.Num x5))), (1, .int .i64 (val (gQuo a0.Den x5)))]) (cells := #[.int .i64 (val (gQuo a0.Num x5)), .int .i64 (val (gQuo a0.Den x5))]) Try.zeroValue44 Try.runUnderlying44 (fun w => by kernel_rfl) rfl rfl) ?_
          refine d_store (i := 1) (vs := [.int .i64 (val (gQuo a0.Num x5)), .int .i64 (val (gQuo a0.Den x5))]) (cs' := [.int .i64 (val (gQuo a0.Num x5)), .int .i64 (val (gQuo a0.Den x5))]) Try.sizeOf44 rfl rfl rfl rfl rfl rfl rfl rfl rfl ?_
          refine d_val rfl rfl (r_assign (v := .int .i64 0) rfl) ?_
          refine d_nil ?_
          refine c_ret ?_
          obtain rfl := Option.some.inj H16
          refine retCt (i := 1) (vs := [.int .i64 (val (gQuo a0.Num x5)), .int .i64 (val (gQuo a0.Den x5))]) (v2 := .int .i64 0) Try.isAgg44 Try.sizeOf44 rfl rfl rfl rfl rfl (fin rfl)
          ) (by kernel_rfl)
      ) (by kernel_rfl)
theorem k23 {r : Bool} (H : Keep_awakeTag = some r) : Ret Try.prog 23 [] (.bool r) := by
  refine enterRet (n := 15) Try.func23 rfl rfl rfl (fun wd => ?_)
  refine c_seq ?_
  refine c_region ?_
  refine l_val rfl rfl rfl (r_assign (v := .bool false) rfl) ?_
  refine l_nil ?_
  refine c_seq ?_
  refine c_region ?_
  refine l_val rfl rfl rfl (r_build (pl := #[(0, 1), (1, 1)]) (ps := [(0, .int .i64 2), (1, .int .i64 4)]) (cells := #[.int .i64 2, .int .i64 4]) Try.zeroValue44 Try.runUnderlying44 (fun w => by kernel_rfl) rfl rfl) ?_
  obtain ⟨t5, h_t5, H4⟩ := bnd_some H; clear H
  refine l_call (k26 h_t5) Try.call26 rfl rfl rfl ?_
  refine l_val rfl rfl rfl (r_move (v := .tuple #[.agg #[.int .i64 t5.1.Num, .int .i64 t5.1.Den], .int .i64 t5.2]) rfl) ?_
  refine l_val rfl rfl rfl (r_extract (v := .agg #[.int .i64 t5.1.Num, .int .i64 t5.1.Den]) rfl rfl) ?_
  refine l_val rfl rfl rfl (r_extract (v := .int .i64 t5.2) rfl rfl) ?_
  refine l_alloc (cs := [.int .i64 0, .int .i64 0]) Try.zeroValue44 rfl rfl rfl (fun b1 => ?_)
  refine l_store (i := 0) (vs := [.int .i64 t5.1.Num, .int .i64 t5.1.Den]) (cs' := [.int .i64 t5.1.Num, .int .i64 t5.1.Den]) Try.sizeOf44 rfl rfl rfl rfl rfl rfl rfl rfl rfl ?_
  refine l_val rfl rfl rfl (r_assign (v := .int .i64 t5.2) rfl) ?_
  refine l_nil ?_
  refine c_seq ?_
  refine c_region ?_
  refine l_val rfl rfl rfl (r_move (v := .int .i64 t5.2) rfl) ?_
  refine l_val rfl rfl rfl (r_eql rfl rfl) ?_
  refine l_val rfl rfl rfl (r_move (v := .bool (decide (t5.2 = 0))) rfl) ?_
  refine split (fun hb => ?_) (fun hb => ?_)
  · have H5 := cnd_t hb H4; clear H4
    refine l_loadN (i := 0) (vs := [.int .i64 t5.1.Num, .int .i64 t5.1.Den]) Try.isAgg44 Try.sizeOf44 rfl rfl rfl rfl rfl ?_
    refine l_val rfl rfl rfl (r_build (pl := #[(0, 1), (1, 1)]) (ps := [(0, .int .i64 1), (1, .int .i64 2)]) (cells := #[.int .i64 1, .int .i64 2]) Try.zeroValue44 Try.runUnderlying44 (fun w => by kernel_rfl) rfl rfl) ?_
    refine l_val rfl rfl rfl (r_eqlA (xs := #[.int .i64 t5.1.Num, .int .i64 t5.1.Den]) (ys := #[.int .i64 1, .int .i64 2]) Try.eqGuardType44 (fun w => run_eq_tag_Ratio w t5.1 (⟨1, 2⟩ : T_tag_Ratio)) rfl rfl) ?_
    refine l_val rfl rfl rfl (r_pickT (v := .bool (eq_tag_Ratio t5.1 (⟨1, 2⟩ : T_tag_Ratio))) rfl rfl) ?_
    refine l_val rfl rfl rfl (r_assign (v := .bool (eq_tag_Ratio t5.1 (⟨1, 2⟩ : T_tag_Ratio))) rfl) ?_
    refine l_nil ?_
    refine c_ret ?_
    obtain rfl := Option.some.inj H5
    refine ret1 (v := .bool (eq_tag_Ratio t5.1 (⟨1, 2⟩ : T_tag_Ratio))) rfl rfl (fin rfl)
  · have H6 := cnd_f hb H4; clear H4
    refine l_passed rfl rfl rfl ?_
    refine l_passed rfl rfl rfl ?_
    refine l_passed rfl rfl rfl ?_
    refine l_val rfl rfl rfl (r_pickF (v := .bool false) rfl rfl) ?_
    refine l_val rfl rfl rfl (r_assign (v := .bool false) rfl) ?_
    refine l_nil ?_
    refine c_ret ?_
    obtain rfl := Option.some.inj H6
    refine ret1 (v := .bool false) rfl rfl (fin rfl)
theorem k24 {a0 : Int} {r : (List T_tag_Ratio) × Int} {w : World} {h : Heap} (hw : Know h w noS)  (H : tag_Ratios a0 = some r) : Does Try.prog 24 (List.toArray [.int .i64 a0]) w (fun v w' => ∃ x : (Option Addr × Nat), v = (.tuple #[.slice x.1 r.1.length x.2, .int .i64 r.2]) ∧ Turn w w' noS (rowV 44 2 (.slice x.1 r.1.length x.2) r.1.length (r.1.map e_tag_Ratio))) := by
  refine enter (n := 24) Try.func24 rfl rfl rfl noS [] (Sat.nil _ _) ?_
  refine c_seq ?_
  refine c_region ?_
  refine l_val rfl rfl rfl (r_assign (v := .slice none 0 0) rfl) ?_
  refine l_val rfl rfl rfl (r_assign (v := .int .i64 0) rfl) ?_
  refine l_nil ?_
  refine c_seq ?_
  refine c_seq ?_
  refine c_region ?_
  refine l_val rfl rfl rfl (r_move (v := .int .i64 a0) rfl) ?_
  obtain ⟨t7, h_t7, H11⟩ := bnd_some H; clear H
  refine l_call (k84 h_t7) Try.call84 rfl rfl rfl ?_
  refine l_nil ?_
  refine c_if (b := t7) rfl (fun hb => ?_) (fun hb => ?_)
  · have H12 := cnd_t hb H11; clear H11
    refine c_seq ?_
    refine c_region ?_
    refine l_val rfl rfl rfl (r_assign (v := .slice none 0 0) rfl) ?_
    refine l_val rfl rfl rfl (r_assign (v := .int .i64 2) rfl) ?_
    refine l_nil ?_
    refine c_ret ?_
    refine c_nilRow 44 2 ?_
    obtain rfl := Option.some.inj H12
    refine ret2 (v1 := .slice ((none, 0) : Option Addr × Nat).1 ([] : List T_tag_Ratio).length ((none, 0) : Option Addr × Nat).2) (v2 := .int .i64 2) rfl rfl rfl (finX ((none, 0) : Option Addr × Nat) (i := 0) rfl rfl (Imp.refl _))
  · have H13 := cnd_f hb H11; clear H11
    refine c_skip ?_
    refine c_seq ?_
    refine c_region ?_
    refine l_val rfl rfl rfl (r_move (v := .int .i64 a0) rfl) ?_
    obtain ⟨t9, h_t9, H14⟩ := bnd_some H13; clear H13
    refine l_val rfl rfl rfl (r_remG rfl rfl h_t9) ?_
    obtain ⟨t10, h_t10, H15⟩ := bnd_some H14; clear H14
    refine l_val rfl rfl rfl (r_mulG rfl rfl h_t10) ?_
    refine l_val rfl rfl rfl (r_assign (v := .int .i64 t10) rfl) ?_
    refine l_nil ?_
    refine c_seq ?_
    refine c_region ?_
    refine l_val rfl rfl rfl (r_move (v := .int .i64 t10) rfl) ?_
    obtain ⟨t12, h_t12, H16⟩ := bnd_some H15; clear H15
    refine l_val rfl rfl rfl (r_remG rfl rfl h_t12) ?_
    obtain ⟨t13, h_t13, H17⟩ := bnd_some H16; clear H16
    refine l_val rfl rfl rfl (r_mulG rfl rfl h_t13) ?_
    refine l_val rfl rfl rfl (r_assign (v := .int .i64 t13) rfl) ?_
    refine l_nil ?_
    refine c_seq ?_
    refine c_region ?_
    refine l_val rfl rfl rfl (r_move (v := .int .i64 a0) rfl) ?_
    obtain ⟨t15, h_t15, H18⟩ := bnd_some H17; clear H17
    refine l_val rfl rfl rfl (r_quoG rfl rfl h_t15) ?_
    refine l_val rfl rfl rfl (r_build (pl := #[(0, 1), (1, 1)]) (ps := [(0, .int .i64 t15), (1, .int .i64 1)]) (cells := #[.int .i64 t15, .int .i64 1]) Try.zeroValue44 Try.runUnderlying44 (fun w => by kernel_rfl) rfl rfl) ?_
    refine l_val rfl rfl rfl (r_move (v := .int .i64 t10) rfl) ?_
    obtain ⟨t18, h_t18, H19⟩ := bnd_some H18; clear H18
    refine l_val rfl rfl rfl (r_quoG rfl rfl h_t18) ?_
    refine l_val rfl rfl rfl (r_build (pl := #[(0, 1), (1, 1)]) (ps := [(0, .int .i64 t18), (1, .int .i64 1)]) (cells := #[.int .i64 t18, .int .i64 1]) Try.zeroValue44 Try.runUnderlying44 (fun w => by kernel_rfl) rfl rfl) ?_
    refine l_val rfl rfl rfl (r_move (v := .int .i64 t13) rfl) ?_
    obtain ⟨t21, h_t21, H20⟩ := bnd_some H19; clear H19
    refine l_val rfl rfl rfl (r_quoG rfl rfl h_t21) ?_
    refine l_val rfl rfl rfl (r_build (pl := #[(0, 1), (1, 1)]) (ps := [(0, .int .i64 t21), (1, .int .i64 10000)]) (cells := #[.int .i64 t21, .int .i64 10000]) Try.zeroValue44 Try.runUnderlying44 (fun w => by kernel_rfl) rfl rfl) ?_
    refine l_buildSlice (vs := [.agg #[.int .i64 t15, .int .i64 1], .agg #[.int .i64 t18, .int .i64 1], .agg #[.int .i64 t21, .int .i64 10000]]) (cs := [.int .i64 t15, .int .i64 1, .int .i64 t18, .int .i64 1, .int .i64 t21, .int .i64 10000]) Try.underlying39 Try.sizeOf44 Try.zeroValue44 rfl rfl rfl rfl rfl rfl rfl (fun b1 => ?_)
    refine l_val rfl rfl rfl (r_assign (v := .slice (some ⟨b1, 0, none⟩) 3 3) rfl) ?_
    refine l_val rfl rfl rfl (r_assign (v := .int .i64 0) rfl) ?_
    refine l_nil ?_
    refine c_ret ?_
    refine c_imp 0 rfl (imp_box (m := 3) (E := 44) (sz := 2) (xs := (([(⟨t15, 1⟩ : T_tag_Ratio), (⟨t18, 1⟩ : T_tag_Ratio), (⟨t21, 10000⟩ : T_tag_Ratio)] : List T_tag_Ratio)).map e_tag_Ratio) rfl rfl rfl ⟨rfl, by decide⟩) ?_
    obtain rfl := Option.some.inj H20
    refine ret2 (v1 := .slice ((some ⟨b1, 0, none⟩, 3) : Option Addr × Nat).1 3 ((some ⟨b1, 0, none⟩, 3) : Option Addr × Nat).2) (v2 := .int .i64 0) rfl rfl rfl (finX ((some ⟨b1, 0, none⟩, 3) : Option Addr × Nat) (i := 0) rfl rfl (Imp.refl _))
theorem k144 {a0 : Int} {a1 : Int} {r : Int × Int} (H : math_bits_Mul64 a0 a1 = some r) : Ret Try.prog 144 [.int .u64 a0, .int .u64 a1] (.tuple #[.int .u64 r.1, .int .u64 r.2]) := by
  refine enterRet (n := 51) Try.func144 rfl rfl rfl (fun wd => ?_)
  refine c_seq ?_
  refine c_region ?_
  refine l_val rfl rfl rfl (r_assign (v := .int .u64 0) rfl) ?_
  refine l_val rfl rfl rfl (r_assign (v := .int .u64 0) rfl) ?_
  refine l_nil ?_
  refine c_seq ?_
  refine c_region ?_
  refine l_val rfl rfl rfl (r_move (v := .int .u64 a0) rfl) ?_
  refine l_val rfl rfl rfl (r_bitsAnd (bits := 64) rfl rfl rfl (wr_u64 _)) ?_
  refine l_val rfl rfl rfl (r_assign (v := .int .u64 (wU64 (bAnd 64 a0 4294967295))) rfl) ?_
  refine l_nil ?_
  refine c_seq ?_
  refine c_region ?_
  refine l_val rfl rfl rfl (r_move (v := .int .u64 a0) rfl) ?_
  obtain ⟨t17, h_t17, H6⟩ := bnd_some H; clear H
  refine l_val rfl rfl rfl (r_shrG rfl rfl rfl h_t17) ?_
  refine l_val rfl rfl rfl (r_assign (v := .int .u64 t17) rfl) ?_
  refine l_nil ?_
  refine c_seq ?_
  refine c_region ?_
  refine l_val rfl rfl rfl (r_move (v := .int .u64 a1) rfl) ?_
  refine l_val rfl rfl rfl (r_bitsAnd (bits := 64) rfl rfl rfl (wr_u64 _)) ?_
  refine l_val rfl rfl rfl (r_assign (v := .int .u64 (wU64 (bAnd 64 a1 4294967295))) rfl) ?_
  refine l_nil ?_
  refine c_seq ?_
  refine c_region ?_
  refine l_val rfl rfl rfl (r_move (v := .int .u64 a1) rfl) ?_
  obtain ⟨t21, h_t21, H7⟩ := bnd_some H6; clear H6
  refine l_val rfl rfl rfl (r_shrG rfl rfl rfl h_t21) ?_
  refine l_val rfl rfl rfl (r_assign (v := .int .u64 t21) rfl) ?_
  refine l_nil ?_
  refine c_seq ?_
  refine c_region ?_
  refine l_val rfl rfl rfl (r_move (v := .int .u64 (wU64 (bAnd 64 a0 4294967295))) rfl) ?_
  refine l_val rfl rfl rfl (r_move (v := .int .u64 (wU64 (bAnd 64 a1 4294967295))) rfl) ?_
  refine l_val rfl rfl rfl (r_mulW rfl rfl (wr_u64 _)) ?_
  refine l_val rfl rfl rfl (r_assign (v := .int .u64 (wU64 ((wU64 (bAnd 64 a0 4294967295)) * (wU64 (bAnd 64 a1 4294967295))))) rfl) ?_
  refine l_nil ?_
  refine c_seq ?_
  refine c_region ?_
  refine l_val rfl rfl rfl (r_move (v := .int .u64 t17) rfl) ?_
  refine l_val rfl rfl rfl (r_move (v := .int .u64 (wU64 (bAnd 64 a1 4294967295))) rfl) ?_
  refine l_val rfl rfl rfl (r_mulW rfl rfl (wr_u64 _)) ?_
  refine l_val rfl rfl rfl (r_move (v := .int .u64 (wU64 ((wU64 (bAnd 64 a0 4294967295)) * (wU64 (bAnd 64 a1 4294967295))))) rfl) ?_
  obtain ⟨t29, h_t29, H8⟩ := bnd_some H7; clear H7
  refine l_val rfl rfl rfl (r_shrG rfl rfl rfl h_t29) ?_
  refine l_val rfl rfl rfl (r_addW rfl rfl (wr_u64 _)) ?_
  refine l_val rfl rfl rfl (r_assign (v := .int .u64 (wU64 ((wU64 (t17 * (wU64 (bAnd 64 a1 4294967295)))) + t29))) rfl) ?_
  refine l_nil ?_
  refine c_seq ?_
  refine c_region ?_
  refine l_val rfl rfl rfl (r_move (v := .int .u64 (wU64 ((wU64 (t17 * (wU64 (bAnd 64 a1 4294967295)))) + t29))) rfl) ?_
  refine l_val rfl rfl rfl (r_bitsAnd (bits := 64) rfl rfl rfl (wr_u64 _)) ?_
  refine l_val rfl rfl rfl (r_assign (v := .int .u64 (wU64 (bAnd 64 (wU64 ((wU64 (t17 * (wU64 (bAnd 64 a1 4294967295)))) + t29)) 4294967295))) rfl) ?_
  refine l_nil ?_
  refine c_seq ?_
  refine c_region ?_
  refine l_val rfl rfl rfl (r_move (v := .int .u64 (wU64 ((wU64 (t17 * (wU64 (bAnd 64 a1 4294967295)))) + t29))) rfl) ?_
  obtain ⟨t34, h_t34, H9⟩ := bnd_some H8; clear H8
  refine l_val rfl rfl rfl (r_shrG rfl rfl rfl h_t34) ?_
  refine l_val rfl rfl rfl (r_assign (v := .int .u64 t34) rfl) ?_
  refine l_nil ?_
  refine c_seq ?_
  refine c_region ?_
  refine l_val rfl rfl rfl (r_move (v := .int .u64 (wU64 (bAnd 64 (wU64 ((wU64 (t17 * (wU64 (bAnd 64 a1 4294967295)))) + t29)) 4294967295))) rfl) ?_
  refine l_val rfl rfl rfl (r_move (v := .int .u64 (wU64 (bAnd 64 a0 4294967295))) rfl) ?_
  refine l_val rfl rfl rfl (r_move (v := .int .u64 t21) rfl) ?_
  refine l_val rfl rfl rfl (r_mulW rfl rfl (wr_u64 _)) ?_
  refine l_val rfl rfl rfl (r_addW rfl rfl (wr_u64 _)) ?_
  refine l_val rfl rfl rfl (r_assign (v := .int .u64 (wU64 ((wU64 (bAnd 64 (wU64 ((wU64 (t17 * (wU64 (bAnd 64 a1 4294967295)))) + t29)) 4294967295)) + (wU64 ((wU64 (bAnd 64 a0 4294967295)) * t21))))) rfl) ?_
  refine l_nil ?_
  refine c_seq ?_
  refine c_region ?_
  refine l_val rfl rfl rfl (r_move (v := .int .u64 t17) rfl) ?_
  refine l_val rfl rfl rfl (r_move (v := .int .u64 t21) rfl) ?_
  refine l_val rfl rfl rfl (r_mulW rfl rfl (wr_u64 _)) ?_
  refine l_val rfl rfl rfl (r_move (v := .int .u64 t34) rfl) ?_
  refine l_val rfl rfl rfl (r_addW rfl rfl (wr_u64 _)) ?_
  refine l_val rfl rfl rfl (r_move (v := .int .u64 (wU64 ((wU64 (bAnd 64 (wU64 ((wU64 (t17 * (wU64 (bAnd 64 a1 4294967295)))) + t29)) 4294967295)) + (wU64 ((wU64 (bAnd 64 a0 4294967295)) * t21))))) rfl) ?_
  obtain ⟨t46, h_t46, H10⟩ := bnd_some H9; clear H9
  refine l_val rfl rfl rfl (r_shrG rfl rfl rfl h_t46) ?_
  refine l_val rfl rfl rfl (r_addW rfl rfl (wr_u64 _)) ?_
  refine l_val rfl rfl rfl (r_assign (v := .int .u64 (wU64 ((wU64 ((wU64 (t17 * t21)) + t34)) + t46))) rfl) ?_
  refine l_nil ?_
  refine c_seq ?_
  refine c_region ?_
  refine l_val rfl rfl rfl (r_move (v := .int .u64 a0) rfl) ?_
  refine l_val rfl rfl rfl (r_move (v := .int .u64 a1) rfl) ?_
  refine l_val rfl rfl rfl (r_mulW rfl rfl (wr_u64 _)) ?_
  refine l_val rfl rfl rfl (r_assign (v := .int .u64 (wU64 (a0 * a1))) rfl) ?_
  refine l_nil ?_
  refine c_ret ?_
  obtain rfl := Option.some.inj H10
  refine ret2 (v1 := .int .u64 (wU64 ((wU64 ((wU64 (t17 * t21)) + t34)) + t46))) (v2 := .int .u64 (wU64 (a0 * a1))) rfl rfl rfl (fin rfl)
theorem k88 {a0 : T_tag_wide} {a1 : Int} {r : T_tag_wide} (H : tag_wide_times a0 a1 = some r) : Ret Try.prog 88 [.agg #[.int .u64 a0.high_, .int .u64 a0.low_], .int .u64 a1] (.agg #[.int .u64 r.high_, .int .u64 r.low_]) := by
  refine enterRet (n := 22) Try.func88 rfl rfl rfl (fun wd => ?_)
  refine c_seq ?_
  refine c_region ?_
  refine l_box (cs := [.int .u64 a0.high_, .int .u64 a0.low_]) rfl rfl rfl rfl (fun b2 => ?_)
  refine l_alloc (cs := [.int .u64 0, .int .u64 0]) Try.zeroValue136 rfl rfl rfl (fun b3 => ?_)
  refine l_nil ?_
  refine c_seq ?_
  refine c_region ?_
  refine l_val rfl rfl rfl (r_field Try.runUnderlying136 rfl Try.sizeOf132 rfl rfl) ?_
  refine l_load1 (i := 0) (v := .int .u64 a0.low_) Try.isAgg132 rfl rfl rfl rfl rfl ?_
  refine l_val rfl rfl rfl (r_move (v := .int .u64 a1) rfl) ?_
  obtain ⟨t11, h_t11, H2⟩ := bnd_some H; clear H
  refine l_call (k144 h_t11) Try.call144 rfl rfl rfl ?_
  refine l_val rfl rfl rfl (r_move (v := .tuple #[.int .u64 t11.1, .int .u64 t11.2]) rfl) ?_
  refine l_val rfl rfl rfl (r_extract (v := .int .u64 t11.1) rfl rfl) ?_
  refine l_val rfl rfl rfl (r_extract (v := .int .u64 t11.2) rfl rfl) ?_
  refine l_val rfl rfl rfl (r_assign (v := .int .u64 t11.1) rfl) ?_
  refine l_val rfl rfl rfl (r_assign (v := .int .u64 t11.2) rfl) ?_
  refine l_nil ?_
  refine c_seq ?_
  refine c_region ?_
  refine l_val rfl rfl rfl (r_move (v := .int .u64 t11.1) rfl) ?_
  refine l_val rfl rfl rfl (r_field Try.runUnderlying136 rfl Try.sizeOf132 rfl rfl) ?_
  refine l_load1 (i := 0) (v := .int .u64 a0.high_) Try.isAgg132 rfl rfl rfl rfl rfl ?_
  refine l_val rfl rfl rfl (r_move (v := .int .u64 a1) rfl) ?_
  refine l_val rfl rfl rfl (r_mulW rfl rfl (wr_u64 _)) ?_
  refine l_val rfl rfl rfl (r_addW rfl rfl (wr_u64 _)) ?_
  refine l_val rfl rfl rfl (r_move (v := .int .u64 t11.2) rfl) ?_
  refine l_val rfl rfl rfl (r_build (pl := #[(0, 1), (1, 1)]) (ps := [(0, .int .u64 (wU64 (t11.1 + (wU64 (a0.high_ * a1))))), (1, .int .u64 t11.2)]) (cells := #[.int .u64 (wU64 (t11.1 + (wU64 (a0.high_ * a1)))), .int .u64 t11.2]) Try.zeroValue136 Try.runUnderlying136 (fun w => by kernel_rfl) rfl rfl) ?_
  refine l_store (i := 1) (vs := [.int .u64 (wU64 (t11.1 + (wU64 (a0.high_ * a1)))), .int .u64 t11.2]) (cs' := [.int .u64 (wU64 (t11.1 + (wU64 (a0.high_ * a1)))), .int .u64 t11.2]) Try.sizeOf136 rfl rfl rfl rfl rfl rfl rfl rfl rfl ?_
  refine l_nil ?_
  refine c_ret ?_
  obtain rfl := Option.some.inj H2
  refine retC (i := 1) (vs := [.int .u64 (wU64 (t11.1 + (wU64 (a0.high_ * a1)))), .int .u64 t11.2]) Try.isAgg136 Try.sizeOf136 rfl rfl rfl rfl (fin rfl)
theorem k86 {a0 : (List Int)} {v0 : Value} {r : T_tag_wide} {w : World} {h : Heap} (hw : Know h w noS) (f0 : FrS h 1 v0 (a0.map e_u64)) (H : tag_product a0 = some r) : Does Try.prog 86 (List.toArray [v0]) w (fun v w' => v = (.agg #[.int .u64 r.high_, .int .u64 r.low_]) ∧ Grow w w') := by
  refine enter (n := 18) Try.func86 rfl rfl rfl noS [] (Sat.nil _ _) ?_
  refine c_seq ?_
  refine c_region ?_
  refine l_alloc (cs := [.int .u64 0, .int .u64 0]) Try.zeroValue136 rfl rfl rfl (fun b2 => ?_)
  refine l_nil ?_
  refine c_seq ?_
  refine c_region ?_
  refine l_val rfl rfl rfl (r_build (pl := #[(0, 1), (1, 1)]) (ps := [(0, .int .u64 0), (1, .int .u64 1)]) (cells := #[.int .u64 0, .int .u64 1]) Try.zeroValue136 Try.runUnderlying136 (fun w => by kernel_rfl) rfl rfl) ?_
  refine l_alloc (cs := [.int .u64 0, .int .u64 0]) Try.zeroValue136 rfl rfl rfl (fun b3 => ?_)
  refine l_store (i := 1) (vs := [.int .u64 0, .int .u64 1]) (cs' := [.int .u64 0, .int .u64 1]) Try.sizeOf136 rfl rfl rfl rfl rfl rfl rfl rfl rfl ?_
  refine l_nil ?_
  refine c_meet (r := r) (σ := Int × Int) (τ := Unit) (fun s => tag_product_j1 s.1 s.2) (fun s t => [(2, .pointer (some ⟨b2, 0, none⟩)), (3, .pointer (some ⟨b3, 0, none⟩))]) (fun s t => [cellsC b2 [.int .u64 0, .int .u64 0] 136, cellsC b3 [.int .u64 s.1, .int .u64 s.2] 136]) (fun s t => True) ?_ ?_
  · refine c_seq ?_
    refine c_region ?_
    refine l_val rfl rfl rfl (r_move (v := v0) rfl) ?_
    refine l_val rfl rfl rfl (r_lenF Try.underlying189 rfl f0 rfl) ?_
    refine l_val rfl rfl rfl (r_move (v := .int .i64 0) rfl) ?_
    refine l_nil ?_
    refine c_block ?_
    refine c_fix (σ := Int × Int × Int) (τ := Unit) (fun next2 s => tag_product_l2 a0 next2 s.1 s.2.1 s.2.2) (fun s t => [(2, .pointer (some ⟨b2, 0, none⟩)), (3, .pointer (some ⟨b3, 0, none⟩)), (7, v0), (8, .int .i64 (a0.length : Int)), (9, .int .i64 s.1)]) (fun s t => [cellsC b2 [.int .u64 0, .int .u64 0] 136, cellsC b3 [.int .u64 s.2.1, .int .u64 s.2.2] 136]) (fun s t => True) (0, 0, 1) () [0, 1] H (by exact trivial) (by exact ⟨rfl, rfl, rfl, rfl, rfl, trivial⟩) (by decide) rfl ?_
    rintro ⟨x9_2, m_5, m_6⟩ _ m2 gg H9 _
    clear H
    replace H9 : tag_product_l2 a0 (it (fun next2 s => tag_product_l2 a0 next2 s.1 s.2.1 s.2.2) m2) x9_2 m_5 m_6 = some r := H9
    generalize hn2 : it (fun next2 s => tag_product_l2 a0 next2 s.1 s.2.1 s.2.2) m2 = next2 at H9
    refine c_tidyF [(2, .pointer (some ⟨b2, 0, none⟩)), (3, .pointer (some ⟨b3, 0, none⟩)), (7, v0), (8, .int .i64 (a0.length : Int)), (9, .int .i64 x9_2)] [cellsC b2 [.int .u64 0, .int .u64 0] 136, cellsC b3 [.int .u64 m_5, .int .u64 m_6] 136] rfl rfl ?_
    refine c_seq ?_
    refine c_region ?_
    refine l_val rfl rfl rfl (r_lss rfl rfl) ?_
    refine l_nil ?_
    refine c_seq ?_
    refine c_if (b := (decide (x9_2 < (a0.length : Int)))) rfl (fun hb => ?_) (fun hb => ?_)
    · have H10 := cnd_t hb H9; clear H9
      refine c_skip ?_
      refine c_seq ?_
      refine c_block ?_
      refine c_seq ?_
      refine c_region ?_
      obtain ⟨t11, h_t11, H11⟩ := bnd_some H10; clear H10
      refine l_val rfl rfl rfl (r_indexF Try.underlying189 Try.sizeOf132 rfl rfl f0 h_t11) ?_
      refine l_read (fun w hF hS => run_loadG1 (j := 0) (v := .int .u64 t11) Try.isAgg132 rfl rfl (f0.row (hw.now hF)) h_t11 rfl) rfl rfl rfl ?_
      refine l_val rfl rfl rfl (r_assign (v := .int .u64 t11) rfl) ?_
      refine l_nil ?_
      refine c_region ?_
      refine l_loadN (i := 1) (vs := [.int .u64 m_5, .int .u64 m_6]) Try.isAgg136 Try.sizeOf136 rfl rfl rfl rfl rfl ?_
      refine l_val rfl rfl rfl (r_move (v := .int .u64 t11) rfl) ?_
      obtain ⟨t15, h_t15, H12⟩ := bnd_some H11; clear H11
      refine l_call (k88 h_t15) Try.call88 rfl rfl rfl ?_
      refine l_store (i := 1) (vs := [.int .u64 t15.high_, .int .u64 t15.low_]) (cs' := [.int .u64 t15.high_, .int .u64 t15.low_]) Try.sizeOf136 rfl rfl rfl rfl rfl rfl rfl rfl rfl ?_
      refine l_nil ?_
      refine c_region ?_
      obtain ⟨t16, h_t16, H13⟩ := bnd_some H12; clear H12
      refine l_val rfl rfl rfl (r_addG rfl rfl h_t16) ?_
      refine l_val rfl rfl rfl (r_move (v := .int .i64 t16) rfl) ?_
      refine l_nil ?_
      refine c_close (t16, t15.high_, t15.low_) () m2 [0, 1] (by exact ⟨rfl, rfl, rfl, rfl, rfl, trivial⟩) (by decide) rfl (by exact ⟨(by subst hn2; exact H13), trivial⟩) (Nat.lt_succ_self _)
    · have H14 := cnd_f hb H9; clear H9
      refine c_exit ?_
      refine c_close (m_5, m_6) () 0 [0, 1] (by exact ⟨rfl, rfl, trivial⟩) (by decide) rfl (by exact ⟨H14, trivial⟩) (Nat.lt_succ_self _)
  · rintro ⟨m, m_2⟩ _ gg H8 _
    replace H8 : tag_product_j1 m m_2 = some r := H8
    refine c_tidyF [(2, .pointer (some ⟨b2, 0, none⟩)), (3, .pointer (some ⟨b3, 0, none⟩))] [cellsC b2 [.int .u64 0, .int .u64 0] 136, cellsC b3 [.int .u64 m, .int .u64 m_2] 136] rfl rfl ?_
    refine c_seq ?_
    refine c_region ?_
    refine l_loadN (i := 1) (vs := [.int .u64 m, .int .u64 m_2]) Try.isAgg136 Try.sizeOf136 rfl rfl rfl rfl rfl ?_
    refine l_store (i := 0) (vs := [.int .u64 m, .int .u64 m_2]) (cs' := [.int .u64 m, .int .u64 m_2]) Try.sizeOf136 rfl rfl rfl rfl rfl rfl rfl rfl rfl ?_
    refine l_nil ?_
    refine c_ret ?_
    obtain rfl := Option.some.inj H8
    refine retC (i := 0) (vs := [.int .u64 m, .int .u64 m_2]) Try.isAgg136 Try.sizeOf136 rfl rfl rfl rfl (fin rfl)
theorem ext143 (x y c : Int) (p : Int × Int) (h : gAdd64 x y c = some p) (w : World) : (callFunc 143 (List.toArray [.int .u64 x, .int .u64 y, .int .u64 c])).run Try.prog w = .ok (.value (.tuple #[.int .u64 p.1, .int .u64 p.2])) w := by
  have h0 : (callFunc 143 #[.int .u64 x, .int .u64 y, .int .u64 c]).run Try.prog w = (do pure (.value (← add64Entry #[.int .u64 x, .int .u64 y, .int .u64 c])) : Sem Next).run Try.prog w := by kernel_rfl
  rw [h0]
  simp only [Sem.run_bind, Go.Lx.run_add64 x y c p h, Result.andThen_ok, Sem.run_pure]

theorem k87 {a0 : T_tag_wide} {a1 : T_tag_wide} {r : T_tag_wide} (H : tag_wide_plus a0 a1 = some r) : Ret Try.prog 87 [.agg #[.int .u64 a0.high_, .int .u64 a0.low_], .agg #[.int .u64 a1.high_, .int .u64 a1.low_]] (.agg #[.int .u64 r.high_, .int .u64 r.low_]) := by
  refine enterRet (n := 29) Try.func87 rfl rfl rfl (fun wd => ?_)
  refine c_seq ?_
  refine c_region ?_
  refine l_box (cs := [.int .u64 a0.high_, .int .u64 a0.low_]) rfl rfl rfl rfl (fun b3 => ?_)
  refine l_box (cs := [.int .u64 a1.high_, .int .u64 a1.low_]) rfl rfl rfl rfl (fun b4 => ?_)
  refine l_alloc (cs := [.int .u64 0, .int .u64 0]) Try.zeroValue136 rfl rfl rfl (fun b5 => ?_)
  refine l_nil ?_
  refine c_seq ?_
  refine c_region ?_
  refine l_val rfl rfl rfl (r_field Try.runUnderlying136 rfl Try.sizeOf132 rfl rfl) ?_
  refine l_load1 (i := 0) (v := .int .u64 a0.low_) Try.isAgg132 rfl rfl rfl rfl rfl ?_
  refine l_val rfl rfl rfl (r_field Try.runUnderlying136 rfl Try.sizeOf132 rfl rfl) ?_
  refine l_load1 (i := 1) (v := .int .u64 a1.low_) Try.isAgg132 rfl rfl rfl rfl rfl ?_
  obtain ⟨t14, h_t14, H3⟩ := bnd_some H; clear H
  refine l_val rfl rfl rfl (r_ext (args := [.int .u64 a0.low_, .int .u64 a1.low_, .int .u64 0]) (ext143 _ _ _ _ h_t14) rfl) ?_
  refine l_val rfl rfl rfl (r_move (v := .tuple #[.int .u64 t14.1, .int .u64 t14.2]) rfl) ?_
  refine l_val rfl rfl rfl (r_extract (v := .int .u64 t14.1) rfl rfl) ?_
  refine l_val rfl rfl rfl (r_extract (v := .int .u64 t14.2) rfl rfl) ?_
  refine l_val rfl rfl rfl (r_assign (v := .int .u64 t14.1) rfl) ?_
  refine l_val rfl rfl rfl (r_assign (v := .int .u64 t14.2) rfl) ?_
  refine l_nil ?_
  refine c_seq ?_
  refine c_region ?_
  refine l_val rfl rfl rfl (r_field Try.runUnderlying136 rfl Try.sizeOf132 rfl rfl) ?_
  refine l_load1 (i := 0) (v := .int .u64 a0.high_) Try.isAgg132 rfl rfl rfl rfl rfl ?_
  refine l_val rfl rfl rfl (r_field Try.runUnderlying136 rfl Try.sizeOf132 rfl rfl) ?_
  refine l_load1 (i := 1) (v := .int .u64 a1.high_) Try.isAgg132 rfl rfl rfl rfl rfl ?_
  refine l_val rfl rfl rfl (r_move (v := .int .u64 t14.2) rfl) ?_
  obtain ⟨t23, h_t23, H4⟩ := bnd_some H3; clear H3
  refine l_val rfl rfl rfl (r_ext (args := [.int .u64 a0.high_, .int .u64 a1.high_, .int .u64 t14.2]) (ext143 _ _ _ _ h_t23) rfl) ?_
  refine l_val rfl rfl rfl (r_move (v := .tuple #[.int .u64 t23.1, .int .u64 t23.2]) rfl) ?_
  refine l_val rfl rfl rfl (r_extract (v := .int .u64 t23.1) rfl rfl) ?_
  refine l_val rfl rfl rfl (r_extract (v := .int .u64 t23.2) rfl rfl) ?_
  refine l_val rfl rfl rfl (r_assign (v := .int .u64 t23.1) rfl) ?_
  refine l_val rfl rfl rfl (r_assign (v := .int .u64 t23.2) rfl) ?_
  refine l_nil ?_
  refine c_seq ?_
  refine c_region ?_
  refine l_val rfl rfl rfl (r_move (v := .int .u64 t23.1) rfl) ?_
  refine l_val rfl rfl rfl (r_move (v := .int .u64 t14.1) rfl) ?_
  refine l_val rfl rfl rfl (r_build (pl := #[(0, 1), (1, 1)]) (ps := [(0, .int .u64 t23.1), (1, .int .u64 t14.1)]) (cells := #[.int .u64 t23.1, .int .u64 t14.1]) Try.zeroValue136 Try.runUnderlying136 (fun w => by kernel_rfl) rfl rfl) ?_
  refine l_store (i := 2) (vs := [.int .u64 t23.1, .int .u64 t14.1]) (cs' := [.int .u64 t23.1, .int .u64 t14.1]) Try.sizeOf136 rfl rfl rfl rfl rfl rfl rfl rfl rfl ?_
  refine l_nil ?_
  refine c_ret ?_
  obtain rfl := Option.some.inj H4
  refine retC (i := 2) (vs := [.int .u64 t23.1, .int .u64 t14.1]) Try.isAgg136 Try.sizeOf136 rfl rfl rfl rfl (fin rfl)
theorem k89 {a0 : T_tag_wide} {a1 : T_tag_wide} {r : Bool} (H : tag_wide_atLeast a0 a1 = some r) : Ret Try.prog 89 [.agg #[.int .u64 a0.high_, .int .u64 a0.low_], .agg #[.int .u64 a1.high_, .int .u64 a1.low_]] (.bool r) := by
  refine enterRet (n := 24) Try.func89 rfl rfl rfl (fun wd => ?_)
  refine c_seq ?_
  refine c_region ?_
  refine l_box (cs := [.int .u64 a0.high_, .int .u64 a0.low_]) rfl rfl rfl rfl (fun b2 => ?_)
  refine l_box (cs := [.int .u64 a1.high_, .int .u64 a1.low_]) rfl rfl rfl rfl (fun b3 => ?_)
  refine l_val rfl rfl rfl (r_assign (v := .bool false) rfl) ?_
  refine l_nil ?_
  refine c_seq ?_
  refine c_region ?_
  refine l_val rfl rfl rfl (r_field Try.runUnderlying136 rfl Try.sizeOf132 rfl rfl) ?_
  refine l_load1 (i := 0) (v := .int .u64 a0.high_) Try.isAgg132 rfl rfl rfl rfl rfl ?_
  refine l_val rfl rfl rfl (r_field Try.runUnderlying136 rfl Try.sizeOf132 rfl rfl) ?_
  refine l_load1 (i := 1) (v := .int .u64 a1.high_) Try.isAgg132 rfl rfl rfl rfl rfl ?_
  refine l_val rfl rfl rfl (r_gtr rfl rfl) ?_
  refine l_val rfl rfl rfl (r_move (v := .bool (decide (a1.high_ < a0.high_))) rfl) ?_
  refine split (fun hb => ?_) (fun hb => ?_)
  · have H5 := cnd_t hb H; clear H
    refine l_passed rfl rfl rfl ?_
    refine l_passed rfl rfl rfl ?_
    refine l_passed rfl rfl rfl ?_
    refine l_passed rfl rfl rfl ?_
    refine l_passed rfl rfl rfl ?_
    refine l_passed rfl rfl rfl ?_
    refine l_passed rfl rfl rfl ?_
    refine l_passed rfl rfl rfl ?_
    refine l_passed rfl rfl rfl ?_
    refine l_passed rfl rfl rfl ?_
    refine l_passed rfl rfl rfl ?_
    refine l_passed rfl rfl rfl ?_
    refine l_val rfl rfl rfl (r_pickT (v := .bool true) rfl rfl) ?_
    refine l_val rfl rfl rfl (r_assign (v := .bool true) rfl) ?_
    refine l_nil ?_
    refine c_ret ?_
    obtain rfl := Option.some.inj H5
    refine ret1 (v := .bool true) rfl rfl (fin rfl)
  · have H6 := cnd_f hb H; clear H
    refine l_val rfl rfl rfl (r_field Try.runUnderlying136 rfl Try.sizeOf132 rfl rfl) ?_
    refine l_load1 (i := 0) (v := .int .u64 a0.high_) Try.isAgg132 rfl rfl rfl rfl rfl ?_
    refine l_val rfl rfl rfl (r_field Try.runUnderlying136 rfl Try.sizeOf132 rfl rfl) ?_
    refine l_load1 (i := 1) (v := .int .u64 a1.high_) Try.isAgg132 rfl rfl rfl rfl rfl ?_
    refine l_val rfl rfl rfl (r_eql rfl rfl) ?_
    refine l_val rfl rfl rfl (r_move (v := .bool (decide (a0.high_ = a1.high_))) rfl) ?_
    refine split (fun hb => ?_) (fun hb => ?_)
    · have H7 := cnd_t hb H6; clear H6
      refine l_val rfl rfl rfl (r_field Try.runUnderlying136 rfl Try.sizeOf132 rfl rfl) ?_
      refine l_load1 (i := 0) (v := .int .u64 a0.low_) Try.isAgg132 rfl rfl rfl rfl rfl ?_
      refine l_val rfl rfl rfl (r_field Try.runUnderlying136 rfl Try.sizeOf132 rfl rfl) ?_
      refine l_load1 (i := 1) (v := .int .u64 a1.low_) Try.isAgg132 rfl rfl rfl rfl rfl ?_
      refine l_val rfl rfl rfl (r_geq rfl rfl) ?_
      refine l_val rfl rfl rfl (r_pickT (v := .bool (decide (a1.low_ ≤ a0.low_))) rfl rfl) ?_
      refine l_val rfl rfl rfl (r_pickF (v := .bool (decide (a1.low_ ≤ a0.low_))) rfl rfl) ?_
      refine l_val rfl rfl rfl (r_assign (v := .bool (decide (a1.low_ ≤ a0.low_))) rfl) ?_
      refine l_nil ?_
      refine c_ret ?_
      obtain rfl := Option.some.inj H7
      refine ret1 (v := .bool (decide (a1.low_ ≤ a0.low_))) rfl rfl (fin rfl)
    · have H8 := cnd_f hb H6; clear H6
      refine l_passed rfl rfl rfl ?_
      refine l_passed rfl rfl rfl ?_
      refine l_passed rfl rfl rfl ?_
      refine l_passed rfl rfl rfl ?_
      refine l_passed rfl rfl rfl ?_
      refine l_val rfl rfl rfl (r_pickF (v := .bool false) rfl rfl) ?_
      refine l_val rfl rfl rfl (r_pickF (v := .bool false) rfl rfl) ?_
      refine l_val rfl rfl rfl (r_assign (v := .bool false) rfl) ?_
      refine l_nil ?_
      refine c_ret ?_
      obtain rfl := Option.some.inj H8
      refine ret1 (v := .bool false) rfl rfl (fin rfl)
theorem k25 {a0 : (List T_tag_Ratio)} {v0 : Value} {r : Int × Int} {w : World} {h : Heap} (hw : Know h w noS) (f0 : FrS h 2 v0 (a0.map e_tag_Ratio)) (H : tag_Degrees a0 = some r) : Does Try.prog 25 (List.toArray [v0]) w (fun v w' => v = (.tuple #[.int .i64 r.1, .int .i64 r.2]) ∧ Grow w w') := by
  refine enter (n := 99) Try.func25 rfl rfl rfl noS [] (Sat.nil _ _) ?_
  refine c_seq ?_
  refine c_region ?_
  refine l_val rfl rfl rfl (r_assign (v := .int .i64 0) rfl) ?_
  refine l_val rfl rfl rfl (r_assign (v := .int .i64 0) rfl) ?_
  refine l_nil ?_
  refine c_seq ?_
  refine c_seq ?_
  refine c_region ?_
  refine l_val rfl rfl rfl (r_move (v := v0) rfl) ?_
  refine l_val rfl rfl rfl (r_lenF Try.underlying39 rfl f0 rfl) ?_
  refine l_val rfl rfl rfl (r_neq rfl rfl) ?_
  refine l_nil ?_
  refine c_if (b := (decide ((a0.length : Int) ≠ 3))) rfl (fun hb => ?_) (fun hb => ?_)
  · have H35 := cnd_t hb H; clear H
    refine c_seq ?_
    refine c_region ?_
    refine l_val rfl rfl rfl (r_assign (v := .int .i64 0) rfl) ?_
    refine l_val rfl rfl rfl (r_assign (v := .int .i64 1) rfl) ?_
    refine l_nil ?_
    refine c_ret ?_
    obtain rfl := Option.some.inj H35
    refine ret2 (v1 := .int .i64 0) (v2 := .int .i64 1) rfl rfl rfl (fin rfl)
  · have H36 := cnd_f hb H; clear H
    refine c_skip ?_
    refine c_seq ?_
    refine c_region ?_
    refine l_val rfl rfl rfl (r_assign (v := .int .i64 0) rfl) ?_
    refine l_nil ?_
    refine c_seq ?_
    refine c_region ?_
    refine l_alloc (cs := [.int .u64 ((fun _ => 0) 0), .int .u64 ((fun _ => 0) 1), .int .u64 ((fun _ => 0) 2)]) Try.zeroValue133 rfl rfl rfl (fun b8 => ?_)
    refine l_alloc (cs := [.int .u64 ((fun _ => 0) 0), .int .u64 ((fun _ => 0) 1), .int .u64 ((fun _ => 0) 2)]) Try.zeroValue133 rfl rfl rfl (fun b9 => ?_)
    refine l_nil ?_
    refine c_meet (r := r) (σ := Int × (Nat → Int) × (Nat → Int)) (τ := Unit) (fun s => tag_Degrees_j1 s.1 s.2.1 s.2.2) (fun s t => [(4, .int .i64 s.1), (5, .pointer (some ⟨b8, 0, none⟩)), (6, .pointer (some ⟨b9, 0, none⟩))]) (fun s t => [cellsC b8 [.int .u64 (s.2.1 0), .int .u64 (s.2.1 1), .int .u64 (s.2.1 2)] 133, cellsC b9 [.int .u64 (s.2.2 0), .int .u64 (s.2.2 1), .int .u64 (s.2.2 2)] 133]) (fun s t => True) ?_ ?_
    · refine c_seq ?_
      refine c_region ?_
      refine l_val rfl rfl rfl (r_move (v := v0) rfl) ?_
      refine l_val rfl rfl rfl (r_lenF Try.underlying39 rfl f0 rfl) ?_
      refine l_val rfl rfl rfl (r_move (v := .int .i64 0) rfl) ?_
      refine l_nil ?_
      refine c_block ?_
      refine c_fix (σ := Int × Int × (Nat → Int) × (Nat → Int)) (τ := Unit) (fun next4 s => tag_Degrees_l4 a0 next4 s.1 s.2.1 s.2.2.1 s.2.2.2) (fun s t => [(4, .int .i64 s.1), (5, .pointer (some ⟨b8, 0, none⟩)), (6, .pointer (some ⟨b9, 0, none⟩)), (17, v0), (18, .int .i64 (a0.length : Int)), (19, .int .i64 s.2.1)]) (fun s t => [cellsC b8 [.int .u64 (s.2.2.1 0), .int .u64 (s.2.2.1 1), .int .u64 (s.2.2.1 2)] 133, cellsC b9 [.int .u64 (s.2.2.2 0), .int .u64 (s.2.2.2 1), .int .u64 (s.2.2.2 2)] 133]) (fun s t => True) (0, 0, (fun _ => 0), (fun _ => 0)) () [0, 1] H36 (by exact trivial) (by exact ⟨rfl, rfl, rfl, rfl, rfl, rfl, trivial⟩) (by decide) rfl ?_
      rintro ⟨x4_6, x19_2, m_5, m_6⟩ _ m4 gg H53 _
      clear H36
      replace H53 : tag_Degrees_l4 a0 (it (fun next4 s => tag_Degrees_l4 a0 next4 s.1 s.2.1 s.2.2.1 s.2.2.2) m4) x4_6 x19_2 m_5 m_6 = some r := H53
      generalize hn4 : it (fun next4 s => tag_Degrees_l4 a0 next4 s.1 s.2.1 s.2.2.1 s.2.2.2) m4 = next4 at H53
      refine c_tidyF [(4, .int .i64 x4_6), (5, .pointer (some ⟨b8, 0, none⟩)), (6, .pointer (some ⟨b9, 0, none⟩)), (17, v0), (18, .int .i64 (a0.length : Int)), (19, .int .i64 x19_2)] [cellsC b8 [.int .u64 (m_5 0), .int .u64 (m_5 1), .int .u64 (m_5 2)] 133, cellsC b9 [.int .u64 (m_6 0), .int .u64 (m_6 1), .int .u64 (m_6 2)] 133] rfl rfl ?_
      refine c_seq ?_
      refine c_region ?_
      refine l_val rfl rfl rfl (r_lss rfl rfl) ?_
      refine l_nil ?_
      refine c_seq ?_
      refine c_if (b := (decide (x19_2 < (a0.length : Int)))) rfl (fun hb => ?_) (fun hb => ?_)
      · have H54 := cnd_t hb H53; clear H53
        refine c_skip ?_
        refine c_seq ?_
        refine c_block ?_
        refine c_seq ?_
        refine c_region ?_
        refine l_val rfl rfl rfl (r_move (v := .int .i64 x19_2) rfl) ?_
        obtain ⟨t22, h_t22, H55⟩ := bnd_some H54; clear H54
        refine l_val rfl rfl rfl (r_indexF Try.underlying39 Try.sizeOf44 rfl rfl f0 h_t22) ?_
        refine l_read (fun w hF hS => run_loadGN (j := 0) (vs := [.int .i64 t22.Num, .int .i64 t22.Den]) Try.isAgg44 Try.sizeOf44 rfl rfl (f0.row (hw.now hF)) h_t22 rfl) rfl rfl rfl ?_
        refine l_alloc (cs := [.int .i64 0, .int .i64 0]) Try.zeroValue44 rfl rfl rfl (fun b15 => ?_)
        refine l_val rfl rfl rfl (r_assign (v := .int .i64 x19_2) rfl) ?_
        refine l_store (i := 2) (vs := [.int .i64 t22.Num, .int .i64 t22.Den]) (cs' := [.int .i64 t22.Num, .int .i64 t22.Den]) Try.sizeOf44 rfl rfl rfl rfl rfl rfl rfl rfl rfl ?_
        refine l_nil ?_
        refine c_seq ?_
        refine c_seq ?_
        refine c_region ?_
        refine l_loadN (i := 2) (vs := [.int .i64 t22.Num, .int .i64 t22.Den]) Try.isAgg44 Try.sizeOf44 rfl rfl rfl rfl rfl ?_
        obtain ⟨t25, h_t25, H56⟩ := bnd_some H55; clear H55
        refine l_call (k85 h_t25) Try.call85 rfl rfl rfl ?_
        refine l_val rfl rfl rfl (r_assign (v := .int .i64 t25) rfl) ?_
        refine l_nil ?_
        refine c_seq ?_
        refine c_region ?_
        refine l_val rfl rfl rfl (r_move (v := .int .i64 t25) rfl) ?_
        refine l_val rfl rfl rfl (r_neq rfl rfl) ?_
        refine l_nil ?_
        refine c_if (b := (decide (t25 ≠ 0))) rfl (fun hb => ?_) (fun hb => ?_)
        · have H57 := cnd_t hb H56; clear H56
          refine c_seq ?_
          refine c_region ?_
          refine l_val rfl rfl rfl (r_move (v := .int .i64 t25) rfl) ?_
          refine l_val rfl rfl rfl (r_assign (v := .int .i64 0) rfl) ?_
          refine l_val rfl rfl rfl (r_assign (v := .int .i64 t25) rfl) ?_
          refine l_nil ?_
          refine c_ret ?_
          obtain rfl := Option.some.inj H57
          refine ret2 (v1 := .int .i64 0) (v2 := .int .i64 t25) rfl rfl rfl (fin rfl)
        · have H58 := cnd_f hb H56; clear H56
          refine c_skip ?_
          refine c_seq ?_
          exact c_regionD (Kd.p :: Kd.d [2] _ :: Kd.p :: Kd.p :: Kd.d [2] _ :: Kd.p :: Kd.p :: Kd.p :: Kd.p :: Kd.p :: Kd.p :: []) 0 mixed (by
            refine d_val rfl rfl (r_field Try.runUnderlying44 rfl Try.sizeOf3 rfl rfl) ?_
            refine d_load1 (i := 2) (v := .int .i64 t22.Num) Try.isAgg3 rfl rfl rfl rfl ?_
            have h_t31 := bnd_val H58
            have H59 := bnd_rest H58
            refine d_val rfl rfl (r_mulG rfl rfl h_t31) ?_
            refine d_val rfl rfl (r_field Try.runUnderlying44 rfl Try.sizeOf3 rfl rfl) ?_
            refine d_load1 (i := 2) (v := .int .i64 t22.Den) Try.isAgg3 rfl rfl rfl rfl ?_
            refine d_val rfl rfl (r_buildA (ps := [(0, .int .i64 1), (1, .int .i64 60), (2, .int .i64 3600)]) (cells := #[.int .i64 1, .int .i64 60, .int .i64 3600]) Try.zeroValue90 Try.runUnderlying90 Try.sizeOf3 rfl rfl) ?_
            refine d_val rfl rfl (r_move (v := .int .i64 x19_2) rfl) ?_
            have h_k36 := bnd_val H59
            have H60 := bnd_rest H59
            refine d_val rfl rfl (r_indexAG (f := fun j_ => .int .i64 ((ofL [1, 60, 3600]) j_)) Try.runUnderlying90 Try.isAgg3 Try.sizeOf3 rfl rfl rfl h_k36) ?_
            have h_t37 := bnd_val H60
            have H61 := bnd_rest H60
            refine d_val rfl rfl (r_mulG rfl rfl h_t37) ?_
            refine d_val rfl rfl (r_assign (v := .int .i64 (val (gI (t22.Num * 1000000)))) rfl) ?_
            refine d_val rfl rfl (r_assign (v := .int .i64 (val (gI (t22.Den * ((ofL [1, 60, 3600]) (val (gIx 3 x19_2))))))) rfl) ?_
            refine d_nil ?_
            refine c_seq ?_
            refine c_region ?_
            refine l_val rfl rfl rfl (r_move (v := .int .i64 x4_6) rfl) ?_
            refine l_val rfl rfl rfl (r_move (v := .int .i64 (val (gI (t22.Num * 1000000)))) rfl) ?_
            refine l_val rfl rfl rfl (r_move (v := .int .i64 (val (gI (t22.Den * ((ofL [1, 60, 3600]) (val (gIx 3 x19_2))))))) rfl) ?_
            obtain ⟨t41, h_t41, H62⟩ := bnd_some H61; clear H61
            refine l_val rfl rfl rfl (r_quoG rfl rfl h_t41) ?_
            obtain ⟨t42, h_t42, H63⟩ := bnd_some H62; clear H62
            refine l_val rfl rfl rfl (r_addG rfl rfl h_t42) ?_
            refine l_val rfl rfl rfl (r_assign (v := .int .i64 t42) rfl) ?_
            refine l_nil ?_
            refine c_region ?_
            refine l_val rfl rfl rfl (r_move (v := .int .i64 x19_2) rfl) ?_
            refine l_val rfl rfl rfl (r_move (v := .int .i64 x19_2) rfl) ?_
            refine l_val rfl rfl rfl (r_move (v := .int .i64 (val (gI (t22.Num * 1000000)))) rfl) ?_
            refine l_val rfl rfl rfl (r_move (v := .int .i64 (val (gI (t22.Den * ((ofL [1, 60, 3600]) (val (gIx 3 x19_2))))))) rfl) ?_
            obtain ⟨t47, h_t47, H64⟩ := bnd_some H63; clear H63
            refine l_val rfl rfl rfl (r_remG rfl rfl h_t47) ?_
            refine l_val rfl rfl rfl (r_convG Try.runUnderlying3 Try.runUnderlying132 rfl (wr_u64 _)) ?_
            refine l_val rfl rfl rfl (r_move (v := .int .i64 (val (gI (t22.Den * ((ofL [1, 60, 3600]) (val (gIx 3 x19_2))))))) rfl) ?_
            refine l_val rfl rfl rfl (r_convG Try.runUnderlying3 Try.runUnderlying132 rfl (wr_u64 _)) ?_
            obtain ⟨k51, h_k51, H65⟩ := bnd_some H64; clear H64
            refine l_val rfl rfl rfl (r_indexPG Try.runUnderlying133 Try.sizeOf132 rfl rfl h_k51) ?_
            refine l_store (i := 0) (vs := [.int .u64 (wU64 t47)]) (cs' := [.int .u64 ((setA m_5 k51 (wU64 t47)) 0), .int .u64 ((setA m_5 k51 (wU64 t47)) 1), .int .u64 ((setA m_5 k51 (wU64 t47)) 2)]) Try.sizeOf132 rfl rfl rfl rfl rfl rfl rfl rfl (wr_arr (pre := []) (post := []) (f := fun (j_ : Int) => [.int .u64 j_]) (n := 3) (sz := 1) (a := m_5) (x := (wU64 t47)) rfl rfl (fun _ => rfl) (gIx_lt h_k51) rfl rfl) ?_
            obtain ⟨k52, h_k52, H66⟩ := bnd_some H65; clear H65
            refine l_val rfl rfl rfl (r_indexPG Try.runUnderlying133 Try.sizeOf132 rfl rfl h_k52) ?_
            refine l_store (i := 1) (vs := [.int .u64 (wU64 (val (gI (t22.Den * ((ofL [1, 60, 3600]) (val (gIx 3 x19_2)))))))]) (cs' := [.int .u64 ((setA m_6 k52 (wU64 (val (gI (t22.Den * ((ofL [1, 60, 3600]) (val (gIx 3 x19_2)))))))) 0), .int .u64 ((setA m_6 k52 (wU64 (val (gI (t22.Den * ((ofL [1, 60, 3600]) (val (gIx 3 x19_2)))))))) 1), .int .u64 ((setA m_6 k52 (wU64 (val (gI (t22.Den * ((ofL [1, 60, 3600]) (val (gIx 3 x19_2)))))))) 2)]) Try.sizeOf132 rfl rfl rfl rfl rfl rfl rfl rfl (wr_arr (pre := []) (post := []) (f := fun (j_ : Int) => [.int .u64 j_]) (n := 3) (sz := 1) (a := m_6) (x := (wU64 (val (gI (t22.Den * ((ofL [1, 60, 3600]) (val (gIx 3 x19_2)))))))) rfl rfl (fun _ => rfl) (gIx_lt h_k52) rfl rfl) ?_
            refine l_nil ?_
            refine c_region ?_
            obtain ⟨t53, h_t53, H67⟩ := bnd_some H66; clear H66
            refine l_val rfl rfl rfl (r_addG rfl rfl h_t53) ?_
            refine l_val rfl rfl rfl (r_move (v := .int .i64 t53) rfl) ?_
            refine l_nil ?_
            refine c_close (t42, t53, (setA m_5 k51 (wU64 t47)), (setA m_6 k52 (wU64 (val (gI (t22.Den * ((ofL [1, 60, 3600]) (val (gIx 3 x19_2))))))))) () m4 [0, 1] (by exact ⟨rfl, rfl, rfl, rfl, rfl, rfl, trivial⟩) (by decide) rfl (by exact ⟨(by subst hn4; exact H67), trivial⟩) (Nat.lt_succ_self _)
            ) (by kernel_rfl)
      · have H68 := cnd_f hb H53; clear H53
        refine c_exit ?_
        refine c_close (x4_6, m_5, m_6) () 0 [0, 1] (by exact ⟨rfl, rfl, rfl, trivial⟩) (by decide) rfl (by exact ⟨H68, trivial⟩) (Nat.lt_succ_self _)
    · rintro ⟨x4, m, m_2⟩ _ gg H37 _
      replace H37 : tag_Degrees_j1 x4 m m_2 = some r := H37
      refine c_tidyF [(4, .int .i64 x4), (5, .pointer (some ⟨b8, 0, none⟩)), (6, .pointer (some ⟨b9, 0, none⟩))] [cellsC b8 [.int .u64 (m 0), .int .u64 (m 1), .int .u64 (m 2)] 133, cellsC b9 [.int .u64 (m_2 0), .int .u64 (m_2 1), .int .u64 (m_2 2)] 133] rfl rfl ?_
      refine c_seq ?_
      exact c_regionD (Kd.p :: Kd.d [0] _ :: Kd.p :: Kd.d [1] _ :: Kd.p :: Kd.d [1] _ :: Kd.ns 2 [_, _, _] 132 3 :: Kd.d [2] _ :: Kd.p :: Kd.d [1] _ :: Kd.p :: Kd.d [0] _ :: Kd.p :: Kd.d [1] _ :: Kd.ns 3 [_, _, _] 132 3 :: Kd.d [3] _ :: Kd.d [] _ :: Kd.p :: Kd.d [1] _ :: Kd.p :: Kd.d [1] _ :: Kd.p :: Kd.d [0] _ :: Kd.ns 4 [_, _, _] 132 3 :: Kd.d [4] _ :: Kd.d [] _ :: Kd.d [] _ :: Kd.nw 5 [_, _] 136 :: Kd.st 12 5 [_, _] 136 :: []) 4 mixed (by
        refine d_val rfl rfl (r_indexPA Try.runUnderlying133 Try.sizeOf132 rfl rfl (by decide) (by decide)) ?_
        refine d_load1 (i := 0) (v := .int .u64 (m 0)) Try.isAgg132 rfl rfl rfl rfl ?_
        refine d_val rfl rfl (r_indexPA Try.runUnderlying133 Try.sizeOf132 rfl rfl (by decide) (by decide)) ?_
        refine d_load1 (i := 1) (v := .int .u64 (m_2 1)) Try.isAgg132 rfl rfl rfl rfl ?_
        refine d_val rfl rfl (r_indexPA Try.runUnderlying133 Try.sizeOf132 rfl rfl (by decide) (by decide)) ?_
        refine d_load1 (i := 1) (v := .int .u64 (m_2 2)) Try.isAgg132 rfl rfl rfl rfl ?_
        refine d_newS rfl rfl (run_buildSlice (vs := [.int .u64 (m 0), .int .u64 (m_2 1), .int .u64 (m_2 2)]) (cs := [.int .u64 (m 0), .int .u64 (m_2 1), .int .u64 (m_2 2)]) Try.underlying189 Try.sizeOf132 Try.zeroValue132 rfl rfl rfl rfl rfl) rfl (fun b10 => ?_)
        have h_t61 := bnd_val H37
        have H38 := bnd_rest H37
        refine d_callD (fun w L' hF hS hi => k86 (know_all w) (frs_box (i := 2) (xs := ([(m 0), (m_2 1), (m_2 2)] : List Int)) (f := e_u64) hS ((hi 2 (by simp)).trans rfl) rfl rfl rfl rfl) h_t61) Try.call86 rfl rfl ?_
        refine d_val rfl rfl (r_indexPA Try.runUnderlying133 Try.sizeOf132 rfl rfl (by decide) (by decide)) ?_
        refine d_load1 (i := 1) (v := .int .u64 (m_2 0)) Try.isAgg132 rfl rfl rfl rfl ?_
        refine d_val rfl rfl (r_indexPA Try.runUnderlying133 Try.sizeOf132 rfl rfl (by decide) (by decide)) ?_
        refine d_load1 (i := 0) (v := .int .u64 (m 1)) Try.isAgg132 rfl rfl rfl rfl ?_
        refine d_val rfl rfl (r_indexPA Try.runUnderlying133 Try.sizeOf132 rfl rfl (by decide) (by decide)) ?_
        refine d_load1 (i := 1) (v := .int .u64 (m_2 2)) Try.isAgg132 rfl rfl rfl rfl ?_
        refine d_newS rfl rfl (run_buildSlice (vs := [.int .u64 (m_2 0), .int .u64 (m 1), .int .u64 (m_2 2)]) (cs := [.int .u64 (m_2 0), .int .u64 (m 1), .int .u64 (m_2 2)]) Try.underlying189 Try.sizeOf132 Try.zeroValue132 rfl rfl rfl rfl rfl) rfl (fun b11 => ?_)
        have h_t69 := bnd_val H38
        have H39 := bnd_rest H38
        refine d_callD (fun w L' hF hS hi => k86 (know_all w) (frs_box (i := 3) (xs := ([(m_2 0), (m 1), (m_2 2)] : List Int)) (f := e_u64) hS ((hi 3 (by simp)).trans rfl) rfl rfl rfl rfl) h_t69) Try.call86 rfl rfl ?_
        have h_t70 := bnd_val H39
        have H40 := bnd_rest H39
        refine d_call (k87 h_t70) Try.call87 rfl rfl ?_
        refine d_val rfl rfl (r_indexPA Try.runUnderlying133 Try.sizeOf132 rfl rfl (by decide) (by decide)) ?_
        refine d_load1 (i := 1) (v := .int .u64 (m_2 0)) Try.isAgg132 rfl rfl rfl rfl ?_
        refine d_val rfl rfl (r_indexPA Try.runUnderlying133 Try.sizeOf132 rfl rfl (by decide) (by decide)) ?_
        refine d_load1 (i := 1) (v := .int .u64 (m_2 1)) Try.isAgg132 rfl rfl rfl rfl ?_
        refine d_val rfl rfl (r_indexPA Try.runUnderlying133 Try.sizeOf132 rfl rfl (by decide) (by decide)) ?_
        refine d_load1 (i := 0) (v := .int .u64 (m 2)) Try.isAgg132 rfl rfl rfl rfl ?_
        refine d_newS rfl rfl (run_buildSlice (vs := [.int .u64 (m_2 0), .int .u64 (m_2 1), .int .u64 (m 2)]) (cs := [.int .u64 (m_2 0), .int .u64 (m_2 1), .int .u64 (m 2)]) Try.underlying189 Try.sizeOf132 Try.zeroValue132 rfl rfl rfl rfl rfl) rfl (fun b12 => ?_)
        have h_t78 := bnd_val H40
        have H41 := bnd_rest H40
        refine d_callD (fun w L' hF hS hi => k86 (know_all w) (frs_box (i := 4) (xs := ([(m_2 0), (m_2 1), (m 2)] : List Int)) (f := e_u64) hS ((hi 4 (by simp)).trans rfl) rfl rfl rfl rfl) h_t78) Try.call86 rfl rfl ?_
        have h_t79 := bnd_val H41
        have H42 := bnd_rest H41
        refine d_call (k87 h_t79) Try.call87 rfl rfl ?_
        have h_t80 := bnd_val H42
        have H43 := bnd_rest H42
        refine d_call (k88 h_t80) Try.call88 rfl rfl ?_
        refine d_new rfl rfl (run_alloc (cs := [.int .u64 0, .int .u64 0]) Try.zeroValue136 rfl) rfl (fun b13 => ?_)
        refine d_store (i := 5) (vs := [.int .u64 (val (tag_wide_times (val (tag_wide_plus (val (tag_wide_plus (val (tag_product ([(m 0), (m_2 1), (m_2 2)] : List Int))) (val (tag_product ([(m_2 0), (m 1), (m_2 2)] : List Int))))) (val (tag_product ([(m_2 0), (m_2 1), (m 2)] : List Int))))) 2)).high_, .int .u64 (val (tag_wide_times (val (tag_wide_plus (val (tag_wide_plus (val (tag_product ([(m 0), (m_2 1), (m_2 2)] : List Int))) (val (tag_product ([(m_2 0), (m 1), (m_2 2)] : List Int))))) (val (tag_product ([(m_2 0), (m_2 1), (m 2)] : List Int))))) 2)).low_]) (cs' := [.int .u64 (val (tag_wide_times (val (tag_wide_plus (val (tag_wide_plus (val (tag_product ([(m 0), (m_2 1), (m_2 2)] : List Int))) (val (tag_product ([(m_2 0), (m 1), (m_2 2)] : List Int))))) (val (tag_product ([(m_2 0), (m_2 1), (m 2)] : List Int))))) 2)).high_, .int .u64 (val (tag_wide_times (val (tag_wide_plus (val (tag_wide_plus (val (tag_product ([(m 0), (m_2 1), (m_2 2)] : List Int))) (val (tag_product ([(m_2 0), (m 1), (m_2 2)] : List Int))))) (val (tag_product ([(m_2 0), (m_2 1), (m 2)] : List Int))))) 2)).low_]) Try.sizeOf136 rfl rfl rfl rfl rfl rfl rfl rfl rfl ?_
        refine d_nil ?_
        refine c_meet (r := r) (σ := Int) (τ := Unit) (fun s => tag_Degrees_j2 s) (fun s t => [(4, .int .i64 s)]) (fun s t => []) (fun s t => True) ?_ ?_
        · refine c_seq ?_
          refine c_region ?_
          refine l_val rfl rfl rfl (r_assign (v := .int .u64 1) rfl) ?_
          refine l_nil ?_
          refine c_block ?_
          refine c_fix (σ := Int × Int) (τ := Unit) (fun next3 s => tag_Degrees_l3 m_2 (val (tag_wide_times (val (tag_wide_plus (val (tag_wide_plus (val (tag_product ([(m 0), (m_2 1), (m_2 2)] : List Int))) (val (tag_product ([(m_2 0), (m 1), (m_2 2)] : List Int))))) (val (tag_product ([(m_2 0), (m_2 1), (m 2)] : List Int))))) 2)) next3 s.1 s.2) (fun s t => [(4, .int .i64 s.1), (6, .pointer (some ⟨b9, 0, none⟩)), (12, .pointer (some ⟨b13, 0, none⟩)), (13, .int .u64 s.2)]) (fun s t => [cellsC b9 [.int .u64 (m_2 0), .int .u64 (m_2 1), .int .u64 (m_2 2)] 133, cellsC b13 [.int .u64 (val (tag_wide_times (val (tag_wide_plus (val (tag_wide_plus (val (tag_product ([(m 0), (m_2 1), (m_2 2)] : List Int))) (val (tag_product ([(m_2 0), (m 1), (m_2 2)] : List Int))))) (val (tag_product ([(m_2 0), (m_2 1), (m 2)] : List Int))))) 2)).high_, .int .u64 (val (tag_wide_times (val (tag_wide_plus (val (tag_wide_plus (val (tag_product ([(m 0), (m_2 1), (m_2 2)] : List Int))) (val (tag_product ([(m_2 0), (m 1), (m_2 2)] : List Int))))) (val (tag_product ([(m_2 0), (m_2 1), (m 2)] : List Int))))) 2)).low_] 136]) (fun s t => True) (x4, 1) () [1, 5] H43 (by exact trivial) (by exact ⟨rfl, rfl, rfl, rfl, trivial⟩) (by decide) rfl ?_
          rintro ⟨x4_4, x13_2⟩ _ m3 gg H47 _
          clear H43
          replace H47 : tag_Degrees_l3 m_2 (val (tag_wide_times (val (tag_wide_plus (val (tag_wide_plus (val (tag_product ([(m 0), (m_2 1), (m_2 2)] : List Int))) (val (tag_product ([(m_2 0), (m 1), (m_2 2)] : List Int))))) (val (tag_product ([(m_2 0), (m_2 1), (m 2)] : List Int))))) 2)) (it (fun next3 s => tag_Degrees_l3 m_2 (val (tag_wide_times (val (tag_wide_plus (val (tag_wide_plus (val (tag_product ([(m 0), (m_2 1), (m_2 2)] : List Int))) (val (tag_product ([(m_2 0), (m 1), (m_2 2)] : List Int))))) (val (tag_product ([(m_2 0), (m_2 1), (m 2)] : List Int))))) 2)) next3 s.1 s.2) m3) x4_4 x13_2 = some r := H47
          generalize hn3 : it (fun next3 s => tag_Degrees_l3 m_2 (val (tag_wide_times (val (tag_wide_plus (val (tag_wide_plus (val (tag_product ([(m 0), (m_2 1), (m_2 2)] : List Int))) (val (tag_product ([(m_2 0), (m 1), (m_2 2)] : List Int))))) (val (tag_product ([(m_2 0), (m_2 1), (m 2)] : List Int))))) 2)) next3 s.1 s.2) m3 = next3 at H47
          refine c_tidyF [(4, .int .i64 x4_4), (6, .pointer (some ⟨b9, 0, none⟩)), (12, .pointer (some ⟨b13, 0, none⟩)), (13, .int .u64 x13_2)] [cellsC b9 [.int .u64 (m_2 0), .int .u64 (m_2 1), .int .u64 (m_2 2)] 133, cellsC b13 [.int .u64 (val (tag_wide_times (val (tag_wide_plus (val (tag_wide_plus (val (tag_product ([(m 0), (m_2 1), (m_2 2)] : List Int))) (val (tag_product ([(m_2 0), (m 1), (m_2 2)] : List Int))))) (val (tag_product ([(m_2 0), (m_2 1), (m 2)] : List Int))))) 2)).high_, .int .u64 (val (tag_wide_times (val (tag_wide_plus (val (tag_wide_plus (val (tag_product ([(m 0), (m_2 1), (m_2 2)] : List Int))) (val (tag_product ([(m_2 0), (m 1), (m_2 2)] : List Int))))) (val (tag_product ([(m_2 0), (m_2 1), (m 2)] : List Int))))) 2)).low_] 136] rfl rfl ?_
          refine c_seq ?_
          refine c_seq ?_
          exact c_regionD (Kd.d [1] _ :: Kd.p :: Kd.p :: Kd.d [0] _ :: Kd.p :: Kd.d [0] _ :: Kd.p :: Kd.d [0] _ :: Kd.ns 2 [_, _, _, _] 132 4 :: Kd.d [2] _ :: Kd.d [] _ :: []) 1 mixed (by
            refine d_loadN (i := 1) (vs := [.int .u64 (val (tag_wide_times (val (tag_wide_plus (val (tag_wide_plus (val (tag_product ([(m 0), (m_2 1), (m_2 2)] : List Int))) (val (tag_product ([(m_2 0), (m 1), (m_2 2)] : List Int))))) (val (tag_product ([(m_2 0), (m_2 1), (m 2)] : List Int))))) 2)).high_, .int .u64 (val (tag_wide_times (val (tag_wide_plus (val (tag_wide_plus (val (tag_product ([(m 0), (m_2 1), (m_2 2)] : List Int))) (val (tag_product ([(m_2 0), (m 1), (m_2 2)] : List Int))))) (val (tag_product ([(m_2 0), (m_2 1), (m 2)] : List Int))))) 2)).low_]) Try.isAgg136 Try.sizeOf136 rfl rfl rfl rfl ?_
            refine d_val rfl rfl (r_move (v := .int .u64 x13_2) rfl) ?_
            refine d_val rfl rfl (r_indexPA Try.runUnderlying133 Try.sizeOf132 rfl rfl (by decide) (by decide)) ?_
            refine d_load1 (i := 0) (v := .int .u64 (m_2 0)) Try.isAgg132 rfl rfl rfl rfl ?_
            refine d_val rfl rfl (r_indexPA Try.runUnderlying133 Try.sizeOf132 rfl rfl (by decide) (by decide)) ?_
            refine d_load1 (i := 0) (v := .int .u64 (m_2 1)) Try.isAgg132 rfl rfl rfl rfl ?_
            refine d_val rfl rfl (r_indexPA Try.runUnderlying133 Try.sizeOf132 rfl rfl (by decide) (by decide)) ?_
            refine d_load1 (i := 0) (v := .int .u64 (m_2 2)) Try.isAgg132 rfl rfl rfl rfl ?_
            refine d_newS rfl rfl (run_buildSlice (vs := [.int .u64 x13_2, .int .u64 (m_2 0), .int .u64 (m_2 1), .int .u64 (m_2 2)]) (cs := [.int .u64 x13_2, .int .u64 (m_2 0), .int .u64 (m_2 1), .int .u64 (m_2 2)]) Try.underlying189 Try.sizeOf132 Try.zeroValue132 rfl rfl rfl rfl rfl) rfl (fun b14 => ?_)
            have h_t90 := bnd_val H47
            have H48 := bnd_rest H47
            refine d_callD (fun w L' hF hS hi => k86 (know_all w) (frs_box (i := 2) (xs := ([x13_2, (m_2 0), (m_2 1), (m_2 2)] : List Int)) (f := e_u64) hS ((hi 2 (by simp)).trans rfl) rfl rfl rfl rfl) h_t90) Try.call86 rfl rfl ?_
            have h_t91 := bnd_val H48
            have H49 := bnd_rest H48
            refine d_call (k89 h_t91) Try.call89 rfl rfl ?_
            refine d_nil ?_
            refine c_if (b := (val (tag_wide_atLeast (val (tag_wide_times (val (tag_wide_plus (val (tag_wide_plus (val (tag_product ([(m 0), (m_2 1), (m_2 2)] : List Int))) (val (tag_product ([(m_2 0), (m 1), (m_2 2)] : List Int))))) (val (tag_product ([(m_2 0), (m_2 1), (m 2)] : List Int))))) 2)) (val (tag_product ([x13_2, (m_2 0), (m_2 1), (m_2 2)] : List Int)))))) rfl (fun hb => ?_) (fun hb => ?_)
            · have H50 := cnd_t hb H49; clear H49
              refine c_skip ?_
              refine c_seq ?_
              refine c_block ?_
              refine c_region ?_
              refine l_val rfl rfl rfl (r_move (v := .int .i64 x4_4) rfl) ?_
              obtain ⟨t95, h_t95, H51⟩ := bnd_some H50; clear H50
              refine l_val rfl rfl rfl (r_addG rfl rfl h_t95) ?_
              refine l_val rfl rfl rfl (r_assign (v := .int .i64 t95) rfl) ?_
              refine l_nil ?_
              refine c_region ?_
              refine l_val rfl rfl rfl (r_move (v := .int .u64 x13_2) rfl) ?_
              refine l_val rfl rfl rfl (r_addW rfl rfl (wr_u64 _)) ?_
              refine l_val rfl rfl rfl (r_assign (v := .int .u64 (wU64 (x13_2 + 2))) rfl) ?_
              refine l_nil ?_
              refine c_close (t95, (wU64 (x13_2 + 2))) () m3 [0, 1] (by exact ⟨rfl, rfl, rfl, rfl, trivial⟩) (by decide) rfl (by exact ⟨(by subst hn3; exact H51), trivial⟩) (Nat.lt_succ_self _)
            · have H52 := cnd_f hb H49; clear H49
              refine c_exit ?_
              refine c_close x4_4 () 0 [] (by exact ⟨rfl, trivial⟩) (by decide) rfl (by exact ⟨H52, trivial⟩) (Nat.lt_succ_self _)
            ) (by kernel_rfl)
        · rintro x4_2 _ gg H44 _
          replace H44 : tag_Degrees_j2 x4_2 = some r := H44
          refine c_tidyF [(4, .int .i64 x4_2)] [] rfl rfl ?_
          refine c_seq ?_
          refine c_seq ?_
          refine c_region ?_
          refine l_val rfl rfl rfl (r_move (v := .int .i64 x4_2) rfl) ?_
          refine l_val rfl rfl rfl (r_gtr rfl rfl) ?_
          refine l_nil ?_
          refine c_if (b := (decide (180000000 < x4_2))) rfl (fun hb => ?_) (fun hb => ?_)
          · have H45 := cnd_t hb H44; clear H44
            refine c_seq ?_
            refine c_region ?_
            refine l_val rfl rfl rfl (r_assign (v := .int .i64 0) rfl) ?_
            refine l_val rfl rfl rfl (r_assign (v := .int .i64 2) rfl) ?_
            refine l_nil ?_
            refine c_ret ?_
            obtain rfl := Option.some.inj H45
            refine ret2 (v1 := .int .i64 0) (v2 := .int .i64 2) rfl rfl rfl (fin rfl)
          · have H46 := cnd_f hb H44; clear H44
            refine c_skip ?_
            refine c_seq ?_
            refine c_region ?_
            refine l_val rfl rfl rfl (r_move (v := .int .i64 x4_2) rfl) ?_
            refine l_val rfl rfl rfl (r_assign (v := .int .i64 x4_2) rfl) ?_
            refine l_val rfl rfl rfl (r_assign (v := .int .i64 0) rfl) ?_
            refine l_nil ?_
            refine c_ret ?_
            obtain rfl := Option.some.inj H46
            refine ret2 (v1 := .int .i64 x4_2) (v2 := .int .i64 0) rfl rfl rfl (fin rfl)
        ) (by kernel_rfl)
theorem k4 {a0 : Int} {r : Bool} (H : Keep_TagDegrees a0 = some r) : Ret Try.prog 4 [.int .i64 a0] (.bool r) := by
  refine enterRet (n := 65) Try.func4 rfl rfl rfl (fun wd => ?_)
  refine c_seq ?_
  refine c_region ?_
  refine l_val rfl rfl rfl (r_assign (v := .bool false) rfl) ?_
  refine l_nil ?_
  refine c_seq ?_
  refine c_seq ?_
  refine c_region ?_
  obtain ⟨t8, h_t8, H28⟩ := bnd_some H; clear H
  refine l_call (k23 h_t8) Try.call23 rfl rfl rfl ?_
  refine l_val rfl rfl rfl (r_not rfl) ?_
  refine l_nil ?_
  refine c_if (b := (!t8)) rfl (fun hb => ?_) (fun hb => ?_)
  · have H29 := cnd_t hb H28; clear H28
    refine c_seq ?_
    refine c_region ?_
    refine l_val rfl rfl rfl (r_assign (v := .bool false) rfl) ?_
    refine l_nil ?_
    refine c_ret ?_
    obtain rfl := Option.some.inj H29
    refine ret1 (v := .bool false) rfl rfl (fin rfl)
  · have H30 := cnd_f hb H28; clear H28
    refine c_skip ?_
    refine c_seq ?_
    refine c_region ?_
    refine l_val rfl rfl rfl (r_move (v := .int .i64 a0) rfl) ?_
    obtain ⟨t12, h_t12, H31⟩ := bnd_some H30; clear H30
    refine l_make (makes_call (rds := []) (G := fun x : (Option Addr × Nat) => .tuple #[.slice x.1 t12.1.length x.2, .int .i64 t12.2]) (C := fun x : (Option Addr × Nat) => rowV 44 2 (.slice x.1 t12.1.length x.2) t12.1.length (t12.1.map e_tag_Ratio)) (fun w L' hF hS hi => k24 (know_all w)  h_t12) Try.call24 rfl) rfl rfl rfl (fun p => ?_)
    refine l_val rfl rfl rfl (r_move (v := .tuple #[.slice p.1 t12.1.length p.2, .int .i64 t12.2]) rfl) ?_
    refine l_val rfl rfl rfl (r_extract (v := .slice p.1 t12.1.length p.2) rfl rfl) ?_
    refine l_val rfl rfl rfl (r_extract (v := .int .i64 t12.2) rfl rfl) ?_
    refine l_val rfl rfl rfl (r_assign (v := .slice p.1 t12.1.length p.2) rfl) ?_
    refine l_val rfl rfl rfl (r_assign (v := .int .i64 t12.2) rfl) ?_
    refine l_nil ?_
    refine c_seq ?_
    refine c_seq ?_
    refine c_region ?_
    refine l_val rfl rfl rfl (r_move (v := .int .i64 t12.2) rfl) ?_
    refine l_val rfl rfl rfl (r_neq rfl rfl) ?_
    refine l_nil ?_
    refine c_if (b := (decide (t12.2 ≠ 0))) rfl (fun hb => ?_) (fun hb => ?_)
    · have H32 := cnd_t hb H31; clear H31
      refine c_seq ?_
      refine c_region ?_
      refine l_val rfl rfl rfl (r_move (v := .int .i64 a0) rfl) ?_
      refine l_val rfl rfl rfl (r_lss rfl rfl) ?_
      refine l_val rfl rfl rfl (r_move (v := .bool (decide (a0 < 0))) rfl) ?_
      refine split (fun hb => ?_) (fun hb => ?_)
      · have H33 := cnd_t hb H32; clear H32
        refine l_passed rfl rfl rfl ?_
        refine l_passed rfl rfl rfl ?_
        refine l_val rfl rfl rfl (r_pickT (v := .bool true) rfl rfl) ?_
        refine l_val rfl rfl rfl (r_assign (v := .bool true) rfl) ?_
        refine l_nil ?_
        refine c_ret ?_
        obtain rfl := Option.some.inj H33
        refine ret1 (v := .bool true) rfl rfl (fin rfl)
      · have H34 := cnd_f hb H32; clear H32
        refine l_val rfl rfl rfl (r_move (v := .int .i64 a0) rfl) ?_
        refine l_val rfl rfl rfl (r_gtr rfl rfl) ?_
        refine l_val rfl rfl rfl (r_pickF (v := .bool (decide (180000000 < a0))) rfl rfl) ?_
        refine l_val rfl rfl rfl (r_assign (v := .bool (decide (180000000 < a0))) rfl) ?_
        refine l_nil ?_
        refine c_ret ?_
        obtain rfl := Option.some.inj H34
        refine ret1 (v := .bool (decide (180000000 < a0))) rfl rfl (fin rfl)
    · have H35 := cnd_f hb H31; clear H31
      refine c_skip ?_
      refine c_seq ?_
      refine c_region ?_
      refine l_val rfl rfl rfl (r_move (v := .slice p.1 t12.1.length p.2) rfl) ?_
      obtain ⟨t25, h_t25, H36⟩ := bnd_some H35; clear H35
      refine l_callG (fun w hF hS => k25 (know_all w) (frs_own (i := 0) rfl hS rfl) h_t25) Try.call25 rfl rfl rfl ?_
      refine l_val rfl rfl rfl (r_move (v := .tuple #[.int .i64 t25.1, .int .i64 t25.2]) rfl) ?_
      refine l_val rfl rfl rfl (r_extract (v := .int .i64 t25.1) rfl rfl) ?_
      refine l_val rfl rfl rfl (r_extract (v := .int .i64 t25.2) rfl rfl) ?_
      refine l_val rfl rfl rfl (r_assign (v := .int .i64 t25.1) rfl) ?_
      refine l_val rfl rfl rfl (r_assign (v := .int .i64 t25.2) rfl) ?_
      refine l_nil ?_
      refine c_seq ?_
      refine c_seq ?_
      refine c_region ?_
      refine l_val rfl rfl rfl (r_move (v := .int .i64 t25.2) rfl) ?_
      refine l_val rfl rfl rfl (r_neq rfl rfl) ?_
      refine l_val rfl rfl rfl (r_move (v := .bool (decide (t25.2 ≠ 0))) rfl) ?_
      refine split (fun hb => ?_) (fun hb => ?_)
      · have H37 := cnd_t hb H36; clear H36
        refine l_passed rfl rfl rfl ?_
        refine l_passed rfl rfl rfl ?_
        refine l_passed rfl rfl rfl ?_
        refine l_val rfl rfl rfl (r_pickT (v := .bool true) rfl rfl) ?_
        refine l_nil ?_
        refine c_true rfl ?_
        refine c_seq ?_
        refine c_region ?_
        refine l_val rfl rfl rfl (r_assign (v := .bool false) rfl) ?_
        refine l_nil ?_
        refine c_ret ?_
        obtain rfl := Option.some.inj H37
        refine ret1 (v := .bool false) rfl rfl (fin rfl)
      · have H38 := cnd_f hb H36; clear H36
        refine l_val rfl rfl rfl (r_move (v := .int .i64 t25.1) rfl) ?_
        refine l_val rfl rfl rfl (r_move (v := .int .i64 a0) rfl) ?_
        refine l_val rfl rfl rfl (r_neq rfl rfl) ?_
        refine l_val rfl rfl rfl (r_pickF (v := .bool (decide (t25.1 ≠ a0))) rfl rfl) ?_
        refine l_nil ?_
        refine c_if (b := (decide (t25.1 ≠ a0))) rfl (fun hb => ?_) (fun hb => ?_)
        · have H39 := cnd_t hb H38; clear H38
          refine c_seq ?_
          refine c_region ?_
          refine l_val rfl rfl rfl (r_assign (v := .bool false) rfl) ?_
          refine l_nil ?_
          refine c_ret ?_
          obtain rfl := Option.some.inj H39
          refine ret1 (v := .bool false) rfl rfl (fin rfl)
        · have H40 := cnd_f hb H38; clear H38
          refine c_skip ?_
          refine c_meet (r := r) (σ := (List T_tag_Ratio)) (τ := Unit) (fun s => Keep_TagDegrees_j1 a0 s) (fun s t => [(0, .int .i64 a0), (3, .slice p.1 t12.1.length p.2)]) (fun s t => [rowV 44 2 (.slice p.1 t12.1.length p.2) t12.1.length (s.map e_tag_Ratio)]) (fun s t => t12.1.length = s.length) ?_ ?_
          · refine c_seq ?_
            refine c_region ?_
            refine l_val rfl rfl rfl (r_move (v := .slice p.1 t12.1.length p.2) rfl) ?_
            refine l_val rfl rfl rfl (r_len Try.underlying39 rfl) ?_
            refine l_val rfl rfl rfl (r_move (v := .int .i64 0) rfl) ?_
            refine l_nil ?_
            refine c_block ?_
            refine c_fix (σ := Int × (List T_tag_Ratio)) (τ := Unit) (fun next2 s => Keep_TagDegrees_l2 a0 t12 next2 s.1 s.2) (fun s t => [(0, .int .i64 a0), (3, .slice p.1 t12.1.length p.2), (35, .slice p.1 t12.1.length p.2), (36, .int .i64 (t12.1.length : Int)), (37, .int .i64 s.1)]) (fun s t => [rowV 44 2 (.slice p.1 t12.1.length p.2) t12.1.length (s.2.map e_tag_Ratio)]) (fun s t => t12.1.length = s.2.length) (0, t12.1) () [0] H40 (by exact rfl) (by exact ⟨rfl, rfl, rfl, rfl, rfl, trivial⟩) (by decide) rfl ?_
            rintro ⟨x37_2, l_3⟩ _ m2 gg H45 hl_3
            clear H40
            replace H45 : Keep_TagDegrees_l2 a0 t12 (it (fun next2 s => Keep_TagDegrees_l2 a0 t12 next2 s.1 s.2) m2) x37_2 l_3 = some r := H45
            generalize hn2 : it (fun next2 s => Keep_TagDegrees_l2 a0 t12 next2 s.1 s.2) m2 = next2 at H45
            refine c_tidyF [(0, .int .i64 a0), (3, .slice p.1 t12.1.length p.2), (35, .slice p.1 t12.1.length p.2), (36, .int .i64 (t12.1.length : Int)), (37, .int .i64 x37_2)] [rowV 44 2 (.slice p.1 t12.1.length p.2) t12.1.length (l_3.map e_tag_Ratio)] rfl rfl ?_
            refine c_seq ?_
            refine c_region ?_
            refine l_val rfl rfl rfl (r_lss rfl rfl) ?_
            refine l_nil ?_
            refine c_seq ?_
            refine c_if (b := (decide (x37_2 < (t12.1.length : Int)))) rfl (fun hb => ?_) (fun hb => ?_)
            · have H46 := cnd_t hb H45; clear H45
              refine c_skip ?_
              refine c_seq ?_
              refine c_block ?_
              refine c_seq ?_
              refine c_region ?_
              refine l_val rfl rfl rfl (r_move (v := .int .i64 x37_2) rfl) ?_
              obtain ⟨t40, h_t40, H47⟩ := bnd_some H46; clear H46
              refine l_read (fun w hF hS => run_indexO Try.underlying39 Try.sizeOf44 rfl rfl (rowOf (i := 0) hS rfl) hl_3 h_t40) rfl rfl rfl ?_
              refine l_read (fun w hF hS => run_loadGN (j := 0) (vs := [.int .i64 t40.Num, .int .i64 t40.Den]) Try.isAgg44 Try.sizeOf44 rfl rfl (rowOf (i := 0) hS rfl) h_t40 rfl) rfl rfl rfl ?_
              refine l_alloc (cs := [.int .i64 0, .int .i64 0]) Try.zeroValue44 rfl rfl rfl (fun b1 => ?_)
              refine l_val rfl rfl rfl (r_assign (v := .int .i64 x37_2) rfl) ?_
              refine l_store (i := 1) (vs := [.int .i64 t40.Num, .int .i64 t40.Den]) (cs' := [.int .i64 t40.Num, .int .i64 t40.Den]) Try.sizeOf44 rfl rfl rfl rfl rfl rfl rfl rfl rfl ?_
              refine l_nil ?_
              refine c_seq ?_
              refine c_region ?_
              refine l_val rfl rfl rfl (r_move (v := .slice p.1 t12.1.length p.2) rfl) ?_
              refine l_val rfl rfl rfl (r_move (v := .int .i64 x37_2) rfl) ?_
              refine l_loadN (i := 1) (vs := [.int .i64 t40.Num, .int .i64 t40.Den]) Try.isAgg44 Try.sizeOf44 rfl rfl rfl rfl rfl ?_
              obtain ⟨t46, h_t46, H48⟩ := bnd_some H47; clear H47
              refine l_call (k26 h_t46) Try.call26 rfl rfl rfl ?_
              refine l_val rfl rfl rfl (r_move (v := .tuple #[.agg #[.int .i64 t46.1.Num, .int .i64 t46.1.Den], .int .i64 t46.2]) rfl) ?_
              refine l_val rfl rfl rfl (r_extract (v := .agg #[.int .i64 t46.1.Num, .int .i64 t46.1.Den]) rfl rfl) ?_
              refine l_val rfl rfl rfl (r_extract (v := .int .i64 t46.2) rfl rfl) ?_
              obtain ⟨t49, h_t49, H49⟩ := bnd_some H48; clear H48
              refine l_read (fun w hF hS => run_indexO Try.underlying39 Try.sizeOf44 rfl rfl (rowOf (i := 0) hS rfl) hl_3 h_t49) rfl rfl rfl ?_
              obtain ⟨l0, h_l0, H50⟩ := bnd_some H49; clear H49
              refine l_storeG (q := 0) (j := 0) (hm := hl_3) (f := e_tag_Ratio) (vs := [.int .i64 t46.1.Num, .int .i64 t46.1.Den]) Try.sizeOf44 rfl rfl rfl rfl rfl rfl rfl rfl rfl (fun y_ hy_ => by first | rfl | (cases hy_.symm.trans h_t49; rfl)) h_l0 ?_
              refine l_val rfl rfl rfl (r_assign (v := .int .i64 t46.2) rfl) ?_
              refine l_nil ?_
              refine c_seq ?_
              refine c_region ?_
              refine l_val rfl rfl rfl (r_move (v := .int .i64 t46.2) rfl) ?_
              refine l_val rfl rfl rfl (r_neq rfl rfl) ?_
              refine l_nil ?_
              refine c_if (b := (decide (t46.2 ≠ 0))) rfl (fun hb => ?_) (fun hb => ?_)
              · have H51 := cnd_t hb H50; clear H50
                refine c_seq ?_
                refine c_region ?_
                refine l_val rfl rfl rfl (r_assign (v := .bool false) rfl) ?_
                refine l_nil ?_
                refine c_ret ?_
                obtain rfl := Option.some.inj H51
                refine ret1 (v := .bool false) rfl rfl (fin rfl)
              · have H52 := cnd_f hb H50; clear H50
                refine c_skip ?_
                refine c_region ?_
                obtain ⟨t52, h_t52, H53⟩ := bnd_some H52; clear H52
                refine l_val rfl rfl rfl (r_addG rfl rfl h_t52) ?_
                refine l_val rfl rfl rfl (r_move (v := .int .i64 t52) rfl) ?_
                refine l_nil ?_
                refine c_close (t52, l0) () m2 [0] (by exact ⟨rfl, rfl, rfl, rfl, rfl, trivial⟩) (by decide) rfl (by exact ⟨(by subst hn2; exact H53), (gSet_n hl_3 h_l0)⟩) (Nat.lt_succ_self _)
            · have H54 := cnd_f hb H45; clear H45
              refine c_exit ?_
              refine c_close l_3 () 0 [0] (by exact ⟨rfl, rfl, trivial⟩) (by decide) rfl (by exact ⟨H54, hl_3⟩) (Nat.lt_succ_self _)
          · rintro l _ gg H41 hl
            replace H41 : Keep_TagDegrees_j1 a0 l = some r := H41
            refine c_tidyF [(0, .int .i64 a0), (3, .slice p.1 t12.1.length p.2)] [rowV 44 2 (.slice p.1 t12.1.length p.2) t12.1.length (l.map e_tag_Ratio)] rfl rfl ?_
            refine c_seq ?_
            refine c_region ?_
            refine l_val rfl rfl rfl (r_move (v := .slice p.1 t12.1.length p.2) rfl) ?_
            obtain ⟨t55, h_t55, H42⟩ := bnd_some H41; clear H41
            refine l_callG (fun w hF hS => k25 (know_all w) (frs_own (i := 0) hl hS rfl) h_t55) Try.call25 rfl rfl rfl ?_
            refine l_val rfl rfl rfl (r_move (v := .tuple #[.int .i64 t55.1, .int .i64 t55.2]) rfl) ?_
            refine l_val rfl rfl rfl (r_extract (v := .int .i64 t55.1) rfl rfl) ?_
            refine l_val rfl rfl rfl (r_extract (v := .int .i64 t55.2) rfl rfl) ?_
            refine l_val rfl rfl rfl (r_assign (v := .int .i64 t55.1) rfl) ?_
            refine l_val rfl rfl rfl (r_assign (v := .int .i64 t55.2) rfl) ?_
            refine l_nil ?_
            refine c_seq ?_
            refine c_region ?_
            refine l_val rfl rfl rfl (r_move (v := .int .i64 t55.2) rfl) ?_
            refine l_val rfl rfl rfl (r_eql rfl rfl) ?_
            refine l_val rfl rfl rfl (r_move (v := .bool (decide (t55.2 = 0))) rfl) ?_
            refine split (fun hb => ?_) (fun hb => ?_)
            · have H43 := cnd_t hb H42; clear H42
              refine l_val rfl rfl rfl (r_move (v := .int .i64 t55.1) rfl) ?_
              refine l_val rfl rfl rfl (r_move (v := .int .i64 a0) rfl) ?_
              refine l_val rfl rfl rfl (r_eql rfl rfl) ?_
              refine l_val rfl rfl rfl (r_pickT (v := .bool (decide (t55.1 = a0))) rfl rfl) ?_
              refine l_val rfl rfl rfl (r_assign (v := .bool (decide (t55.1 = a0))) rfl) ?_
              refine l_nil ?_
              refine c_ret ?_
              obtain rfl := Option.some.inj H43
              refine ret1 (v := .bool (decide (t55.1 = a0))) rfl rfl (fin rfl)
            · have H44 := cnd_f hb H42; clear H42
              refine l_passed rfl rfl rfl ?_
              refine l_passed rfl rfl rfl ?_
              refine l_passed rfl rfl rfl ?_
              refine l_val rfl rfl rfl (r_pickF (v := .bool false) rfl rfl) ?_
              refine l_val rfl rfl rfl (r_assign (v := .bool false) rfl) ?_
              refine l_nil ?_
              refine c_ret ?_
              obtain rfl := Option.some.inj H44
              refine ret1 (v := .bool false) rfl rfl (fin rfl)
theorem k19 {a0 : Int} {a1 : Int} {a2 : Int} {a3 : Int} {r : Bool} (H : Law_told_int a0 a1 a2 a3 = some r) : Ret Try.prog 19 [.int .i64 a0, .int .i64 a1, .int .i64 a2, .int .i64 a3] (.bool r) := by
  refine enterRet (n := 21) Try.func19 rfl rfl rfl (fun wd => ?_)
  refine c_seq ?_
  refine c_region ?_
  refine l_val rfl rfl rfl (r_assign (v := .bool false) rfl) ?_
  refine l_nil ?_
  refine c_seq ?_
  refine c_region ?_
  refine l_val rfl rfl rfl (r_assign (v := .int .i64 0) rfl) ?_
  refine l_nil ?_
  refine c_meet (r := r) (σ := Int) (τ := Unit) (fun s => Law_told_int_j1 a0 a1 a3 s) (fun s t => [(0, .int .i64 a0), (1, .int .i64 a1), (2, .int .i64 s), (3, .int .i64 a3)]) (fun s t => []) (fun s t => True) ?_ ?_
  · refine c_seq ?_
    refine c_region ?_
    refine l_val rfl rfl rfl (r_move (v := .int .i64 a3) rfl) ?_
    refine l_val rfl rfl rfl (r_neq rfl rfl) ?_
    refine l_nil ?_
    refine c_if (b := (decide (a3 ≠ 0))) rfl (fun hb => ?_) (fun hb => ?_)
    · have H9 := cnd_t hb H; clear H
      refine c_region ?_
      refine l_val rfl rfl rfl (r_move (v := .int .i64 0) rfl) ?_
      refine l_val rfl rfl rfl (r_assign (v := .int .i64 0) rfl) ?_
      refine l_nil ?_
      refine c_close 0 () 0 [] (by exact ⟨rfl, rfl, rfl, rfl, trivial⟩) (by decide) rfl (by exact ⟨H9, trivial⟩) (Nat.lt_succ_self _)
    · have H10 := cnd_f hb H; clear H
      refine c_skip ?_
      refine c_close a2 () 0 [] (by exact ⟨rfl, rfl, rfl, rfl, trivial⟩) (by decide) rfl (by exact ⟨H10, trivial⟩) (Nat.lt_succ_self _)
  · rintro x2 _ gg H6 _
    replace H6 : Law_told_int_j1 a0 a1 a3 x2 = some r := H6
    refine c_tidyF [(0, .int .i64 a0), (1, .int .i64 a1), (2, .int .i64 x2), (3, .int .i64 a3)] [] rfl rfl ?_
    refine c_seq ?_
    refine c_region ?_
    refine l_val rfl rfl rfl (r_move (v := .int .i64 a0) rfl) ?_
    refine l_val rfl rfl rfl (r_move (v := .int .i64 x2) rfl) ?_
    refine l_val rfl rfl rfl (r_eql rfl rfl) ?_
    refine l_val rfl rfl rfl (r_move (v := .bool (decide (a0 = x2))) rfl) ?_
    refine split (fun hb => ?_) (fun hb => ?_)
    · have H7 := cnd_t hb H6; clear H6
      refine l_val rfl rfl rfl (r_move (v := .int .i64 a1) rfl) ?_
      refine l_val rfl rfl rfl (r_move (v := .int .i64 a3) rfl) ?_
      refine l_val rfl rfl rfl (r_eql rfl rfl) ?_
      refine l_val rfl rfl rfl (r_pickT (v := .bool (decide (a1 = a3))) rfl rfl) ?_
      refine l_val rfl rfl rfl (r_assign (v := .bool (decide (a1 = a3))) rfl) ?_
      refine l_nil ?_
      refine c_ret ?_
      obtain rfl := Option.some.inj H7
      refine ret1 (v := .bool (decide (a1 = a3))) rfl rfl (fin rfl)
    · have H8 := cnd_f hb H6; clear H6
      refine l_passed rfl rfl rfl ?_
      refine l_passed rfl rfl rfl ?_
      refine l_passed rfl rfl rfl ?_
      refine l_val rfl rfl rfl (r_pickF (v := .bool false) rfl rfl) ?_
      refine l_val rfl rfl rfl (r_assign (v := .bool false) rfl) ?_
      refine l_nil ?_
      refine c_ret ?_
      obtain rfl := Option.some.inj H8
      refine ret1 (v := .bool false) rfl rfl (fin rfl)
theorem k98 {a0 : Int} {r : Bool} (H : R_isLong a0 = some r) : Ret Try.prog 98 [.int .i64 a0] (.bool r) := by
  refine enterRet (n := 9) Try.func98 rfl rfl rfl (fun wd => ?_)
  refine c_seq ?_
  refine c_region ?_
  refine l_val rfl rfl rfl (r_assign (v := .bool false) rfl) ?_
  refine l_nil ?_
  refine c_seq ?_
  refine c_region ?_
  refine l_val rfl rfl rfl (r_move (v := .int .i64 a0) rfl) ?_
  refine l_val rfl rfl rfl (r_geq rfl rfl) ?_
  refine l_val rfl rfl rfl (r_move (v := .bool (decide (0 ≤ a0))) rfl) ?_
  refine split (fun hb => ?_) (fun hb => ?_)
  · have H3 := cnd_t hb H; clear H
    refine l_val rfl rfl rfl (r_move (v := .int .i64 a0) rfl) ?_
    refine l_val rfl rfl rfl (r_leq rfl rfl) ?_
    refine l_val rfl rfl rfl (r_pickT (v := .bool (decide (a0 ≤ 4294967295))) rfl rfl) ?_
    refine l_val rfl rfl rfl (r_assign (v := .bool (decide (a0 ≤ 4294967295))) rfl) ?_
    refine l_nil ?_
    refine c_ret ?_
    obtain rfl := Option.some.inj H3
    refine ret1 (v := .bool (decide (a0 ≤ 4294967295))) rfl rfl (fin rfl)
  · have H4 := cnd_f hb H; clear H
    refine l_passed rfl rfl rfl ?_
    refine l_passed rfl rfl rfl ?_
    refine l_val rfl rfl rfl (r_pickF (v := .bool false) rfl rfl) ?_
    refine l_val rfl rfl rfl (r_assign (v := .bool false) rfl) ?_
    refine l_nil ?_
    refine c_ret ?_
    obtain rfl := Option.some.inj H4
    refine ret1 (v := .bool false) rfl rfl (fin rfl)
theorem k33 {a0 : T_tag_Ratio} {r : T_tag_Ratio × Int} (H : R_Simplest a0 = some r) : Ret Try.prog 33 [.agg #[.int .i64 a0.Num, .int .i64 a0.Den]] (.tuple #[.agg #[.int .i64 r.1.Num, .int .i64 r.1.Den], .int .i64 r.2]) := by
  refine enterRet (n := 41) Try.func33 rfl rfl rfl (fun wd => ?_)
  refine c_seq ?_
  refine c_region ?_
  refine l_box (cs := [.int .i64 a0.Num, .int .i64 a0.Den]) rfl rfl rfl rfl (fun b2 => ?_)
  refine l_alloc (cs := [.int .i64 0, .int .i64 0]) Try.zeroValue44 rfl rfl rfl (fun b3 => ?_)
  refine l_val rfl rfl rfl (r_assign (v := .int .i64 0) rfl) ?_
  refine l_nil ?_
  refine c_seq ?_
  refine c_seq ?_
  refine c_region ?_
  refine l_val rfl rfl rfl (r_field Try.runUnderlying44 rfl Try.sizeOf3 rfl rfl) ?_
  refine l_load1 (i := 0) (v := .int .i64 a0.Num) Try.isAgg3 rfl rfl rfl rfl rfl ?_
  obtain ⟨t8, h_t8, H16⟩ := bnd_some H; clear H
  refine l_call (k98 h_t8) Try.call98 rfl rfl rfl ?_
  refine l_val rfl rfl rfl (r_not rfl) ?_
  refine l_val rfl rfl rfl (r_move (v := .bool (!t8)) rfl) ?_
  refine split (fun hb => ?_) (fun hb => ?_)
  · have H17 := cnd_t hb H16; clear H16
    refine l_passed rfl rfl rfl ?_
    refine l_passed rfl rfl rfl ?_
    refine l_passed rfl rfl rfl ?_
    refine l_passed rfl rfl rfl ?_
    refine l_val rfl rfl rfl (r_pickT (v := .bool true) rfl rfl) ?_
    refine l_val rfl rfl rfl (r_move (v := .bool true) rfl) ?_
    refine l_passed rfl rfl rfl ?_
    refine l_passed rfl rfl rfl ?_
    refine l_passed rfl rfl rfl ?_
    refine l_val rfl rfl rfl (r_pickT (v := .bool true) rfl rfl) ?_
    refine l_nil ?_
    refine c_true rfl ?_
    refine c_seq ?_
    refine c_region ?_
    refine l_val rfl rfl rfl (r_build (pl := #[(0, 1), (1, 1)]) (ps := []) (cells := #[.int .i64 0, .int .i64 0]) Try.zeroValue44 Try.runUnderlying44 (fun w => by kernel_rfl) rfl rfl) ?_
    refine l_store (i := 1) (vs := [.int .i64 0, .int .i64 0]) (cs' := [.int .i64 0, .int .i64 0]) Try.sizeOf44 rfl rfl rfl rfl rfl rfl rfl rfl rfl ?_
    refine l_val rfl rfl rfl (r_assign (v := .int .i64 2) rfl) ?_
    refine l_nil ?_
    refine c_ret ?_
    obtain rfl := Option.some.inj H17
    refine retCt (i := 1) (vs := [.int .i64 0, .int .i64 0]) (v2 := .int .i64 2) Try.isAgg44 Try.sizeOf44 rfl rfl rfl rfl rfl (fin rfl)
  · have H18 := cnd_f hb H16; clear H16
    refine l_val rfl rfl rfl (r_field Try.runUnderlying44 rfl Try.sizeOf3 rfl rfl) ?_
    refine l_load1 (i := 0) (v := .int .i64 a0.Den) Try.isAgg3 rfl rfl rfl rfl rfl ?_
    obtain ⟨t13, h_t13, H19⟩ := bnd_some H18; clear H18
    refine l_call (k98 h_t13) Try.call98 rfl rfl rfl ?_
    refine l_val rfl rfl rfl (r_not rfl) ?_
    refine l_val rfl rfl rfl (r_pickF (v := .bool (!t13)) rfl rfl) ?_
    refine l_val rfl rfl rfl (r_move (v := .bool (!t13)) rfl) ?_
    refine split (fun hb => ?_) (fun hb => ?_)
    · have H20 := cnd_t hb H19; clear H19
      refine l_passed rfl rfl rfl ?_
      refine l_passed rfl rfl rfl ?_
      refine l_passed rfl rfl rfl ?_
      refine l_val rfl rfl rfl (r_pickT (v := .bool true) rfl rfl) ?_
      refine l_nil ?_
      refine c_true rfl ?_
      refine c_seq ?_
      refine c_region ?_
      refine l_val rfl rfl rfl (r_build (pl := #[(0, 1), (1, 1)]) (ps := []) (cells := #[.int .i64 0, .int .i64 0]) Try.zeroValue44 Try.runUnderlying44 (fun w => by kernel_rfl) rfl rfl) ?_
      refine l_store (i := 1) (vs := [.int .i64 0, .int .i64 0]) (cs' := [.int .i64 0, .int .i64 0]) Try.sizeOf44 rfl rfl rfl rfl rfl rfl rfl rfl rfl ?_
      refine l_val rfl rfl rfl (r_assign (v := .int .i64 2) rfl) ?_
      refine l_nil ?_
      refine c_ret ?_
      obtain rfl := Option.some.inj H20
      refine retCt (i := 1) (vs := [.int .i64 0, .int .i64 0]) (v2 := .int .i64 2) Try.isAgg44 Try.sizeOf44 rfl rfl rfl rfl rfl (fin rfl)
    · have H21 := cnd_f hb H19; clear H19
      refine l_val rfl rfl rfl (r_field Try.runUnderlying44 rfl Try.sizeOf3 rfl rfl) ?_
      refine l_load1 (i := 0) (v := .int .i64 a0.Den) Try.isAgg3 rfl rfl rfl rfl rfl ?_
      refine l_val rfl rfl rfl (r_eql rfl rfl) ?_
      refine l_val rfl rfl rfl (r_pickF (v := .bool (decide (a0.Den = 0))) rfl rfl) ?_
      refine l_nil ?_
      refine c_if (b := (decide (a0.Den = 0))) rfl (fun hb => ?_) (fun hb => ?_)
      · have H22 := cnd_t hb H21; clear H21
        refine c_seq ?_
        refine c_region ?_
        refine l_val rfl rfl rfl (r_build (pl := #[(0, 1), (1, 1)]) (ps := []) (cells := #[.int .i64 0, .int .i64 0]) Try.zeroValue44 Try.runUnderlying44 (fun w => by kernel_rfl) rfl rfl) ?_
        refine l_store (i := 1) (vs := [.int .i64 0, .int .i64 0]) (cs' := [.int .i64 0, .int .i64 0]) Try.sizeOf44 rfl rfl rfl rfl rfl rfl rfl rfl rfl ?_
        refine l_val rfl rfl rfl (r_assign (v := .int .i64 2) rfl) ?_
        refine l_nil ?_
        refine c_ret ?_
        obtain rfl := Option.some.inj H22
        refine retCt (i := 1) (vs := [.int .i64 0, .int .i64 0]) (v2 := .int .i64 2) Try.isAgg44 Try.sizeOf44 rfl rfl rfl rfl rfl (fin rfl)
      · have H23 := cnd_f hb H21; clear H21
        refine c_skip ?_
        refine c_seq ?_
        exact c_regionD (Kd.p :: Kd.d [0] _ :: Kd.p :: Kd.d [0] _ :: Kd.p :: Kd.p :: []) 0 mixed (by
          refine d_val rfl rfl (r_field Try.runUnderlying44 rfl Try.sizeOf3 rfl rfl) ?_
          refine d_load1 (i := 0) (v := .int .i64 a0.Num) Try.isAgg3 rfl rfl rfl rfl ?_
          refine d_val rfl rfl (r_field Try.runUnderlying44 rfl Try.sizeOf3 rfl rfl) ?_
          refine d_load1 (i := 0) (v := .int .i64 a0.Den) Try.isAgg3 rfl rfl rfl rfl ?_
          refine d_val rfl rfl (r_assign (v := .int .i64 a0.Num) rfl) ?_
          refine d_val rfl rfl (r_assign (v := .int .i64 a0.Den) rfl) ?_
          refine d_nil ?_
          refine c_meet (r := r) (σ := Int) (τ := Unit) (fun s => R_Simplest_j1 a0 s) (fun s t => [(1, .pointer (some ⟨b2, 0, none⟩)), (2, .pointer (some ⟨b3, 0, none⟩)), (5, .int .i64 s)]) (fun s t => [cellsC b2 [.int .i64 a0.Num, .int .i64 a0.Den] 44, cellsC b3 [.int .i64 0, .int .i64 0] 44]) (fun s t => True) ?_ ?_
          · refine c_block ?_
            refine c_fix (σ := Int × Int) (τ := Unit) (fun next2 s => R_Simplest_l2 a0 next2 s.1 s.2) (fun s t => [(1, .pointer (some ⟨b2, 0, none⟩)), (2, .pointer (some ⟨b3, 0, none⟩)), (4, .int .i64 s.1), (5, .int .i64 s.2)]) (fun s t => [cellsC b2 [.int .i64 a0.Num, .int .i64 a0.Den] 44, cellsC b3 [.int .i64 0, .int .i64 0] 44]) (fun s t => True) (a0.Num, a0.Den) () [0, 1] H23 (by exact trivial) (by exact ⟨rfl, rfl, rfl, rfl, trivial⟩) (by decide) rfl ?_
            rintro ⟨x4_2, x5_3⟩ _ m2 gg H27 _
            clear H23
            replace H27 : R_Simplest_l2 a0 (it (fun next2 s => R_Simplest_l2 a0 next2 s.1 s.2) m2) x4_2 x5_3 = some r := H27
            generalize hn2 : it (fun next2 s => R_Simplest_l2 a0 next2 s.1 s.2) m2 = next2 at H27
            refine c_tidyF [(1, .pointer (some ⟨b2, 0, none⟩)), (2, .pointer (some ⟨b3, 0, none⟩)), (4, .int .i64 x4_2), (5, .int .i64 x5_3)] [cellsC b2 [.int .i64 a0.Num, .int .i64 a0.Den] 44, cellsC b3 [.int .i64 0, .int .i64 0] 44] rfl rfl ?_
            refine c_seq ?_
            refine c_seq ?_
            refine c_region ?_
            refine l_val rfl rfl rfl (r_move (v := .int .i64 x4_2) rfl) ?_
            refine l_val rfl rfl rfl (r_gtr rfl rfl) ?_
            refine l_nil ?_
            refine c_if (b := (decide (0 < x4_2))) rfl (fun hb => ?_) (fun hb => ?_)
            · have H28 := cnd_t hb H27; clear H27
              refine c_skip ?_
              refine c_block ?_
              refine c_region ?_
              refine l_val rfl rfl rfl (r_move (v := .int .i64 x5_3) rfl) ?_
              refine l_val rfl rfl rfl (r_move (v := .int .i64 x4_2) rfl) ?_
              obtain ⟨t30, h_t30, H29⟩ := bnd_some H28; clear H28
              refine l_val rfl rfl rfl (r_remG rfl rfl h_t30) ?_
              refine l_val rfl rfl rfl (r_move (v := .int .i64 x4_2) rfl) ?_
              refine l_val rfl rfl rfl (r_assign (v := .int .i64 t30) rfl) ?_
              refine l_val rfl rfl rfl (r_assign (v := .int .i64 x4_2) rfl) ?_
              refine l_nil ?_
              refine c_close (t30, x4_2) () m2 [0, 1] (by exact ⟨rfl, rfl, rfl, rfl, trivial⟩) (by decide) rfl (by exact ⟨(by subst hn2; exact H29), trivial⟩) (Nat.lt_succ_self _)
            · have H30 := cnd_f hb H27; clear H27
              refine c_exit ?_
              refine c_close x5_3 () 0 [0, 1] (by exact ⟨rfl, rfl, rfl, trivial⟩) (by decide) rfl (by exact ⟨H30, trivial⟩) (Nat.lt_succ_self _)
          · rintro x5 _ gg H24 _
            replace H24 : R_Simplest_j1 a0 x5 = some r := H24
            refine c_tidyF [(1, .pointer (some ⟨b2, 0, none⟩)), (2, .pointer (some ⟨b3, 0, none⟩)), (5, .int .i64 x5)] [cellsC b2 [.int .i64 a0.Num, .int .i64 a0.Den] 44, cellsC b3 [.int .i64 0, .int .i64 0] 44] rfl rfl ?_
            refine c_seq ?_
            exact c_regionD (Kd.p :: Kd.d [0] _ :: Kd.p :: Kd.p :: Kd.p :: Kd.d [0] _ :: Kd.p :: Kd.p :: Kd.p :: Kd.st 2 1 [_, _] 44 :: Kd.p :: []) 0 mixed (by
              refine d_val rfl rfl (r_field Try.runUnderlying44 rfl Try.sizeOf3 rfl rfl) ?_
              refine d_load1 (i := 0) (v := .int .i64 a0.Num) Try.isAgg3 rfl rfl rfl rfl ?_
              refine d_val rfl rfl (r_move (v := .int .i64 x5) rfl) ?_
              have h_t35 := bnd_val H24
              have H25 := bnd_rest H24
              refine d_val rfl rfl (r_quoG rfl rfl h_t35) ?_
              refine d_val rfl rfl (r_field Try.runUnderlying44 rfl Try.sizeOf3 rfl rfl) ?_
              refine d_load1 (i := 0) (v := .int .i64 a0.Den) Try.isAgg3 rfl rfl rfl rfl ?_
              refine d_val rfl rfl (r_move (v := .int .i64 x5) rfl) ?_
              have h_t39 := bnd_val H25
              have H26 := bnd_rest H25
              refine d_val rfl rfl (r_quoG rfl rfl h_t39) ?_
              refine d_val rfl rfl (r_build (pl := #[(0, 1), (1, 1)]) (ps := [(0, .int .i64 (val (gQuo a0.Num x5))), (1, .int .i64 (val (gQuo a0.Den x5)))]) (cells := #[.int .i64 (val (gQuo a0.Num x5)), .int .i64 (val (gQuo a0.Den x5))]) Try.zeroValue44 Try.runUnderlying44 (fun w => by kernel_rfl) rfl rfl) ?_
              refine d_store (i := 1) (vs := [.int .i64 (val (gQuo a0.Num x5)), .int .i64 (val (gQuo a0.Den x5))]) (cs' := [.int .i64 (val (gQuo a0.Num x5)), .int .i64 (val (gQuo a0.Den x5))]) Try.sizeOf44 rfl rfl rfl rfl rfl rfl rfl rfl rfl ?_
              refine d_val rfl rfl (r_assign (v := .int .i64 0) rfl) ?_
              refine d_nil ?_
              refine c_ret ?_
              obtain rfl := Option.some.inj H26
              refine retCt (i := 1) (vs := [.int .i64 (val (gQuo a0.Num x5)), .int .i64 (val (gQuo a0.Den x5))]) (v2 := .int .i64 0) Try.isAgg44 Try.sizeOf44 rfl rfl rfl rfl rfl (fin rfl)
              ) (by kernel_rfl)
          ) (by kernel_rfl)
theorem k99 {a0 : T_tintref2_wide128} {a1 : Int} {r : T_tintref2_wide128} (H : R_wide128_times a0 a1 = some r) : Ret Try.prog 99 [.agg #[.int .u64 a0.hi_, .int .u64 a0.lo_], .int .u64 a1] (.agg #[.int .u64 r.hi_, .int .u64 r.lo_]) := by
  refine enterRet (n := 22) Try.func99 rfl rfl rfl (fun wd => ?_)
  refine c_seq ?_
  refine c_region ?_
  refine l_box (cs := [.int .u64 a0.hi_, .int .u64 a0.lo_]) rfl rfl rfl rfl (fun b2 => ?_)
  refine l_alloc (cs := [.int .u64 0, .int .u64 0]) Try.zeroValue150 rfl rfl rfl (fun b3 => ?_)
  refine l_nil ?_
  refine c_seq ?_
  refine c_region ?_
  refine l_val rfl rfl rfl (r_field Try.runUnderlying150 rfl Try.sizeOf132 rfl rfl) ?_
  refine l_load1 (i := 0) (v := .int .u64 a0.lo_) Try.isAgg132 rfl rfl rfl rfl rfl ?_
  refine l_val rfl rfl rfl (r_move (v := .int .u64 a1) rfl) ?_
  obtain ⟨t11, h_t11, H2⟩ := bnd_some H; clear H
  refine l_call (k144 h_t11) Try.call144 rfl rfl rfl ?_
  refine l_val rfl rfl rfl (r_move (v := .tuple #[.int .u64 t11.1, .int .u64 t11.2]) rfl) ?_
  refine l_val rfl rfl rfl (r_extract (v := .int .u64 t11.1) rfl rfl) ?_
  refine l_val rfl rfl rfl (r_extract (v := .int .u64 t11.2) rfl rfl) ?_
  refine l_val rfl rfl rfl (r_assign (v := .int .u64 t11.1) rfl) ?_
  refine l_val rfl rfl rfl (r_assign (v := .int .u64 t11.2) rfl) ?_
  refine l_nil ?_
  refine c_seq ?_
  refine c_region ?_
  refine l_val rfl rfl rfl (r_move (v := .int .u64 t11.1) rfl) ?_
  refine l_val rfl rfl rfl (r_field Try.runUnderlying150 rfl Try.sizeOf132 rfl rfl) ?_
  refine l_load1 (i := 0) (v := .int .u64 a0.hi_) Try.isAgg132 rfl rfl rfl rfl rfl ?_
  refine l_val rfl rfl rfl (r_move (v := .int .u64 a1) rfl) ?_
  refine l_val rfl rfl rfl (r_mulW rfl rfl (wr_u64 _)) ?_
  refine l_val rfl rfl rfl (r_addW rfl rfl (wr_u64 _)) ?_
  refine l_val rfl rfl rfl (r_move (v := .int .u64 t11.2) rfl) ?_
  refine l_val rfl rfl rfl (r_build (pl := #[(0, 1), (1, 1)]) (ps := [(0, .int .u64 (wU64 (t11.1 + (wU64 (a0.hi_ * a1))))), (1, .int .u64 t11.2)]) (cells := #[.int .u64 (wU64 (t11.1 + (wU64 (a0.hi_ * a1)))), .int .u64 t11.2]) Try.zeroValue150 Try.runUnderlying150 (fun w => by kernel_rfl) rfl rfl) ?_
  refine l_store (i := 1) (vs := [.int .u64 (wU64 (t11.1 + (wU64 (a0.hi_ * a1)))), .int .u64 t11.2]) (cs' := [.int .u64 (wU64 (t11.1 + (wU64 (a0.hi_ * a1)))), .int .u64 t11.2]) Try.sizeOf150 rfl rfl rfl rfl rfl rfl rfl rfl rfl ?_
  refine l_nil ?_
  refine c_ret ?_
  obtain rfl := Option.some.inj H2
  refine retC (i := 1) (vs := [.int .u64 (wU64 (t11.1 + (wU64 (a0.hi_ * a1)))), .int .u64 t11.2]) Try.isAgg150 Try.sizeOf150 rfl rfl rfl rfl (fin rfl)
theorem k100 {a0 : T_tintref2_wide128} {a1 : T_tintref2_wide128} {r : T_tintref2_wide128} (H : R_wide128_plus a0 a1 = some r) : Ret Try.prog 100 [.agg #[.int .u64 a0.hi_, .int .u64 a0.lo_], .agg #[.int .u64 a1.hi_, .int .u64 a1.lo_]] (.agg #[.int .u64 r.hi_, .int .u64 r.lo_]) := by
  refine enterRet (n := 24) Try.func100 rfl rfl rfl (fun wd => ?_)
  refine c_seq ?_
  refine c_region ?_
  refine l_box (cs := [.int .u64 a0.hi_, .int .u64 a0.lo_]) rfl rfl rfl rfl (fun b3 => ?_)
  refine l_box (cs := [.int .u64 a1.hi_, .int .u64 a1.lo_]) rfl rfl rfl rfl (fun b4 => ?_)
  refine l_alloc (cs := [.int .u64 0, .int .u64 0]) Try.zeroValue150 rfl rfl rfl (fun b5 => ?_)
  refine l_nil ?_
  refine c_seq ?_
  refine c_region ?_
  refine l_val rfl rfl rfl (r_field Try.runUnderlying150 rfl Try.sizeOf132 rfl rfl) ?_
  refine l_load1 (i := 0) (v := .int .u64 a0.lo_) Try.isAgg132 rfl rfl rfl rfl rfl ?_
  refine l_val rfl rfl rfl (r_field Try.runUnderlying150 rfl Try.sizeOf132 rfl rfl) ?_
  refine l_load1 (i := 1) (v := .int .u64 a1.lo_) Try.isAgg132 rfl rfl rfl rfl rfl ?_
  obtain ⟨t12, h_t12, H2⟩ := bnd_some H; clear H
  refine l_val rfl rfl rfl (r_ext (args := [.int .u64 a0.lo_, .int .u64 a1.lo_, .int .u64 0]) (ext143 _ _ _ _ h_t12) rfl) ?_
  refine l_val rfl rfl rfl (r_move (v := .tuple #[.int .u64 t12.1, .int .u64 t12.2]) rfl) ?_
  refine l_val rfl rfl rfl (r_extract (v := .int .u64 t12.1) rfl rfl) ?_
  refine l_val rfl rfl rfl (r_extract (v := .int .u64 t12.2) rfl rfl) ?_
  refine l_val rfl rfl rfl (r_assign (v := .int .u64 t12.1) rfl) ?_
  refine l_val rfl rfl rfl (r_assign (v := .int .u64 t12.2) rfl) ?_
  refine l_nil ?_
  refine c_seq ?_
  refine c_region ?_
  refine l_val rfl rfl rfl (r_field Try.runUnderlying150 rfl Try.sizeOf132 rfl rfl) ?_
  refine l_load1 (i := 0) (v := .int .u64 a0.hi_) Try.isAgg132 rfl rfl rfl rfl rfl ?_
  refine l_val rfl rfl rfl (r_field Try.runUnderlying150 rfl Try.sizeOf132 rfl rfl) ?_
  refine l_load1 (i := 1) (v := .int .u64 a1.hi_) Try.isAgg132 rfl rfl rfl rfl rfl ?_
  refine l_val rfl rfl rfl (r_addW rfl rfl (wr_u64 _)) ?_
  refine l_val rfl rfl rfl (r_move (v := .int .u64 t12.2) rfl) ?_
  refine l_val rfl rfl rfl (r_addW rfl rfl (wr_u64 _)) ?_
  refine l_val rfl rfl rfl (r_move (v := .int .u64 t12.1) rfl) ?_
  refine l_val rfl rfl rfl (r_build (pl := #[(0, 1), (1, 1)]) (ps := [(0, .int .u64 (wU64 ((wU64 (a0.hi_ + a1.hi_)) + t12.2))), (1, .int .u64 t12.1)]) (cells := #[.int .u64 (wU64 ((wU64 (a0.hi_ + a1.hi_)) + t12.2)), .int .u64 t12.1]) Try.zeroValue150 Try.runUnderlying150 (fun w => by kernel_rfl) rfl rfl) ?_
  refine l_store (i := 2) (vs := [.int .u64 (wU64 ((wU64 (a0.hi_ + a1.hi_)) + t12.2)), .int .u64 t12.1]) (cs' := [.int .u64 (wU64 ((wU64 (a0.hi_ + a1.hi_)) + t12.2)), .int .u64 t12.1]) Try.sizeOf150 rfl rfl rfl rfl rfl rfl rfl rfl rfl ?_
  refine l_nil ?_
  refine c_ret ?_
  obtain rfl := Option.some.inj H2
  refine retC (i := 2) (vs := [.int .u64 (wU64 ((wU64 (a0.hi_ + a1.hi_)) + t12.2)), .int .u64 t12.1]) Try.isAgg150 Try.sizeOf150 rfl rfl rfl rfl (fin rfl)
theorem k101 {a0 : T_tintref2_wide128} {a1 : T_tintref2_wide128} {r : Bool} (H : R_wide128_less a0 a1 = some r) : Ret Try.prog 101 [.agg #[.int .u64 a0.hi_, .int .u64 a0.lo_], .agg #[.int .u64 a1.hi_, .int .u64 a1.lo_]] (.bool r) := by
  refine enterRet (n := 24) Try.func101 rfl rfl rfl (fun wd => ?_)
  refine c_seq ?_
  refine c_region ?_
  refine l_box (cs := [.int .u64 a0.hi_, .int .u64 a0.lo_]) rfl rfl rfl rfl (fun b2 => ?_)
  refine l_box (cs := [.int .u64 a1.hi_, .int .u64 a1.lo_]) rfl rfl rfl rfl (fun b3 => ?_)
  refine l_val rfl rfl rfl (r_assign (v := .bool false) rfl) ?_
  refine l_nil ?_
  refine c_seq ?_
  refine c_region ?_
  refine l_val rfl rfl rfl (r_field Try.runUnderlying150 rfl Try.sizeOf132 rfl rfl) ?_
  refine l_load1 (i := 0) (v := .int .u64 a0.hi_) Try.isAgg132 rfl rfl rfl rfl rfl ?_
  refine l_val rfl rfl rfl (r_field Try.runUnderlying150 rfl Try.sizeOf132 rfl rfl) ?_
  refine l_load1 (i := 1) (v := .int .u64 a1.hi_) Try.isAgg132 rfl rfl rfl rfl rfl ?_
  refine l_val rfl rfl rfl (r_lss rfl rfl) ?_
  refine l_val rfl rfl rfl (r_move (v := .bool (decide (a0.hi_ < a1.hi_))) rfl) ?_
  refine split (fun hb => ?_) (fun hb => ?_)
  · have H5 := cnd_t hb H; clear H
    refine l_passed rfl rfl rfl ?_
    refine l_passed rfl rfl rfl ?_
    refine l_passed rfl rfl rfl ?_
    refine l_passed rfl rfl rfl ?_
    refine l_passed rfl rfl rfl ?_
    refine l_passed rfl rfl rfl ?_
    refine l_passed rfl rfl rfl ?_
    refine l_passed rfl rfl rfl ?_
    refine l_passed rfl rfl rfl ?_
    refine l_passed rfl rfl rfl ?_
    refine l_passed rfl rfl rfl ?_
    refine l_passed rfl rfl rfl ?_
    refine l_val rfl rfl rfl (r_pickT (v := .bool true) rfl rfl) ?_
    refine l_val rfl rfl rfl (r_assign (v := .bool true) rfl) ?_
    refine l_nil ?_
    refine c_ret ?_
    obtain rfl := Option.some.inj H5
    refine ret1 (v := .bool true) rfl rfl (fin rfl)
  · have H6 := cnd_f hb H; clear H
    refine l_val rfl rfl rfl (r_field Try.runUnderlying150 rfl Try.sizeOf132 rfl rfl) ?_
    refine l_load1 (i := 0) (v := .int .u64 a0.hi_) Try.isAgg132 rfl rfl rfl rfl rfl ?_
    refine l_val rfl rfl rfl (r_field Try.runUnderlying150 rfl Try.sizeOf132 rfl rfl) ?_
    refine l_load1 (i := 1) (v := .int .u64 a1.hi_) Try.isAgg132 rfl rfl rfl rfl rfl ?_
    refine l_val rfl rfl rfl (r_eql rfl rfl) ?_
    refine l_val rfl rfl rfl (r_move (v := .bool (decide (a0.hi_ = a1.hi_))) rfl) ?_
    refine split (fun hb => ?_) (fun hb => ?_)
    · have H7 := cnd_t hb H6; clear H6
      refine l_val rfl rfl rfl (r_field Try.runUnderlying150 rfl Try.sizeOf132 rfl rfl) ?_
      refine l_load1 (i := 0) (v := .int .u64 a0.lo_) Try.isAgg132 rfl rfl rfl rfl rfl ?_
      refine l_val rfl rfl rfl (r_field Try.runUnderlying150 rfl Try.sizeOf132 rfl rfl) ?_
      refine l_load1 (i := 1) (v := .int .u64 a1.lo_) Try.isAgg132 rfl rfl rfl rfl rfl ?_
      refine l_val rfl rfl rfl (r_lss rfl rfl) ?_
      refine l_val rfl rfl rfl (r_pickT (v := .bool (decide (a0.lo_ < a1.lo_))) rfl rfl) ?_
      refine l_val rfl rfl rfl (r_pickF (v := .bool (decide (a0.lo_ < a1.lo_))) rfl rfl) ?_
      refine l_val rfl rfl rfl (r_assign (v := .bool (decide (a0.lo_ < a1.lo_))) rfl) ?_
      refine l_nil ?_
      refine c_ret ?_
      obtain rfl := Option.some.inj H7
      refine ret1 (v := .bool (decide (a0.lo_ < a1.lo_))) rfl rfl (fin rfl)
    · have H8 := cnd_f hb H6; clear H6
      refine l_passed rfl rfl rfl ?_
      refine l_passed rfl rfl rfl ?_
      refine l_passed rfl rfl rfl ?_
      refine l_passed rfl rfl rfl ?_
      refine l_passed rfl rfl rfl ?_
      refine l_val rfl rfl rfl (r_pickF (v := .bool false) rfl rfl) ?_
      refine l_val rfl rfl rfl (r_pickF (v := .bool false) rfl rfl) ?_
      refine l_val rfl rfl rfl (r_assign (v := .bool false) rfl) ?_
      refine l_nil ?_
      refine c_ret ?_
      obtain rfl := Option.some.inj H8
      refine ret1 (v := .bool false) rfl rfl (fin rfl)
theorem ext146 (x y c : Int) (p : Int × Int) (h : gSub64 x y c = some p) (w : World) : (callFunc 146 (List.toArray [.int .u64 x, .int .u64 y, .int .u64 c])).run Try.prog w = .ok (.value (.tuple #[.int .u64 p.1, .int .u64 p.2])) w := by
  have h0 : (callFunc 146 #[.int .u64 x, .int .u64 y, .int .u64 c]).run Try.prog w = (do pure (.value (← sub64Entry #[.int .u64 x, .int .u64 y, .int .u64 c])) : Sem Next).run Try.prog w := by kernel_rfl
  rw [h0]
  simp only [Sem.run_bind, Go.Lx.run_sub64 x y c p h, Result.andThen_ok, Sem.run_pure]

theorem k102 {a0 : T_tintref2_wide128} {a1 : T_tintref2_wide128} {r : T_tintref2_wide128} (H : R_wide128_minus a0 a1 = some r) : Ret Try.prog 102 [.agg #[.int .u64 a0.hi_, .int .u64 a0.lo_], .agg #[.int .u64 a1.hi_, .int .u64 a1.lo_]] (.agg #[.int .u64 r.hi_, .int .u64 r.lo_]) := by
  refine enterRet (n := 24) Try.func102 rfl rfl rfl (fun wd => ?_)
  refine c_seq ?_
  refine c_region ?_
  refine l_box (cs := [.int .u64 a0.hi_, .int .u64 a0.lo_]) rfl rfl rfl rfl (fun b3 => ?_)
  refine l_box (cs := [.int .u64 a1.hi_, .int .u64 a1.lo_]) rfl rfl rfl rfl (fun b4 => ?_)
  refine l_alloc (cs := [.int .u64 0, .int .u64 0]) Try.zeroValue150 rfl rfl rfl (fun b5 => ?_)
  refine l_nil ?_
  refine c_seq ?_
  refine c_region ?_
  refine l_val rfl rfl rfl (r_field Try.runUnderlying150 rfl Try.sizeOf132 rfl rfl) ?_
  refine l_load1 (i := 0) (v := .int .u64 a0.lo_) Try.isAgg132 rfl rfl rfl rfl rfl ?_
  refine l_val rfl rfl rfl (r_field Try.runUnderlying150 rfl Try.sizeOf132 rfl rfl) ?_
  refine l_load1 (i := 1) (v := .int .u64 a1.lo_) Try.isAgg132 rfl rfl rfl rfl rfl ?_
  obtain ⟨t12, h_t12, H2⟩ := bnd_some H; clear H
  refine l_val rfl rfl rfl (r_ext (args := [.int .u64 a0.lo_, .int .u64 a1.lo_, .int .u64 0]) (ext146 _ _ _ _ h_t12) rfl) ?_
  refine l_val rfl rfl rfl (r_move (v := .tuple #[.int .u64 t12.1, .int .u64 t12.2]) rfl) ?_
  refine l_val rfl rfl rfl (r_extract (v := .int .u64 t12.1) rfl rfl) ?_
  refine l_val rfl rfl rfl (r_extract (v := .int .u64 t12.2) rfl rfl) ?_
  refine l_val rfl rfl rfl (r_assign (v := .int .u64 t12.1) rfl) ?_
  refine l_val rfl rfl rfl (r_assign (v := .int .u64 t12.2) rfl) ?_
  refine l_nil ?_
  refine c_seq ?_
  refine c_region ?_
  refine l_val rfl rfl rfl (r_field Try.runUnderlying150 rfl Try.sizeOf132 rfl rfl) ?_
  refine l_load1 (i := 0) (v := .int .u64 a0.hi_) Try.isAgg132 rfl rfl rfl rfl rfl ?_
  refine l_val rfl rfl rfl (r_field Try.runUnderlying150 rfl Try.sizeOf132 rfl rfl) ?_
  refine l_load1 (i := 1) (v := .int .u64 a1.hi_) Try.isAgg132 rfl rfl rfl rfl rfl ?_
  refine l_val rfl rfl rfl (r_subW rfl rfl (wr_u64 _)) ?_
  refine l_val rfl rfl rfl (r_move (v := .int .u64 t12.2) rfl) ?_
  refine l_val rfl rfl rfl (r_subW rfl rfl (wr_u64 _)) ?_
  refine l_val rfl rfl rfl (r_move (v := .int .u64 t12.1) rfl) ?_
  refine l_val rfl rfl rfl (r_build (pl := #[(0, 1), (1, 1)]) (ps := [(0, .int .u64 (wU64 ((wU64 (a0.hi_ - a1.hi_)) - t12.2))), (1, .int .u64 t12.1)]) (cells := #[.int .u64 (wU64 ((wU64 (a0.hi_ - a1.hi_)) - t12.2)), .int .u64 t12.1]) Try.zeroValue150 Try.runUnderlying150 (fun w => by kernel_rfl) rfl rfl) ?_
  refine l_store (i := 2) (vs := [.int .u64 (wU64 ((wU64 (a0.hi_ - a1.hi_)) - t12.2)), .int .u64 t12.1]) (cs' := [.int .u64 (wU64 ((wU64 (a0.hi_ - a1.hi_)) - t12.2)), .int .u64 t12.1]) Try.sizeOf150 rfl rfl rfl rfl rfl rfl rfl rfl rfl ?_
  refine l_nil ?_
  refine c_ret ?_
  obtain rfl := Option.some.inj H2
  refine retC (i := 2) (vs := [.int .u64 (wU64 ((wU64 (a0.hi_ - a1.hi_)) - t12.2)), .int .u64 t12.1]) Try.isAgg150 Try.sizeOf150 rfl rfl rfl rfl (fin rfl)
theorem k34 {a0 : (List T_tag_Ratio)} {v0 : Value} {r : Int × Int} {w : World} {h : Heap} (hw : Know h w noS) (f0 : FrS h 2 v0 (a0.map e_tag_Ratio)) (H : R_DegreesOf a0 = some r) : Does Try.prog 34 (List.toArray [v0]) w (fun v w' => v = (.tuple #[.int .i64 r.1, .int .i64 r.2]) ∧ Grow w w') := by
  refine enter (n := 113) Try.func34 rfl rfl rfl noS [] (Sat.nil _ _) ?_
  refine c_seq ?_
  refine c_region ?_
  refine l_val rfl rfl rfl (r_assign (v := .int .i64 0) rfl) ?_
  refine l_val rfl rfl rfl (r_assign (v := .int .i64 0) rfl) ?_
  refine l_nil ?_
  refine c_seq ?_
  refine c_seq ?_
  refine c_region ?_
  refine l_val rfl rfl rfl (r_move (v := v0) rfl) ?_
  refine l_val rfl rfl rfl (r_lenF Try.underlying39 rfl f0 rfl) ?_
  refine l_val rfl rfl rfl (r_neq rfl rfl) ?_
  refine l_nil ?_
  refine c_if (b := (decide ((a0.length : Int) ≠ 3))) rfl (fun hb => ?_) (fun hb => ?_)
  · have H53 := cnd_t hb H; clear H
    refine c_seq ?_
    refine c_region ?_
    refine l_val rfl rfl rfl (r_assign (v := .int .i64 0) rfl) ?_
    refine l_val rfl rfl rfl (r_assign (v := .int .i64 1) rfl) ?_
    refine l_nil ?_
    refine c_ret ?_
    obtain rfl := Option.some.inj H53
    refine ret2 (v1 := .int .i64 0) (v2 := .int .i64 1) rfl rfl rfl (fin rfl)
  · have H54 := cnd_f hb H; clear H
    refine c_skip ?_
    refine c_seq ?_
    refine c_region ?_
    refine l_val rfl rfl rfl (r_assign (v := .int .i64 0) rfl) ?_
    refine l_nil ?_
    refine c_seq ?_
    refine c_region ?_
    refine l_alloc (cs := [.int .u64 ((fun _ => 0) 0), .int .u64 ((fun _ => 0) 1), .int .u64 ((fun _ => 0) 2)]) Try.zeroValue133 rfl rfl rfl (fun b10 => ?_)
    refine l_alloc (cs := [.int .u64 ((fun _ => 0) 0), .int .u64 ((fun _ => 0) 1), .int .u64 ((fun _ => 0) 2)]) Try.zeroValue133 rfl rfl rfl (fun b11 => ?_)
    refine l_nil ?_
    refine c_meet (r := r) (σ := Int × (Nat → Int) × (Nat → Int)) (τ := Unit) (fun s => R_DegreesOf_j1 s.1 s.2.1 s.2.2) (fun s t => [(4, .int .i64 s.1), (5, .pointer (some ⟨b10, 0, none⟩)), (6, .pointer (some ⟨b11, 0, none⟩))]) (fun s t => [cellsC b10 [.int .u64 (s.2.1 0), .int .u64 (s.2.1 1), .int .u64 (s.2.1 2)] 133, cellsC b11 [.int .u64 (s.2.2 0), .int .u64 (s.2.2 1), .int .u64 (s.2.2 2)] 133]) (fun s t => True) ?_ ?_
    · refine c_seq ?_
      refine c_region ?_
      refine l_val rfl rfl rfl (r_move (v := v0) rfl) ?_
      refine l_val rfl rfl rfl (r_lenF Try.underlying39 rfl f0 rfl) ?_
      refine l_val rfl rfl rfl (r_move (v := .int .i64 0) rfl) ?_
      refine l_nil ?_
      refine c_block ?_
      refine c_fix (σ := Int × Int × (Nat → Int) × (Nat → Int)) (τ := Unit) (fun next10 s => R_DegreesOf_l10 a0 next10 s.1 s.2.1 s.2.2.1 s.2.2.2) (fun s t => [(4, .int .i64 s.1), (5, .pointer (some ⟨b10, 0, none⟩)), (6, .pointer (some ⟨b11, 0, none⟩)), (21, v0), (22, .int .i64 (a0.length : Int)), (23, .int .i64 s.2.1)]) (fun s t => [cellsC b10 [.int .u64 (s.2.2.1 0), .int .u64 (s.2.2.1 1), .int .u64 (s.2.2.1 2)] 133, cellsC b11 [.int .u64 (s.2.2.2 0), .int .u64 (s.2.2.2 1), .int .u64 (s.2.2.2 2)] 133]) (fun s t => True) (0, 0, (fun _ => 0), (fun _ => 0)) () [0, 1] H54 (by exact trivial) (by exact ⟨rfl, rfl, rfl, rfl, rfl, rfl, trivial⟩) (by decide) rfl ?_
      rintro ⟨x4_6, x23_2, m_25, m_26⟩ _ m10 gg H88 _
      clear H54
      replace H88 : R_DegreesOf_l10 a0 (it (fun next10 s => R_DegreesOf_l10 a0 next10 s.1 s.2.1 s.2.2.1 s.2.2.2) m10) x4_6 x23_2 m_25 m_26 = some r := H88
      generalize hn10 : it (fun next10 s => R_DegreesOf_l10 a0 next10 s.1 s.2.1 s.2.2.1 s.2.2.2) m10 = next10 at H88
      refine c_tidyF [(4, .int .i64 x4_6), (5, .pointer (some ⟨b10, 0, none⟩)), (6, .pointer (some ⟨b11, 0, none⟩)), (21, v0), (22, .int .i64 (a0.length : Int)), (23, .int .i64 x23_2)] [cellsC b10 [.int .u64 (m_25 0), .int .u64 (m_25 1), .int .u64 (m_25 2)] 133, cellsC b11 [.int .u64 (m_26 0), .int .u64 (m_26 1), .int .u64 (m_26 2)] 133] rfl rfl ?_
      refine c_seq ?_
      refine c_region ?_
      refine l_val rfl rfl rfl (r_lss rfl rfl) ?_
      refine l_nil ?_
      refine c_seq ?_
      refine c_if (b := (decide (x23_2 < (a0.length : Int)))) rfl (fun hb => ?_) (fun hb => ?_)
      · have H89 := cnd_t hb H88; clear H88
        refine c_skip ?_
        refine c_seq ?_
        refine c_block ?_
        refine c_seq ?_
        refine c_region ?_
        refine l_val rfl rfl rfl (r_move (v := .int .i64 x23_2) rfl) ?_
        obtain ⟨t26, h_t26, H90⟩ := bnd_some H89; clear H89
        refine l_val rfl rfl rfl (r_indexF Try.underlying39 Try.sizeOf44 rfl rfl f0 h_t26) ?_
        refine l_read (fun w hF hS => run_loadGN (j := 0) (vs := [.int .i64 t26.Num, .int .i64 t26.Den]) Try.isAgg44 Try.sizeOf44 rfl rfl (f0.row (hw.now hF)) h_t26 rfl) rfl rfl rfl ?_
        refine l_alloc (cs := [.int .i64 0, .int .i64 0]) Try.zeroValue44 rfl rfl rfl (fun b17 => ?_)
        refine l_val rfl rfl rfl (r_assign (v := .int .i64 x23_2) rfl) ?_
        refine l_store (i := 2) (vs := [.int .i64 t26.Num, .int .i64 t26.Den]) (cs' := [.int .i64 t26.Num, .int .i64 t26.Den]) Try.sizeOf44 rfl rfl rfl rfl rfl rfl rfl rfl rfl ?_
        refine l_nil ?_
        refine c_seq ?_
        refine c_seq ?_
        refine c_region ?_
        refine l_loadN (i := 2) (vs := [.int .i64 t26.Num, .int .i64 t26.Den]) Try.isAgg44 Try.sizeOf44 rfl rfl rfl rfl rfl ?_
        obtain ⟨t30, h_t30, H91⟩ := bnd_some H90; clear H90
        refine l_call (k33 h_t30) Try.call33 rfl rfl rfl ?_
        refine l_val rfl rfl rfl (r_move (v := .tuple #[.agg #[.int .i64 t30.1.Num, .int .i64 t30.1.Den], .int .i64 t30.2]) rfl) ?_
        refine l_val rfl rfl rfl (r_extract (v := .agg #[.int .i64 t30.1.Num, .int .i64 t30.1.Den]) rfl rfl) ?_
        refine l_val rfl rfl rfl (r_extract (v := .int .i64 t30.2) rfl rfl) ?_
        refine l_alloc (cs := [.int .i64 0, .int .i64 0]) Try.zeroValue44 rfl rfl rfl (fun b18 => ?_)
        refine l_store (i := 3) (vs := [.int .i64 t30.1.Num, .int .i64 t30.1.Den]) (cs' := [.int .i64 t30.1.Num, .int .i64 t30.1.Den]) Try.sizeOf44 rfl rfl rfl rfl rfl rfl rfl rfl rfl ?_
        refine l_val rfl rfl rfl (r_assign (v := .int .i64 t30.2) rfl) ?_
        refine l_nil ?_
        refine c_seq ?_
        refine c_region ?_
        refine l_val rfl rfl rfl (r_move (v := .int .i64 t30.2) rfl) ?_
        refine l_val rfl rfl rfl (r_neq rfl rfl) ?_
        refine l_nil ?_
        refine c_if (b := (decide (t30.2 ≠ 0))) rfl (fun hb => ?_) (fun hb => ?_)
        · have H92 := cnd_t hb H91; clear H91
          refine c_seq ?_
          refine c_region ?_
          refine l_val rfl rfl rfl (r_move (v := .int .i64 t30.2) rfl) ?_
          refine l_val rfl rfl rfl (r_assign (v := .int .i64 0) rfl) ?_
          refine l_val rfl rfl rfl (r_assign (v := .int .i64 t30.2) rfl) ?_
          refine l_nil ?_
          refine c_ret ?_
          obtain rfl := Option.some.inj H92
          refine ret2 (v1 := .int .i64 0) (v2 := .int .i64 t30.2) rfl rfl rfl (fin rfl)
        · have H93 := cnd_f hb H91; clear H91
          refine c_skip ?_
          refine c_seq ?_
          exact c_regionD (Kd.p :: Kd.d [2] _ :: Kd.ns 4 [_, _, _] 3 3 :: Kd.p :: Kd.p :: Kd.d [4] _ :: Kd.p :: Kd.p :: []) 1 mixed (by
            refine d_val rfl rfl (r_field Try.runUnderlying44 rfl Try.sizeOf3 rfl rfl) ?_
            refine d_load1 (i := 2) (v := .int .i64 t26.Den) Try.isAgg3 rfl rfl rfl rfl ?_
            refine d_newS rfl rfl (run_buildSlice (vs := [.int .i64 1, .int .i64 60, .int .i64 3600]) (cs := [.int .i64 1, .int .i64 60, .int .i64 3600]) Try.underlying148 Try.sizeOf3 Try.zeroValue3 rfl rfl rfl rfl rfl) rfl (fun b19 => ?_)
            refine d_val rfl rfl (r_move (v := .int .i64 x23_2) rfl) ?_
            have h_t40 := bnd_val H93
            have H94 := bnd_rest H93
            refine d_val rfl rfl (r_indexS Try.underlying148 Try.sizeOf3 rfl rfl h_t40 rfl) ?_
            refine d_readD (fun w L' hF hS hi => run_loadG1 (j := 0) (v := .int .i64 (val (gAt ([1, 60, 3600] : List Int) x23_2))) Try.isAgg3 rfl rfl (row_box (sz := 1) (xs := ([1, 60, 3600] : List Int).map e_i64) (i := 4) hS ((hi 4 (by simp)).trans rfl) rfl rfl) h_t40 rfl) rfl rfl ?_
            have h_t42 := bnd_val H94
            have H95 := bnd_rest H94
            refine d_val rfl rfl (r_mulG rfl rfl h_t42) ?_
            refine d_val rfl rfl (r_assign (v := .int .i64 (val (gI (t26.Den * (val (gAt ([1, 60, 3600] : List Int) x23_2)))))) rfl) ?_
            refine d_nil ?_
            refine c_seq ?_
            refine c_region ?_
            refine l_val rfl rfl rfl (r_move (v := .int .i64 x4_6) rfl) ?_
            refine l_val rfl rfl rfl (r_field Try.runUnderlying44 rfl Try.sizeOf3 rfl rfl) ?_
            refine l_load1 (i := 2) (v := .int .i64 t26.Num) Try.isAgg3 rfl rfl rfl rfl rfl ?_
            obtain ⟨t46, h_t46, H96⟩ := bnd_some H95; clear H95
            refine l_val rfl rfl rfl (r_mulG rfl rfl h_t46) ?_
            refine l_val rfl rfl rfl (r_move (v := .int .i64 (val (gI (t26.Den * (val (gAt ([1, 60, 3600] : List Int) x23_2)))))) rfl) ?_
            obtain ⟨t48, h_t48, H97⟩ := bnd_some H96; clear H96
            refine l_val rfl rfl rfl (r_quoG rfl rfl h_t48) ?_
            obtain ⟨t49, h_t49, H98⟩ := bnd_some H97; clear H97
            refine l_val rfl rfl rfl (r_addG rfl rfl h_t49) ?_
            refine l_val rfl rfl rfl (r_assign (v := .int .i64 t49) rfl) ?_
            refine l_nil ?_
            refine c_region ?_
            refine l_val rfl rfl rfl (r_move (v := .int .i64 x23_2) rfl) ?_
            refine l_val rfl rfl rfl (r_move (v := .int .i64 x23_2) rfl) ?_
            refine l_val rfl rfl rfl (r_field Try.runUnderlying44 rfl Try.sizeOf3 rfl rfl) ?_
            refine l_load1 (i := 2) (v := .int .i64 t26.Num) Try.isAgg3 rfl rfl rfl rfl rfl ?_
            obtain ⟨t54, h_t54, H99⟩ := bnd_some H98; clear H98
            refine l_val rfl rfl rfl (r_mulG rfl rfl h_t54) ?_
            refine l_val rfl rfl rfl (r_move (v := .int .i64 (val (gI (t26.Den * (val (gAt ([1, 60, 3600] : List Int) x23_2)))))) rfl) ?_
            obtain ⟨t56, h_t56, H100⟩ := bnd_some H99; clear H99
            refine l_val rfl rfl rfl (r_remG rfl rfl h_t56) ?_
            refine l_val rfl rfl rfl (r_convG Try.runUnderlying3 Try.runUnderlying132 rfl (wr_u64 _)) ?_
            refine l_val rfl rfl rfl (r_move (v := .int .i64 (val (gI (t26.Den * (val (gAt ([1, 60, 3600] : List Int) x23_2)))))) rfl) ?_
            refine l_val rfl rfl rfl (r_convG Try.runUnderlying3 Try.runUnderlying132 rfl (wr_u64 _)) ?_
            obtain ⟨k60, h_k60, H101⟩ := bnd_some H100; clear H100
            refine l_val rfl rfl rfl (r_indexPG Try.runUnderlying133 Try.sizeOf132 rfl rfl h_k60) ?_
            refine l_store (i := 0) (vs := [.int .u64 (wU64 t56)]) (cs' := [.int .u64 ((setA m_25 k60 (wU64 t56)) 0), .int .u64 ((setA m_25 k60 (wU64 t56)) 1), .int .u64 ((setA m_25 k60 (wU64 t56)) 2)]) Try.sizeOf132 rfl rfl rfl rfl rfl rfl rfl rfl (wr_arr (pre := []) (post := []) (f := fun (j_ : Int) => [.int .u64 j_]) (n := 3) (sz := 1) (a := m_25) (x := (wU64 t56)) rfl rfl (fun _ => rfl) (gIx_lt h_k60) rfl rfl) ?_
            obtain ⟨k61, h_k61, H102⟩ := bnd_some H101; clear H101
            refine l_val rfl rfl rfl (r_indexPG Try.runUnderlying133 Try.sizeOf132 rfl rfl h_k61) ?_
            refine l_store (i := 1) (vs := [.int .u64 (wU64 (val (gI (t26.Den * (val (gAt ([1, 60, 3600] : List Int) x23_2))))))]) (cs' := [.int .u64 ((setA m_26 k61 (wU64 (val (gI (t26.Den * (val (gAt ([1, 60, 3600] : List Int) x23_2))))))) 0), .int .u64 ((setA m_26 k61 (wU64 (val (gI (t26.Den * (val (gAt ([1, 60, 3600] : List Int) x23_2))))))) 1), .int .u64 ((setA m_26 k61 (wU64 (val (gI (t26.Den * (val (gAt ([1, 60, 3600] : List Int) x23_2))))))) 2)]) Try.sizeOf132 rfl rfl rfl rfl rfl rfl rfl rfl (wr_arr (pre := []) (post := []) (f := fun (j_ : Int) => [.int .u64 j_]) (n := 3) (sz := 1) (a := m_26) (x := (wU64 (val (gI (t26.Den * (val (gAt ([1, 60, 3600] : List Int) x23_2))))))) rfl rfl (fun _ => rfl) (gIx_lt h_k61) rfl rfl) ?_
            refine l_nil ?_
            refine c_region ?_
            obtain ⟨t62, h_t62, H103⟩ := bnd_some H102; clear H102
            refine l_val rfl rfl rfl (r_addG rfl rfl h_t62) ?_
            refine l_val rfl rfl rfl (r_move (v := .int .i64 t62) rfl) ?_
            refine l_nil ?_
            refine c_close (t49, t62, (setA m_25 k60 (wU64 t56)), (setA m_26 k61 (wU64 (val (gI (t26.Den * (val (gAt ([1, 60, 3600] : List Int) x23_2)))))))) () m10 [0, 1] (by exact ⟨rfl, rfl, rfl, rfl, rfl, rfl, trivial⟩) (by decide) rfl (by exact ⟨(by subst hn10; exact H103), trivial⟩) (Nat.lt_succ_self _)
            ) (by kernel_rfl)
      · have H104 := cnd_f hb H88; clear H88
        refine c_exit ?_
        refine c_close (x4_6, m_25, m_26) () 0 [0, 1] (by exact ⟨rfl, rfl, rfl, trivial⟩) (by decide) rfl (by exact ⟨H104, trivial⟩) (Nat.lt_succ_self _)
    · rintro ⟨x4, m, m_2⟩ _ gg H55 _
      replace H55 : R_DegreesOf_j1 x4 m m_2 = some r := H55
      refine c_tidyF [(4, .int .i64 x4), (5, .pointer (some ⟨b10, 0, none⟩)), (6, .pointer (some ⟨b11, 0, none⟩))] [cellsC b10 [.int .u64 (m 0), .int .u64 (m 1), .int .u64 (m 2)] 133, cellsC b11 [.int .u64 (m_2 0), .int .u64 (m_2 1), .int .u64 (m_2 2)] 133] rfl rfl ?_
      refine c_seq ?_
      exact c_regionD (Kd.p :: Kd.p :: Kd.d [1] _ :: Kd.d [] _ :: Kd.p :: Kd.d [1] _ :: Kd.d [] _ :: Kd.p :: Kd.d [1] _ :: Kd.d [] _ :: Kd.nw 2 [_, _] 150 :: Kd.st 12 2 [_, _] 150 :: []) 1 mixed (by
        refine d_val rfl rfl (r_build (pl := #[(0, 1), (1, 1)]) (ps := [(1, .int .u64 1)]) (cells := #[.int .u64 0, .int .u64 1]) Try.zeroValue150 Try.runUnderlying150 (fun w => by kernel_rfl) rfl rfl) ?_
        refine d_val rfl rfl (r_indexPA Try.runUnderlying133 Try.sizeOf132 rfl rfl (by decide) (by decide)) ?_
        refine d_load1 (i := 1) (v := .int .u64 (m_2 0)) Try.isAgg132 rfl rfl rfl rfl ?_
        have h_t66 := bnd_val H55
        have H56 := bnd_rest H55
        refine d_call (k99 h_t66) Try.call99 rfl rfl ?_
        refine d_val rfl rfl (r_indexPA Try.runUnderlying133 Try.sizeOf132 rfl rfl (by decide) (by decide)) ?_
        refine d_load1 (i := 1) (v := .int .u64 (m_2 1)) Try.isAgg132 rfl rfl rfl rfl ?_
        have h_t69 := bnd_val H56
        have H57 := bnd_rest H56
        refine d_call (k99 h_t69) Try.call99 rfl rfl ?_
        refine d_val rfl rfl (r_indexPA Try.runUnderlying133 Try.sizeOf132 rfl rfl (by decide) (by decide)) ?_
        refine d_load1 (i := 1) (v := .int .u64 (m_2 2)) Try.isAgg132 rfl rfl rfl rfl ?_
        have h_t72 := bnd_val H57
        have H58 := bnd_rest H57
        refine d_call (k99 h_t72) Try.call99 rfl rfl ?_
        refine d_new rfl rfl (run_alloc (cs := [.int .u64 0, .int .u64 0]) Try.zeroValue150 rfl) rfl (fun b12 => ?_)
        refine d_store (i := 2) (vs := [.int .u64 (val (R_wide128_times (val (R_wide128_times (val (R_wide128_times (⟨0, 1⟩ : T_tintref2_wide128) (m_2 0))) (m_2 1))) (m_2 2))).hi_, .int .u64 (val (R_wide128_times (val (R_wide128_times (val (R_wide128_times (⟨0, 1⟩ : T_tintref2_wide128) (m_2 0))) (m_2 1))) (m_2 2))).lo_]) (cs' := [.int .u64 (val (R_wide128_times (val (R_wide128_times (val (R_wide128_times (⟨0, 1⟩ : T_tintref2_wide128) (m_2 0))) (m_2 1))) (m_2 2))).hi_, .int .u64 (val (R_wide128_times (val (R_wide128_times (val (R_wide128_times (⟨0, 1⟩ : T_tintref2_wide128) (m_2 0))) (m_2 1))) (m_2 2))).lo_]) Try.sizeOf150 rfl rfl rfl rfl rfl rfl rfl rfl rfl ?_
        refine d_nil ?_
        refine c_seq ?_
        refine c_region ?_
        refine l_loadN (i := 2) (vs := [.int .u64 (val (R_wide128_times (val (R_wide128_times (val (R_wide128_times (⟨0, 1⟩ : T_tintref2_wide128) (m_2 0))) (m_2 1))) (m_2 2))).hi_, .int .u64 (val (R_wide128_times (val (R_wide128_times (val (R_wide128_times (⟨0, 1⟩ : T_tintref2_wide128) (m_2 0))) (m_2 1))) (m_2 2))).lo_]) Try.isAgg150 Try.sizeOf150 rfl rfl rfl rfl rfl ?_
        refine l_alloc (cs := [.int .u64 0, .int .u64 0]) Try.zeroValue150 rfl rfl rfl (fun b13 => ?_)
        refine l_store (i := 3) (vs := [.int .u64 (val (R_wide128_times (val (R_wide128_times (val (R_wide128_times (⟨0, 1⟩ : T_tintref2_wide128) (m_2 0))) (m_2 1))) (m_2 2))).hi_, .int .u64 (val (R_wide128_times (val (R_wide128_times (val (R_wide128_times (⟨0, 1⟩ : T_tintref2_wide128) (m_2 0))) (m_2 1))) (m_2 2))).lo_]) (cs' := [.int .u64 (val (R_wide128_times (val (R_wide128_times (val (R_wide128_times (⟨0, 1⟩ : T_tintref2_wide128) (m_2 0))) (m_2 1))) (m_2 2))).hi_, .int .u64 (val (R_wide128_times (val (R_wide128_times (val (R_wide128_times (⟨0, 1⟩ : T_tintref2_wide128) (m_2 0))) (m_2 1))) (m_2 2))).lo_]) Try.sizeOf150 rfl rfl rfl rfl rfl rfl rfl rfl rfl ?_
        refine l_nil ?_
        refine c_meet (r := r) (σ := Int × Int) (τ := Unit) (fun s => R_DegreesOf_j2 x4 (val (R_wide128_times (val (R_wide128_times (val (R_wide128_times (⟨0, 1⟩ : T_tintref2_wide128) (m_2 0))) (m_2 1))) (m_2 2))) s.1 s.2) (fun s t => [(4, .int .i64 x4), (12, .pointer (some ⟨b12, 0, none⟩)), (13, .pointer (some ⟨b13, 0, none⟩))]) (fun s t => [cellsC b12 [.int .u64 (val (R_wide128_times (val (R_wide128_times (val (R_wide128_times (⟨0, 1⟩ : T_tintref2_wide128) (m_2 0))) (m_2 1))) (m_2 2))).hi_, .int .u64 (val (R_wide128_times (val (R_wide128_times (val (R_wide128_times (⟨0, 1⟩ : T_tintref2_wide128) (m_2 0))) (m_2 1))) (m_2 2))).lo_] 150, cellsC b13 [.int .u64 s.1, .int .u64 s.2] 150]) (fun s t => True) ?_ ?_
        · refine c_seq ?_
          refine c_region ?_
          refine l_val rfl rfl rfl (r_move (v := .int .i64 0) rfl) ?_
          refine l_nil ?_
          refine c_block ?_
          refine c_fix (σ := Int × Int × Int) (τ := Unit) (fun next5 s => R_DegreesOf_l5 x4 m m_2 (val (R_wide128_times (val (R_wide128_times (val (R_wide128_times (⟨0, 1⟩ : T_tintref2_wide128) (m_2 0))) (m_2 1))) (m_2 2))) next5 s.1 s.2.1 s.2.2) (fun s t => [(4, .int .i64 x4), (5, .pointer (some ⟨b10, 0, none⟩)), (6, .pointer (some ⟨b11, 0, none⟩)), (12, .pointer (some ⟨b12, 0, none⟩)), (13, .pointer (some ⟨b13, 0, none⟩)), (74, .int .i64 s.1)]) (fun s t => [cellsC b10 [.int .u64 (m 0), .int .u64 (m 1), .int .u64 (m 2)] 133, cellsC b11 [.int .u64 (m_2 0), .int .u64 (m_2 1), .int .u64 (m_2 2)] 133, cellsC b12 [.int .u64 (val (R_wide128_times (val (R_wide128_times (val (R_wide128_times (⟨0, 1⟩ : T_tintref2_wide128) (m_2 0))) (m_2 1))) (m_2 2))).hi_, .int .u64 (val (R_wide128_times (val (R_wide128_times (val (R_wide128_times (⟨0, 1⟩ : T_tintref2_wide128) (m_2 0))) (m_2 1))) (m_2 2))).lo_] 150, cellsC b13 [.int .u64 s.2.1, .int .u64 s.2.2] 150]) (fun s t => True) (0, (val (R_wide128_times (val (R_wide128_times (val (R_wide128_times (⟨0, 1⟩ : T_tintref2_wide128) (m_2 0))) (m_2 1))) (m_2 2))).hi_, (val (R_wide128_times (val (R_wide128_times (val (R_wide128_times (⟨0, 1⟩ : T_tintref2_wide128) (m_2 0))) (m_2 1))) (m_2 2))).lo_) () [0, 1, 2, 3] H58 (by exact trivial) (by exact ⟨rfl, rfl, rfl, rfl, rfl, rfl, trivial⟩) (by decide) rfl ?_
          rintro ⟨x74_2, m_11, m_12⟩ _ m5 gg H70 _
          clear H58
          replace H70 : R_DegreesOf_l5 x4 m m_2 (val (R_wide128_times (val (R_wide128_times (val (R_wide128_times (⟨0, 1⟩ : T_tintref2_wide128) (m_2 0))) (m_2 1))) (m_2 2))) (it (fun next5 s => R_DegreesOf_l5 x4 m m_2 (val (R_wide128_times (val (R_wide128_times (val (R_wide128_times (⟨0, 1⟩ : T_tintref2_wide128) (m_2 0))) (m_2 1))) (m_2 2))) next5 s.1 s.2.1 s.2.2) m5) x74_2 m_11 m_12 = some r := H70
          generalize hn5 : it (fun next5 s => R_DegreesOf_l5 x4 m m_2 (val (R_wide128_times (val (R_wide128_times (val (R_wide128_times (⟨0, 1⟩ : T_tintref2_wide128) (m_2 0))) (m_2 1))) (m_2 2))) next5 s.1 s.2.1 s.2.2) m5 = next5 at H70
          refine c_tidyF [(4, .int .i64 x4), (5, .pointer (some ⟨b10, 0, none⟩)), (6, .pointer (some ⟨b11, 0, none⟩)), (12, .pointer (some ⟨b12, 0, none⟩)), (13, .pointer (some ⟨b13, 0, none⟩)), (74, .int .i64 x74_2)] [cellsC b10 [.int .u64 (m 0), .int .u64 (m 1), .int .u64 (m 2)] 133, cellsC b11 [.int .u64 (m_2 0), .int .u64 (m_2 1), .int .u64 (m_2 2)] 133, cellsC b12 [.int .u64 (val (R_wide128_times (val (R_wide128_times (val (R_wide128_times (⟨0, 1⟩ : T_tintref2_wide128) (m_2 0))) (m_2 1))) (m_2 2))).hi_, .int .u64 (val (R_wide128_times (val (R_wide128_times (val (R_wide128_times (⟨0, 1⟩ : T_tintref2_wide128) (m_2 0))) (m_2 1))) (m_2 2))).lo_] 150, cellsC b13 [.int .u64 m_11, .int .u64 m_12] 150] rfl rfl ?_
          refine c_seq ?_
          refine c_region ?_
          refine l_val rfl rfl rfl (r_lss rfl rfl) ?_
          refine l_nil ?_
          refine c_seq ?_
          refine c_if (b := (decide (x74_2 < 3))) rfl (fun hb => ?_) (fun hb => ?_)
          · have H71 := cnd_t hb H70; clear H70
            refine c_skip ?_
            refine c_meet (r := r) (σ := Int × Int) (τ := Unit) (fun s => R_DegreesOf_j6 x74_2 next5 s.1 s.2) (fun s t => [(4, .int .i64 x4), (5, .pointer (some ⟨b10, 0, none⟩)), (6, .pointer (some ⟨b11, 0, none⟩)), (12, .pointer (some ⟨b12, 0, none⟩)), (13, .pointer (some ⟨b13, 0, none⟩)), (74, .int .i64 x74_2)]) (fun s t => [cellsC b10 [.int .u64 (m 0), .int .u64 (m 1), .int .u64 (m 2)] 133, cellsC b11 [.int .u64 (m_2 0), .int .u64 (m_2 1), .int .u64 (m_2 2)] 133, cellsC b12 [.int .u64 (val (R_wide128_times (val (R_wide128_times (val (R_wide128_times (⟨0, 1⟩ : T_tintref2_wide128) (m_2 0))) (m_2 1))) (m_2 2))).hi_, .int .u64 (val (R_wide128_times (val (R_wide128_times (val (R_wide128_times (⟨0, 1⟩ : T_tintref2_wide128) (m_2 0))) (m_2 1))) (m_2 2))).lo_] 150, cellsC b13 [.int .u64 s.1, .int .u64 s.2] 150]) (fun s t => True) ?_ ?_
            · refine c_block ?_
              refine c_seq ?_
              refine c_region ?_
              refine l_val rfl rfl rfl (r_move (v := .int .i64 x74_2) rfl) ?_
              refine l_val rfl rfl rfl (r_assign (v := .int .i64 x74_2) rfl) ?_
              refine l_nil ?_
              refine c_seq ?_
              refine c_region ?_
              refine l_val rfl rfl rfl (r_move (v := .int .i64 x74_2) rfl) ?_
              obtain ⟨k78, h_k78, H74⟩ := bnd_some H71; clear H71
              refine l_val rfl rfl rfl (r_indexPG Try.runUnderlying133 Try.sizeOf132 rfl rfl h_k78) ?_
              refine l_load1 (i := 0) (v := .int .u64 (m k78)) Try.isAgg132 rfl rfl rfl rfl (rg_arr (pre := []) (post := []) (f := fun j_ => [.int .u64 (m j_)]) (n := 3) (sz := 1) (q := 0) rfl rfl (fun _ => rfl) (gIx_lt h_k78) rfl) ?_
              refine l_val rfl rfl rfl (r_build (pl := #[(0, 1), (1, 1)]) (ps := [(1, .int .u64 (m k78))]) (cells := #[.int .u64 0, .int .u64 (m k78)]) Try.zeroValue150 Try.runUnderlying150 (fun w => by kernel_rfl) rfl rfl) ?_
              obtain ⟨t81, h_t81, H75⟩ := bnd_some H74; clear H74
              refine l_call (k99 h_t81) Try.call99 rfl rfl rfl ?_
              refine l_alloc (cs := [.int .u64 0, .int .u64 0]) Try.zeroValue150 rfl rfl rfl (fun b16 => ?_)
              refine l_store (i := 4) (vs := [.int .u64 t81.hi_, .int .u64 t81.lo_]) (cs' := [.int .u64 t81.hi_, .int .u64 t81.lo_]) Try.sizeOf150 rfl rfl rfl rfl rfl rfl rfl rfl rfl ?_
              refine l_nil ?_
              refine c_meet (r := r) (σ := Int × Int) (τ := Unit) (fun s => R_DegreesOf_j7 x74_2 m_11 m_12 next5 s.1 s.2) (fun s t => [(4, .int .i64 x4), (5, .pointer (some ⟨b10, 0, none⟩)), (6, .pointer (some ⟨b11, 0, none⟩)), (12, .pointer (some ⟨b12, 0, none⟩)), (13, .pointer (some ⟨b13, 0, none⟩)), (15, .pointer (some ⟨b16, 0, none⟩)), (74, .int .i64 x74_2)]) (fun s t => [cellsC b10 [.int .u64 (m 0), .int .u64 (m 1), .int .u64 (m 2)] 133, cellsC b11 [.int .u64 (m_2 0), .int .u64 (m_2 1), .int .u64 (m_2 2)] 133, cellsC b12 [.int .u64 (val (R_wide128_times (val (R_wide128_times (val (R_wide128_times (⟨0, 1⟩ : T_tintref2_wide128) (m_2 0))) (m_2 1))) (m_2 2))).hi_, .int .u64 (val (R_wide128_times (val (R_wide128_times (val (R_wide128_times (⟨0, 1⟩ : T_tintref2_wide128) (m_2 0))) (m_2 1))) (m_2 2))).lo_] 150, cellsC b13 [.int .u64 m_11, .int .u64 m_12] 150, cellsC b16 [.int .u64 s.1, .int .u64 s.2] 150]) (fun s t => True) ?_ ?_
              · refine c_seq ?_
                refine c_region ?_
                refine l_val rfl rfl rfl (r_move (v := .int .i64 0) rfl) ?_
                refine l_nil ?_
                refine c_block ?_
                refine c_fix (σ := Int × Int × Int) (τ := Unit) (fun next8 s => R_DegreesOf_l8 m_2 x74_2 m_11 m_12 next5 next8 s.1 s.2.1 s.2.2) (fun s t => [(4, .int .i64 x4), (5, .pointer (some ⟨b10, 0, none⟩)), (6, .pointer (some ⟨b11, 0, none⟩)), (12, .pointer (some ⟨b12, 0, none⟩)), (13, .pointer (some ⟨b13, 0, none⟩)), (14, .int .i64 x74_2), (15, .pointer (some ⟨b16, 0, none⟩)), (74, .int .i64 x74_2), (82, .int .i64 s.1)]) (fun s t => [cellsC b10 [.int .u64 (m 0), .int .u64 (m 1), .int .u64 (m 2)] 133, cellsC b11 [.int .u64 (m_2 0), .int .u64 (m_2 1), .int .u64 (m_2 2)] 133, cellsC b12 [.int .u64 (val (R_wide128_times (val (R_wide128_times (val (R_wide128_times (⟨0, 1⟩ : T_tintref2_wide128) (m_2 0))) (m_2 1))) (m_2 2))).hi_, .int .u64 (val (R_wide128_times (val (R_wide128_times (val (R_wide128_times (⟨0, 1⟩ : T_tintref2_wide128) (m_2 0))) (m_2 1))) (m_2 2))).lo_] 150, cellsC b13 [.int .u64 m_11, .int .u64 m_12] 150, cellsC b16 [.int .u64 s.2.1, .int .u64 s.2.2] 150]) (fun s t => True) (0, t81.hi_, t81.lo_) () [0, 1, 2, 3, 4] H75 (by exact trivial) (by exact ⟨rfl, rfl, rfl, rfl, rfl, rfl, rfl, rfl, rfl, trivial⟩) (by decide) rfl ?_
                rintro ⟨x82_2, m_19, m_20⟩ _ m8 gg H78 _
                clear H75
                replace H78 : R_DegreesOf_l8 m_2 x74_2 m_11 m_12 next5 (it (fun next8 s => R_DegreesOf_l8 m_2 x74_2 m_11 m_12 next5 next8 s.1 s.2.1 s.2.2) m8) x82_2 m_19 m_20 = some r := H78
                generalize hn8 : it (fun next8 s => R_DegreesOf_l8 m_2 x74_2 m_11 m_12 next5 next8 s.1 s.2.1 s.2.2) m8 = next8 at H78
                refine c_tidyF [(4, .int .i64 x4), (5, .pointer (some ⟨b10, 0, none⟩)), (6, .pointer (some ⟨b11, 0, none⟩)), (12, .pointer (some ⟨b12, 0, none⟩)), (13, .pointer (some ⟨b13, 0, none⟩)), (14, .int .i64 x74_2), (15, .pointer (some ⟨b16, 0, none⟩)), (74, .int .i64 x74_2), (82, .int .i64 x82_2)] [cellsC b10 [.int .u64 (m 0), .int .u64 (m 1), .int .u64 (m 2)] 133, cellsC b11 [.int .u64 (m_2 0), .int .u64 (m_2 1), .int .u64 (m_2 2)] 133, cellsC b12 [.int .u64 (val (R_wide128_times (val (R_wide128_times (val (R_wide128_times (⟨0, 1⟩ : T_tintref2_wide128) (m_2 0))) (m_2 1))) (m_2 2))).hi_, .int .u64 (val (R_wide128_times (val (R_wide128_times (val (R_wide128_times (⟨0, 1⟩ : T_tintref2_wide128) (m_2 0))) (m_2 1))) (m_2 2))).lo_] 150, cellsC b13 [.int .u64 m_11, .int .u64 m_12] 150, cellsC b16 [.int .u64 m_19, .int .u64 m_20] 150] rfl rfl ?_
                refine c_seq ?_
                refine c_region ?_
                refine l_val rfl rfl rfl (r_lss rfl rfl) ?_
                refine l_nil ?_
                refine c_seq ?_
                refine c_if (b := (decide (x82_2 < 3))) rfl (fun hb => ?_) (fun hb => ?_)
                · have H79 := cnd_t hb H78; clear H78
                  refine c_skip ?_
                  refine c_meet (r := r) (σ := Int × Int) (τ := Unit) (fun s => R_DegreesOf_j9 x82_2 next8 s.1 s.2) (fun s t => [(4, .int .i64 x4), (5, .pointer (some ⟨b10, 0, none⟩)), (6, .pointer (some ⟨b11, 0, none⟩)), (12, .pointer (some ⟨b12, 0, none⟩)), (13, .pointer (some ⟨b13, 0, none⟩)), (14, .int .i64 x74_2), (15, .pointer (some ⟨b16, 0, none⟩)), (74, .int .i64 x74_2), (82, .int .i64 x82_2)]) (fun s t => [cellsC b10 [.int .u64 (m 0), .int .u64 (m 1), .int .u64 (m 2)] 133, cellsC b11 [.int .u64 (m_2 0), .int .u64 (m_2 1), .int .u64 (m_2 2)] 133, cellsC b12 [.int .u64 (val (R_wide128_times (val (R_wide128_times (val (R_wide128_times (⟨0, 1⟩ : T_tintref2_wide128) (m_2 0))) (m_2 1))) (m_2 2))).hi_, .int .u64 (val (R_wide128_times (val (R_wide128_times (val (R_wide128_times (⟨0, 1⟩ : T_tintref2_wide128) (m_2 0))) (m_2 1))) (m_2 2))).lo_] 150, cellsC b13 [.int .u64 m_11, .int .u64 m_12] 150, cellsC b16 [.int .u64 s.1, .int .u64 s.2] 150]) (fun s t => True) ?_ ?_
                  · refine c_block ?_
                    refine c_seq ?_
                    refine c_region ?_
                    refine l_val rfl rfl rfl (r_move (v := .int .i64 x82_2) rfl) ?_
                    refine l_val rfl rfl rfl (r_assign (v := .int .i64 x82_2) rfl) ?_
                    refine l_nil ?_
                    refine c_seq ?_
                    refine c_region ?_
                    refine l_val rfl rfl rfl (r_move (v := .int .i64 x82_2) rfl) ?_
                    refine l_val rfl rfl rfl (r_move (v := .int .i64 x74_2) rfl) ?_
                    refine l_val rfl rfl rfl (r_neq rfl rfl) ?_
                    refine l_nil ?_
                    refine c_if (b := (decide (x82_2 ≠ x74_2))) rfl (fun hb => ?_) (fun hb => ?_)
                    · have H82 := cnd_t hb H79; clear H79
                      exact c_regionD (Kd.d [4] _ :: Kd.p :: Kd.p :: Kd.d [1] _ :: Kd.d [] _ :: Kd.st 15 4 [_, _] 150 :: []) 0 mixed (by
                        refine d_loadN (i := 4) (vs := [.int .u64 m_19, .int .u64 m_20]) Try.isAgg150 Try.sizeOf150 rfl rfl rfl rfl ?_
                        refine d_val rfl rfl (r_move (v := .int .i64 x82_2) rfl) ?_
                        have h_k90 := bnd_val H82
                        have H83 := bnd_rest H82
                        refine d_val rfl rfl (r_indexPG Try.runUnderlying133 Try.sizeOf132 rfl rfl h_k90) ?_
                        refine d_load1 (i := 1) (v := .int .u64 (m_2 (val (gIx 3 x82_2)))) Try.isAgg132 rfl rfl rfl (rg_arr (pre := []) (post := []) (f := fun j_ => [.int .u64 (m_2 j_)]) (n := 3) (sz := 1) (q := 0) rfl rfl (fun _ => rfl) (gIx_lt h_k90) rfl) ?_
                        have h_t92 := bnd_val H83
                        have H84 := bnd_rest H83
                        refine d_call (k99 h_t92) Try.call99 rfl rfl ?_
                        refine d_store (i := 4) (vs := [.int .u64 (val (R_wide128_times (⟨m_19, m_20⟩ : T_tintref2_wide128) (m_2 (val (gIx 3 x82_2))))).hi_, .int .u64 (val (R_wide128_times (⟨m_19, m_20⟩ : T_tintref2_wide128) (m_2 (val (gIx 3 x82_2))))).lo_]) (cs' := [.int .u64 (val (R_wide128_times (⟨m_19, m_20⟩ : T_tintref2_wide128) (m_2 (val (gIx 3 x82_2))))).hi_, .int .u64 (val (R_wide128_times (⟨m_19, m_20⟩ : T_tintref2_wide128) (m_2 (val (gIx 3 x82_2))))).lo_]) Try.sizeOf150 rfl rfl rfl rfl rfl rfl rfl rfl rfl ?_
                        refine d_nil ?_
                        refine c_close ((val (R_wide128_times (⟨m_19, m_20⟩ : T_tintref2_wide128) (m_2 (val (gIx 3 x82_2))))).hi_, (val (R_wide128_times (⟨m_19, m_20⟩ : T_tintref2_wide128) (m_2 (val (gIx 3 x82_2))))).lo_) () 0 [0, 1, 2, 3, 4] (by exact ⟨rfl, rfl, rfl, rfl, rfl, rfl, rfl, rfl, rfl, trivial⟩) (by decide) rfl (by exact ⟨H84, trivial⟩) (Nat.lt_succ_self _)
                        ) (by kernel_rfl)
                    · have H85 := cnd_f hb H79; clear H79
                      refine c_skip ?_
                      refine c_close (m_19, m_20) () 0 [0, 1, 2, 3, 4] (by exact ⟨rfl, rfl, rfl, rfl, rfl, rfl, rfl, rfl, rfl, trivial⟩) (by decide) rfl (by exact ⟨H85, trivial⟩) (Nat.lt_succ_self _)
                  · rintro ⟨m_21, m_22⟩ _ gg H80 _
                    replace H80 : R_DegreesOf_j9 x82_2 next8 m_21 m_22 = some r := H80
                    refine c_tidyF [(4, .int .i64 x4), (5, .pointer (some ⟨b10, 0, none⟩)), (6, .pointer (some ⟨b11, 0, none⟩)), (12, .pointer (some ⟨b12, 0, none⟩)), (13, .pointer (some ⟨b13, 0, none⟩)), (14, .int .i64 x74_2), (15, .pointer (some ⟨b16, 0, none⟩)), (74, .int .i64 x74_2), (82, .int .i64 x82_2)] [cellsC b10 [.int .u64 (m 0), .int .u64 (m 1), .int .u64 (m 2)] 133, cellsC b11 [.int .u64 (m_2 0), .int .u64 (m_2 1), .int .u64 (m_2 2)] 133, cellsC b12 [.int .u64 (val (R_wide128_times (val (R_wide128_times (val (R_wide128_times (⟨0, 1⟩ : T_tintref2_wide128) (m_2 0))) (m_2 1))) (m_2 2))).hi_, .int .u64 (val (R_wide128_times (val (R_wide128_times (val (R_wide128_times (⟨0, 1⟩ : T_tintref2_wide128) (m_2 0))) (m_2 1))) (m_2 2))).lo_] 150, cellsC b13 [.int .u64 m_11, .int .u64 m_12] 150, cellsC b16 [.int .u64 m_21, .int .u64 m_22] 150] rfl rfl ?_
                    refine c_region ?_
                    obtain ⟨t93, h_t93, H81⟩ := bnd_some H80; clear H80
                    refine l_val rfl rfl rfl (r_addG rfl rfl h_t93) ?_
                    refine l_val rfl rfl rfl (r_move (v := .int .i64 t93) rfl) ?_
                    refine l_nil ?_
                    refine c_close (t93, m_21, m_22) () m8 [0, 1, 2, 3, 4] (by exact ⟨rfl, rfl, rfl, rfl, rfl, rfl, rfl, rfl, rfl, trivial⟩) (by decide) rfl (by exact ⟨(by subst hn8; exact H81), trivial⟩) (Nat.lt_succ_self _)
                · have H86 := cnd_f hb H78; clear H78
                  refine c_exit ?_
                  refine c_close (m_19, m_20) () 0 [0, 1, 2, 3, 4] (by exact ⟨rfl, rfl, rfl, rfl, rfl, rfl, rfl, trivial⟩) (by decide) rfl (by exact ⟨H86, trivial⟩) (Nat.lt_succ_self _)
              · rintro ⟨m_15, m_16⟩ _ gg H76 _
                replace H76 : R_DegreesOf_j7 x74_2 m_11 m_12 next5 m_15 m_16 = some r := H76
                refine c_tidyF [(4, .int .i64 x4), (5, .pointer (some ⟨b10, 0, none⟩)), (6, .pointer (some ⟨b11, 0, none⟩)), (12, .pointer (some ⟨b12, 0, none⟩)), (13, .pointer (some ⟨b13, 0, none⟩)), (15, .pointer (some ⟨b16, 0, none⟩)), (74, .int .i64 x74_2)] [cellsC b10 [.int .u64 (m 0), .int .u64 (m 1), .int .u64 (m 2)] 133, cellsC b11 [.int .u64 (m_2 0), .int .u64 (m_2 1), .int .u64 (m_2 2)] 133, cellsC b12 [.int .u64 (val (R_wide128_times (val (R_wide128_times (val (R_wide128_times (⟨0, 1⟩ : T_tintref2_wide128) (m_2 0))) (m_2 1))) (m_2 2))).hi_, .int .u64 (val (R_wide128_times (val (R_wide128_times (val (R_wide128_times (⟨0, 1⟩ : T_tintref2_wide128) (m_2 0))) (m_2 1))) (m_2 2))).lo_] 150, cellsC b13 [.int .u64 m_11, .int .u64 m_12] 150, cellsC b16 [.int .u64 m_15, .int .u64 m_16] 150] rfl rfl ?_
                refine c_region ?_
                refine l_loadN (i := 3) (vs := [.int .u64 m_11, .int .u64 m_12]) Try.isAgg150 Try.sizeOf150 rfl rfl rfl rfl rfl ?_
                refine l_loadN (i := 4) (vs := [.int .u64 m_15, .int .u64 m_16]) Try.isAgg150 Try.sizeOf150 rfl rfl rfl rfl rfl ?_
                obtain ⟨t96, h_t96, H77⟩ := bnd_some H76; clear H76
                refine l_call (k100 h_t96) Try.call100 rfl rfl rfl ?_
                refine l_store (i := 3) (vs := [.int .u64 t96.hi_, .int .u64 t96.lo_]) (cs' := [.int .u64 t96.hi_, .int .u64 t96.lo_]) Try.sizeOf150 rfl rfl rfl rfl rfl rfl rfl rfl rfl ?_
                refine l_nil ?_
                refine c_close (t96.hi_, t96.lo_) () 0 [0, 1, 2, 3] (by exact ⟨rfl, rfl, rfl, rfl, rfl, rfl, trivial⟩) (by decide) rfl (by exact ⟨H77, trivial⟩) (Nat.lt_succ_self _)
            · rintro ⟨m_13, m_14⟩ _ gg H72 _
              replace H72 : R_DegreesOf_j6 x74_2 next5 m_13 m_14 = some r := H72
              refine c_tidyF [(4, .int .i64 x4), (5, .pointer (some ⟨b10, 0, none⟩)), (6, .pointer (some ⟨b11, 0, none⟩)), (12, .pointer (some ⟨b12, 0, none⟩)), (13, .pointer (some ⟨b13, 0, none⟩)), (74, .int .i64 x74_2)] [cellsC b10 [.int .u64 (m 0), .int .u64 (m 1), .int .u64 (m 2)] 133, cellsC b11 [.int .u64 (m_2 0), .int .u64 (m_2 1), .int .u64 (m_2 2)] 133, cellsC b12 [.int .u64 (val (R_wide128_times (val (R_wide128_times (val (R_wide128_times (⟨0, 1⟩ : T_tintref2_wide128) (m_2 0))) (m_2 1))) (m_2 2))).hi_, .int .u64 (val (R_wide128_times (val (R_wide128_times (val (R_wide128_times (⟨0, 1⟩ : T_tintref2_wide128) (m_2 0))) (m_2 1))) (m_2 2))).lo_] 150, cellsC b13 [.int .u64 m_13, .int .u64 m_14] 150] rfl rfl ?_
              refine c_region ?_
              obtain ⟨t97, h_t97, H73⟩ := bnd_some H72; clear H72
              refine l_val rfl rfl rfl (r_addG rfl rfl h_t97) ?_
              refine l_val rfl rfl rfl (r_move (v := .int .i64 t97) rfl) ?_
              refine l_nil ?_
              refine c_close (t97, m_13, m_14) () m5 [0, 1, 2, 3] (by exact ⟨rfl, rfl, rfl, rfl, rfl, rfl, trivial⟩) (by decide) rfl (by exact ⟨(by subst hn5; exact H73), trivial⟩) (Nat.lt_succ_self _)
          · have H87 := cnd_f hb H70; clear H70
            refine c_exit ?_
            refine c_close (m_11, m_12) () 0 [2, 3] (by exact ⟨rfl, rfl, rfl, trivial⟩) (by decide) rfl (by exact ⟨H87, trivial⟩) (Nat.lt_succ_self _)
        · rintro ⟨m_3, m_4⟩ _ gg H59 _
          replace H59 : R_DegreesOf_j2 x4 (val (R_wide128_times (val (R_wide128_times (val (R_wide128_times (⟨0, 1⟩ : T_tintref2_wide128) (m_2 0))) (m_2 1))) (m_2 2))) m_3 m_4 = some r := H59
          refine c_tidyF [(4, .int .i64 x4), (12, .pointer (some ⟨b12, 0, none⟩)), (13, .pointer (some ⟨b13, 0, none⟩))] [cellsC b12 [.int .u64 (val (R_wide128_times (val (R_wide128_times (val (R_wide128_times (⟨0, 1⟩ : T_tintref2_wide128) (m_2 0))) (m_2 1))) (m_2 2))).hi_, .int .u64 (val (R_wide128_times (val (R_wide128_times (val (R_wide128_times (⟨0, 1⟩ : T_tintref2_wide128) (m_2 0))) (m_2 1))) (m_2 2))).lo_] 150, cellsC b13 [.int .u64 m_3, .int .u64 m_4] 150] rfl rfl ?_
          refine c_meet (r := r) (σ := Int) (τ := Unit) (fun s => R_DegreesOf_j3 s) (fun s t => [(4, .int .i64 s)]) (fun s t => []) (fun s t => True) ?_ ?_
          · refine c_seq ?_
            refine c_region ?_
            refine l_loadN (i := 0) (vs := [.int .u64 (val (R_wide128_times (val (R_wide128_times (val (R_wide128_times (⟨0, 1⟩ : T_tintref2_wide128) (m_2 0))) (m_2 1))) (m_2 2))).hi_, .int .u64 (val (R_wide128_times (val (R_wide128_times (val (R_wide128_times (⟨0, 1⟩ : T_tintref2_wide128) (m_2 0))) (m_2 1))) (m_2 2))).lo_]) Try.isAgg150 Try.sizeOf150 rfl rfl rfl rfl rfl ?_
            obtain ⟨t99, h_t99, H63⟩ := bnd_some H59; clear H59
            refine l_call (k99 h_t99) Try.call99 rfl rfl rfl ?_
            refine l_alloc (cs := [.int .u64 0, .int .u64 0]) Try.zeroValue150 rfl rfl rfl (fun b14 => ?_)
            refine l_store (i := 2) (vs := [.int .u64 t99.hi_, .int .u64 t99.lo_]) (cs' := [.int .u64 t99.hi_, .int .u64 t99.lo_]) Try.sizeOf150 rfl rfl rfl rfl rfl rfl rfl rfl rfl ?_
            refine l_nil ?_
            refine c_block ?_
            refine c_fix (σ := Int × Int × Int) (τ := Nat) (fun next4 s => R_DegreesOf_l4 t99 next4 s.1 s.2.1 s.2.2) (fun s t => [(4, .int .i64 s.1), (13, .pointer (some ⟨b13, 0, none⟩)), (17, .pointer (some ⟨t, 0, none⟩))]) (fun s t => [cellsC b13 [.int .u64 s.2.1, .int .u64 s.2.2] 150, cellsC t [.int .u64 t99.hi_, .int .u64 t99.lo_] 150]) (fun s t => True) (x4, m_3, m_4) b14 [1, 2] H63 (by exact trivial) (by exact ⟨rfl, rfl, rfl, trivial⟩) (by decide) rfl ?_
            rintro ⟨x4_4, m_7, m_8⟩ b m4 gg H64 _
            clear H63
            replace H64 : R_DegreesOf_l4 t99 (it (fun next4 s => R_DegreesOf_l4 t99 next4 s.1 s.2.1 s.2.2) m4) x4_4 m_7 m_8 = some r := H64
            generalize hn4 : it (fun next4 s => R_DegreesOf_l4 t99 next4 s.1 s.2.1 s.2.2) m4 = next4 at H64
            refine c_tidyF [(4, .int .i64 x4_4), (13, .pointer (some ⟨b13, 0, none⟩)), (17, .pointer (some ⟨b, 0, none⟩))] [cellsC b13 [.int .u64 m_7, .int .u64 m_8] 150, cellsC b [.int .u64 t99.hi_, .int .u64 t99.lo_] 150] rfl rfl ?_
            refine c_seq ?_
            refine c_seq ?_
            refine c_region ?_
            refine l_loadN (i := 0) (vs := [.int .u64 m_7, .int .u64 m_8]) Try.isAgg150 Try.sizeOf150 rfl rfl rfl rfl rfl ?_
            refine l_loadN (i := 1) (vs := [.int .u64 t99.hi_, .int .u64 t99.lo_]) Try.isAgg150 Try.sizeOf150 rfl rfl rfl rfl rfl ?_
            obtain ⟨t102, h_t102, H65⟩ := bnd_some H64; clear H64
            refine l_call (k101 h_t102) Try.call101 rfl rfl rfl ?_
            refine l_val rfl rfl rfl (r_not rfl) ?_
            refine l_nil ?_
            refine c_if (b := (!t102)) rfl (fun hb => ?_) (fun hb => ?_)
            · have H66 := cnd_t hb H65; clear H65
              refine c_skip ?_
              refine c_seq ?_
              refine c_block ?_
              refine c_region ?_
              refine l_loadN (i := 0) (vs := [.int .u64 m_7, .int .u64 m_8]) Try.isAgg150 Try.sizeOf150 rfl rfl rfl rfl rfl ?_
              refine l_loadN (i := 1) (vs := [.int .u64 t99.hi_, .int .u64 t99.lo_]) Try.isAgg150 Try.sizeOf150 rfl rfl rfl rfl rfl ?_
              obtain ⟨t108, h_t108, H67⟩ := bnd_some H66; clear H66
              refine l_call (k102 h_t108) Try.call102 rfl rfl rfl ?_
              refine l_store (i := 0) (vs := [.int .u64 t108.hi_, .int .u64 t108.lo_]) (cs' := [.int .u64 t108.hi_, .int .u64 t108.lo_]) Try.sizeOf150 rfl rfl rfl rfl rfl rfl rfl rfl rfl ?_
              refine l_nil ?_
              refine c_seq ?_
              refine c_seq ?_
              refine c_region ?_
              refine l_loadN (i := 1) (vs := [.int .u64 t99.hi_, .int .u64 t99.lo_]) Try.isAgg150 Try.sizeOf150 rfl rfl rfl rfl rfl ?_
              refine l_nil ?_
              refine c_region ?_
              refine l_alloc (cs := [.int .u64 0, .int .u64 0]) Try.zeroValue150 rfl rfl rfl (fun b15 => ?_)
              refine l_store (i := 2) (vs := [.int .u64 t99.hi_, .int .u64 t99.lo_]) (cs' := [.int .u64 t99.hi_, .int .u64 t99.lo_]) Try.sizeOf150 rfl rfl rfl rfl rfl rfl rfl rfl rfl ?_
              refine l_nil ?_
              refine c_region ?_
              refine l_val rfl rfl rfl (r_move (v := .int .i64 x4_4) rfl) ?_
              obtain ⟨t105, h_t105, H68⟩ := bnd_some H67; clear H67
              refine l_val rfl rfl rfl (r_addG rfl rfl h_t105) ?_
              refine l_val rfl rfl rfl (r_assign (v := .int .i64 t105) rfl) ?_
              refine l_nil ?_
              refine c_close (t105, t108.hi_, t108.lo_) b15 m4 [0, 2] (by exact ⟨rfl, rfl, rfl, trivial⟩) (by decide) rfl (by exact ⟨(by subst hn4; exact H68), trivial⟩) (Nat.lt_succ_self _)
            · have H69 := cnd_f hb H65; clear H65
              refine c_exit ?_
              refine c_close x4_4 () 0 [] (by exact ⟨rfl, trivial⟩) (by decide) rfl (by exact ⟨H69, trivial⟩) (Nat.lt_succ_self _)
          · rintro x4_2 _ gg H60 _
            replace H60 : R_DegreesOf_j3 x4_2 = some r := H60
            refine c_tidyF [(4, .int .i64 x4_2)] [] rfl rfl ?_
            refine c_seq ?_
            refine c_seq ?_
            refine c_region ?_
            refine l_val rfl rfl rfl (r_move (v := .int .i64 x4_2) rfl) ?_
            refine l_val rfl rfl rfl (r_gtr rfl rfl) ?_
            refine l_nil ?_
            refine c_if (b := (decide (180000000 < x4_2))) rfl (fun hb => ?_) (fun hb => ?_)
            · have H61 := cnd_t hb H60; clear H60
              refine c_seq ?_
              refine c_region ?_
              refine l_val rfl rfl rfl (r_assign (v := .int .i64 0) rfl) ?_
              refine l_val rfl rfl rfl (r_assign (v := .int .i64 2) rfl) ?_
              refine l_nil ?_
              refine c_ret ?_
              obtain rfl := Option.some.inj H61
              refine ret2 (v1 := .int .i64 0) (v2 := .int .i64 2) rfl rfl rfl (fin rfl)
            · have H62 := cnd_f hb H60; clear H60
              refine c_skip ?_
              refine c_seq ?_
              refine c_region ?_
              refine l_val rfl rfl rfl (r_move (v := .int .i64 x4_2) rfl) ?_
              refine l_val rfl rfl rfl (r_assign (v := .int .i64 x4_2) rfl) ?_
              refine l_val rfl rfl rfl (r_assign (v := .int .i64 0) rfl) ?_
              refine l_nil ?_
              refine c_ret ?_
              obtain rfl := Option.some.inj H62
              refine ret2 (v1 := .int .i64 x4_2) (v2 := .int .i64 0) rfl rfl rfl (fin rfl)
        ) (by kernel_rfl)
theorem k35 {a0 : Int} {r : (List T_tag_Ratio) × Int} {w : World} {h : Heap} (hw : Know h w noS)  (H : R_RatiosOf a0 = some r) : Does Try.prog 35 (List.toArray [.int .i64 a0]) w (fun v w' => ∃ x : (Option Addr × Nat), v = (.tuple #[.slice x.1 r.1.length x.2, .int .i64 r.2]) ∧ Turn w w' noS (rowV 44 2 (.slice x.1 r.1.length x.2) r.1.length (r.1.map e_tag_Ratio))) := by
  refine enter (n := 24) Try.func35 rfl rfl rfl noS [] (Sat.nil _ _) ?_
  refine c_seq ?_
  refine c_region ?_
  refine l_val rfl rfl rfl (r_assign (v := .slice none 0 0) rfl) ?_
  refine l_val rfl rfl rfl (r_assign (v := .int .i64 0) rfl) ?_
  refine l_nil ?_
  refine c_seq ?_
  refine c_seq ?_
  refine c_region ?_
  refine l_val rfl rfl rfl (r_move (v := .int .i64 a0) rfl) ?_
  refine l_val rfl rfl rfl (r_lss rfl rfl) ?_
  refine l_val rfl rfl rfl (r_move (v := .bool (decide (a0 < 0))) rfl) ?_
  refine split (fun hb => ?_) (fun hb => ?_)
  · have H10 := cnd_t hb H; clear H
    refine l_passed rfl rfl rfl ?_
    refine l_passed rfl rfl rfl ?_
    refine l_val rfl rfl rfl (r_pickT (v := .bool true) rfl rfl) ?_
    refine l_nil ?_
    refine c_true rfl ?_
    refine c_seq ?_
    refine c_region ?_
    refine l_val rfl rfl rfl (r_assign (v := .slice none 0 0) rfl) ?_
    refine l_val rfl rfl rfl (r_assign (v := .int .i64 2) rfl) ?_
    refine l_nil ?_
    refine c_ret ?_
    refine c_nilRow 44 2 ?_
    obtain rfl := Option.some.inj H10
    refine ret2 (v1 := .slice ((none, 0) : Option Addr × Nat).1 ([] : List T_tag_Ratio).length ((none, 0) : Option Addr × Nat).2) (v2 := .int .i64 2) rfl rfl rfl (finX ((none, 0) : Option Addr × Nat) (i := 0) rfl rfl (Imp.refl _))
  · have H11 := cnd_f hb H; clear H
    refine l_val rfl rfl rfl (r_move (v := .int .i64 a0) rfl) ?_
    refine l_val rfl rfl rfl (r_gtr rfl rfl) ?_
    refine l_val rfl rfl rfl (r_pickF (v := .bool (decide (180000000 < a0))) rfl rfl) ?_
    refine l_nil ?_
    refine c_if (b := (decide (180000000 < a0))) rfl (fun hb => ?_) (fun hb => ?_)
    · have H12 := cnd_t hb H11; clear H11
      refine c_seq ?_
      refine c_region ?_
      refine l_val rfl rfl rfl (r_assign (v := .slice none 0 0) rfl) ?_
      refine l_val rfl rfl rfl (r_assign (v := .int .i64 2) rfl) ?_
      refine l_nil ?_
      refine c_ret ?_
      refine c_nilRow 44 2 ?_
      obtain rfl := Option.some.inj H12
      refine ret2 (v1 := .slice ((none, 0) : Option Addr × Nat).1 ([] : List T_tag_Ratio).length ((none, 0) : Option Addr × Nat).2) (v2 := .int .i64 2) rfl rfl rfl (finX ((none, 0) : Option Addr × Nat) (i := 0) rfl rfl (Imp.refl _))
    · have H13 := cnd_f hb H11; clear H11
      refine c_skip ?_
      refine c_seq ?_
      refine c_region ?_
      refine l_val rfl rfl rfl (r_move (v := .int .i64 a0) rfl) ?_
      obtain ⟨t12, h_t12, H14⟩ := bnd_some H13; clear H13
      refine l_val rfl rfl rfl (r_remG rfl rfl h_t12) ?_
      obtain ⟨t13, h_t13, H15⟩ := bnd_some H14; clear H14
      refine l_val rfl rfl rfl (r_mulG rfl rfl h_t13) ?_
      refine l_val rfl rfl rfl (r_assign (v := .int .i64 t13) rfl) ?_
      refine l_nil ?_
      refine c_seq ?_
      refine c_region ?_
      refine l_val rfl rfl rfl (r_move (v := .int .i64 a0) rfl) ?_
      obtain ⟨t15, h_t15, H16⟩ := bnd_some H15; clear H15
      refine l_val rfl rfl rfl (r_quoG rfl rfl h_t15) ?_
      refine l_val rfl rfl rfl (r_build (pl := #[(0, 1), (1, 1)]) (ps := [(0, .int .i64 t15), (1, .int .i64 1)]) (cells := #[.int .i64 t15, .int .i64 1]) Try.zeroValue44 Try.runUnderlying44 (fun w => by kernel_rfl) rfl rfl) ?_
      refine l_val rfl rfl rfl (r_move (v := .int .i64 t13) rfl) ?_
      obtain ⟨t18, h_t18, H17⟩ := bnd_some H16; clear H16
      refine l_val rfl rfl rfl (r_quoG rfl rfl h_t18) ?_
      refine l_val rfl rfl rfl (r_build (pl := #[(0, 1), (1, 1)]) (ps := [(0, .int .i64 t18), (1, .int .i64 1)]) (cells := #[.int .i64 t18, .int .i64 1]) Try.zeroValue44 Try.runUnderlying44 (fun w => by kernel_rfl) rfl rfl) ?_
      refine l_val rfl rfl rfl (r_move (v := .int .i64 t13) rfl) ?_
      obtain ⟨t21, h_t21, H18⟩ := bnd_some H17; clear H17
      refine l_val rfl rfl rfl (r_remG rfl rfl h_t21) ?_
      refine l_val rfl rfl rfl (r_build (pl := #[(0, 1), (1, 1)]) (ps := [(0, .int .i64 t21), (1, .int .i64 10000)]) (cells := #[.int .i64 t21, .int .i64 10000]) Try.zeroValue44 Try.runUnderlying44 (fun w => by kernel_rfl) rfl rfl) ?_
      refine l_buildSlice (vs := [.agg #[.int .i64 t15, .int .i64 1], .agg #[.int .i64 t18, .int .i64 1], .agg #[.int .i64 t21, .int .i64 10000]]) (cs := [.int .i64 t15, .int .i64 1, .int .i64 t18, .int .i64 1, .int .i64 t21, .int .i64 10000]) Try.underlying39 Try.sizeOf44 Try.zeroValue44 rfl rfl rfl rfl rfl rfl rfl (fun b1 => ?_)
      refine l_val rfl rfl rfl (r_assign (v := .slice (some ⟨b1, 0, none⟩) 3 3) rfl) ?_
      refine l_val rfl rfl rfl (r_assign (v := .int .i64 0) rfl) ?_
      refine l_nil ?_
      refine c_ret ?_
      refine c_imp 0 rfl (imp_box (m := 3) (E := 44) (sz := 2) (xs := (([(⟨t15, 1⟩ : T_tag_Ratio), (⟨t18, 1⟩ : T_tag_Ratio), (⟨t21, 10000⟩ : T_tag_Ratio)] : List T_tag_Ratio)).map e_tag_Ratio) rfl rfl rfl ⟨rfl, by decide⟩) ?_
      obtain rfl := Option.some.inj H18
      refine ret2 (v1 := .slice ((some ⟨b1, 0, none⟩, 3) : Option Addr × Nat).1 3 ((some ⟨b1, 0, none⟩, 3) : Option Addr × Nat).2) (v2 := .int .i64 0) rfl rfl rfl (finX ((some ⟨b1, 0, none⟩, 3) : Option Addr × Nat) (i := 0) rfl rfl (Imp.refl _))
theorem k36 {a0 : T_tag_Ratio} {a1 : Int} {a2 : T_tag_Ratio} {a3 : Int} {r : Bool} (H : Law_told_tag_Ratio a0 a1 a2 a3 = some r) : Ret Try.prog 36 [.agg #[.int .i64 a0.Num, .int .i64 a0.Den], .int .i64 a1, .agg #[.int .i64 a2.Num, .int .i64 a2.Den], .int .i64 a3] (.bool r) := by
  refine enterRet (n := 21) Try.func36 rfl rfl rfl (fun wd => ?_)
  refine c_seq ?_
  refine c_region ?_
  refine l_box (cs := [.int .i64 a0.Num, .int .i64 a0.Den]) rfl rfl rfl rfl (fun b3 => ?_)
  refine l_box (cs := [.int .i64 a2.Num, .int .i64 a2.Den]) rfl rfl rfl rfl (fun b4 => ?_)
  refine l_val rfl rfl rfl (r_assign (v := .bool false) rfl) ?_
  refine l_nil ?_
  refine c_seq ?_
  refine c_region ?_
  refine l_alloc (cs := [.int .i64 0, .int .i64 0]) Try.zeroValue44 rfl rfl rfl (fun b5 => ?_)
  refine l_nil ?_
  refine c_meet (r := r) (σ := Int × Int) (τ := Unit) (fun s => Law_told_tag_Ratio_j1 a0 a1 a3 s.1 s.2) (fun s t => [(1, .int .i64 a1), (3, .int .i64 a3), (4, .pointer (some ⟨b3, 0, none⟩)), (6, .pointer (some ⟨b4, 0, none⟩))]) (fun s t => [cellsC b3 [.int .i64 a0.Num, .int .i64 a0.Den] 44, cellsC b4 [.int .i64 s.1, .int .i64 s.2] 44]) (fun s t => True) ?_ ?_
  · refine c_seq ?_
    refine c_region ?_
    refine l_val rfl rfl rfl (r_move (v := .int .i64 a3) rfl) ?_
    refine l_val rfl rfl rfl (r_neq rfl rfl) ?_
    refine l_nil ?_
    refine c_if (b := (decide (a3 ≠ 0))) rfl (fun hb => ?_) (fun hb => ?_)
    · have H9 := cnd_t hb H; clear H
      refine c_region ?_
      refine l_loadN (i := 2) (vs := [.int .i64 0, .int .i64 0]) Try.isAgg44 Try.sizeOf44 rfl rfl rfl rfl rfl ?_
      refine l_store (i := 1) (vs := [.int .i64 0, .int .i64 0]) (cs' := [.int .i64 0, .int .i64 0]) Try.sizeOf44 rfl rfl rfl rfl rfl rfl rfl rfl rfl ?_
      refine l_nil ?_
      refine c_close (0, 0) () 0 [0, 1] (by exact ⟨rfl, rfl, rfl, rfl, trivial⟩) (by decide) rfl (by exact ⟨H9, trivial⟩) (Nat.lt_succ_self _)
    · have H10 := cnd_f hb H; clear H
      refine c_skip ?_
      refine c_close (a2.Num, a2.Den) () 0 [0, 1] (by exact ⟨rfl, rfl, rfl, rfl, trivial⟩) (by decide) rfl (by exact ⟨H10, trivial⟩) (Nat.lt_succ_self _)
  · rintro ⟨m, m_2⟩ _ gg H6 _
    replace H6 : Law_told_tag_Ratio_j1 a0 a1 a3 m m_2 = some r := H6
    refine c_tidyF [(1, .int .i64 a1), (3, .int .i64 a3), (4, .pointer (some ⟨b3, 0, none⟩)), (6, .pointer (some ⟨b4, 0, none⟩))] [cellsC b3 [.int .i64 a0.Num, .int .i64 a0.Den] 44, cellsC b4 [.int .i64 m, .int .i64 m_2] 44] rfl rfl ?_
    refine c_seq ?_
    refine c_region ?_
    refine l_loadN (i := 0) (vs := [.int .i64 a0.Num, .int .i64 a0.Den]) Try.isAgg44 Try.sizeOf44 rfl rfl rfl rfl rfl ?_
    refine l_loadN (i := 1) (vs := [.int .i64 m, .int .i64 m_2]) Try.isAgg44 Try.sizeOf44 rfl rfl rfl rfl rfl ?_
    refine l_val rfl rfl rfl (r_eqlA (xs := #[.int .i64 a0.Num, .int .i64 a0.Den]) (ys := #[.int .i64 m, .int .i64 m_2]) Try.eqGuardType44 (fun w => run_eq_tag_Ratio w a0 (⟨m, m_2⟩ : T_tag_Ratio)) rfl rfl) ?_
    refine l_val rfl rfl rfl (r_move (v := .bool (eq_tag_Ratio a0 (⟨m, m_2⟩ : T_tag_Ratio))) rfl) ?_
    refine split (fun hb => ?_) (fun hb => ?_)
    · have H7 := cnd_t hb H6; clear H6
      refine l_val rfl rfl rfl (r_move (v := .int .i64 a1) rfl) ?_
      refine l_val rfl rfl rfl (r_move (v := .int .i64 a3) rfl) ?_
      refine l_val rfl rfl rfl (r_eql rfl rfl) ?_
      refine l_val rfl rfl rfl (r_pickT (v := .bool (decide (a1 = a3))) rfl rfl) ?_
      refine l_val rfl rfl rfl (r_assign (v := .bool (decide (a1 = a3))) rfl) ?_
      refine l_nil ?_
      refine c_ret ?_
      obtain rfl := Option.some.inj H7
      refine ret1 (v := .bool (decide (a1 = a3))) rfl rfl (fin rfl)
    · have H8 := cnd_f hb H6; clear H6
      refine l_passed rfl rfl rfl ?_
      refine l_passed rfl rfl rfl ?_
      refine l_passed rfl rfl rfl ?_
      refine l_val rfl rfl rfl (r_pickF (v := .bool false) rfl rfl) ?_
      refine l_val rfl rfl rfl (r_assign (v := .bool false) rfl) ?_
      refine l_nil ?_
      refine c_ret ?_
      obtain rfl := Option.some.inj H8
      refine ret1 (v := .bool false) rfl rfl (fin rfl)
theorem k103 {a0 : (List T_tag_Ratio)} {v0 : Value} {a1 : (List T_tag_Ratio)} {v1 : Value} {r : Bool} {w : World} {h : Heap} (hw : Know h w noS) (f0 : FrS h 2 v0 (a0.map e_tag_Ratio)) (f1 : FrS h 2 v1 (a1.map e_tag_Ratio)) (H : slices_Equal_tag_Ratio a0 a1 = some r) : Does Try.prog 103 (List.toArray [v0, v1]) w (fun v w' => v = (.bool r) ∧ Grow w w') := by
  refine enter (n := 26) Try.func103 rfl rfl rfl noS [] (Sat.nil _ _) ?_
  refine c_seq ?_
  refine c_region ?_
  refine l_val rfl rfl rfl (r_assign (v := .bool false) rfl) ?_
  refine l_nil ?_
  refine c_seq ?_
  refine c_seq ?_
  refine c_region ?_
  refine l_val rfl rfl rfl (r_move (v := v0) rfl) ?_
  refine l_val rfl rfl rfl (r_lenF Try.underlying39 rfl f0 rfl) ?_
  refine l_val rfl rfl rfl (r_move (v := v1) rfl) ?_
  refine l_val rfl rfl rfl (r_lenF Try.underlying39 rfl f1 rfl) ?_
  refine l_val rfl rfl rfl (r_neq rfl rfl) ?_
  refine l_nil ?_
  refine c_if (b := (decide ((a0.length : Int) ≠ (a1.length : Int)))) rfl (fun hb => ?_) (fun hb => ?_)
  · have H11 := cnd_t hb H; clear H
    refine c_seq ?_
    refine c_region ?_
    refine l_val rfl rfl rfl (r_assign (v := .bool false) rfl) ?_
    refine l_nil ?_
    refine c_ret ?_
    obtain rfl := Option.some.inj H11
    refine ret1 (v := .bool false) rfl rfl (fin rfl)
  · have H12 := cnd_f hb H; clear H
    refine c_skip ?_
    refine c_seq ?_
    refine c_seq ?_
    refine c_region ?_
    refine l_val rfl rfl rfl (r_move (v := v0) rfl) ?_
    refine l_val rfl rfl rfl (r_lenF Try.underlying39 rfl f0 rfl) ?_
    refine l_val rfl rfl rfl (r_move (v := .int .i64 0) rfl) ?_
    refine l_nil ?_
    refine c_block ?_
    refine c_fix (σ := Int) (τ := Unit) (fun next1 s => slices_Equal_tag_Ratio_l1 a0 a1 next1 s) (fun s t => [(0, v0), (1, v1), (12, .int .i64 (a0.length : Int)), (13, .int .i64 s)]) (fun s t => []) (fun s t => True) 0 () [] H12 (by exact trivial) (by exact ⟨rfl, rfl, rfl, rfl, trivial⟩) (by decide) rfl ?_
    rintro x13_2 _ m1 gg H13 _
    clear H12
    replace H13 : slices_Equal_tag_Ratio_l1 a0 a1 (it (fun next1 s => slices_Equal_tag_Ratio_l1 a0 a1 next1 s) m1) x13_2 = some r := H13
    generalize hn1 : it (fun next1 s => slices_Equal_tag_Ratio_l1 a0 a1 next1 s) m1 = next1 at H13
    refine c_tidyF [(0, v0), (1, v1), (12, .int .i64 (a0.length : Int)), (13, .int .i64 x13_2)] [] rfl rfl ?_
    refine c_seq ?_
    refine c_region ?_
    refine l_val rfl rfl rfl (r_lss rfl rfl) ?_
    refine l_nil ?_
    refine c_seq ?_
    refine c_if (b := (decide (x13_2 < (a0.length : Int)))) rfl (fun hb => ?_) (fun hb => ?_)
    · have H14 := cnd_t hb H13; clear H13
      refine c_skip ?_
      refine c_seq ?_
      refine c_block ?_
      refine c_seq ?_
      refine c_region ?_
      refine l_val rfl rfl rfl (r_move (v := .int .i64 x13_2) rfl) ?_
      refine l_val rfl rfl rfl (r_assign (v := .int .i64 x13_2) rfl) ?_
      refine l_nil ?_
      refine c_seq ?_
      exact c_regionD (Kd.p :: Kd.p :: Kd.p :: Kd.d [] _ :: Kd.p :: Kd.p :: Kd.p :: Kd.d [] _ :: Kd.p :: []) 0 mixed (by
        refine d_val rfl rfl (r_move (v := v0) rfl) ?_
        refine d_val rfl rfl (r_move (v := .int .i64 x13_2) rfl) ?_
        have h_t18 := bnd_val H14
        have H15 := bnd_rest H14
        refine d_val rfl rfl (r_indexF Try.underlying39 Try.sizeOf44 rfl rfl f0 h_t18) ?_
        refine d_read (fun w hF => run_loadGN (j := 0) (vs := [.int .i64 (val (gAt a0 x13_2)).Num, .int .i64 (val (gAt a0 x13_2)).Den]) Try.isAgg44 Try.sizeOf44 rfl rfl (f0.row (hw.now hF)) h_t18 rfl) rfl rfl ?_
        refine d_val rfl rfl (r_move (v := v1) rfl) ?_
        refine d_val rfl rfl (r_move (v := .int .i64 x13_2) rfl) ?_
        have h_t22 := bnd_val H15
        have H16 := bnd_rest H15
        refine d_val rfl rfl (r_indexF Try.underlying39 Try.sizeOf44 rfl rfl f1 h_t22) ?_
        refine d_read (fun w hF => run_loadGN (j := 0) (vs := [.int .i64 (val (gAt a1 x13_2)).Num, .int .i64 (val (gAt a1 x13_2)).Den]) Try.isAgg44 Try.sizeOf44 rfl rfl (f1.row (hw.now hF)) h_t22 rfl) rfl rfl ?_
        refine d_val rfl rfl (r_neqA (xs := #[.int .i64 (val (gAt a0 x13_2)).Num, .int .i64 (val (gAt a0 x13_2)).Den]) (ys := #[.int .i64 (val (gAt a1 x13_2)).Num, .int .i64 (val (gAt a1 x13_2)).Den]) Try.eqGuardType44 (fun w => run_eq_tag_Ratio w (val (gAt a0 x13_2)) (val (gAt a1 x13_2))) rfl rfl) ?_
        refine d_nil ?_
        refine c_if (b := (!(eq_tag_Ratio (val (gAt a0 x13_2)) (val (gAt a1 x13_2))))) rfl (fun hb => ?_) (fun hb => ?_)
        · have H17 := cnd_t hb H16; clear H16
          refine c_seq ?_
          refine c_region ?_
          refine l_val rfl rfl rfl (r_assign (v := .bool false) rfl) ?_
          refine l_nil ?_
          refine c_ret ?_
          obtain rfl := Option.some.inj H17
          refine ret1 (v := .bool false) rfl rfl (fin rfl)
        · have H18 := cnd_f hb H16; clear H16
          refine c_skip ?_
          refine c_region ?_
          obtain ⟨t25, h_t25, H19⟩ := bnd_some H18; clear H18
          refine l_val rfl rfl rfl (r_addG rfl rfl h_t25) ?_
          refine l_val rfl rfl rfl (r_move (v := .int .i64 t25) rfl) ?_
          refine l_nil ?_
          refine c_close t25 () m1 [] (by exact ⟨rfl, rfl, rfl, rfl, trivial⟩) (by decide) rfl (by exact ⟨(by subst hn1; exact H19), trivial⟩) (Nat.lt_succ_self _)
        ) (by kernel_rfl)
    · have H20 := cnd_f hb H13; clear H13
      refine c_exit ?_
      refine c_seq ?_
      refine c_region ?_
      refine l_val rfl rfl rfl (r_assign (v := .bool true) rfl) ?_
      refine l_nil ?_
      refine c_ret ?_
      obtain rfl := Option.some.inj H20
      refine ret1 (v := .bool true) rfl rfl (fin rfl)
theorem k37 {a0 : (List T_tag_Ratio)} {v0 : Value} {a1 : Int} {a2 : (List T_tag_Ratio)} {v2 : Value} {a3 : Int} {r : Bool} {w : World} {h : Heap} (hw : Know h w noS) (f0 : FrS h 2 v0 (a0.map e_tag_Ratio)) (f2 : FrS h 2 v2 (a2.map e_tag_Ratio)) (H : Law_listed_tag_Ratio a0 a1 a2 a3 = some r) : Does Try.prog 37 (List.toArray [v0, .int .i64 a1, v2, .int .i64 a3]) w (fun v w' => v = (.bool r) ∧ Grow w w') := by
  refine enter (n := 19) Try.func37 rfl rfl rfl noS [] (Sat.nil _ _) ?_
  refine c_seq ?_
  refine c_region ?_
  refine l_val rfl rfl rfl (r_assign (v := .bool false) rfl) ?_
  refine l_nil ?_
  refine c_meet (r := r) (σ := (List T_tag_Ratio)) (τ := Value) (fun s => Law_listed_tag_Ratio_j1 a0 a1 a3 s) (fun s t => [(0, v0), (1, .int .i64 a1), (2, t), (3, .int .i64 a3)]) (fun s t => []) (fun s t => FrS h 2 t (s.map e_tag_Ratio)) ?_ ?_
  · refine c_seq ?_
    refine c_region ?_
    refine l_val rfl rfl rfl (r_move (v := .int .i64 a3) rfl) ?_
    refine l_val rfl rfl rfl (r_neq rfl rfl) ?_
    refine l_nil ?_
    refine c_if (b := (decide (a3 ≠ 0))) rfl (fun hb => ?_) (fun hb => ?_)
    · have H11 := cnd_t hb H; clear H
      refine c_region ?_
      refine l_val rfl rfl rfl (r_assign (v := .slice none 0 0) rfl) ?_
      refine l_nil ?_
      refine c_close ([] : (List T_tag_Ratio)) (.slice none 0 0) 0 [] (by exact ⟨rfl, rfl, rfl, rfl, trivial⟩) (by decide) rfl (by exact ⟨H11, (FrS.nil _ _)⟩) (Nat.lt_succ_self _)
    · have H12 := cnd_f hb H; clear H
      refine c_skip ?_
      refine c_close a2 v2 0 [] (by exact ⟨rfl, rfl, rfl, rfl, trivial⟩) (by decide) rfl (by exact ⟨H12, f2⟩) (Nat.lt_succ_self _)
  · rintro x2 gv gg H7 gf
    replace H7 : Law_listed_tag_Ratio_j1 a0 a1 a3 x2 = some r := H7
    refine c_tidyF [(0, v0), (1, .int .i64 a1), (2, gv), (3, .int .i64 a3)] [] rfl rfl ?_
    refine c_seq ?_
    refine c_region ?_
    refine l_val rfl rfl rfl (r_move (v := v0) rfl) ?_
    refine l_val rfl rfl rfl (r_move (v := gv) rfl) ?_
    obtain ⟨t13, h_t13, H8⟩ := bnd_some H7; clear H7
    refine l_callG (fun w hF hS => k103 (know_all w) (f0.mono (hw.now hF)) (gf.mono (hw.now hF)) h_t13) Try.call103 rfl rfl rfl ?_
    refine l_val rfl rfl rfl (r_move (v := .bool t13) rfl) ?_
    refine split (fun hb => ?_) (fun hb => ?_)
    · have H9 := cnd_t hb H8; clear H8
      refine l_val rfl rfl rfl (r_move (v := .int .i64 a1) rfl) ?_
      refine l_val rfl rfl rfl (r_move (v := .int .i64 a3) rfl) ?_
      refine l_val rfl rfl rfl (r_eql rfl rfl) ?_
      refine l_val rfl rfl rfl (r_pickT (v := .bool (decide (a1 = a3))) rfl rfl) ?_
      refine l_val rfl rfl rfl (r_assign (v := .bool (decide (a1 = a3))) rfl) ?_
      refine l_nil ?_
      refine c_ret ?_
      obtain rfl := Option.some.inj H9
      refine ret1 (v := .bool (decide (a1 = a3))) rfl rfl (fin rfl)
    · have H10 := cnd_f hb H8; clear H8
      refine l_passed rfl rfl rfl ?_
      refine l_passed rfl rfl rfl ?_
      refine l_passed rfl rfl rfl ?_
      refine l_val rfl rfl rfl (r_pickF (v := .bool false) rfl rfl) ?_
      refine l_val rfl rfl rfl (r_assign (v := .bool false) rfl) ?_
      refine l_nil ?_
      refine c_ret ?_
      obtain rfl := Option.some.inj H10
      refine ret1 (v := .bool false) rfl rfl (fin rfl)
theorem k6 {a0 : T_tag_Ratio} {a1 : (List T_tag_Ratio)} {v1 : Value} {a2 : Int} {r : Bool} {w : World} {h : Heap} (hw : Know h w noS) (f1 : FrS h 2 v1 (a1.map e_tag_Ratio)) (H : Law_TagFractions a0 a1 a2 = some r) : Does Try.prog 6 (List.toArray [.agg #[.int .i64 a0.Num, .int .i64 a0.Den], v1, .int .i64 a2]) w (fun v w' => v = (.bool r) ∧ Grow w w') := by
  refine enter (n := 68) Try.func6 rfl rfl rfl noS [] (Sat.nil _ _) ?_
  refine c_seq ?_
  refine c_region ?_
  refine l_box (cs := [.int .i64 a0.Num, .int .i64 a0.Den]) rfl rfl rfl rfl (fun b3 => ?_)
  refine l_val rfl rfl rfl (r_assign (v := .bool false) rfl) ?_
  refine l_nil ?_
  refine c_seq ?_
  refine c_region ?_
  refine l_loadN (i := 0) (vs := [.int .i64 a0.Num, .int .i64 a0.Den]) Try.isAgg44 Try.sizeOf44 rfl rfl rfl rfl rfl ?_
  obtain ⟨t21, h_t21, H14⟩ := bnd_some H; clear H
  refine l_call (k26 h_t21) Try.call26 rfl rfl rfl ?_
  refine l_val rfl rfl rfl (r_move (v := .tuple #[.agg #[.int .i64 t21.1.Num, .int .i64 t21.1.Den], .int .i64 t21.2]) rfl) ?_
  refine l_val rfl rfl rfl (r_extract (v := .agg #[.int .i64 t21.1.Num, .int .i64 t21.1.Den]) rfl rfl) ?_
  refine l_val rfl rfl rfl (r_extract (v := .int .i64 t21.2) rfl rfl) ?_
  refine l_alloc (cs := [.int .i64 0, .int .i64 0]) Try.zeroValue44 rfl rfl rfl (fun b4 => ?_)
  refine l_store (i := 1) (vs := [.int .i64 t21.1.Num, .int .i64 t21.1.Den]) (cs' := [.int .i64 t21.1.Num, .int .i64 t21.1.Den]) Try.sizeOf44 rfl rfl rfl rfl rfl rfl rfl rfl rfl ?_
  refine l_val rfl rfl rfl (r_assign (v := .int .i64 t21.2) rfl) ?_
  refine l_nil ?_
  refine c_seq ?_
  refine c_region ?_
  refine l_loadN (i := 0) (vs := [.int .i64 a0.Num, .int .i64 a0.Den]) Try.isAgg44 Try.sizeOf44 rfl rfl rfl rfl rfl ?_
  obtain ⟨t26, h_t26, H15⟩ := bnd_some H14; clear H14
  refine l_call (k33 h_t26) Try.call33 rfl rfl rfl ?_
  refine l_val rfl rfl rfl (r_move (v := .tuple #[.agg #[.int .i64 t26.1.Num, .int .i64 t26.1.Den], .int .i64 t26.2]) rfl) ?_
  refine l_val rfl rfl rfl (r_extract (v := .agg #[.int .i64 t26.1.Num, .int .i64 t26.1.Den]) rfl rfl) ?_
  refine l_val rfl rfl rfl (r_extract (v := .int .i64 t26.2) rfl rfl) ?_
  refine l_alloc (cs := [.int .i64 0, .int .i64 0]) Try.zeroValue44 rfl rfl rfl (fun b5 => ?_)
  refine l_store (i := 2) (vs := [.int .i64 t26.1.Num, .int .i64 t26.1.Den]) (cs' := [.int .i64 t26.1.Num, .int .i64 t26.1.Den]) Try.sizeOf44 rfl rfl rfl rfl rfl rfl rfl rfl rfl ?_
  refine l_val rfl rfl rfl (r_assign (v := .int .i64 t26.2) rfl) ?_
  refine l_nil ?_
  refine c_seq ?_
  refine c_region ?_
  refine l_val rfl rfl rfl (r_move (v := v1) rfl) ?_
  obtain ⟨t31, h_t31, H16⟩ := bnd_some H15; clear H15
  refine l_callG (fun w hF hS => k25 (know_all w) (f1.mono (hw.now hF)) h_t31) Try.call25 rfl rfl rfl ?_
  refine l_val rfl rfl rfl (r_move (v := .tuple #[.int .i64 t31.1, .int .i64 t31.2]) rfl) ?_
  refine l_val rfl rfl rfl (r_extract (v := .int .i64 t31.1) rfl rfl) ?_
  refine l_val rfl rfl rfl (r_extract (v := .int .i64 t31.2) rfl rfl) ?_
  refine l_val rfl rfl rfl (r_assign (v := .int .i64 t31.1) rfl) ?_
  refine l_val rfl rfl rfl (r_assign (v := .int .i64 t31.2) rfl) ?_
  refine l_nil ?_
  refine c_seq ?_
  refine c_region ?_
  refine l_val rfl rfl rfl (r_move (v := v1) rfl) ?_
  obtain ⟨t36, h_t36, H17⟩ := bnd_some H16; clear H16
  refine l_callG (fun w hF hS => k34 (know_all w) (f1.mono (hw.now hF)) h_t36) Try.call34 rfl rfl rfl ?_
  refine l_val rfl rfl rfl (r_move (v := .tuple #[.int .i64 t36.1, .int .i64 t36.2]) rfl) ?_
  refine l_val rfl rfl rfl (r_extract (v := .int .i64 t36.1) rfl rfl) ?_
  refine l_val rfl rfl rfl (r_extract (v := .int .i64 t36.2) rfl rfl) ?_
  refine l_val rfl rfl rfl (r_assign (v := .int .i64 t36.1) rfl) ?_
  refine l_val rfl rfl rfl (r_assign (v := .int .i64 t36.2) rfl) ?_
  refine l_nil ?_
  refine c_seq ?_
  refine c_region ?_
  refine l_val rfl rfl rfl (r_move (v := .int .i64 a2) rfl) ?_
  obtain ⟨t41, h_t41, H18⟩ := bnd_some H17; clear H17
  refine l_make (makes_call (rds := []) (G := fun x : (Option Addr × Nat) => .tuple #[.slice x.1 t41.1.length x.2, .int .i64 t41.2]) (C := fun x : (Option Addr × Nat) => rowV 44 2 (.slice x.1 t41.1.length x.2) t41.1.length (t41.1.map e_tag_Ratio)) (fun w L' hF hS hi => k24 (know_all w)  h_t41) Try.call24 rfl) rfl rfl rfl (fun p => ?_)
  refine l_val rfl rfl rfl (r_move (v := .tuple #[.slice p.1 t41.1.length p.2, .int .i64 t41.2]) rfl) ?_
  refine l_val rfl rfl rfl (r_extract (v := .slice p.1 t41.1.length p.2) rfl rfl) ?_
  refine l_val rfl rfl rfl (r_extract (v := .int .i64 t41.2) rfl rfl) ?_
  refine l_val rfl rfl rfl (r_assign (v := .slice p.1 t41.1.length p.2) rfl) ?_
  refine l_val rfl rfl rfl (r_assign (v := .int .i64 t41.2) rfl) ?_
  refine l_nil ?_
  refine c_seq ?_
  refine c_region ?_
  refine l_val rfl rfl rfl (r_move (v := .int .i64 a2) rfl) ?_
  obtain ⟨t46, h_t46, H19⟩ := bnd_some H18; clear H18
  refine l_make (makes_call (rds := []) (G := fun x : (Option Addr × Nat) => .tuple #[.slice x.1 t46.1.length x.2, .int .i64 t46.2]) (C := fun x : (Option Addr × Nat) => rowV 44 2 (.slice x.1 t46.1.length x.2) t46.1.length (t46.1.map e_tag_Ratio)) (fun w L' hF hS hi => k35 (know_all w)  h_t46) Try.call35 rfl) rfl rfl rfl (fun p_2 => ?_)
  refine l_val rfl rfl rfl (r_move (v := .tuple #[.slice p_2.1 t46.1.length p_2.2, .int .i64 t46.2]) rfl) ?_
  refine l_val rfl rfl rfl (r_extract (v := .slice p_2.1 t46.1.length p_2.2) rfl rfl) ?_
  refine l_val rfl rfl rfl (r_extract (v := .int .i64 t46.2) rfl rfl) ?_
  refine l_val rfl rfl rfl (r_assign (v := .slice p_2.1 t46.1.length p_2.2) rfl) ?_
  refine l_val rfl rfl rfl (r_assign (v := .int .i64 t46.2) rfl) ?_
  refine l_nil ?_
  refine c_seq ?_
  refine c_region ?_
  refine l_loadN (i := 1) (vs := [.int .i64 t21.1.Num, .int .i64 t21.1.Den]) Try.isAgg44 Try.sizeOf44 rfl rfl rfl rfl rfl ?_
  refine l_val rfl rfl rfl (r_move (v := .int .i64 t21.2) rfl) ?_
  refine l_loadN (i := 2) (vs := [.int .i64 t26.1.Num, .int .i64 t26.1.Den]) Try.isAgg44 Try.sizeOf44 rfl rfl rfl rfl rfl ?_
  refine l_val rfl rfl rfl (r_move (v := .int .i64 t26.2) rfl) ?_
  obtain ⟨t53, h_t53, H20⟩ := bnd_some H19; clear H19
  refine l_call (k36 h_t53) Try.call36 rfl rfl rfl ?_
  refine l_val rfl rfl rfl (r_move (v := .bool t53) rfl) ?_
  refine split (fun hb => ?_) (fun hb => ?_)
  · have H21 := cnd_t hb H20; clear H20
    refine l_val rfl rfl rfl (r_move (v := .int .i64 t31.1) rfl) ?_
    refine l_val rfl rfl rfl (r_move (v := .int .i64 t31.2) rfl) ?_
    refine l_val rfl rfl rfl (r_move (v := .int .i64 t36.1) rfl) ?_
    refine l_val rfl rfl rfl (r_move (v := .int .i64 t36.2) rfl) ?_
    obtain ⟨t59, h_t59, H22⟩ := bnd_some H21; clear H21
    refine l_call (k19 h_t59) Try.call19 rfl rfl rfl ?_
    refine l_val rfl rfl rfl (r_pickT (v := .bool t59) rfl rfl) ?_
    refine l_val rfl rfl rfl (r_move (v := .bool t59) rfl) ?_
    refine split (fun hb => ?_) (fun hb => ?_)
    · have H23 := cnd_t hb H22; clear H22
      refine l_val rfl rfl rfl (r_move (v := .slice p.1 t41.1.length p.2) rfl) ?_
      refine l_val rfl rfl rfl (r_move (v := .int .i64 t41.2) rfl) ?_
      refine l_val rfl rfl rfl (r_move (v := .slice p_2.1 t46.1.length p_2.2) rfl) ?_
      refine l_val rfl rfl rfl (r_move (v := .int .i64 t46.2) rfl) ?_
      obtain ⟨t66, h_t66, H24⟩ := bnd_some H23; clear H23
      refine l_callG (fun w hF hS => k37 (know_all w) (frs_own (i := 3) rfl hS rfl) (frs_own (i := 4) rfl hS rfl) h_t66) Try.call37 rfl rfl rfl ?_
      refine l_val rfl rfl rfl (r_pickT (v := .bool t66) rfl rfl) ?_
      refine l_val rfl rfl rfl (r_assign (v := .bool t66) rfl) ?_
      refine l_nil ?_
      refine c_ret ?_
      obtain rfl := Option.some.inj H24
      refine ret1 (v := .bool t66) rfl rfl (fin rfl)
    · have H25 := cnd_f hb H22; clear H22
      refine l_passed rfl rfl rfl ?_
      refine l_passed rfl rfl rfl ?_
      refine l_passed rfl rfl rfl ?_
      refine l_passed rfl rfl rfl ?_
      refine l_passed rfl rfl rfl ?_
      refine l_val rfl rfl rfl (r_pickF (v := .bool false) rfl rfl) ?_
      refine l_val rfl rfl rfl (r_assign (v := .bool false) rfl) ?_
      refine l_nil ?_
      refine c_ret ?_
      obtain rfl := Option.some.inj H25
      refine ret1 (v := .bool false) rfl rfl (fin rfl)
  · have H26 := cnd_f hb H20; clear H20
    refine l_passed rfl rfl rfl ?_
    refine l_passed rfl rfl rfl ?_
    refine l_passed rfl rfl rfl ?_
    refine l_passed rfl rfl rfl ?_
    refine l_passed rfl rfl rfl ?_
    refine l_val rfl rfl rfl (r_pickF (v := .bool false) rfl rfl) ?_
    refine l_val rfl rfl rfl (r_move (v := .bool false) rfl) ?_
    refine l_passed rfl rfl rfl ?_
    refine l_passed rfl rfl rfl ?_
    refine l_passed rfl rfl rfl ?_
    refine l_passed rfl rfl rfl ?_
    refine l_passed rfl rfl rfl ?_
    refine l_val rfl rfl rfl (r_pickF (v := .bool false) rfl rfl) ?_
    refine l_val rfl rfl rfl (r_assign (v := .bool false) rfl) ?_
    refine l_nil ?_
    refine c_ret ?_
    obtain rfl := Option.some.inj H26
    refine ret1 (v := .bool false) rfl rfl (fin rfl)
end Go.Proofs.Ytngogocmhmfbjaa
