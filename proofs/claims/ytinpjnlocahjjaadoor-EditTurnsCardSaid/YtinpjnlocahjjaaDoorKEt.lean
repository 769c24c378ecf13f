/- EditTurns: the walks, printed by our generator; each follows its model. Conditions: the model yields a value. -/
import Derived.Test.YtinpjnlocahjjaaDoorKEr
namespace Go.Proofs.YtinpjnlocahjjaaDoor
open Go Go.Vc Go.Md Go.M Go.Lx
set_option maxRecDepth 100000
set_option maxHeartbeats 4000000
set_option linter.unusedVariables false

theorem k38 {a0 : (List Int)} {v0 : Value} {a1 : (List Int)} {v1 : Value} {r : Bool} {w : World} {h : Heap} (hw : Know h w noS) (f0 : FrS h 1 v0 (a0.map e_u8)) (f1 : FrS h 1 v1 (a1.map e_u8)) (H : bytes_Equal a0 a1 = some r) : Does Tryd.prog 38 (List.toArray [v0, v1]) w (fun v w' => v = (.bool r) ∧ Grow w w') := by
  refine enter (n := 10) Tryd.func38 rfl rfl rfl noS [] (Sat.nil _ _) ?_
  refine c_seq ?_
  refine c_region ?_
  refine l_val rfl rfl rfl (r_assign (v := .bool false) rfl) ?_
  refine l_nil ?_
  refine c_seq ?_
  refine c_region ?_
  refine l_val rfl rfl rfl (r_move (v := v0) rfl) ?_
  refine l_read (fun w hF hS => run_bytes (f := e_u8) (xs := a0) (List.length_map _) Tryd.underlying50 Tryd.underlying5 Tryd.underlying9 f0.eq (fun _ => rfl) (f0.row (hw.now hF))) rfl rfl rfl ?_
  refine l_val rfl rfl rfl (r_move (v := v1) rfl) ?_
  refine l_read (fun w hF hS => run_bytes (f := e_u8) (xs := a1) (List.length_map _) Tryd.underlying50 Tryd.underlying5 Tryd.underlying9 f1.eq (fun _ => rfl) (f1.row (hw.now hF))) rfl rfl rfl ?_
  refine l_val rfl rfl rfl (r_eqlT rfl rfl) ?_
  refine l_val rfl rfl rfl (r_assign (v := .bool (decide ((toStr a0) = (toStr a1)))) rfl) ?_
  refine l_nil ?_
  refine c_ret ?_
  obtain rfl := Option.some.inj H
  refine ret1 (v := .bool (decide ((toStr a0) = (toStr a1)))) rfl rfl (fin rfl)
theorem k30 {a0 : T_api_Image} {v0_2 : Value} {a1 : T_api_Image} {v1_2 : Value} {r : Bool} {w : World} {h : Heap} (hw : Know h w noS) (f0_2 : FrS h 1 v0_2 (a0.Pixels.map e_u8)) (f1_2 : FrS h 1 v1_2 (a1.Pixels.map e_u8)) (H : Keep_same a0 a1 = some r) : Does Tryd.prog 30 (List.toArray [.agg #[.int .i64 a0.W, .int .i64 a0.H, v0_2], .agg #[.int .i64 a1.W, .int .i64 a1.H, v1_2]]) w (fun v w' => v = (.bool r) ∧ Grow w w') := by
  refine enter (n := 24) Tryd.func30 rfl rfl rfl noS [] (Sat.nil _ _) ?_
  refine c_seq ?_
  refine c_region ?_
  refine l_box (cs := [.int .i64 a0.W, .int .i64 a0.H, v0_2]) rfl rfl rfl rfl (fun b2 => ?_)
  refine l_box (cs := [.int .i64 a1.W, .int .i64 a1.H, v1_2]) rfl rfl rfl rfl (fun b3 => ?_)
  refine l_val rfl rfl rfl (r_assign (v := .bool false) rfl) ?_
  refine l_nil ?_
  refine c_seq ?_
  refine c_region ?_
  refine l_val rfl rfl rfl (r_field Tryd.runUnderlying52 rfl Tryd.sizeOf3 rfl rfl) ?_
  refine l_load1 (i := 0) (v := .int .i64 a0.W) Tryd.isAgg3 rfl rfl rfl rfl rfl ?_
  refine l_val rfl rfl rfl (r_field Tryd.runUnderlying52 rfl Tryd.sizeOf3 rfl rfl) ?_
  refine l_load1 (i := 1) (v := .int .i64 a1.W) Tryd.isAgg3 rfl rfl rfl rfl rfl ?_
  refine l_val rfl rfl rfl (r_eql rfl rfl) ?_
  refine l_val rfl rfl rfl (r_move (v := .bool (decide (a0.W = a1.W))) rfl) ?_
  refine split (fun hb => ?_) (fun hb => ?_)
  · have H6 := cnd_t hb H; clear H
    refine l_val rfl rfl rfl (r_field Tryd.runUnderlying52 rfl Tryd.sizeOf3 rfl rfl) ?_
    refine l_load1 (i := 0) (v := .int .i64 a0.H) Tryd.isAgg3 rfl rfl rfl rfl rfl ?_
    refine l_val rfl rfl rfl (r_field Tryd.runUnderlying52 rfl Tryd.sizeOf3 rfl rfl) ?_
    refine l_load1 (i := 1) (v := .int .i64 a1.H) Tryd.isAgg3 rfl rfl rfl rfl rfl ?_
    refine l_val rfl rfl rfl (r_eql rfl rfl) ?_
    refine l_val rfl rfl rfl (r_pickT (v := .bool (decide (a0.H = a1.H))) rfl rfl) ?_
    refine l_val rfl rfl rfl (r_move (v := .bool (decide (a0.H = a1.H))) rfl) ?_
    refine split (fun hb => ?_) (fun hb => ?_)
    · have H7 := cnd_t hb H6; clear H6
      refine l_val rfl rfl rfl (r_field Tryd.runUnderlying52 rfl Tryd.sizeOf50 rfl rfl) ?_
      refine l_load1 (i := 0) (v := v0_2) Tryd.isAgg50 rfl rfl rfl rfl rfl ?_
      refine l_val rfl rfl rfl (r_field Tryd.runUnderlying52 rfl Tryd.sizeOf50 rfl rfl) ?_
      refine l_load1 (i := 1) (v := v1_2) Tryd.isAgg50 rfl rfl rfl rfl rfl ?_
      obtain ⟨t22, h_t22, H8⟩ := bnd_some H7; clear H7
      refine l_callG (fun w hF hS => k38 (know_all w) (f0_2.mono (hw.now hF)) (f1_2.mono (hw.now hF)) h_t22) Tryd.call38 rfl rfl rfl ?_
      refine l_val rfl rfl rfl (r_pickT (v := .bool t22) rfl rfl) ?_
      refine l_val rfl rfl rfl (r_assign (v := .bool t22) rfl) ?_
      refine l_nil ?_
      refine c_ret ?_
      obtain rfl := Option.some.inj H8
      refine ret1 (v := .bool t22) rfl rfl (fin rfl)
    · have H9 := cnd_f hb H6; clear H6
      refine l_passed rfl rfl rfl ?_
      refine l_passed rfl rfl rfl ?_
      refine l_passed rfl rfl rfl ?_
      refine l_passed rfl rfl rfl ?_
      refine l_passed rfl rfl rfl ?_
      refine l_val rfl rfl rfl (r_pickF (v := .bool false) rfl rfl) ?_
      refine l_val rfl rfl rfl (r_assign (v := .bool false) rfl) ?_
      refine l_nil ?_
      refine c_ret ?_
      obtain rfl := Option.some.inj H9
      refine ret1 (v := .bool false) rfl rfl (fin rfl)
  · have H10 := cnd_f hb H; clear H
    refine l_passed rfl rfl rfl ?_
    refine l_passed rfl rfl rfl ?_
    refine l_passed rfl rfl rfl ?_
    refine l_passed rfl rfl rfl ?_
    refine l_passed rfl rfl rfl ?_
    refine l_val rfl rfl rfl (r_pickF (v := .bool false) rfl rfl) ?_
    refine l_val rfl rfl rfl (r_move (v := .bool false) rfl) ?_
    refine l_passed rfl rfl rfl ?_
    refine l_passed rfl rfl rfl ?_
    refine l_passed rfl rfl rfl ?_
    refine l_passed rfl rfl rfl ?_
    refine l_passed rfl rfl rfl ?_
    refine l_val rfl rfl rfl (r_pickF (v := .bool false) rfl rfl) ?_
    refine l_val rfl rfl rfl (r_assign (v := .bool false) rfl) ?_
    refine l_nil ?_
    refine c_ret ?_
    obtain rfl := Option.some.inj H10
    refine ret1 (v := .bool false) rfl rfl (fin rfl)
theorem k5 {a0 : T_api_Image} {v0_2 : Value} {a1 : Int} {r : Bool} {w : World} {h : Heap} (hw : Know h w noS) (f0_2 : FrS h 1 v0_2 (a0.Pixels.map e_u8)) (H : Keep_EditTurns a0 a1 = some r) : Does Tryd.prog 5 (List.toArray [.agg #[.int .i64 a0.W, .int .i64 a0.H, v0_2], .int .i64 a1]) w (fun v w' => v = (.bool r) ∧ Grow w w') := by
  refine enter (n := 39) Tryd.func5 rfl rfl rfl noS [] (Sat.nil _ _) ?_
  refine c_seq ?_
  refine c_region ?_
  refine l_box (cs := [.int .i64 a0.W, .int .i64 a0.H, v0_2]) rfl rfl rfl rfl (fun b4 => ?_)
  refine l_val rfl rfl rfl (r_assign (v := .bool false) rfl) ?_
  refine l_nil ?_
  refine c_seq ?_
  refine c_seq ?_
  refine c_region ?_
  obtain ⟨t9, h_t9, H11⟩ := bnd_some H; clear H
  refine l_call (k25 h_t9) Tryd.call25 rfl rfl rfl ?_
  refine l_val rfl rfl rfl (r_not rfl) ?_
  refine l_nil ?_
  refine c_if (b := (!t9)) rfl (fun hb => ?_) (fun hb => ?_)
  · have H12 := cnd_t hb H11; clear H11
    refine c_seq ?_
    refine c_region ?_
    refine l_val rfl rfl rfl (r_assign (v := .bool false) rfl) ?_
    refine l_nil ?_
    refine c_ret ?_
    obtain rfl := Option.some.inj H12
    refine ret1 (v := .bool false) rfl rfl (fin rfl)
  · have H13 := cnd_f hb H11; clear H11
    refine c_skip ?_
    refine c_seq ?_
    refine c_region ?_
    refine l_loadN (i := 0) (vs := [.int .i64 a0.W, .int .i64 a0.H, v0_2]) Tryd.isAgg52 Tryd.sizeOf52 rfl rfl rfl rfl rfl ?_
    refine l_val rfl rfl rfl (r_move (v := .int .i64 a1) rfl) ?_
    refine l_val rfl rfl rfl (r_build (pl := #[(0, 1), (1, 1), (2, 1), (3, 1), (4, 1)]) (ps := [(0, .int .i64 1), (1, .int .i64 a1)]) (cells := #[.int .i64 1, .int .i64 a1, .int .i64 0, .int .i64 0, .int .i64 0]) Tryd.zeroValue35 Tryd.runUnderlying35 (fun w => by kernel_rfl) rfl rfl) ?_
    refine l_buildSlice (vs := [.agg #[.int .i64 1, .int .i64 a1, .int .i64 0, .int .i64 0, .int .i64 0]]) (cs := [.int .i64 1, .int .i64 a1, .int .i64 0, .int .i64 0, .int .i64 0]) Tryd.underlying22 Tryd.sizeOf35 Tryd.zeroValue35 rfl rfl rfl rfl rfl rfl rfl (fun b5 => ?_)
    obtain ⟨t16, h_t16, H14⟩ := bnd_some H13; clear H13
    refine l_make (makes_call (rds := [1]) (G := fun x : (Option Addr × Nat) => .tuple #[.agg #[.int .i64 t16.1.W, .int .i64 t16.1.H, .slice x.1 t16.1.Pixels.length x.2], .int .i64 t16.2]) (C := fun x : (Option Addr × Nat) => rowV 5 1 (.slice x.1 t16.1.Pixels.length x.2) t16.1.Pixels.length (t16.1.Pixels.map e_u8)) (fun w L' hF hS hi => k28 (know_all w) (f0_2.mono (hw.now hF)) (frs_box (i := 1) (xs := ([(⟨1, a1, 0, 0, 0⟩ : T_edit_Step)] : List T_edit_Step)) (f := e_edit_Step) hS ((hi 1 (by simp)).trans rfl) rfl rfl rfl rfl) h_t16) Tryd.call28 rfl) rfl rfl rfl (fun p => ?_)
    refine l_val rfl rfl rfl (r_move (v := .tuple #[.agg #[.int .i64 t16.1.W, .int .i64 t16.1.H, .slice p.1 t16.1.Pixels.length p.2], .int .i64 t16.2]) rfl) ?_
    refine l_val rfl rfl rfl (r_extract (v := .agg #[.int .i64 t16.1.W, .int .i64 t16.1.H, .slice p.1 t16.1.Pixels.length p.2]) rfl rfl) ?_
    refine l_val rfl rfl rfl (r_extract (v := .int .i64 t16.2) rfl rfl) ?_
    refine l_alloc (cs := [.int .i64 0, .int .i64 0, .slice none 0 0]) Tryd.zeroValue52 rfl rfl rfl (fun b6 => ?_)
    refine l_store (i := 3) (vs := [.int .i64 t16.1.W, .int .i64 t16.1.H, .slice p.1 t16.1.Pixels.length p.2]) (cs' := [.int .i64 t16.1.W, .int .i64 t16.1.H, .slice p.1 t16.1.Pixels.length p.2]) Tryd.sizeOf52 rfl rfl rfl rfl rfl rfl rfl rfl rfl ?_
    refine l_val rfl rfl rfl (r_assign (v := .int .i64 t16.2) rfl) ?_
    refine l_nil ?_
    refine c_seq ?_
    refine c_region ?_
    refine l_loadN (i := 0) (vs := [.int .i64 a0.W, .int .i64 a0.H, v0_2]) Tryd.isAgg52 Tryd.sizeOf52 rfl rfl rfl rfl rfl ?_
    refine l_val rfl rfl rfl (r_move (v := .int .i64 a1) rfl) ?_
    obtain ⟨t22, h_t22, H15⟩ := bnd_some H14; clear H14
    refine l_make (makes_call (rds := []) (G := fun x : (Option Addr × Nat) => .tuple #[.agg #[.int .i64 t22.1.W, .int .i64 t22.1.H, .slice x.1 t22.1.Pixels.length x.2], .int .i64 t22.2]) (C := fun x : (Option Addr × Nat) => rowV 5 1 (.slice x.1 t22.1.Pixels.length x.2) t22.1.Pixels.length (t22.1.Pixels.map e_u8)) (fun w L' hF hS hi => k29 (know_all w) (f0_2.mono (hw.now hF)) h_t22) Tryd.call29 rfl) rfl rfl rfl (fun p_2 => ?_)
    refine l_val rfl rfl rfl (r_move (v := .tuple #[.agg #[.int .i64 t22.1.W, .int .i64 t22.1.H, .slice p_2.1 t22.1.Pixels.length p_2.2], .int .i64 t22.2]) rfl) ?_
    refine l_val rfl rfl rfl (r_extract (v := .agg #[.int .i64 t22.1.W, .int .i64 t22.1.H, .slice p_2.1 t22.1.Pixels.length p_2.2]) rfl rfl) ?_
    refine l_val rfl rfl rfl (r_extract (v := .int .i64 t22.2) rfl rfl) ?_
    refine l_alloc (cs := [.int .i64 0, .int .i64 0, .slice none 0 0]) Tryd.zeroValue52 rfl rfl rfl (fun b7 => ?_)
    refine l_store (i := 5) (vs := [.int .i64 t22.1.W, .int .i64 t22.1.H, .slice p_2.1 t22.1.Pixels.length p_2.2]) (cs' := [.int .i64 t22.1.W, .int .i64 t22.1.H, .slice p_2.1 t22.1.Pixels.length p_2.2]) Tryd.sizeOf52 rfl rfl rfl rfl rfl rfl rfl rfl rfl ?_
    refine l_val rfl rfl rfl (r_assign (v := .int .i64 t22.2) rfl) ?_
    refine l_nil ?_
    refine c_seq ?_
    refine c_region ?_
    refine l_val rfl rfl rfl (r_move (v := .int .i64 t16.2) rfl) ?_
    refine l_val rfl rfl rfl (r_eql rfl rfl) ?_
    refine l_val rfl rfl rfl (r_move (v := .int .i64 t22.2) rfl) ?_
    refine l_val rfl rfl rfl (r_eql rfl rfl) ?_
    refine l_val rfl rfl rfl (r_eqlB Tryd.underlying4 rfl rfl) ?_
    refine l_val rfl rfl rfl (r_move (v := .bool (decide ((decide (t16.2 = 0)) = (decide (t22.2 = 0))))) rfl) ?_
    refine split (fun hb => ?_) (fun hb => ?_)
    · have H16 := cnd_t hb H15; clear H15
      refine l_val rfl rfl rfl (r_move (v := .int .i64 t16.2) rfl) ?_
      refine l_val rfl rfl rfl (r_neq rfl rfl) ?_
      refine l_val rfl rfl rfl (r_move (v := .bool (decide (t16.2 ≠ 0))) rfl) ?_
      refine split (fun hb => ?_) (fun hb => ?_)
      · have H17 := cnd_t hb H16; clear H16
        refine l_passed rfl rfl rfl ?_
        refine l_passed rfl rfl rfl ?_
        refine l_passed rfl rfl rfl ?_
        refine l_val rfl rfl rfl (r_pickT (v := .bool true) rfl rfl) ?_
        refine l_val rfl rfl rfl (r_pickT (v := .bool true) rfl rfl) ?_
        refine l_val rfl rfl rfl (r_assign (v := .bool true) rfl) ?_
        refine l_nil ?_
        refine c_ret ?_
        obtain rfl := Option.some.inj H17
        refine ret1 (v := .bool true) rfl rfl (fin rfl)
      · have H18 := cnd_f hb H16; clear H16
        refine l_loadN (i := 3) (vs := [.int .i64 t16.1.W, .int .i64 t16.1.H, .slice p.1 t16.1.Pixels.length p.2]) Tryd.isAgg52 Tryd.sizeOf52 rfl rfl rfl rfl rfl ?_
        refine l_loadN (i := 5) (vs := [.int .i64 t22.1.W, .int .i64 t22.1.H, .slice p_2.1 t22.1.Pixels.length p_2.2]) Tryd.isAgg52 Tryd.sizeOf52 rfl rfl rfl rfl rfl ?_
        obtain ⟨t36, h_t36, H19⟩ := bnd_some H18; clear H18
        refine l_callG (fun w hF hS => k30 (know_all w) (frs_own (i := 2) rfl hS rfl) (frs_own (i := 4) rfl hS rfl) h_t36) Tryd.call30 rfl rfl rfl ?_
        refine l_val rfl rfl rfl (r_pickF (v := .bool t36) rfl rfl) ?_
        refine l_val rfl rfl rfl (r_pickT (v := .bool t36) rfl rfl) ?_
        refine l_val rfl rfl rfl (r_assign (v := .bool t36) rfl) ?_
        refine l_nil ?_
        refine c_ret ?_
        obtain rfl := Option.some.inj H19
        refine ret1 (v := .bool t36) rfl rfl (fin rfl)
    · have H20 := cnd_f hb H15; clear H15
      refine l_passed rfl rfl rfl ?_
      refine l_passed rfl rfl rfl ?_
      refine l_passed rfl rfl rfl ?_
      refine l_passed rfl rfl rfl ?_
      refine l_passed rfl rfl rfl ?_
      refine l_passed rfl rfl rfl ?_
      refine l_passed rfl rfl rfl ?_
      refine l_val rfl rfl rfl (r_pickF (v := .bool false) rfl rfl) ?_
      refine l_val rfl rfl rfl (r_assign (v := .bool false) rfl) ?_
      refine l_nil ?_
      refine c_ret ?_
      obtain rfl := Option.some.inj H20
      refine ret1 (v := .bool false) rfl rfl (fin rfl)
end Go.Proofs.YtinpjnlocahjjaaDoor
