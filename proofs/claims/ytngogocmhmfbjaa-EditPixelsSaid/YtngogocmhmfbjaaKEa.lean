/- Recipes, in common: the walks, printed by our generator; each follows its model. Conditions: the model yields a value. -/
import Derived.Test.YtngogocmhmfbjaaMEp
import Derived.Test.YtngogocmhmfbjaaProg
import Derived.Test.YtngogocmhmfbjaaLx10
namespace Go.Proofs.Ytngogocmhmfbjaa
open Go Go.Vc Go.Md Go.M Go.Lx
set_option maxRecDepth 100000
set_option maxHeartbeats 4000000
set_option linter.unusedVariables false

theorem mixed : Try.prog.follows .mixedOrders = true := by kernel_rfl

abbrev e_i64 (x : Int) : List Value := [.int .i64 x]
def fnR_func_int_int_int_bool (m : (Int → Int → Int → Option (Bool))) (w : World) (args : List Value) (post : Value → World → Prop) : Prop :=
  ∃ (a0 : Int) (a1 : Int) (a2 : Int) (r : Bool), args = [.int .i64 a0, .int .i64 a1, .int .i64 a2] ∧ m a0 a1 a2 = some r ∧ post = fun v' w' => v' = (.bool r) ∧ Grow w w'
abbrev e_edit_Step (x : T_edit_Step) : List Value := [.int .i64 x.Kind, .int .i64 x.A, .int .i64 x.B, .int .i64 x.C, .int .i64 x.D]
def fnR_func_int_int_int_int_int_int (m : (Int → Int → Int → Int → Option (Int × Int))) (w : World) (args : List Value) (post : Value → World → Prop) : Prop :=
  ∃ (a0 : Int) (a1 : Int) (a2 : Int) (a3 : Int) (r : Int × Int), args = [.int .i64 a0, .int .i64 a1, .int .i64 a2, .int .i64 a3] ∧ m a0 a1 a2 a3 = some r ∧ post = fun v' w' => v' = (.tuple #[.int .i64 r.1, .int .i64 r.2]) ∧ Grow w w'
def fnR_func_edit_Step_bool (m : (T_edit_Step → Option (Bool))) (w : World) (args : List Value) (post : Value → World → Prop) : Prop :=
  ∃ (a0 : T_edit_Step) (r : Bool), args = [.agg #[.int .i64 a0.Kind, .int .i64 a0.A, .int .i64 a0.B, .int .i64 a0.C, .int .i64 a0.D]] ∧ m a0 = some r ∧ post = fun v' w' => v' = (.bool r) ∧ Grow w w'
def fnR_func_uint8_uint8 (m : (Int → Option (Int))) (w : World) (args : List Value) (post : Value → World → Prop) : Prop :=
  ∃ (a0 : Int) (r : Int), args = [.int .u8 a0] ∧ m a0 = some r ∧ post = fun v' w' => v' = (.int .u8 r) ∧ Grow w w'
def fnR_func_3_uint8_3_uint8 (m : ((Nat → Int) → Option ((Nat → Int)))) (w : World) (args : List Value) (post : Value → World → Prop) : Prop :=
  ∃ (a0 : (Nat → Int)) (r : (Nat → Int)), args = [.agg #[.int .u8 (a0 0), .int .u8 (a0 1), .int .u8 (a0 2)]] ∧ m a0 = some r ∧ post = fun v' w' => v' = (.agg #[.int .u8 (r 0), .int .u8 (r 1), .int .u8 (r 2)]) ∧ Grow w w'

theorem run_eq_256_uint8 (w : World) (x y : (Nat → Int)) : (Op.equalIn Op.maxDepth 84 (.agg (arrC 256 fun j_ => [.int .u8 (x j_)]).toArray) (.agg (arrC 256 fun j_ => [.int .u8 (y j_)]).toArray)).run Try.prog w = .ok (eq_256_uint8 x y) w :=
  run_eqIntsC (dp := 9998) (len := 256) (k := .u8) (k' := .u8) x y Try.underlying84 Try.underlying5 Try.isAgg5 Try.sizeOf5 w

theorem run_eq_3_uint8 (w : World) (x y : (Nat → Int)) : (Op.equalIn Op.maxDepth 81 (.agg #[.int .u8 (x 0), .int .u8 (x 1), .int .u8 (x 2)]) (.agg #[.int .u8 (y 0), .int .u8 (y 1), .int .u8 (y 2)])).run Try.prog w = .ok (eq_3_uint8 x y) w :=
  run_eqInts (d := 9998) (len := 3) (k := .u8) (k' := .u8) ((List.range 3).map x) ((List.range 3).map y) (by simp) (by simp) Try.underlying81 Try.underlying5 Try.isAgg5 Try.sizeOf5 w

theorem k105 {a0 : Int} {r : Int} (H : R_numbersUsed a0 = some r) : Ret Try.prog 105 [.int .i64 a0] (.int .i64 r) := by
  refine enterRet (n := 7) Try.func105 rfl rfl rfl (fun wd => ?_)
  refine c_seq ?_
  refine c_region ?_
  refine l_val rfl rfl rfl (r_assign (v := .int .i64 0) rfl) ?_
  refine l_nil ?_
  refine c_seq ?_
  refine c_region ?_
  refine l_buildSlice (vs := [.int .i64 0, .int .i64 1, .int .i64 4, .int .i64 2, .int .i64 1, .int .i64 1, .int .i64 2, .int .i64 1, .int .i64 1, .int .i64 0]) (cs := [.int .i64 0, .int .i64 1, .int .i64 4, .int .i64 2, .int .i64 1, .int .i64 1, .int .i64 2, .int .i64 1, .int .i64 1, .int .i64 0]) Try.underlying148 Try.sizeOf3 Try.zeroValue3 rfl rfl rfl rfl rfl rfl rfl (fun b1 => ?_)
  refine l_val rfl rfl rfl (r_move (v := .int .i64 a0) rfl) ?_
  obtain ⟨t5, h_t5, H2⟩ := bnd_some H; clear H
  refine l_val rfl rfl rfl (r_indexS Try.underlying148 Try.sizeOf3 rfl rfl h_t5 rfl) ?_
  refine l_read (fun w hF hS => run_loadG1 (f := e_i64) (i := a0) (sz := 1) (j := 0) (v := .int .i64 t5) Try.isAgg3 rfl rfl (row_box (sz := 1) (xs := ([0, 1, 4, 2, 1, 1, 2, 1, 1, 0] : List Int).map e_i64) (i := 0) hS rfl rfl rfl) h_t5 rfl) rfl rfl rfl ?_
  refine l_val rfl rfl rfl (r_assign (v := .int .i64 t5) rfl) ?_
  refine l_nil ?_
  refine c_ret ?_
  obtain rfl := Option.some.inj H2
  refine ret1 (v := .int .i64 t5) rfl rfl (fin rfl)
theorem k106 {a0 : Int} {a1 : Int} {a2 : Int} {r : Bool} (H : R_StepFault_1 a0 a1 a2 = some r) : Ret Try.prog 106 [.int .i64 a0, .int .i64 a1, .int .i64 a2] (.bool r) := by
  refine enterRet (n := 15) Try.func106 rfl rfl rfl (fun wd => ?_)
  refine c_seq ?_
  refine c_region ?_
  refine l_val rfl rfl rfl (r_assign (v := .bool false) rfl) ?_
  refine l_nil ?_
  refine c_seq ?_
  refine c_region ?_
  refine l_val rfl rfl rfl (r_move (v := .int .i64 a0) rfl) ?_
  refine l_val rfl rfl rfl (r_move (v := .int .i64 a1) rfl) ?_
  refine l_val rfl rfl rfl (r_lss rfl rfl) ?_
  refine l_val rfl rfl rfl (r_move (v := .bool (decide (a0 < a1))) rfl) ?_
  refine split (fun hb => ?_) (fun hb => ?_)
  · have H3 := cnd_t hb H; clear H
    refine l_passed rfl rfl rfl ?_
    refine l_passed rfl rfl rfl ?_
    refine l_passed rfl rfl rfl ?_
    refine l_val rfl rfl rfl (r_pickT (v := .bool true) rfl rfl) ?_
    refine l_val rfl rfl rfl (r_assign (v := .bool true) rfl) ?_
    refine l_nil ?_
    refine c_ret ?_
    obtain rfl := Option.some.inj H3
    refine ret1 (v := .bool true) rfl rfl (fin rfl)
  · have H4 := cnd_f hb H; clear H
    refine l_val rfl rfl rfl (r_move (v := .int .i64 a0) rfl) ?_
    refine l_val rfl rfl rfl (r_move (v := .int .i64 a2) rfl) ?_
    refine l_val rfl rfl rfl (r_gtr rfl rfl) ?_
    refine l_val rfl rfl rfl (r_pickF (v := .bool (decide (a2 < a0))) rfl rfl) ?_
    refine l_val rfl rfl rfl (r_assign (v := .bool (decide (a2 < a0))) rfl) ?_
    refine l_nil ?_
    refine c_ret ?_
    obtain rfl := Option.some.inj H4
    refine ret1 (v := .bool (decide (a2 < a0))) rfl rfl (fin rfl)
theorem k41 {a0 : T_edit_Step} {r : Int} (H : R_StepFault a0 = some r) : Ret Try.prog 41 [.agg #[.int .i64 a0.Kind, .int .i64 a0.A, .int .i64 a0.B, .int .i64 a0.C, .int .i64 a0.D]] (.int .i64 r) := by
  refine enterRet (n := 131) Try.func41 rfl rfl rfl (fun wd => ?_)
  refine c_seq ?_
  refine c_region ?_
  refine l_box (cs := [.int .i64 a0.Kind, .int .i64 a0.A, .int .i64 a0.B, .int .i64 a0.C, .int .i64 a0.D]) rfl rfl rfl rfl (fun b2 => ?_)
  refine l_val rfl rfl rfl (r_assign (v := .int .i64 0) rfl) ?_
  refine l_nil ?_
  refine c_seq ?_
  refine c_seq ?_
  refine c_region ?_
  refine l_val rfl rfl rfl (r_field Try.runUnderlying69 rfl Try.sizeOf3 rfl rfl) ?_
  refine l_load1 (i := 0) (v := .int .i64 a0.Kind) Try.isAgg3 rfl rfl rfl rfl rfl ?_
  refine l_val rfl rfl rfl (r_lss rfl rfl) ?_
  refine l_val rfl rfl rfl (r_move (v := .bool (decide (a0.Kind < 1))) rfl) ?_
  refine split (fun hb => ?_) (fun hb => ?_)
  · have H63 := cnd_t hb H; clear H
    refine l_passed rfl rfl rfl ?_
    refine l_passed rfl rfl rfl ?_
    refine l_passed rfl rfl rfl ?_
    refine l_val rfl rfl rfl (r_pickT (v := .bool true) rfl rfl) ?_
    refine l_nil ?_
    refine c_true rfl ?_
    refine c_seq ?_
    refine c_region ?_
    refine l_val rfl rfl rfl (r_assign (v := .int .i64 10) rfl) ?_
    refine l_nil ?_
    refine c_ret ?_
    obtain rfl := Option.some.inj H63
    refine ret1 (v := .int .i64 10) rfl rfl (fin rfl)
  · have H64 := cnd_f hb H; clear H
    refine l_val rfl rfl rfl (r_field Try.runUnderlying69 rfl Try.sizeOf3 rfl rfl) ?_
    refine l_load1 (i := 0) (v := .int .i64 a0.Kind) Try.isAgg3 rfl rfl rfl rfl rfl ?_
    refine l_val rfl rfl rfl (r_gtr rfl rfl) ?_
    refine l_val rfl rfl rfl (r_pickF (v := .bool (decide (9 < a0.Kind))) rfl rfl) ?_
    refine l_nil ?_
    refine c_if (b := (decide (9 < a0.Kind))) rfl (fun hb => ?_) (fun hb => ?_)
    · have H65 := cnd_t hb H64; clear H64
      refine c_seq ?_
      refine c_region ?_
      refine l_val rfl rfl rfl (r_assign (v := .int .i64 10) rfl) ?_
      refine l_nil ?_
      refine c_ret ?_
      obtain rfl := Option.some.inj H65
      refine ret1 (v := .int .i64 10) rfl rfl (fin rfl)
    · have H66 := cnd_f hb H64; clear H64
      refine c_skip ?_
      refine c_meet (r := r) (σ := Unit) (τ := Unit) (fun s => R_StepFault_j1 a0) (fun s t => [(1, .pointer (some ⟨b2, 0, none⟩))]) (fun s t => [cellsC b2 [.int .i64 a0.Kind, .int .i64 a0.A, .int .i64 a0.B, .int .i64 a0.C, .int .i64 a0.D] 69]) (fun s t => True) ?_ ?_
      · refine c_seq ?_
        refine c_region ?_
        refine l_val rfl rfl rfl (r_field Try.runUnderlying69 rfl Try.sizeOf3 rfl rfl) ?_
        refine l_load1 (i := 0) (v := .int .i64 a0.A) Try.isAgg3 rfl rfl rfl rfl rfl ?_
        refine l_val rfl rfl rfl (r_field Try.runUnderlying69 rfl Try.sizeOf3 rfl rfl) ?_
        refine l_load1 (i := 0) (v := .int .i64 a0.B) Try.isAgg3 rfl rfl rfl rfl rfl ?_
        refine l_val rfl rfl rfl (r_field Try.runUnderlying69 rfl Try.sizeOf3 rfl rfl) ?_
        refine l_load1 (i := 0) (v := .int .i64 a0.C) Try.isAgg3 rfl rfl rfl rfl rfl ?_
        refine l_val rfl rfl rfl (r_field Try.runUnderlying69 rfl Try.sizeOf3 rfl rfl) ?_
        refine l_load1 (i := 0) (v := .int .i64 a0.D) Try.isAgg3 rfl rfl rfl rfl rfl ?_
        refine l_buildSlice (vs := [.int .i64 a0.A, .int .i64 a0.B, .int .i64 a0.C, .int .i64 a0.D]) (cs := [.int .i64 a0.A, .int .i64 a0.B, .int .i64 a0.C, .int .i64 a0.D]) Try.underlying148 Try.sizeOf3 Try.zeroValue3 rfl rfl rfl rfl rfl rfl rfl (fun b3 => ?_)
        refine l_val rfl rfl rfl (r_len Try.underlying148 rfl) ?_
        refine l_val rfl rfl rfl (r_move (v := .int .i64 0) rfl) ?_
        refine l_nil ?_
        refine c_block ?_
        refine c_fix (σ := Int) (τ := Unit) (fun next3 s => R_StepFault_l3 a0 next3 s) (fun s t => [(1, .pointer (some ⟨b2, 0, none⟩)), (23, .slice (some ⟨b3, 0, none⟩) 4 4), (24, .int .i64 4), (25, .int .i64 s)]) (fun s t => [cellsC b2 [.int .i64 a0.Kind, .int .i64 a0.A, .int .i64 a0.B, .int .i64 a0.C, .int .i64 a0.D] 69, cellsC b3 [.int .i64 a0.A, .int .i64 a0.B, .int .i64 a0.C, .int .i64 a0.D] 3]) (fun s t => True) 0 () [0, 1] H66 (by exact trivial) (by exact ⟨rfl, rfl, rfl, rfl, trivial⟩) (by decide) rfl ?_
        rintro x25_2 _ m3 gg H114 _
        clear H66
        replace H114 : R_StepFault_l3 a0 (it (fun next3 s => R_StepFault_l3 a0 next3 s) m3) x25_2 = some r := H114
        generalize hn3 : it (fun next3 s => R_StepFault_l3 a0 next3 s) m3 = next3 at H114
        refine c_tidyF [(1, .pointer (some ⟨b2, 0, none⟩)), (23, .slice (some ⟨b3, 0, none⟩) 4 4), (24, .int .i64 4), (25, .int .i64 x25_2)] [cellsC b2 [.int .i64 a0.Kind, .int .i64 a0.A, .int .i64 a0.B, .int .i64 a0.C, .int .i64 a0.D] 69, cellsC b3 [.int .i64 a0.A, .int .i64 a0.B, .int .i64 a0.C, .int .i64 a0.D] 3] rfl rfl ?_
        refine c_seq ?_
        refine c_region ?_
        refine l_val rfl rfl rfl (r_lss rfl rfl) ?_
        refine l_nil ?_
        refine c_seq ?_
        refine c_if (b := (decide (x25_2 < 4))) rfl (fun hb => ?_) (fun hb => ?_)
        · have H115 := cnd_t hb H114; clear H114
          refine c_skip ?_
          refine c_meet (r := r) (σ := Unit) (τ := Unit) (fun s => R_StepFault_j4 x25_2 next3) (fun s t => [(1, .pointer (some ⟨b2, 0, none⟩)), (23, .slice (some ⟨b3, 0, none⟩) 4 4), (24, .int .i64 4), (25, .int .i64 x25_2)]) (fun s t => [cellsC b2 [.int .i64 a0.Kind, .int .i64 a0.A, .int .i64 a0.B, .int .i64 a0.C, .int .i64 a0.D] 69, cellsC b3 [.int .i64 a0.A, .int .i64 a0.B, .int .i64 a0.C, .int .i64 a0.D] 3]) (fun s t => True) ?_ ?_
          · refine c_block ?_
            refine c_seq ?_
            refine c_region ?_
            refine l_val rfl rfl rfl (r_move (v := .int .i64 x25_2) rfl) ?_
            obtain ⟨t28, h_t28, H118⟩ := bnd_some H115; clear H115
            refine l_val rfl rfl rfl (r_indexS Try.underlying148 Try.sizeOf3 rfl rfl h_t28 rfl) ?_
            refine l_read (fun w hF hS => run_loadG1 (f := e_i64) (i := x25_2) (sz := 1) (j := 0) (v := .int .i64 t28) Try.isAgg3 rfl rfl (row_box (sz := 1) (xs := ([a0.A, a0.B, a0.C, a0.D] : List Int).map e_i64) (i := 1) hS rfl rfl rfl) h_t28 rfl) rfl rfl rfl ?_
            refine l_val rfl rfl rfl (r_assign (v := .int .i64 x25_2) rfl) ?_
            refine l_val rfl rfl rfl (r_assign (v := .int .i64 t28) rfl) ?_
            refine l_nil ?_
            refine c_seq ?_
            refine c_region ?_
            refine l_val rfl rfl rfl (r_move (v := .int .i64 x25_2) rfl) ?_
            refine l_val rfl rfl rfl (r_field Try.runUnderlying69 rfl Try.sizeOf3 rfl rfl) ?_
            refine l_load1 (i := 0) (v := .int .i64 a0.Kind) Try.isAgg3 rfl rfl rfl rfl rfl ?_
            obtain ⟨t33, h_t33, H119⟩ := bnd_some H118; clear H118
            refine l_call (k105 h_t33) Try.call105 rfl rfl rfl ?_
            refine l_val rfl rfl rfl (r_geq rfl rfl) ?_
            refine l_val rfl rfl rfl (r_move (v := .bool (decide (t33 ≤ x25_2))) rfl) ?_
            refine split (fun hb => ?_) (fun hb => ?_)
            · have H120 := cnd_t hb H119; clear H119
              refine l_val rfl rfl rfl (r_move (v := .int .i64 t28) rfl) ?_
              refine l_val rfl rfl rfl (r_neq rfl rfl) ?_
              refine l_val rfl rfl rfl (r_pickT (v := .bool (decide (t28 ≠ 0))) rfl rfl) ?_
              refine l_nil ?_
              refine c_if (b := (decide (t28 ≠ 0))) rfl (fun hb => ?_) (fun hb => ?_)
              · have H121 := cnd_t hb H120; clear H120
                refine c_seq ?_
                refine c_region ?_
                refine l_val rfl rfl rfl (r_assign (v := .int .i64 1) rfl) ?_
                refine l_nil ?_
                refine c_ret ?_
                obtain rfl := Option.some.inj H121
                refine ret1 (v := .int .i64 1) rfl rfl (fin rfl)
              · have H122 := cnd_f hb H120; clear H120
                refine c_skip ?_
                refine c_close () () 0 [0, 1] (by exact ⟨rfl, rfl, rfl, rfl, trivial⟩) (by decide) rfl (by exact ⟨H122, trivial⟩) (Nat.lt_succ_self _)
            · have H123 := cnd_f hb H119; clear H119
              refine l_passed rfl rfl rfl ?_
              refine l_passed rfl rfl rfl ?_
              refine l_val rfl rfl rfl (r_pickF (v := .bool false) rfl rfl) ?_
              refine l_nil ?_
              refine c_false rfl ?_
              refine c_skip ?_
              refine c_close () () 0 [0, 1] (by exact ⟨rfl, rfl, rfl, rfl, trivial⟩) (by decide) rfl (by exact ⟨H123, trivial⟩) (Nat.lt_succ_self _)
          · rintro _ _ gg H116 _
            replace H116 : R_StepFault_j4 x25_2 next3 = some r := H116
            refine c_tidyF [(1, .pointer (some ⟨b2, 0, none⟩)), (23, .slice (some ⟨b3, 0, none⟩) 4 4), (24, .int .i64 4), (25, .int .i64 x25_2)] [cellsC b2 [.int .i64 a0.Kind, .int .i64 a0.A, .int .i64 a0.B, .int .i64 a0.C, .int .i64 a0.D] 69, cellsC b3 [.int .i64 a0.A, .int .i64 a0.B, .int .i64 a0.C, .int .i64 a0.D] 3] rfl rfl ?_
            refine c_region ?_
            obtain ⟨t39, h_t39, H117⟩ := bnd_some H116; clear H116
            refine l_val rfl rfl rfl (r_addG rfl rfl h_t39) ?_
            refine l_val rfl rfl rfl (r_move (v := .int .i64 t39) rfl) ?_
            refine l_nil ?_
            refine c_close t39 () m3 [0, 1] (by exact ⟨rfl, rfl, rfl, rfl, trivial⟩) (by decide) rfl (by exact ⟨(by subst hn3; exact H117), trivial⟩) (Nat.lt_succ_self _)
        · have H124 := cnd_f hb H114; clear H114
          refine c_exit ?_
          refine c_close () () 0 [0] (by exact ⟨rfl, trivial⟩) (by decide) rfl (by exact ⟨H124, trivial⟩) (Nat.lt_succ_self _)
      · rintro _ _ gg H67 _
        replace H67 : R_StepFault_j1 a0 = some r := H67
        refine c_tidyF [(1, .pointer (some ⟨b2, 0, none⟩))] [cellsC b2 [.int .i64 a0.Kind, .int .i64 a0.A, .int .i64 a0.B, .int .i64 a0.C, .int .i64 a0.D] 69] rfl rfl ?_
        refine c_seq ?_
        refine c_region ?_
        refine l_val rfl rfl rfl (r_assign (v := .func (.func 106) #[] #[]) rfl) ?_
        refine l_nil ?_
        refine c_seq ?_
        refine c_region ?_
        refine l_val rfl rfl rfl (r_assign (v := .bool false) rfl) ?_
        refine l_nil ?_
        refine c_meet (r := r) (σ := Bool) (τ := Unit) (fun s => R_StepFault_j2 a0 s) (fun s t => [(1, .pointer (some ⟨b2, 0, none⟩)), (6, .bool s)]) (fun s t => [cellsC b2 [.int .i64 a0.Kind, .int .i64 a0.A, .int .i64 a0.B, .int .i64 a0.C, .int .i64 a0.D] 69]) (fun s t => True) ?_ ?_
        · refine c_seq ?_
          refine c_region ?_
          refine l_val rfl rfl rfl (r_field Try.runUnderlying69 rfl Try.sizeOf3 rfl rfl) ?_
          refine l_load1 (i := 0) (v := .int .i64 a0.Kind) Try.isAgg3 rfl rfl rfl rfl rfl ?_
          refine l_nil ?_
          refine c_block ?_
          refine c_seq ?_
          refine c_region ?_
          refine l_val rfl rfl rfl (r_eql rfl rfl) ?_
          refine l_val rfl rfl rfl (r_assign (v := .bool (decide (a0.Kind = 1))) rfl) ?_
          refine l_nil ?_
          refine c_if (b := (decide (a0.Kind = 1))) rfl (fun hb => ?_) (fun hb => ?_)
          · have H75 := cnd_t hb H67; clear H67
            refine c_region ?_
            refine l_val rfl rfl rfl (r_move (v := .func (.func 106) #[] #[]) rfl) ?_
            refine l_val rfl rfl rfl (r_field Try.runUnderlying69 rfl Try.sizeOf3 rfl rfl) ?_
            refine l_load1 (i := 0) (v := .int .i64 a0.A) Try.isAgg3 rfl rfl rfl rfl rfl ?_
            obtain ⟨t47, h_t47, H76⟩ := bnd_some H75; clear H75
            refine l_callV (R := fnR_func_int_int_int_bool R_StepFault_1) (r := .bool t47) (v := .func (.func 106) #[] #[]) (fun w hF hS => ⟨(FnH.mk ⟨106, #[], #[], rfl, Try.call106, fun args2 post2 w2 hk2 hR2 => by obtain ⟨a0_, a1_, a2_, r_, rfl, H_, rfl⟩ := hR2; exact k106 H_ w2⟩), ⟨a0.A, 1, 8, _, rfl, h_t47, rfl⟩⟩) rfl rfl rfl rfl ?_
            refine l_val rfl rfl rfl (r_assign (v := .bool t47) rfl) ?_
            refine l_nil ?_
            refine c_close t47 () 0 [0] (by exact ⟨rfl, rfl, trivial⟩) (by decide) rfl (by exact ⟨H76, trivial⟩) (Nat.lt_succ_self _)
          · have H77 := cnd_f hb H67; clear H67
            refine c_seq ?_
            refine c_region ?_
            refine l_val rfl rfl rfl (r_eql rfl rfl) ?_
            refine l_val rfl rfl rfl (r_assign (v := .bool (decide (a0.Kind = 2))) rfl) ?_
            refine l_nil ?_
            refine c_if (b := (decide (a0.Kind = 2))) rfl (fun hb => ?_) (fun hb => ?_)
            · have H78 := cnd_t hb H77; clear H77
              refine c_region ?_
              refine l_val rfl rfl rfl (r_move (v := .func (.func 106) #[] #[]) rfl) ?_
              refine l_val rfl rfl rfl (r_field Try.runUnderlying69 rfl Try.sizeOf3 rfl rfl) ?_
              refine l_load1 (i := 0) (v := .int .i64 a0.A) Try.isAgg3 rfl rfl rfl rfl rfl ?_
              obtain ⟨t53, h_t53, H79⟩ := bnd_some H78; clear H78
              refine l_callV (R := fnR_func_int_int_int_bool R_StepFault_1) (r := .bool t53) (v := .func (.func 106) #[] #[]) (fun w hF hS => ⟨(FnH.mk ⟨106, #[], #[], rfl, Try.call106, fun args2 post2 w2 hk2 hR2 => by obtain ⟨a0_, a1_, a2_, r_, rfl, H_, rfl⟩ := hR2; exact k106 H_ w2⟩), ⟨a0.A, 0, 63, _, rfl, h_t53, rfl⟩⟩) rfl rfl rfl rfl ?_
              refine l_val rfl rfl rfl (r_move (v := .bool t53) rfl) ?_
              refine split (fun hb => ?_) (fun hb => ?_)
              · have H80 := cnd_t hb H79; clear H79
                refine l_passed rfl rfl rfl ?_
                refine l_passed rfl rfl rfl ?_
                refine l_passed rfl rfl rfl ?_
                refine l_passed rfl rfl rfl ?_
                refine l_val rfl rfl rfl (r_pickT (v := .bool true) rfl rfl) ?_
                refine l_val rfl rfl rfl (r_move (v := .bool true) rfl) ?_
                refine l_passed rfl rfl rfl ?_
                refine l_passed rfl rfl rfl ?_
                refine l_passed rfl rfl rfl ?_
                refine l_passed rfl rfl rfl ?_
                refine l_val rfl rfl rfl (r_pickT (v := .bool true) rfl rfl) ?_
                refine l_val rfl rfl rfl (r_move (v := .bool true) rfl) ?_
                refine l_passed rfl rfl rfl ?_
                refine l_passed rfl rfl rfl ?_
                refine l_passed rfl rfl rfl ?_
                refine l_passed rfl rfl rfl ?_
                refine l_val rfl rfl rfl (r_pickT (v := .bool true) rfl rfl) ?_
                refine l_val rfl rfl rfl (r_assign (v := .bool true) rfl) ?_
                refine l_nil ?_
                refine c_close true () 0 [0] (by exact ⟨rfl, rfl, trivial⟩) (by decide) rfl (by exact ⟨H80, trivial⟩) (Nat.lt_succ_self _)
              · have H81 := cnd_f hb H79; clear H79
                refine l_val rfl rfl rfl (r_move (v := .func (.func 106) #[] #[]) rfl) ?_
                refine l_val rfl rfl rfl (r_field Try.runUnderlying69 rfl Try.sizeOf3 rfl rfl) ?_
                refine l_load1 (i := 0) (v := .int .i64 a0.B) Try.isAgg3 rfl rfl rfl rfl rfl ?_
                obtain ⟨t58, h_t58, H82⟩ := bnd_some H81; clear H81
                refine l_callV (R := fnR_func_int_int_int_bool R_StepFault_1) (r := .bool t58) (v := .func (.func 106) #[] #[]) (fun w hF hS => ⟨(FnH.mk ⟨106, #[], #[], rfl, Try.call106, fun args2 post2 w2 hk2 hR2 => by obtain ⟨a0_, a1_, a2_, r_, rfl, H_, rfl⟩ := hR2; exact k106 H_ w2⟩), ⟨a0.B, 0, 63, _, rfl, h_t58, rfl⟩⟩) rfl rfl rfl rfl ?_
                refine l_val rfl rfl rfl (r_pickF (v := .bool t58) rfl rfl) ?_
                refine l_val rfl rfl rfl (r_move (v := .bool t58) rfl) ?_
                refine split (fun hb => ?_) (fun hb => ?_)
                · have H83 := cnd_t hb H82; clear H82
                  refine l_passed rfl rfl rfl ?_
                  refine l_passed rfl rfl rfl ?_
                  refine l_passed rfl rfl rfl ?_
                  refine l_passed rfl rfl rfl ?_
                  refine l_val rfl rfl rfl (r_pickT (v := .bool true) rfl rfl) ?_
                  refine l_val rfl rfl rfl (r_move (v := .bool true) rfl) ?_
                  refine l_passed rfl rfl rfl ?_
                  refine l_passed rfl rfl rfl ?_
                  refine l_passed rfl rfl rfl ?_
                  refine l_passed rfl rfl rfl ?_
                  refine l_val rfl rfl rfl (r_pickT (v := .bool true) rfl rfl) ?_
                  refine l_val rfl rfl rfl (r_assign (v := .bool true) rfl) ?_
                  refine l_nil ?_
                  refine c_close true () 0 [0] (by exact ⟨rfl, rfl, trivial⟩) (by decide) rfl (by exact ⟨H83, trivial⟩) (Nat.lt_succ_self _)
                · have H84 := cnd_f hb H82; clear H82
                  refine l_val rfl rfl rfl (r_move (v := .func (.func 106) #[] #[]) rfl) ?_
                  refine l_val rfl rfl rfl (r_field Try.runUnderlying69 rfl Try.sizeOf3 rfl rfl) ?_
                  refine l_load1 (i := 0) (v := .int .i64 a0.C) Try.isAgg3 rfl rfl rfl rfl rfl ?_
                  obtain ⟨t64, h_t64, H85⟩ := bnd_some H84; clear H84
                  refine l_callV (R := fnR_func_int_int_int_bool R_StepFault_1) (r := .bool t64) (v := .func (.func 106) #[] #[]) (fun w hF hS => ⟨(FnH.mk ⟨106, #[], #[], rfl, Try.call106, fun args2 post2 w2 hk2 hR2 => by obtain ⟨a0_, a1_, a2_, r_, rfl, H_, rfl⟩ := hR2; exact k106 H_ w2⟩), ⟨a0.C, 1, 64, _, rfl, h_t64, rfl⟩⟩) rfl rfl rfl rfl ?_
                  refine l_val rfl rfl rfl (r_pickF (v := .bool t64) rfl rfl) ?_
                  refine l_val rfl rfl rfl (r_move (v := .bool t64) rfl) ?_
                  refine split (fun hb => ?_) (fun hb => ?_)
                  · have H86 := cnd_t hb H85; clear H85
                    refine l_passed rfl rfl rfl ?_
                    refine l_passed rfl rfl rfl ?_
                    refine l_passed rfl rfl rfl ?_
                    refine l_passed rfl rfl rfl ?_
                    refine l_val rfl rfl rfl (r_pickT (v := .bool true) rfl rfl) ?_
                    refine l_val rfl rfl rfl (r_assign (v := .bool true) rfl) ?_
                    refine l_nil ?_
                    refine c_close true () 0 [0] (by exact ⟨rfl, rfl, trivial⟩) (by decide) rfl (by exact ⟨H86, trivial⟩) (Nat.lt_succ_self _)
                  · have H87 := cnd_f hb H85; clear H85
                    refine l_val rfl rfl rfl (r_move (v := .func (.func 106) #[] #[]) rfl) ?_
                    refine l_val rfl rfl rfl (r_field Try.runUnderlying69 rfl Try.sizeOf3 rfl rfl) ?_
                    refine l_load1 (i := 0) (v := .int .i64 a0.D) Try.isAgg3 rfl rfl rfl rfl rfl ?_
                    obtain ⟨t70, h_t70, H88⟩ := bnd_some H87; clear H87
                    refine l_callV (R := fnR_func_int_int_int_bool R_StepFault_1) (r := .bool t70) (v := .func (.func 106) #[] #[]) (fun w hF hS => ⟨(FnH.mk ⟨106, #[], #[], rfl, Try.call106, fun args2 post2 w2 hk2 hR2 => by obtain ⟨a0_, a1_, a2_, r_, rfl, H_, rfl⟩ := hR2; exact k106 H_ w2⟩), ⟨a0.D, 1, 64, _, rfl, h_t70, rfl⟩⟩) rfl rfl rfl rfl ?_
                    refine l_val rfl rfl rfl (r_pickF (v := .bool t70) rfl rfl) ?_
                    refine l_val rfl rfl rfl (r_assign (v := .bool t70) rfl) ?_
                    refine l_nil ?_
                    refine c_close t70 () 0 [0] (by exact ⟨rfl, rfl, trivial⟩) (by decide) rfl (by exact ⟨H88, trivial⟩) (Nat.lt_succ_self _)
            · have H89 := cnd_f hb H77; clear H77
              refine c_seq ?_
              refine c_region ?_
              refine l_val rfl rfl rfl (r_eql rfl rfl) ?_
              refine l_val rfl rfl rfl (r_assign (v := .bool (decide (a0.Kind = 3))) rfl) ?_
              refine l_nil ?_
              refine c_if (b := (decide (a0.Kind = 3))) rfl (fun hb => ?_) (fun hb => ?_)
              · have H90 := cnd_t hb H89; clear H89
                refine c_region ?_
                refine l_val rfl rfl rfl (r_move (v := .func (.func 106) #[] #[]) rfl) ?_
                refine l_val rfl rfl rfl (r_field Try.runUnderlying69 rfl Try.sizeOf3 rfl rfl) ?_
                refine l_load1 (i := 0) (v := .int .i64 a0.A) Try.isAgg3 rfl rfl rfl rfl rfl ?_
                obtain ⟨t77, h_t77, H91⟩ := bnd_some H90; clear H90
                refine l_callV (R := fnR_func_int_int_int_bool R_StepFault_1) (r := .bool t77) (v := .func (.func 106) #[] #[]) (fun w hF hS => ⟨(FnH.mk ⟨106, #[], #[], rfl, Try.call106, fun args2 post2 w2 hk2 hR2 => by obtain ⟨a0_, a1_, a2_, r_, rfl, H_, rfl⟩ := hR2; exact k106 H_ w2⟩), ⟨a0.A, 1, 64, _, rfl, h_t77, rfl⟩⟩) rfl rfl rfl rfl ?_
                refine l_val rfl rfl rfl (r_move (v := .bool t77) rfl) ?_
                refine split (fun hb => ?_) (fun hb => ?_)
                · have H92 := cnd_t hb H91; clear H91
                  refine l_passed rfl rfl rfl ?_
                  refine l_passed rfl rfl rfl ?_
                  refine l_passed rfl rfl rfl ?_
                  refine l_passed rfl rfl rfl ?_
                  refine l_val rfl rfl rfl (r_pickT (v := .bool true) rfl rfl) ?_
                  refine l_val rfl rfl rfl (r_assign (v := .bool true) rfl) ?_
                  refine l_nil ?_
                  refine c_close true () 0 [0] (by exact ⟨rfl, rfl, trivial⟩) (by decide) rfl (by exact ⟨H92, trivial⟩) (Nat.lt_succ_self _)
                · have H93 := cnd_f hb H91; clear H91
                  refine l_val rfl rfl rfl (r_move (v := .func (.func 106) #[] #[]) rfl) ?_
                  refine l_val rfl rfl rfl (r_field Try.runUnderlying69 rfl Try.sizeOf3 rfl rfl) ?_
                  refine l_load1 (i := 0) (v := .int .i64 a0.B) Try.isAgg3 rfl rfl rfl rfl rfl ?_
                  obtain ⟨t82, h_t82, H94⟩ := bnd_some H93; clear H93
                  refine l_callV (R := fnR_func_int_int_int_bool R_StepFault_1) (r := .bool t82) (v := .func (.func 106) #[] #[]) (fun w hF hS => ⟨(FnH.mk ⟨106, #[], #[], rfl, Try.call106, fun args2 post2 w2 hk2 hR2 => by obtain ⟨a0_, a1_, a2_, r_, rfl, H_, rfl⟩ := hR2; exact k106 H_ w2⟩), ⟨a0.B, 1, 64, _, rfl, h_t82, rfl⟩⟩) rfl rfl rfl rfl ?_
                  refine l_val rfl rfl rfl (r_pickF (v := .bool t82) rfl rfl) ?_
                  refine l_val rfl rfl rfl (r_assign (v := .bool t82) rfl) ?_
                  refine l_nil ?_
                  refine c_close t82 () 0 [0] (by exact ⟨rfl, rfl, trivial⟩) (by decide) rfl (by exact ⟨H94, trivial⟩) (Nat.lt_succ_self _)
              · have H95 := cnd_f hb H89; clear H89
                refine c_seq ?_
                refine c_region ?_
                refine l_val rfl rfl rfl (r_eql rfl rfl) ?_
                refine l_val rfl rfl rfl (r_assign (v := .bool (decide (a0.Kind = 4))) rfl) ?_
                refine l_nil ?_
                refine c_if (b := (decide (a0.Kind = 4))) rfl (fun hb => ?_) (fun hb => ?_)
                · have H96 := cnd_t hb H95; clear H95
                  refine c_region ?_
                  refine l_val rfl rfl rfl (r_move (v := .func (.func 106) #[] #[]) rfl) ?_
                  refine l_val rfl rfl rfl (r_field Try.runUnderlying69 rfl Try.sizeOf3 rfl rfl) ?_
                  refine l_load1 (i := 0) (v := .int .i64 a0.A) Try.isAgg3 rfl rfl rfl rfl rfl ?_
                  obtain ⟨t89, h_t89, H97⟩ := bnd_some H96; clear H96
                  refine l_callV (R := fnR_func_int_int_int_bool R_StepFault_1) (r := .bool t89) (v := .func (.func 106) #[] #[]) (fun w hF hS => ⟨(FnH.mk ⟨106, #[], #[], rfl, Try.call106, fun args2 post2 w2 hk2 hR2 => by obtain ⟨a0_, a1_, a2_, r_, rfl, H_, rfl⟩ := hR2; exact k106 H_ w2⟩), ⟨a0.A, (-255), 255, _, rfl, h_t89, rfl⟩⟩) rfl rfl rfl rfl ?_
                  refine l_val rfl rfl rfl (r_assign (v := .bool t89) rfl) ?_
                  refine l_nil ?_
                  refine c_close t89 () 0 [0] (by exact ⟨rfl, rfl, trivial⟩) (by decide) rfl (by exact ⟨H97, trivial⟩) (Nat.lt_succ_self _)
                · have H98 := cnd_f hb H95; clear H95
                  refine c_seq ?_
                  refine c_region ?_
                  refine l_val rfl rfl rfl (r_eql rfl rfl) ?_
                  refine l_val rfl rfl rfl (r_assign (v := .bool (decide (a0.Kind = 5))) rfl) ?_
                  refine l_nil ?_
                  refine c_if (b := (decide (a0.Kind = 5))) rfl (fun hb => ?_) (fun hb => ?_)
                  · have H99 := cnd_t hb H98; clear H98
                    refine c_region ?_
                    refine l_val rfl rfl rfl (r_move (v := .func (.func 106) #[] #[]) rfl) ?_
                    refine l_val rfl rfl rfl (r_field Try.runUnderlying69 rfl Try.sizeOf3 rfl rfl) ?_
                    refine l_load1 (i := 0) (v := .int .i64 a0.A) Try.isAgg3 rfl rfl rfl rfl rfl ?_
                    obtain ⟨t95, h_t95, H100⟩ := bnd_some H99; clear H99
                    refine l_callV (R := fnR_func_int_int_int_bool R_StepFault_1) (r := .bool t95) (v := .func (.func 106) #[] #[]) (fun w hF hS => ⟨(FnH.mk ⟨106, #[], #[], rfl, Try.call106, fun args2 post2 w2 hk2 hR2 => by obtain ⟨a0_, a1_, a2_, r_, rfl, H_, rfl⟩ := hR2; exact k106 H_ w2⟩), ⟨a0.A, 0, 400, _, rfl, h_t95, rfl⟩⟩) rfl rfl rfl rfl ?_
                    refine l_val rfl rfl rfl (r_assign (v := .bool t95) rfl) ?_
                    refine l_nil ?_
                    refine c_close t95 () 0 [0] (by exact ⟨rfl, rfl, trivial⟩) (by decide) rfl (by exact ⟨H100, trivial⟩) (Nat.lt_succ_self _)
                  · have H101 := cnd_f hb H98; clear H98
                    refine c_seq ?_
                    refine c_region ?_
                    refine l_val rfl rfl rfl (r_eql rfl rfl) ?_
                    refine l_val rfl rfl rfl (r_assign (v := .bool (decide (a0.Kind = 6))) rfl) ?_
                    refine l_nil ?_
                    refine c_if (b := (decide (a0.Kind = 6))) rfl (fun hb => ?_) (fun hb => ?_)
                    · have H102 := cnd_t hb H101; clear H101
                      refine c_region ?_
                      refine l_val rfl rfl rfl (r_move (v := .func (.func 106) #[] #[]) rfl) ?_
                      refine l_val rfl rfl rfl (r_field Try.runUnderlying69 rfl Try.sizeOf3 rfl rfl) ?_
                      refine l_load1 (i := 0) (v := .int .i64 a0.A) Try.isAgg3 rfl rfl rfl rfl rfl ?_
                      obtain ⟨t101, h_t101, H103⟩ := bnd_some H102; clear H102
                      refine l_callV (R := fnR_func_int_int_int_bool R_StepFault_1) (r := .bool t101) (v := .func (.func 106) #[] #[]) (fun w hF hS => ⟨(FnH.mk ⟨106, #[], #[], rfl, Try.call106, fun args2 post2 w2 hk2 hR2 => by obtain ⟨a0_, a1_, a2_, r_, rfl, H_, rfl⟩ := hR2; exact k106 H_ w2⟩), ⟨a0.A, 0, 255, _, rfl, h_t101, rfl⟩⟩) rfl rfl rfl rfl ?_
                      refine l_val rfl rfl rfl (r_move (v := .bool t101) rfl) ?_
                      refine split (fun hb => ?_) (fun hb => ?_)
                      · have H104 := cnd_t hb H103; clear H103
                        refine l_passed rfl rfl rfl ?_
                        refine l_passed rfl rfl rfl ?_
                        refine l_passed rfl rfl rfl ?_
                        refine l_passed rfl rfl rfl ?_
                        refine l_val rfl rfl rfl (r_pickT (v := .bool true) rfl rfl) ?_
                        refine l_val rfl rfl rfl (r_assign (v := .bool true) rfl) ?_
                        refine l_nil ?_
                        refine c_close true () 0 [0] (by exact ⟨rfl, rfl, trivial⟩) (by decide) rfl (by exact ⟨H104, trivial⟩) (Nat.lt_succ_self _)
                      · have H105 := cnd_f hb H103; clear H103
                        refine l_val rfl rfl rfl (r_move (v := .func (.func 106) #[] #[]) rfl) ?_
                        refine l_val rfl rfl rfl (r_field Try.runUnderlying69 rfl Try.sizeOf3 rfl rfl) ?_
                        refine l_load1 (i := 0) (v := .int .i64 a0.B) Try.isAgg3 rfl rfl rfl rfl rfl ?_
                        obtain ⟨t106, h_t106, H106⟩ := bnd_some H105; clear H105
                        refine l_callV (R := fnR_func_int_int_int_bool R_StepFault_1) (r := .bool t106) (v := .func (.func 106) #[] #[]) (fun w hF hS => ⟨(FnH.mk ⟨106, #[], #[], rfl, Try.call106, fun args2 post2 w2 hk2 hR2 => by obtain ⟨a0_, a1_, a2_, r_, rfl, H_, rfl⟩ := hR2; exact k106 H_ w2⟩), ⟨a0.B, 0, 255, _, rfl, h_t106, rfl⟩⟩) rfl rfl rfl rfl ?_
                        refine l_val rfl rfl rfl (r_pickF (v := .bool t106) rfl rfl) ?_
                        refine l_val rfl rfl rfl (r_assign (v := .bool t106) rfl) ?_
                        refine l_nil ?_
                        refine c_close t106 () 0 [0] (by exact ⟨rfl, rfl, trivial⟩) (by decide) rfl (by exact ⟨H106, trivial⟩) (Nat.lt_succ_self _)
                    · have H107 := cnd_f hb H101; clear H101
                      refine c_seq ?_
                      refine c_region ?_
                      refine l_val rfl rfl rfl (r_eql rfl rfl) ?_
                      refine l_val rfl rfl rfl (r_assign (v := .bool (decide (a0.Kind = 7))) rfl) ?_
                      refine l_nil ?_
                      refine c_if (b := (decide (a0.Kind = 7))) rfl (fun hb => ?_) (fun hb => ?_)
                      · have H108 := cnd_t hb H107; clear H107
                        refine c_region ?_
                        refine l_val rfl rfl rfl (r_move (v := .func (.func 106) #[] #[]) rfl) ?_
                        refine l_val rfl rfl rfl (r_field Try.runUnderlying69 rfl Try.sizeOf3 rfl rfl) ?_
                        refine l_load1 (i := 0) (v := .int .i64 a0.A) Try.isAgg3 rfl rfl rfl rfl rfl ?_
                        obtain ⟨t113, h_t113, H109⟩ := bnd_some H108; clear H108
                        refine l_callV (R := fnR_func_int_int_int_bool R_StepFault_1) (r := .bool t113) (v := .func (.func 106) #[] #[]) (fun w hF hS => ⟨(FnH.mk ⟨106, #[], #[], rfl, Try.call106, fun args2 post2 w2 hk2 hR2 => by obtain ⟨a0_, a1_, a2_, r_, rfl, H_, rfl⟩ := hR2; exact k106 H_ w2⟩), ⟨a0.A, (-100), 100, _, rfl, h_t113, rfl⟩⟩) rfl rfl rfl rfl ?_
                        refine l_val rfl rfl rfl (r_assign (v := .bool t113) rfl) ?_
                        refine l_nil ?_
                        refine c_close t113 () 0 [0] (by exact ⟨rfl, rfl, trivial⟩) (by decide) rfl (by exact ⟨H109, trivial⟩) (Nat.lt_succ_self _)
                      · have H110 := cnd_f hb H107; clear H107
                        refine c_seq ?_
                        refine c_region ?_
                        refine l_val rfl rfl rfl (r_eql rfl rfl) ?_
                        refine l_val rfl rfl rfl (r_assign (v := .bool (decide (a0.Kind = 8))) rfl) ?_
                        refine l_nil ?_
                        refine c_if (b := (decide (a0.Kind = 8))) rfl (fun hb => ?_) (fun hb => ?_)
                        · have H111 := cnd_t hb H110; clear H110
                          refine c_region ?_
                          refine l_val rfl rfl rfl (r_move (v := .func (.func 106) #[] #[]) rfl) ?_
                          refine l_val rfl rfl rfl (r_field Try.runUnderlying69 rfl Try.sizeOf3 rfl rfl) ?_
                          refine l_load1 (i := 0) (v := .int .i64 a0.A) Try.isAgg3 rfl rfl rfl rfl rfl ?_
                          obtain ⟨t119, h_t119, H112⟩ := bnd_some H111; clear H111
                          refine l_callV (R := fnR_func_int_int_int_bool R_StepFault_1) (r := .bool t119) (v := .func (.func 106) #[] #[]) (fun w hF hS => ⟨(FnH.mk ⟨106, #[], #[], rfl, Try.call106, fun args2 post2 w2 hk2 hR2 => by obtain ⟨a0_, a1_, a2_, r_, rfl, H_, rfl⟩ := hR2; exact k106 H_ w2⟩), ⟨a0.A, 0, 100, _, rfl, h_t119, rfl⟩⟩) rfl rfl rfl rfl ?_
                          refine l_val rfl rfl rfl (r_assign (v := .bool t119) rfl) ?_
                          refine l_nil ?_
                          refine c_close t119 () 0 [0] (by exact ⟨rfl, rfl, trivial⟩) (by decide) rfl (by exact ⟨H112, trivial⟩) (Nat.lt_succ_self _)
                        · have H113 := cnd_f hb H110; clear H110
                          refine c_skip ?_
                          refine c_close false () 0 [0] (by exact ⟨rfl, rfl, trivial⟩) (by decide) rfl (by exact ⟨H113, trivial⟩) (Nat.lt_succ_self _)
        · rintro x6 _ gg H68 _
          replace H68 : R_StepFault_j2 a0 x6 = some r := H68
          refine c_tidyF [(1, .pointer (some ⟨b2, 0, none⟩)), (6, .bool x6)] [cellsC b2 [.int .i64 a0.Kind, .int .i64 a0.A, .int .i64 a0.B, .int .i64 a0.C, .int .i64 a0.D] 69] rfl rfl ?_
          refine c_seq ?_
          refine c_seq ?_
          refine c_region ?_
          refine l_val rfl rfl rfl (r_move (v := .bool x6) rfl) ?_
          refine l_nil ?_
          refine c_if (b := x6) rfl (fun hb => ?_) (fun hb => ?_)
          · have H69 := cnd_t hb H68; clear H68
            refine c_seq ?_
            refine c_region ?_
            refine l_val rfl rfl rfl (r_assign (v := .int .i64 2) rfl) ?_
            refine l_nil ?_
            refine c_ret ?_
            obtain rfl := Option.some.inj H69
            refine ret1 (v := .int .i64 2) rfl rfl (fin rfl)
          · have H70 := cnd_f hb H68; clear H68
            refine c_skip ?_
            refine c_seq ?_
            refine c_seq ?_
            refine c_region ?_
            refine l_val rfl rfl rfl (r_field Try.runUnderlying69 rfl Try.sizeOf3 rfl rfl) ?_
            refine l_load1 (i := 0) (v := .int .i64 a0.Kind) Try.isAgg3 rfl rfl rfl rfl rfl ?_
            refine l_val rfl rfl rfl (r_eql rfl rfl) ?_
            refine l_val rfl rfl rfl (r_move (v := .bool (decide (a0.Kind = 6))) rfl) ?_
            refine split (fun hb => ?_) (fun hb => ?_)
            · have H71 := cnd_t hb H70; clear H70
              refine l_val rfl rfl rfl (r_field Try.runUnderlying69 rfl Try.sizeOf3 rfl rfl) ?_
              refine l_load1 (i := 0) (v := .int .i64 a0.B) Try.isAgg3 rfl rfl rfl rfl rfl ?_
              refine l_val rfl rfl rfl (r_field Try.runUnderlying69 rfl Try.sizeOf3 rfl rfl) ?_
              refine l_load1 (i := 0) (v := .int .i64 a0.A) Try.isAgg3 rfl rfl rfl rfl rfl ?_
              refine l_val rfl rfl rfl (r_leq rfl rfl) ?_
              refine l_val rfl rfl rfl (r_pickT (v := .bool (decide (a0.B ≤ a0.A))) rfl rfl) ?_
              refine l_nil ?_
              refine c_if (b := (decide (a0.B ≤ a0.A))) rfl (fun hb => ?_) (fun hb => ?_)
              · have H72 := cnd_t hb H71; clear H71
                refine c_seq ?_
                refine c_region ?_
                refine l_val rfl rfl rfl (r_assign (v := .int .i64 5) rfl) ?_
                refine l_nil ?_
                refine c_ret ?_
                obtain rfl := Option.some.inj H72
                refine ret1 (v := .int .i64 5) rfl rfl (fin rfl)
              · have H73 := cnd_f hb H71; clear H71
                refine c_skip ?_
                refine c_seq ?_
                refine c_region ?_
                refine l_val rfl rfl rfl (r_assign (v := .int .i64 0) rfl) ?_
                refine l_nil ?_
                refine c_ret ?_
                obtain rfl := Option.some.inj H73
                refine ret1 (v := .int .i64 0) rfl rfl (fin rfl)
            · have H74 := cnd_f hb H70; clear H70
              refine l_passed rfl rfl rfl ?_
              refine l_passed rfl rfl rfl ?_
              refine l_passed rfl rfl rfl ?_
              refine l_passed rfl rfl rfl ?_
              refine l_passed rfl rfl rfl ?_
              refine l_val rfl rfl rfl (r_pickF (v := .bool false) rfl rfl) ?_
              refine l_nil ?_
              refine c_false rfl ?_
              refine c_skip ?_
              refine c_seq ?_
              refine c_region ?_
              refine l_val rfl rfl rfl (r_assign (v := .int .i64 0) rfl) ?_
              refine l_nil ?_
              refine c_ret ?_
              obtain rfl := Option.some.inj H74
              refine ret1 (v := .int .i64 0) rfl rfl (fin rfl)
theorem k39 {a0 : (List T_edit_Step)} {v0 : Value} {r : Int} {w : World} {h : Heap} (hw : Know h w noS) (f0 : FrS h 5 v0 (a0.map e_edit_Step)) (H : R_StepsFault a0 = some r) : Does Try.prog 39 (List.toArray [v0]) w (fun v w' => v = (.int .i64 r) ∧ Grow w w') := by
  refine enter (n := 21) Try.func39 rfl rfl rfl noS [] (Sat.nil _ _) ?_
  refine c_seq ?_
  refine c_region ?_
  refine l_val rfl rfl rfl (r_assign (v := .int .i64 0) rfl) ?_
  refine l_nil ?_
  refine c_seq ?_
  refine c_seq ?_
  refine c_region ?_
  refine l_val rfl rfl rfl (r_move (v := v0) rfl) ?_
  refine l_val rfl rfl rfl (r_lenF Try.underlying61 rfl f0 rfl) ?_
  refine l_val rfl rfl rfl (r_gtr rfl rfl) ?_
  refine l_nil ?_
  refine c_if (b := (decide (50 < (a0.length : Int)))) rfl (fun hb => ?_) (fun hb => ?_)
  · have H11 := cnd_t hb H; clear H
    refine c_seq ?_
    refine c_region ?_
    refine l_val rfl rfl rfl (r_assign (v := .int .i64 4) rfl) ?_
    refine l_nil ?_
    refine c_ret ?_
    obtain rfl := Option.some.inj H11
    refine ret1 (v := .int .i64 4) rfl rfl (fin rfl)
  · have H12 := cnd_f hb H; clear H
    refine c_skip ?_
    refine c_seq ?_
    refine c_seq ?_
    refine c_region ?_
    refine l_val rfl rfl rfl (r_move (v := v0) rfl) ?_
    refine l_val rfl rfl rfl (r_lenF Try.underlying61 rfl f0 rfl) ?_
    refine l_val rfl rfl rfl (r_move (v := .int .i64 0) rfl) ?_
    refine l_nil ?_
    refine c_block ?_
    refine c_fix (σ := Int) (τ := Unit) (fun next1 s => R_StepsFault_l1 a0 next1 s) (fun s t => [(9, v0), (10, .int .i64 (a0.length : Int)), (11, .int .i64 s)]) (fun s t => []) (fun s t => True) 0 () [] H12 (by exact trivial) (by exact ⟨rfl, rfl, rfl, trivial⟩) (by decide) rfl ?_
    rintro x11_2 _ m1 gg H13 _
    clear H12
    replace H13 : R_StepsFault_l1 a0 (it (fun next1 s => R_StepsFault_l1 a0 next1 s) m1) x11_2 = some r := H13
    generalize hn1 : it (fun next1 s => R_StepsFault_l1 a0 next1 s) m1 = next1 at H13
    refine c_tidyF [(9, v0), (10, .int .i64 (a0.length : Int)), (11, .int .i64 x11_2)] [] rfl rfl ?_
    refine c_seq ?_
    refine c_region ?_
    refine l_val rfl rfl rfl (r_lss rfl rfl) ?_
    refine l_nil ?_
    refine c_seq ?_
    refine c_if (b := (decide (x11_2 < (a0.length : Int)))) rfl (fun hb => ?_) (fun hb => ?_)
    · have H14 := cnd_t hb H13; clear H13
      refine c_skip ?_
      refine c_seq ?_
      refine c_block ?_
      refine c_seq ?_
      refine c_region ?_
      obtain ⟨t13, h_t13, H15⟩ := bnd_some H14; clear H14
      refine l_val rfl rfl rfl (r_indexF Try.underlying61 Try.sizeOf69 rfl rfl f0 h_t13) ?_
      refine l_read (fun w hF hS => run_loadGN (f := e_edit_Step) (i := x11_2) (sz := 5) (j := 0) (vs := [.int .i64 t13.Kind, .int .i64 t13.A, .int .i64 t13.B, .int .i64 t13.C, .int .i64 t13.D]) Try.isAgg69 Try.sizeOf69 rfl rfl (f0.row (hw.now hF)) h_t13 rfl) rfl rfl rfl ?_
      refine l_alloc (cs := [.int .i64 0, .int .i64 0, .int .i64 0, .int .i64 0, .int .i64 0]) Try.zeroValue69 rfl rfl rfl (fun b1 => ?_)
      refine l_store (i := 0) (vs := [.int .i64 t13.Kind, .int .i64 t13.A, .int .i64 t13.B, .int .i64 t13.C, .int .i64 t13.D]) (cs' := [.int .i64 t13.Kind, .int .i64 t13.A, .int .i64 t13.B, .int .i64 t13.C, .int .i64 t13.D]) Try.sizeOf69 rfl rfl rfl rfl rfl rfl rfl rfl rfl ?_
      refine l_nil ?_
      refine c_seq ?_
      refine c_region ?_
      refine l_loadN (i := 0) (vs := [.int .i64 t13.Kind, .int .i64 t13.A, .int .i64 t13.B, .int .i64 t13.C, .int .i64 t13.D]) Try.isAgg69 Try.sizeOf69 rfl rfl rfl rfl rfl ?_
      obtain ⟨t16, h_t16, H16⟩ := bnd_some H15; clear H15
      refine l_call (k41 h_t16) Try.call41 rfl rfl rfl ?_
      refine l_val rfl rfl rfl (r_assign (v := .int .i64 t16) rfl) ?_
      refine l_nil ?_
      refine c_seq ?_
      refine c_region ?_
      refine l_val rfl rfl rfl (r_move (v := .int .i64 t16) rfl) ?_
      refine l_val rfl rfl rfl (r_neq rfl rfl) ?_
      refine l_nil ?_
      refine c_if (b := (decide (t16 ≠ 0))) rfl (fun hb => ?_) (fun hb => ?_)
      · have H17 := cnd_t hb H16; clear H16
        refine c_seq ?_
        refine c_region ?_
        refine l_val rfl rfl rfl (r_move (v := .int .i64 t16) rfl) ?_
        refine l_val rfl rfl rfl (r_assign (v := .int .i64 t16) rfl) ?_
        refine l_nil ?_
        refine c_ret ?_
        obtain rfl := Option.some.inj H17
        refine ret1 (v := .int .i64 t16) rfl rfl (fin rfl)
      · have H18 := cnd_f hb H16; clear H16
        refine c_skip ?_
        refine c_region ?_
        obtain ⟨t20, h_t20, H19⟩ := bnd_some H18; clear H18
        refine l_val rfl rfl rfl (r_addG rfl rfl h_t20) ?_
        refine l_val rfl rfl rfl (r_move (v := .int .i64 t20) rfl) ?_
        refine l_nil ?_
        refine c_close t20 () m1 [] (by exact ⟨rfl, rfl, rfl, trivial⟩) (by decide) rfl (by exact ⟨(by subst hn1; exact H19), trivial⟩) (Nat.lt_succ_self _)
    · have H20 := cnd_f hb H13; clear H13
      refine c_exit ?_
      refine c_seq ?_
      refine c_region ?_
      refine l_val rfl rfl rfl (r_assign (v := .int .i64 0) rfl) ?_
      refine l_nil ?_
      refine c_ret ?_
      obtain rfl := Option.some.inj H20
      refine ret1 (v := .int .i64 0) rfl rfl (fin rfl)
theorem k110 {a0 : Int} {a1 : Int} {a2 : Int} {r : Bool} (H : edit_outside a0 a1 a2 = some r) : Ret Try.prog 110 [.int .i64 a0, .int .i64 a1, .int .i64 a2] (.bool r) := by
  refine enterRet (n := 15) Try.func110 rfl rfl rfl (fun wd => ?_)
  refine c_seq ?_
  refine c_region ?_
  refine l_val rfl rfl rfl (r_assign (v := .bool false) rfl) ?_
  refine l_nil ?_
  refine c_seq ?_
  refine c_region ?_
  refine l_val rfl rfl rfl (r_move (v := .int .i64 a0) rfl) ?_
  refine l_val rfl rfl rfl (r_move (v := .int .i64 a1) rfl) ?_
  refine l_val rfl rfl rfl (r_lss rfl rfl) ?_
  refine l_val rfl rfl rfl (r_move (v := .bool (decide (a0 < a1))) rfl) ?_
  refine split (fun hb => ?_) (fun hb => ?_)
  · have H3 := cnd_t hb H; clear H
    refine l_passed rfl rfl rfl ?_
    refine l_passed rfl rfl rfl ?_
    refine l_passed rfl rfl rfl ?_
    refine l_val rfl rfl rfl (r_pickT (v := .bool true) rfl rfl) ?_
    refine l_val rfl rfl rfl (r_assign (v := .bool true) rfl) ?_
    refine l_nil ?_
    refine c_ret ?_
    obtain rfl := Option.some.inj H3
    refine ret1 (v := .bool true) rfl rfl (fin rfl)
  · have H4 := cnd_f hb H; clear H
    refine l_val rfl rfl rfl (r_move (v := .int .i64 a0) rfl) ?_
    refine l_val rfl rfl rfl (r_move (v := .int .i64 a2) rfl) ?_
    refine l_val rfl rfl rfl (r_gtr rfl rfl) ?_
    refine l_val rfl rfl rfl (r_pickF (v := .bool (decide (a2 < a0))) rfl rfl) ?_
    refine l_val rfl rfl rfl (r_assign (v := .bool (decide (a2 < a0))) rfl) ?_
    refine l_nil ?_
    refine c_ret ?_
    obtain rfl := Option.some.inj H4
    refine ret1 (v := .bool (decide (a2 < a0))) rfl rfl (fin rfl)
theorem k147 {a0 : Int} {r : (List UInt8) × Int} (H : edit_word a0 = some r) : Ret Try.prog 147 [.int .i64 a0] (.tuple #[str r.1, .int .i64 r.2]) := by
  refine enterRet (n := 21) Try.func147 rfl rfl rfl (fun wd => ?_)
  refine c_seq ?_
  refine c_region ?_
  refine l_val rfl rfl rfl (r_assign (v := str []) rfl) ?_
  refine l_val rfl rfl rfl (r_assign (v := .int .i64 0) rfl) ?_
  refine l_nil ?_
  refine c_seq ?_
  refine c_seq ?_
  refine c_region ?_
  refine l_val rfl rfl rfl (r_move (v := .int .i64 a0) rfl) ?_
  refine l_nil ?_
  refine c_block ?_
  refine c_seq ?_
  refine c_region ?_
  refine l_val rfl rfl rfl (r_eql rfl rfl) ?_
  refine l_val rfl rfl rfl (r_assign (v := .bool (decide (a0 = 1))) rfl) ?_
  refine l_nil ?_
  refine c_if (b := (decide (a0 = 1))) rfl (fun hb => ?_) (fun hb => ?_)
  · have H17 := cnd_t hb H; clear H
    refine c_seq ?_
    refine c_region ?_
    refine l_val rfl rfl rfl (r_assign (v := str [116, 117, 114, 110]) rfl) ?_
    refine l_val rfl rfl rfl (r_assign (v := .int .i64 1) rfl) ?_
    refine l_nil ?_
    refine c_ret ?_
    obtain rfl := Option.some.inj H17
    refine ret2 (v1 := str [116, 117, 114, 110]) (v2 := .int .i64 1) rfl rfl rfl (fin rfl)
  · have H18 := cnd_f hb H; clear H
    refine c_seq ?_
    refine c_region ?_
    refine l_val rfl rfl rfl (r_eql rfl rfl) ?_
    refine l_val rfl rfl rfl (r_assign (v := .bool (decide (a0 = 2))) rfl) ?_
    refine l_nil ?_
    refine c_if (b := (decide (a0 = 2))) rfl (fun hb => ?_) (fun hb => ?_)
    · have H19 := cnd_t hb H18; clear H18
      refine c_seq ?_
      refine c_region ?_
      refine l_val rfl rfl rfl (r_assign (v := str [99, 114, 111, 112]) rfl) ?_
      refine l_val rfl rfl rfl (r_assign (v := .int .i64 4) rfl) ?_
      refine l_nil ?_
      refine c_ret ?_
      obtain rfl := Option.some.inj H19
      refine ret2 (v1 := str [99, 114, 111, 112]) (v2 := .int .i64 4) rfl rfl rfl (fin rfl)
    · have H20 := cnd_f hb H18; clear H18
      refine c_seq ?_
      refine c_region ?_
      refine l_val rfl rfl rfl (r_eql rfl rfl) ?_
      refine l_val rfl rfl rfl (r_assign (v := .bool (decide (a0 = 3))) rfl) ?_
      refine l_nil ?_
      refine c_if (b := (decide (a0 = 3))) rfl (fun hb => ?_) (fun hb => ?_)
      · have H21 := cnd_t hb H20; clear H20
        refine c_seq ?_
        refine c_region ?_
        refine l_val rfl rfl rfl (r_assign (v := str [115, 99, 97, 108, 101]) rfl) ?_
        refine l_val rfl rfl rfl (r_assign (v := .int .i64 2) rfl) ?_
        refine l_nil ?_
        refine c_ret ?_
        obtain rfl := Option.some.inj H21
        refine ret2 (v1 := str [115, 99, 97, 108, 101]) (v2 := .int .i64 2) rfl rfl rfl (fin rfl)
      · have H22 := cnd_f hb H20; clear H20
        refine c_seq ?_
        refine c_region ?_
        refine l_val rfl rfl rfl (r_eql rfl rfl) ?_
        refine l_val rfl rfl rfl (r_assign (v := .bool (decide (a0 = 4))) rfl) ?_
        refine l_nil ?_
        refine c_if (b := (decide (a0 = 4))) rfl (fun hb => ?_) (fun hb => ?_)
        · have H23 := cnd_t hb H22; clear H22
          refine c_seq ?_
          refine c_region ?_
          refine l_val rfl rfl rfl (r_assign (v := str [108, 105, 103, 104, 116]) rfl) ?_
          refine l_val rfl rfl rfl (r_assign (v := .int .i64 1) rfl) ?_
          refine l_nil ?_
          refine c_ret ?_
          obtain rfl := Option.some.inj H23
          refine ret2 (v1 := str [108, 105, 103, 104, 116]) (v2 := .int .i64 1) rfl rfl rfl (fin rfl)
        · have H24 := cnd_f hb H22; clear H22
          refine c_seq ?_
          refine c_region ?_
          refine l_val rfl rfl rfl (r_eql rfl rfl) ?_
          refine l_val rfl rfl rfl (r_assign (v := .bool (decide (a0 = 5))) rfl) ?_
          refine l_nil ?_
          refine c_if (b := (decide (a0 = 5))) rfl (fun hb => ?_) (fun hb => ?_)
          · have H25 := cnd_t hb H24; clear H24
            refine c_seq ?_
            refine c_region ?_
            refine l_val rfl rfl rfl (r_assign (v := str [115, 112, 114, 101, 97, 100]) rfl) ?_
            refine l_val rfl rfl rfl (r_assign (v := .int .i64 1) rfl) ?_
            refine l_nil ?_
            refine c_ret ?_
            obtain rfl := Option.some.inj H25
            refine ret2 (v1 := str [115, 112, 114, 101, 97, 100]) (v2 := .int .i64 1) rfl rfl rfl (fin rfl)
          · have H26 := cnd_f hb H24; clear H24
            refine c_seq ?_
            refine c_region ?_
            refine l_val rfl rfl rfl (r_eql rfl rfl) ?_
            refine l_val rfl rfl rfl (r_assign (v := .bool (decide (a0 = 6))) rfl) ?_
            refine l_nil ?_
            refine c_if (b := (decide (a0 = 6))) rfl (fun hb => ?_) (fun hb => ?_)
            · have H27 := cnd_t hb H26; clear H26
              refine c_seq ?_
              refine c_region ?_
              refine l_val rfl rfl rfl (r_assign (v := str [108, 101, 118, 101, 108, 115]) rfl) ?_
              refine l_val rfl rfl rfl (r_assign (v := .int .i64 2) rfl) ?_
              refine l_nil ?_
              refine c_ret ?_
              obtain rfl := Option.some.inj H27
              refine ret2 (v1 := str [108, 101, 118, 101, 108, 115]) (v2 := .int .i64 2) rfl rfl rfl (fin rfl)
            · have H28 := cnd_f hb H26; clear H26
              refine c_seq ?_
              refine c_region ?_
              refine l_val rfl rfl rfl (r_eql rfl rfl) ?_
              refine l_val rfl rfl rfl (r_assign (v := .bool (decide (a0 = 7))) rfl) ?_
              refine l_nil ?_
              refine c_if (b := (decide (a0 = 7))) rfl (fun hb => ?_) (fun hb => ?_)
              · have H29 := cnd_t hb H28; clear H28
                refine c_seq ?_
                refine c_region ?_
                refine l_val rfl rfl rfl (r_assign (v := str [119, 97, 114, 109]) rfl) ?_
                refine l_val rfl rfl rfl (r_assign (v := .int .i64 1) rfl) ?_
                refine l_nil ?_
                refine c_ret ?_
                obtain rfl := Option.some.inj H29
                refine ret2 (v1 := str [119, 97, 114, 109]) (v2 := .int .i64 1) rfl rfl rfl (fin rfl)
              · have H30 := cnd_f hb H28; clear H28
                refine c_seq ?_
                refine c_region ?_
                refine l_val rfl rfl rfl (r_eql rfl rfl) ?_
                refine l_val rfl rfl rfl (r_assign (v := .bool (decide (a0 = 8))) rfl) ?_
                refine l_nil ?_
                refine c_if (b := (decide (a0 = 8))) rfl (fun hb => ?_) (fun hb => ?_)
                · have H31 := cnd_t hb H30; clear H30
                  refine c_seq ?_
                  refine c_region ?_
                  refine l_val rfl rfl rfl (r_assign (v := str [109, 117, 116, 101]) rfl) ?_
                  refine l_val rfl rfl rfl (r_assign (v := .int .i64 1) rfl) ?_
                  refine l_nil ?_
                  refine c_ret ?_
                  obtain rfl := Option.some.inj H31
                  refine ret2 (v1 := str [109, 117, 116, 101]) (v2 := .int .i64 1) rfl rfl rfl (fin rfl)
                · have H32 := cnd_f hb H30; clear H30
                  refine c_skip ?_
                  refine c_seq ?_
                  refine c_region ?_
                  refine l_val rfl rfl rfl (r_assign (v := str [105, 110, 118, 101, 114, 116]) rfl) ?_
                  refine l_val rfl rfl rfl (r_assign (v := .int .i64 0) rfl) ?_
                  refine l_nil ?_
                  refine c_ret ?_
                  obtain rfl := Option.some.inj H32
                  refine ret2 (v1 := str [105, 110, 118, 101, 114, 116]) (v2 := .int .i64 0) rfl rfl rfl (fin rfl)
theorem k148 {a0 : T_edit_Step} {r : (List Int)} {w : World} {h : Heap} (hw : Know h w noS) (H : edit_Step_numbers a0 = some r) : Does Try.prog 148 (List.toArray [.agg #[.int .i64 a0.Kind, .int .i64 a0.A, .int .i64 a0.B, .int .i64 a0.C, .int .i64 a0.D]]) w (fun v w' => ∃ x : (Option Addr × Nat), v = (.slice x.1 r.length x.2) ∧ Turn w w' noS (rowV 3 1 (.slice x.1 r.length x.2) r.length (r.map e_i64))) := by
  refine enter (n := 12) Try.func148 rfl rfl rfl noS [] (Sat.nil _ _) ?_
  refine c_seq ?_
  refine c_region ?_
  refine l_box (cs := [.int .i64 a0.Kind, .int .i64 a0.A, .int .i64 a0.B, .int .i64 a0.C, .int .i64 a0.D]) rfl rfl rfl rfl (fun b2 => ?_)
  refine l_val rfl rfl rfl (r_assign (v := .slice none 0 0) rfl) ?_
  refine l_nil ?_
  refine c_seq ?_
  refine c_region ?_
  refine l_val rfl rfl rfl (r_field Try.runUnderlying69 rfl Try.sizeOf3 rfl rfl) ?_
  refine l_load1 (i := 0) (v := .int .i64 a0.A) Try.isAgg3 rfl rfl rfl rfl rfl ?_
  refine l_val rfl rfl rfl (r_field Try.runUnderlying69 rfl Try.sizeOf3 rfl rfl) ?_
  refine l_load1 (i := 0) (v := .int .i64 a0.B) Try.isAgg3 rfl rfl rfl rfl rfl ?_
  refine l_val rfl rfl rfl (r_field Try.runUnderlying69 rfl Try.sizeOf3 rfl rfl) ?_
  refine l_load1 (i := 0) (v := .int .i64 a0.C) Try.isAgg3 rfl rfl rfl rfl rfl ?_
  refine l_val rfl rfl rfl (r_field Try.runUnderlying69 rfl Try.sizeOf3 rfl rfl) ?_
  refine l_load1 (i := 0) (v := .int .i64 a0.D) Try.isAgg3 rfl rfl rfl rfl rfl ?_
  refine l_buildSlice (vs := [.int .i64 a0.A, .int .i64 a0.B, .int .i64 a0.C, .int .i64 a0.D]) (cs := [.int .i64 a0.A, .int .i64 a0.B, .int .i64 a0.C, .int .i64 a0.D]) Try.underlying148 Try.sizeOf3 Try.zeroValue3 rfl rfl rfl rfl rfl rfl rfl (fun b3 => ?_)
  refine l_val rfl rfl rfl (r_assign (v := .slice (some ⟨b3, 0, none⟩) 4 4) rfl) ?_
  refine l_nil ?_
  refine c_ret ?_
  refine c_imp 1 rfl (imp_box (m := 4) (E := 3) (sz := 1) (xs := (([a0.A, a0.B, a0.C, a0.D] : List Int)).map e_i64) rfl rfl rfl ⟨rfl, by decide⟩) ?_
  obtain rfl := Option.some.inj H
  refine ret1 (v := .slice ((some ⟨b3, 0, none⟩, 4) : Option Addr × Nat).1 4 ((some ⟨b3, 0, none⟩, 4) : Option Addr × Nat).2) rfl rfl (finX ((some ⟨b3, 0, none⟩, 4) : Option Addr × Nat) (i := 1) rfl rfl (Imp.refl _))
theorem k149 {a0 : Int} {r : (Nat → (Nat → Int))} (H : edit_bounds a0 = some r) : Ret Try.prog 149 [.int .i64 a0] (.agg #[.int .i64 ((r 0) 0), .int .i64 ((r 0) 1), .int .i64 ((r 1) 0), .int .i64 ((r 1) 1), .int .i64 ((r 2) 0), .int .i64 ((r 2) 1), .int .i64 ((r 3) 0), .int .i64 ((r 3) 1)]) := by
  refine enterRet (n := 42) Try.func149 rfl rfl rfl (fun wd => ?_)
  refine c_seq ?_
  refine c_region ?_
  refine l_alloc (cs := [.int .i64 0, .int .i64 0, .int .i64 0, .int .i64 0, .int .i64 0, .int .i64 0, .int .i64 0, .int .i64 0]) Try.zeroValue197 rfl rfl rfl (fun b1 => ?_)
  refine l_nil ?_
  refine c_seq ?_
  refine c_seq ?_
  refine c_region ?_
  refine l_val rfl rfl rfl (r_move (v := .int .i64 a0) rfl) ?_
  refine l_nil ?_
  refine c_block ?_
  refine c_seq ?_
  refine c_region ?_
  refine l_val rfl rfl rfl (r_eql rfl rfl) ?_
  refine l_val rfl rfl rfl (r_assign (v := .bool (decide (a0 = 1))) rfl) ?_
  refine l_nil ?_
  refine c_if (b := (decide (a0 = 1))) rfl (fun hb => ?_) (fun hb => ?_)
  · have H17 := cnd_t hb H; clear H
    refine c_seq ?_
    refine c_region ?_
    refine l_val rfl rfl rfl (r_buildA (ps := [(0, .int .i64 1), (1, .int .i64 8)]) (cells := #[.int .i64 1, .int .i64 8]) Try.zeroValue196 Try.runUnderlying196 Try.sizeOf3 rfl rfl) ?_
    refine l_val rfl rfl rfl (r_buildA (ps := [(0, .agg #[.int .i64 1, .int .i64 8])]) (cells := #[.int .i64 1, .int .i64 8, .int .i64 0, .int .i64 0, .int .i64 0, .int .i64 0, .int .i64 0, .int .i64 0]) Try.zeroValue197 Try.runUnderlying197 Try.sizeOf196 rfl rfl) ?_
    refine l_store (i := 0) (vs := [.int .i64 1, .int .i64 8, .int .i64 0, .int .i64 0, .int .i64 0, .int .i64 0, .int .i64 0, .int .i64 0]) (cs' := [.int .i64 1, .int .i64 8, .int .i64 0, .int .i64 0, .int .i64 0, .int .i64 0, .int .i64 0, .int .i64 0]) Try.sizeOf197 rfl rfl rfl rfl rfl rfl rfl rfl rfl ?_
    refine l_nil ?_
    refine c_ret ?_
    obtain rfl := Option.some.inj H17
    refine retC (i := 0) (vs := [.int .i64 1, .int .i64 8, .int .i64 0, .int .i64 0, .int .i64 0, .int .i64 0, .int .i64 0, .int .i64 0]) Try.isAgg197 Try.sizeOf197 rfl rfl rfl rfl (fin rfl)
  · have H18 := cnd_f hb H; clear H
    refine c_seq ?_
    refine c_region ?_
    refine l_val rfl rfl rfl (r_eql rfl rfl) ?_
    refine l_val rfl rfl rfl (r_assign (v := .bool (decide (a0 = 2))) rfl) ?_
    refine l_nil ?_
    refine c_if (b := (decide (a0 = 2))) rfl (fun hb => ?_) (fun hb => ?_)
    · have H19 := cnd_t hb H18; clear H18
      refine c_seq ?_
      refine c_region ?_
      refine l_val rfl rfl rfl (r_buildA (ps := [(0, .int .i64 0), (1, .int .i64 63)]) (cells := #[.int .i64 0, .int .i64 63]) Try.zeroValue196 Try.runUnderlying196 Try.sizeOf3 rfl rfl) ?_
      refine l_val rfl rfl rfl (r_buildA (ps := [(0, .int .i64 0), (1, .int .i64 63)]) (cells := #[.int .i64 0, .int .i64 63]) Try.zeroValue196 Try.runUnderlying196 Try.sizeOf3 rfl rfl) ?_
      refine l_val rfl rfl rfl (r_buildA (ps := [(0, .int .i64 1), (1, .int .i64 64)]) (cells := #[.int .i64 1, .int .i64 64]) Try.zeroValue196 Try.runUnderlying196 Try.sizeOf3 rfl rfl) ?_
      refine l_val rfl rfl rfl (r_buildA (ps := [(0, .int .i64 1), (1, .int .i64 64)]) (cells := #[.int .i64 1, .int .i64 64]) Try.zeroValue196 Try.runUnderlying196 Try.sizeOf3 rfl rfl) ?_
      refine l_val rfl rfl rfl (r_buildA (ps := [(0, .agg #[.int .i64 0, .int .i64 63]), (1, .agg #[.int .i64 0, .int .i64 63]), (2, .agg #[.int .i64 1, .int .i64 64]), (3, .agg #[.int .i64 1, .int .i64 64])]) (cells := #[.int .i64 0, .int .i64 63, .int .i64 0, .int .i64 63, .int .i64 1, .int .i64 64, .int .i64 1, .int .i64 64]) Try.zeroValue197 Try.runUnderlying197 Try.sizeOf196 rfl rfl) ?_
      refine l_store (i := 0) (vs := [.int .i64 0, .int .i64 63, .int .i64 0, .int .i64 63, .int .i64 1, .int .i64 64, .int .i64 1, .int .i64 64]) (cs' := [.int .i64 0, .int .i64 63, .int .i64 0, .int .i64 63, .int .i64 1, .int .i64 64, .int .i64 1, .int .i64 64]) Try.sizeOf197 rfl rfl rfl rfl rfl rfl rfl rfl rfl ?_
      refine l_nil ?_
      refine c_ret ?_
      obtain rfl := Option.some.inj H19
      refine retC (i := 0) (vs := [.int .i64 0, .int .i64 63, .int .i64 0, .int .i64 63, .int .i64 1, .int .i64 64, .int .i64 1, .int .i64 64]) Try.isAgg197 Try.sizeOf197 rfl rfl rfl rfl (fin rfl)
    · have H20 := cnd_f hb H18; clear H18
      refine c_seq ?_
      refine c_region ?_
      refine l_val rfl rfl rfl (r_eql rfl rfl) ?_
      refine l_val rfl rfl rfl (r_assign (v := .bool (decide (a0 = 3))) rfl) ?_
      refine l_nil ?_
      refine c_if (b := (decide (a0 = 3))) rfl (fun hb => ?_) (fun hb => ?_)
      · have H21 := cnd_t hb H20; clear H20
        refine c_seq ?_
        refine c_region ?_
        refine l_val rfl rfl rfl (r_buildA (ps := [(0, .int .i64 1), (1, .int .i64 64)]) (cells := #[.int .i64 1, .int .i64 64]) Try.zeroValue196 Try.runUnderlying196 Try.sizeOf3 rfl rfl) ?_
        refine l_val rfl rfl rfl (r_buildA (ps := [(0, .int .i64 1), (1, .int .i64 64)]) (cells := #[.int .i64 1, .int .i64 64]) Try.zeroValue196 Try.runUnderlying196 Try.sizeOf3 rfl rfl) ?_
        refine l_val rfl rfl rfl (r_buildA (ps := [(0, .agg #[.int .i64 1, .int .i64 64]), (1, .agg #[.int .i64 1, .int .i64 64])]) (cells := #[.int .i64 1, .int .i64 64, .int .i64 1, .int .i64 64, .int .i64 0, .int .i64 0, .int .i64 0, .int .i64 0]) Try.zeroValue197 Try.runUnderlying197 Try.sizeOf196 rfl rfl) ?_
        refine l_store (i := 0) (vs := [.int .i64 1, .int .i64 64, .int .i64 1, .int .i64 64, .int .i64 0, .int .i64 0, .int .i64 0, .int .i64 0]) (cs' := [.int .i64 1, .int .i64 64, .int .i64 1, .int .i64 64, .int .i64 0, .int .i64 0, .int .i64 0, .int .i64 0]) Try.sizeOf197 rfl rfl rfl rfl rfl rfl rfl rfl rfl ?_
        refine l_nil ?_
        refine c_ret ?_
        obtain rfl := Option.some.inj H21
        refine retC (i := 0) (vs := [.int .i64 1, .int .i64 64, .int .i64 1, .int .i64 64, .int .i64 0, .int .i64 0, .int .i64 0, .int .i64 0]) Try.isAgg197 Try.sizeOf197 rfl rfl rfl rfl (fin rfl)
      · have H22 := cnd_f hb H20; clear H20
        refine c_seq ?_
        refine c_region ?_
        refine l_val rfl rfl rfl (r_eql rfl rfl) ?_
        refine l_val rfl rfl rfl (r_assign (v := .bool (decide (a0 = 4))) rfl) ?_
        refine l_nil ?_
        refine c_if (b := (decide (a0 = 4))) rfl (fun hb => ?_) (fun hb => ?_)
        · have H23 := cnd_t hb H22; clear H22
          refine c_seq ?_
          refine c_region ?_
          refine l_val rfl rfl rfl (r_buildA (ps := [(0, .int .i64 (-255)), (1, .int .i64 255)]) (cells := #[.int .i64 (-255), .int .i64 255]) Try.zeroValue196 Try.runUnderlying196 Try.sizeOf3 rfl rfl) ?_
          refine l_val rfl rfl rfl (r_buildA (ps := [(0, .agg #[.int .i64 (-255), .int .i64 255])]) (cells := #[.int .i64 (-255), .int .i64 255, .int .i64 0, .int .i64 0, .int .i64 0, .int .i64 0, .int .i64 0, .int .i64 0]) Try.zeroValue197 Try.runUnderlying197 Try.sizeOf196 rfl rfl) ?_
          refine l_store (i := 0) (vs := [.int .i64 (-255), .int .i64 255, .int .i64 0, .int .i64 0, .int .i64 0, .int .i64 0, .int .i64 0, .int .i64 0]) (cs' := [.int .i64 (-255), .int .i64 255, .int .i64 0, .int .i64 0, .int .i64 0, .int .i64 0, .int .i64 0, .int .i64 0]) Try.sizeOf197 rfl rfl rfl rfl rfl rfl rfl rfl rfl ?_
          refine l_nil ?_
          refine c_ret ?_
          obtain rfl := Option.some.inj H23
          refine retC (i := 0) (vs := [.int .i64 (-255), .int .i64 255, .int .i64 0, .int .i64 0, .int .i64 0, .int .i64 0, .int .i64 0, .int .i64 0]) Try.isAgg197 Try.sizeOf197 rfl rfl rfl rfl (fin rfl)
        · have H24 := cnd_f hb H22; clear H22
          refine c_seq ?_
          refine c_region ?_
          refine l_val rfl rfl rfl (r_eql rfl rfl) ?_
          refine l_val rfl rfl rfl (r_assign (v := .bool (decide (a0 = 5))) rfl) ?_
          refine l_nil ?_
          refine c_if (b := (decide (a0 = 5))) rfl (fun hb => ?_) (fun hb => ?_)
          · have H25 := cnd_t hb H24; clear H24
            refine c_seq ?_
            refine c_region ?_
            refine l_val rfl rfl rfl (r_buildA (ps := [(0, .int .i64 0), (1, .int .i64 400)]) (cells := #[.int .i64 0, .int .i64 400]) Try.zeroValue196 Try.runUnderlying196 Try.sizeOf3 rfl rfl) ?_
            refine l_val rfl rfl rfl (r_buildA (ps := [(0, .agg #[.int .i64 0, .int .i64 400])]) (cells := #[.int .i64 0, .int .i64 400, .int .i64 0, .int .i64 0, .int .i64 0, .int .i64 0, .int .i64 0, .int .i64 0]) Try.zeroValue197 Try.runUnderlying197 Try.sizeOf196 rfl rfl) ?_
            refine l_store (i := 0) (vs := [.int .i64 0, .int .i64 400, .int .i64 0, .int .i64 0, .int .i64 0, .int .i64 0, .int .i64 0, .int .i64 0]) (cs' := [.int .i64 0, .int .i64 400, .int .i64 0, .int .i64 0, .int .i64 0, .int .i64 0, .int .i64 0, .int .i64 0]) Try.sizeOf197 rfl rfl rfl rfl rfl rfl rfl rfl rfl ?_
            refine l_nil ?_
            refine c_ret ?_
            obtain rfl := Option.some.inj H25
            refine retC (i := 0) (vs := [.int .i64 0, .int .i64 400, .int .i64 0, .int .i64 0, .int .i64 0, .int .i64 0, .int .i64 0, .int .i64 0]) Try.isAgg197 Try.sizeOf197 rfl rfl rfl rfl (fin rfl)
          · have H26 := cnd_f hb H24; clear H24
            refine c_seq ?_
            refine c_region ?_
            refine l_val rfl rfl rfl (r_eql rfl rfl) ?_
            refine l_val rfl rfl rfl (r_assign (v := .bool (decide (a0 = 6))) rfl) ?_
            refine l_nil ?_
            refine c_if (b := (decide (a0 = 6))) rfl (fun hb => ?_) (fun hb => ?_)
            · have H27 := cnd_t hb H26; clear H26
              refine c_seq ?_
              refine c_region ?_
              refine l_val rfl rfl rfl (r_buildA (ps := [(0, .int .i64 0), (1, .int .i64 255)]) (cells := #[.int .i64 0, .int .i64 255]) Try.zeroValue196 Try.runUnderlying196 Try.sizeOf3 rfl rfl) ?_
              refine l_val rfl rfl rfl (r_buildA (ps := [(0, .int .i64 0), (1, .int .i64 255)]) (cells := #[.int .i64 0, .int .i64 255]) Try.zeroValue196 Try.runUnderlying196 Try.sizeOf3 rfl rfl) ?_
              refine l_val rfl rfl rfl (r_buildA (ps := [(0, .agg #[.int .i64 0, .int .i64 255]), (1, .agg #[.int .i64 0, .int .i64 255])]) (cells := #[.int .i64 0, .int .i64 255, .int .i64 0, .int .i64 255, .int .i64 0, .int .i64 0, .int .i64 0, .int .i64 0]) Try.zeroValue197 Try.runUnderlying197 Try.sizeOf196 rfl rfl) ?_
              refine l_store (i := 0) (vs := [.int .i64 0, .int .i64 255, .int .i64 0, .int .i64 255, .int .i64 0, .int .i64 0, .int .i64 0, .int .i64 0]) (cs' := [.int .i64 0, .int .i64 255, .int .i64 0, .int .i64 255, .int .i64 0, .int .i64 0, .int .i64 0, .int .i64 0]) Try.sizeOf197 rfl rfl rfl rfl rfl rfl rfl rfl rfl ?_
              refine l_nil ?_
              refine c_ret ?_
              obtain rfl := Option.some.inj H27
              refine retC (i := 0) (vs := [.int .i64 0, .int .i64 255, .int .i64 0, .int .i64 255, .int .i64 0, .int .i64 0, .int .i64 0, .int .i64 0]) Try.isAgg197 Try.sizeOf197 rfl rfl rfl rfl (fin rfl)
            · have H28 := cnd_f hb H26; clear H26
              refine c_seq ?_
              refine c_region ?_
              refine l_val rfl rfl rfl (r_eql rfl rfl) ?_
              refine l_val rfl rfl rfl (r_assign (v := .bool (decide (a0 = 7))) rfl) ?_
              refine l_nil ?_
              refine c_if (b := (decide (a0 = 7))) rfl (fun hb => ?_) (fun hb => ?_)
              · have H29 := cnd_t hb H28; clear H28
                refine c_seq ?_
                refine c_region ?_
                refine l_val rfl rfl rfl (r_buildA (ps := [(0, .int .i64 (-100)), (1, .int .i64 100)]) (cells := #[.int .i64 (-100), .int .i64 100]) Try.zeroValue196 Try.runUnderlying196 Try.sizeOf3 rfl rfl) ?_
                refine l_val rfl rfl rfl (r_buildA (ps := [(0, .agg #[.int .i64 (-100), .int .i64 100])]) (cells := #[.int .i64 (-100), .int .i64 100, .int .i64 0, .int .i64 0, .int .i64 0, .int .i64 0, .int .i64 0, .int .i64 0]) Try.zeroValue197 Try.runUnderlying197 Try.sizeOf196 rfl rfl) ?_
                refine l_store (i := 0) (vs := [.int .i64 (-100), .int .i64 100, .int .i64 0, .int .i64 0, .int .i64 0, .int .i64 0, .int .i64 0, .int .i64 0]) (cs' := [.int .i64 (-100), .int .i64 100, .int .i64 0, .int .i64 0, .int .i64 0, .int .i64 0, .int .i64 0, .int .i64 0]) Try.sizeOf197 rfl rfl rfl rfl rfl rfl rfl rfl rfl ?_
                refine l_nil ?_
                refine c_ret ?_
                obtain rfl := Option.some.inj H29
                refine retC (i := 0) (vs := [.int .i64 (-100), .int .i64 100, .int .i64 0, .int .i64 0, .int .i64 0, .int .i64 0, .int .i64 0, .int .i64 0]) Try.isAgg197 Try.sizeOf197 rfl rfl rfl rfl (fin rfl)
              · have H30 := cnd_f hb H28; clear H28
                refine c_seq ?_
                refine c_region ?_
                refine l_val rfl rfl rfl (r_eql rfl rfl) ?_
                refine l_val rfl rfl rfl (r_assign (v := .bool (decide (a0 = 8))) rfl) ?_
                refine l_nil ?_
                refine c_if (b := (decide (a0 = 8))) rfl (fun hb => ?_) (fun hb => ?_)
                · have H31 := cnd_t hb H30; clear H30
                  refine c_seq ?_
                  refine c_region ?_
                  refine l_val rfl rfl rfl (r_buildA (ps := [(0, .int .i64 0), (1, .int .i64 100)]) (cells := #[.int .i64 0, .int .i64 100]) Try.zeroValue196 Try.runUnderlying196 Try.sizeOf3 rfl rfl) ?_
                  refine l_val rfl rfl rfl (r_buildA (ps := [(0, .agg #[.int .i64 0, .int .i64 100])]) (cells := #[.int .i64 0, .int .i64 100, .int .i64 0, .int .i64 0, .int .i64 0, .int .i64 0, .int .i64 0, .int .i64 0]) Try.zeroValue197 Try.runUnderlying197 Try.sizeOf196 rfl rfl) ?_
                  refine l_store (i := 0) (vs := [.int .i64 0, .int .i64 100, .int .i64 0, .int .i64 0, .int .i64 0, .int .i64 0, .int .i64 0, .int .i64 0]) (cs' := [.int .i64 0, .int .i64 100, .int .i64 0, .int .i64 0, .int .i64 0, .int .i64 0, .int .i64 0, .int .i64 0]) Try.sizeOf197 rfl rfl rfl rfl rfl rfl rfl rfl rfl ?_
                  refine l_nil ?_
                  refine c_ret ?_
                  obtain rfl := Option.some.inj H31
                  refine retC (i := 0) (vs := [.int .i64 0, .int .i64 100, .int .i64 0, .int .i64 0, .int .i64 0, .int .i64 0, .int .i64 0, .int .i64 0]) Try.isAgg197 Try.sizeOf197 rfl rfl rfl rfl (fin rfl)
                · have H32 := cnd_f hb H30; clear H30
                  refine c_skip ?_
                  refine c_seq ?_
                  refine c_region ?_
                  refine l_val rfl rfl rfl (r_buildA (ps := []) (cells := #[.int .i64 0, .int .i64 0, .int .i64 0, .int .i64 0, .int .i64 0, .int .i64 0, .int .i64 0, .int .i64 0]) Try.zeroValue197 Try.runUnderlying197 Try.sizeOf196 rfl rfl) ?_
                  refine l_store (i := 0) (vs := [.int .i64 0, .int .i64 0, .int .i64 0, .int .i64 0, .int .i64 0, .int .i64 0, .int .i64 0, .int .i64 0]) (cs' := [.int .i64 0, .int .i64 0, .int .i64 0, .int .i64 0, .int .i64 0, .int .i64 0, .int .i64 0, .int .i64 0]) Try.sizeOf197 rfl rfl rfl rfl rfl rfl rfl rfl rfl ?_
                  refine l_nil ?_
                  refine c_ret ?_
                  obtain rfl := Option.some.inj H32
                  refine retC (i := 0) (vs := [.int .i64 0, .int .i64 0, .int .i64 0, .int .i64 0, .int .i64 0, .int .i64 0, .int .i64 0, .int .i64 0]) Try.isAgg197 Try.sizeOf197 rfl rfl rfl rfl (fin rfl)
theorem k107 {a0 : T_edit_Step} {r : Int} (H : edit_CheckStep a0 = some r) : Ret Try.prog 107 [.agg #[.int .i64 a0.Kind, .int .i64 a0.A, .int .i64 a0.B, .int .i64 a0.C, .int .i64 a0.D]] (.int .i64 r) := by
  refine enterRet (n := 66) Try.func107 rfl rfl rfl (fun wd => ?_)
  refine c_seq ?_
  refine c_region ?_
  refine l_box (cs := [.int .i64 a0.Kind, .int .i64 a0.A, .int .i64 a0.B, .int .i64 a0.C, .int .i64 a0.D]) rfl rfl rfl rfl (fun b2 => ?_)
  refine l_val rfl rfl rfl (r_assign (v := .int .i64 0) rfl) ?_
  refine l_nil ?_
  refine c_seq ?_
  refine c_seq ?_
  refine c_region ?_
  refine l_val rfl rfl rfl (r_field Try.runUnderlying69 rfl Try.sizeOf3 rfl rfl) ?_
  refine l_load1 (i := 0) (v := .int .i64 a0.Kind) Try.isAgg3 rfl rfl rfl rfl rfl ?_
  obtain ⟨t13, h_t13, H32⟩ := bnd_some H; clear H
  refine l_call (k110 h_t13) Try.call110 rfl rfl rfl ?_
  refine l_nil ?_
  refine c_if (b := t13) rfl (fun hb => ?_) (fun hb => ?_)
  · have H33 := cnd_t hb H32; clear H32
    refine c_seq ?_
    refine c_region ?_
    refine l_val rfl rfl rfl (r_assign (v := .int .i64 10) rfl) ?_
    refine l_nil ?_
    refine c_ret ?_
    obtain rfl := Option.some.inj H33
    refine ret1 (v := .int .i64 10) rfl rfl (fin rfl)
  · have H34 := cnd_f hb H32; clear H32
    refine c_skip ?_
    refine c_seq ?_
    refine c_region ?_
    refine l_val rfl rfl rfl (r_field Try.runUnderlying69 rfl Try.sizeOf3 rfl rfl) ?_
    refine l_load1 (i := 0) (v := .int .i64 a0.Kind) Try.isAgg3 rfl rfl rfl rfl rfl ?_
    obtain ⟨t17, h_t17, H35⟩ := bnd_some H34; clear H34
    refine l_call (k147 h_t17) Try.call147 rfl rfl rfl ?_
    refine l_val rfl rfl rfl (r_move (v := .tuple #[str t17.1, .int .i64 t17.2]) rfl) ?_
    refine l_val rfl rfl rfl (r_extract (v := str t17.1) rfl rfl) ?_
    refine l_val rfl rfl rfl (r_extract (v := .int .i64 t17.2) rfl rfl) ?_
    refine l_val rfl rfl rfl (r_assign (v := str t17.1) rfl) ?_
    refine l_val rfl rfl rfl (r_assign (v := .int .i64 t17.2) rfl) ?_
    refine l_nil ?_
    refine c_seq ?_
    refine c_region ?_
    refine l_loadN (i := 0) (vs := [.int .i64 a0.Kind, .int .i64 a0.A, .int .i64 a0.B, .int .i64 a0.C, .int .i64 a0.D]) Try.isAgg69 Try.sizeOf69 rfl rfl rfl rfl rfl ?_
    obtain ⟨t21, h_t21, H36⟩ := bnd_some H35; clear H35
    refine l_make (makes_call (rds := []) (G := fun x : (Option Addr × Nat) => .slice x.1 t21.length x.2) (C := fun x : (Option Addr × Nat) => rowV 3 1 (.slice x.1 t21.length x.2) t21.length (t21.map e_i64)) (fun w L' hF hS hi => k148 (know_all w)  h_t21) Try.call148 rfl) rfl rfl rfl (fun p => ?_)
    refine l_val rfl rfl rfl (r_assign (v := .slice p.1 t21.length p.2) rfl) ?_
    refine l_nil ?_
    refine c_meet (r := r) (σ := Unit) (τ := Unit) (fun s => edit_CheckStep_j1 a0 t17 t21) (fun s t => [(1, .pointer (some ⟨b2, 0, none⟩)), (4, .int .i64 t17.2), (5, .slice p.1 t21.length p.2)]) (fun s t => [cellsC b2 [.int .i64 a0.Kind, .int .i64 a0.A, .int .i64 a0.B, .int .i64 a0.C, .int .i64 a0.D] 69, rowV 3 1 (.slice p.1 t21.length p.2) t21.length (t21.map e_i64)]) (fun s t => True) ?_ ?_
    · refine c_seq ?_
      refine c_region ?_
      refine l_val rfl rfl rfl (r_move (v := .slice p.1 t21.length p.2) rfl) ?_
      refine l_val rfl rfl rfl (r_move (v := .int .i64 t17.2) rfl) ?_
      obtain ⟨t24, h_t24, H55⟩ := bnd_some H36; clear H36
      refine l_read (v := .slice (cutA p.1 (Int.toNat t17.2) p.2 1) t24.length (p.2 - Int.toNat t17.2)) (fun w hF hS => run_sliceLO (xs := t21) Try.underlying148 Try.sizeOf3 rfl rfl rfl (capOf (i := 1) hS rfl) h_t24) rfl rfl rfl ?_
      refine l_val rfl rfl rfl (r_len Try.underlying148 rfl) ?_
      refine l_val rfl rfl rfl (r_move (v := .int .i64 0) rfl) ?_
      refine l_nil ?_
      refine c_block ?_
      refine c_fix (σ := Int) (τ := Unit) (fun next4 s => edit_CheckStep_l4 a0 t17 t21 t24 next4 s) (fun s t => [(1, .pointer (some ⟨b2, 0, none⟩)), (4, .int .i64 t17.2), (5, .slice p.1 t21.length p.2), (24, .slice (cutA p.1 (Int.toNat t17.2) p.2 1) t24.length (p.2 - Int.toNat t17.2)), (25, .int .i64 (t24.length : Int)), (26, .int .i64 s)]) (fun s t => [cellsC b2 [.int .i64 a0.Kind, .int .i64 a0.A, .int .i64 a0.B, .int .i64 a0.C, .int .i64 a0.D] 69, rowV 3 1 (.slice p.1 t21.length p.2) t21.length (t21.map e_i64)]) (fun s t => True) 0 () [0, 1] H55 (by exact trivial) (by exact ⟨rfl, rfl, rfl, rfl, rfl, rfl, trivial⟩) (by decide) rfl ?_
      rintro x26_2 _ m4 gg H56 _
      clear H55
      replace H56 : edit_CheckStep_l4 a0 t17 t21 t24 (it (fun next4 s => edit_CheckStep_l4 a0 t17 t21 t24 next4 s) m4) x26_2 = some r := H56
      generalize hn4 : it (fun next4 s => edit_CheckStep_l4 a0 t17 t21 t24 next4 s) m4 = next4 at H56
      refine c_tidyF [(1, .pointer (some ⟨b2, 0, none⟩)), (4, .int .i64 t17.2), (5, .slice p.1 t21.length p.2), (24, .slice (cutA p.1 (Int.toNat t17.2) p.2 1) t24.length (p.2 - Int.toNat t17.2)), (25, .int .i64 (t24.length : Int)), (26, .int .i64 x26_2)] [cellsC b2 [.int .i64 a0.Kind, .int .i64 a0.A, .int .i64 a0.B, .int .i64 a0.C, .int .i64 a0.D] 69, rowV 3 1 (.slice p.1 t21.length p.2) t21.length (t21.map e_i64)] rfl rfl ?_
      refine c_seq ?_
      refine c_region ?_
      refine l_val rfl rfl rfl (r_lss rfl rfl) ?_
      refine l_nil ?_
      refine c_seq ?_
      refine c_if (b := (decide (x26_2 < (t24.length : Int)))) rfl (fun hb => ?_) (fun hb => ?_)
      · have H57 := cnd_t hb H56; clear H56
        refine c_skip ?_
        refine c_seq ?_
        refine c_block ?_
        refine c_seq ?_
        refine c_region ?_
        obtain ⟨t28, h_t28, H58⟩ := bnd_some H57; clear H57
        refine l_read (fun w hF hS => run_indexO Try.underlying148 Try.sizeOf3 rfl rfl (Row.cutG (rowOf (i := 1) hS rfl) rfl (capOf (i := 1) hS rfl) h_t24) rfl h_t28) rfl rfl rfl ?_
        refine l_read (fun w hF hS => run_loadG1 (f := e_i64) (i := x26_2) (sz := 1) (j := 0) (v := .int .i64 t28) Try.isAgg3 rfl rfl (Row.cutG (rowOf (i := 1) hS rfl) rfl (capOf (i := 1) hS rfl) h_t24) h_t28 rfl) rfl rfl rfl ?_
        refine l_val rfl rfl rfl (r_assign (v := .int .i64 t28) rfl) ?_
        refine l_nil ?_
        refine c_seq ?_
        refine c_region ?_
        refine l_val rfl rfl rfl (r_move (v := .int .i64 t28) rfl) ?_
        refine l_val rfl rfl rfl (r_neq rfl rfl) ?_
        refine l_nil ?_
        refine c_if (b := (decide (t28 ≠ 0))) rfl (fun hb => ?_) (fun hb => ?_)
        · have H59 := cnd_t hb H58; clear H58
          refine c_seq ?_
          refine c_region ?_
          refine l_val rfl rfl rfl (r_assign (v := .int .i64 1) rfl) ?_
          refine l_nil ?_
          refine c_ret ?_
          obtain rfl := Option.some.inj H59
          refine ret1 (v := .int .i64 1) rfl rfl (fin rfl)
        · have H60 := cnd_f hb H58; clear H58
          refine c_skip ?_
          refine c_region ?_
          obtain ⟨t32, h_t32, H61⟩ := bnd_some H60; clear H60
          refine l_val rfl rfl rfl (r_addG rfl rfl h_t32) ?_
          refine l_val rfl rfl rfl (r_move (v := .int .i64 t32) rfl) ?_
          refine l_nil ?_
          refine c_close t32 () m4 [0, 1] (by exact ⟨rfl, rfl, rfl, rfl, rfl, rfl, trivial⟩) (by decide) rfl (by exact ⟨(by subst hn4; exact H61), trivial⟩) (Nat.lt_succ_self _)
      · have H62 := cnd_f hb H56; clear H56
        refine c_exit ?_
        refine c_close () () 0 [0, 1] (by exact ⟨rfl, rfl, rfl, trivial⟩) (by decide) rfl (by exact ⟨H62, trivial⟩) (Nat.lt_succ_self _)
    · rintro _ _ gg H37 _
      replace H37 : edit_CheckStep_j1 a0 t17 t21 = some r := H37
      refine c_tidyF [(1, .pointer (some ⟨b2, 0, none⟩)), (4, .int .i64 t17.2), (5, .slice p.1 t21.length p.2)] [cellsC b2 [.int .i64 a0.Kind, .int .i64 a0.A, .int .i64 a0.B, .int .i64 a0.C, .int .i64 a0.D] 69, rowV 3 1 (.slice p.1 t21.length p.2) t21.length (t21.map e_i64)] rfl rfl ?_
      refine c_seq ?_
      refine c_region ?_
      refine l_val rfl rfl rfl (r_field Try.runUnderlying69 rfl Try.sizeOf3 rfl rfl) ?_
      refine l_load1 (i := 0) (v := .int .i64 a0.Kind) Try.isAgg3 rfl rfl rfl rfl rfl ?_
      obtain ⟨t35, h_t35, H38⟩ := bnd_some H37; clear H37
      refine l_call (k149 h_t35) Try.call149 rfl rfl rfl ?_
      refine l_alloc (cs := [.int .i64 0, .int .i64 0, .int .i64 0, .int .i64 0, .int .i64 0, .int .i64 0, .int .i64 0, .int .i64 0]) Try.zeroValue197 rfl rfl rfl (fun b3 => ?_)
      refine l_store (i := 2) (vs := [.int .i64 ((t35 0) 0), .int .i64 ((t35 0) 1), .int .i64 ((t35 1) 0), .int .i64 ((t35 1) 1), .int .i64 ((t35 2) 0), .int .i64 ((t35 2) 1), .int .i64 ((t35 3) 0), .int .i64 ((t35 3) 1)]) (cs' := [.int .i64 ((t35 0) 0), .int .i64 ((t35 0) 1), .int .i64 ((t35 1) 0), .int .i64 ((t35 1) 1), .int .i64 ((t35 2) 0), .int .i64 ((t35 2) 1), .int .i64 ((t35 3) 0), .int .i64 ((t35 3) 1)]) Try.sizeOf197 rfl rfl rfl rfl rfl rfl rfl rfl rfl ?_
      refine l_nil ?_
      refine c_meet (r := r) (σ := Unit) (τ := Unit) (fun s => edit_CheckStep_j2 a0) (fun s t => [(1, .pointer (some ⟨b2, 0, none⟩))]) (fun s t => [cellsC b2 [.int .i64 a0.Kind, .int .i64 a0.A, .int .i64 a0.B, .int .i64 a0.C, .int .i64 a0.D] 69]) (fun s t => True) ?_ ?_
      · refine c_seq ?_
        refine c_region ?_
        refine l_val rfl rfl rfl (r_move (v := .slice p.1 t21.length p.2) rfl) ?_
        refine l_val rfl rfl rfl (r_move (v := .int .i64 t17.2) rfl) ?_
        obtain ⟨t38, h_t38, H44⟩ := bnd_some H38; clear H38
        refine l_read (v := .slice (cutA p.1 (Int.toNat (0 : Int)) p.2 1) t38.length (p.2 - Int.toNat (0 : Int))) (fun w hF hS => run_sliceHO (xs := t21) Try.underlying148 Try.sizeOf3 rfl rfl rfl (capOf (i := 1) hS rfl) h_t38) rfl rfl rfl ?_
        refine l_val rfl rfl rfl (r_len Try.underlying148 rfl) ?_
        refine l_val rfl rfl rfl (r_move (v := .int .i64 0) rfl) ?_
        refine l_nil ?_
        refine c_block ?_
        refine c_fix (σ := Int) (τ := Unit) (fun next3 s => edit_CheckStep_l3 a0 t35 t38 next3 s) (fun s t => [(1, .pointer (some ⟨b2, 0, none⟩)), (8, .pointer (some ⟨b3, 0, none⟩)), (38, .slice (cutA p.1 (Int.toNat (0 : Int)) p.2 1) t38.length (p.2 - Int.toNat (0 : Int))), (39, .int .i64 (t38.length : Int)), (40, .int .i64 s)]) (fun s t => [cellsC b2 [.int .i64 a0.Kind, .int .i64 a0.A, .int .i64 a0.B, .int .i64 a0.C, .int .i64 a0.D] 69, rowV 3 1 (.slice p.1 t21.length p.2) t21.length (t21.map e_i64), cellsC b3 [.int .i64 ((t35 0) 0), .int .i64 ((t35 0) 1), .int .i64 ((t35 1) 0), .int .i64 ((t35 1) 1), .int .i64 ((t35 2) 0), .int .i64 ((t35 2) 1), .int .i64 ((t35 3) 0), .int .i64 ((t35 3) 1)] 197]) (fun s t => True) 0 () [0, 1, 2] H44 (by exact trivial) (by exact ⟨rfl, rfl, rfl, rfl, rfl, trivial⟩) (by decide) rfl ?_
        rintro x40_2 _ m3 gg H45 _
        clear H44
        replace H45 : edit_CheckStep_l3 a0 t35 t38 (it (fun next3 s => edit_CheckStep_l3 a0 t35 t38 next3 s) m3) x40_2 = some r := H45
        generalize hn3 : it (fun next3 s => edit_CheckStep_l3 a0 t35 t38 next3 s) m3 = next3 at H45
        refine c_tidyF [(1, .pointer (some ⟨b2, 0, none⟩)), (8, .pointer (some ⟨b3, 0, none⟩)), (38, .slice (cutA p.1 (Int.toNat (0 : Int)) p.2 1) t38.length (p.2 - Int.toNat (0 : Int))), (39, .int .i64 (t38.length : Int)), (40, .int .i64 x40_2)] [cellsC b2 [.int .i64 a0.Kind, .int .i64 a0.A, .int .i64 a0.B, .int .i64 a0.C, .int .i64 a0.D] 69, rowV 3 1 (.slice p.1 t21.length p.2) t21.length (t21.map e_i64), cellsC b3 [.int .i64 ((t35 0) 0), .int .i64 ((t35 0) 1), .int .i64 ((t35 1) 0), .int .i64 ((t35 1) 1), .int .i64 ((t35 2) 0), .int .i64 ((t35 2) 1), .int .i64 ((t35 3) 0), .int .i64 ((t35 3) 1)] 197] rfl rfl ?_
        refine c_seq ?_
        refine c_region ?_
        refine l_val rfl rfl rfl (r_lss rfl rfl) ?_
        refine l_nil ?_
        refine c_seq ?_
        refine c_if (b := (decide (x40_2 < (t38.length : Int)))) rfl (fun hb => ?_) (fun hb => ?_)
        · have H46 := cnd_t hb H45; clear H45
          refine c_skip ?_
          refine c_seq ?_
          refine c_block ?_
          refine c_seq ?_
          refine c_region ?_
          refine l_val rfl rfl rfl (r_move (v := .int .i64 x40_2) rfl) ?_
          obtain ⟨t43, h_t43, H47⟩ := bnd_some H46; clear H46
          refine l_read (fun w hF hS => run_indexO Try.underlying148 Try.sizeOf3 rfl rfl (Row.cutG (rowOf (i := 1) hS rfl) rfl (capOf (i := 1) hS rfl) h_t38) rfl h_t43) rfl rfl rfl ?_
          refine l_read (fun w hF hS => run_loadG1 (f := e_i64) (i := x40_2) (sz := 1) (j := 0) (v := .int .i64 t43) Try.isAgg3 rfl rfl (Row.cutG (rowOf (i := 1) hS rfl) rfl (capOf (i := 1) hS rfl) h_t38) h_t43 rfl) rfl rfl rfl ?_
          refine l_val rfl rfl rfl (r_assign (v := .int .i64 x40_2) rfl) ?_
          refine l_val rfl rfl rfl (r_assign (v := .int .i64 t43) rfl) ?_
          refine l_nil ?_
          refine c_seq ?_
          exact c_regionD (Kd.p :: Kd.p :: Kd.p :: Kd.p :: Kd.d [2] _ :: Kd.p :: Kd.p :: Kd.p :: Kd.d [2] _ :: Kd.d [] _ :: []) 0 mixed (by
            refine d_val rfl rfl (r_move (v := .int .i64 t43) rfl) ?_
            refine d_val rfl rfl (r_move (v := .int .i64 x40_2) rfl) ?_
            have h_k47 := bnd_val H47
            have H48 := bnd_rest H47
            refine d_val rfl rfl (r_indexPG Try.runUnderlying197 Try.sizeOf196 rfl rfl h_k47) ?_
            refine d_val rfl rfl (r_indexPA0 Try.runUnderlying196 Try.sizeOf3 rfl rfl (by decide)) ?_
            refine d_load1 (i := 2) (v := .int .i64 ((t35 (val (gIx 4 x40_2))) 0)) Try.isAgg3 rfl rfl rfl (rg_arr (pre := []) (post := []) (f := fun j_ => [.int .i64 ((t35 j_) 0), .int .i64 ((t35 j_) 1)]) (n := 4) (sz := 2) (q := 0) rfl rfl (fun _ => rfl) (gIx_lt h_k47) rfl) ?_
            refine d_val rfl rfl (r_move (v := .int .i64 x40_2) rfl) ?_
            have h_k51 := bnd_val H48
            have H49 := bnd_rest H48
            refine d_val rfl rfl (r_indexPG Try.runUnderlying197 Try.sizeOf196 rfl rfl h_k51) ?_
            refine d_val rfl rfl (r_indexPA Try.runUnderlying196 Try.sizeOf3 rfl rfl (by decide) (by decide)) ?_
            refine d_load1 (i := 2) (v := .int .i64 ((t35 (val (gIx 4 x40_2))) 1)) Try.isAgg3 rfl rfl rfl (rg_arr (pre := []) (post := []) (f := fun j_ => [.int .i64 ((t35 j_) 0), .int .i64 ((t35 j_) 1)]) (n := 4) (sz := 2) (q := 1) rfl rfl (fun _ => rfl) (gIx_lt h_k51) rfl) ?_
            have h_t54 := bnd_val H49
            have H50 := bnd_rest H49
            refine d_call (k110 h_t54) Try.call110 rfl rfl ?_
            refine d_nil ?_
            refine c_if (b := (val (edit_outside t43 ((t35 (val (gIx 4 x40_2))) 0) ((t35 (val (gIx 4 x40_2))) 1)))) rfl (fun hb => ?_) (fun hb => ?_)
            · have H51 := cnd_t hb H50; clear H50
              refine c_seq ?_
              refine c_region ?_
              refine l_val rfl rfl rfl (r_assign (v := .int .i64 2) rfl) ?_
              refine l_nil ?_
              refine c_ret ?_
              obtain rfl := Option.some.inj H51
              refine ret1 (v := .int .i64 2) rfl rfl (fin rfl)
            · have H52 := cnd_f hb H50; clear H50
              refine c_skip ?_
              refine c_region ?_
              obtain ⟨t55, h_t55, H53⟩ := bnd_some H52; clear H52
              refine l_val rfl rfl rfl (r_addG rfl rfl h_t55) ?_
              refine l_val rfl rfl rfl (r_move (v := .int .i64 t55) rfl) ?_
              refine l_nil ?_
              refine c_close t55 () m3 [0, 1, 2] (by exact ⟨rfl, rfl, rfl, rfl, rfl, trivial⟩) (by decide) rfl (by exact ⟨(by subst hn3; exact H53), trivial⟩) (Nat.lt_succ_self _)
            ) (by kernel_rfl)
        · have H54 := cnd_f hb H45; clear H45
          refine c_exit ?_
          refine c_close () () 0 [0] (by exact ⟨rfl, trivial⟩) (by decide) rfl (by exact ⟨H54, trivial⟩) (Nat.lt_succ_self _)
      · rintro _ _ gg H39 _
        replace H39 : edit_CheckStep_j2 a0 = some r := H39
        refine c_tidyF [(1, .pointer (some ⟨b2, 0, none⟩))] [cellsC b2 [.int .i64 a0.Kind, .int .i64 a0.A, .int .i64 a0.B, .int .i64 a0.C, .int .i64 a0.D] 69] rfl rfl ?_
        refine c_seq ?_
        refine c_seq ?_
        refine c_region ?_
        refine l_val rfl rfl rfl (r_field Try.runUnderlying69 rfl Try.sizeOf3 rfl rfl) ?_
        refine l_load1 (i := 0) (v := .int .i64 a0.Kind) Try.isAgg3 rfl rfl rfl rfl rfl ?_
        refine l_val rfl rfl rfl (r_eql rfl rfl) ?_
        refine l_val rfl rfl rfl (r_move (v := .bool (decide (a0.Kind = 6))) rfl) ?_
        refine split (fun hb => ?_) (fun hb => ?_)
        · have H40 := cnd_t hb H39; clear H39
          refine l_val rfl rfl rfl (r_field Try.runUnderlying69 rfl Try.sizeOf3 rfl rfl) ?_
          refine l_load1 (i := 0) (v := .int .i64 a0.B) Try.isAgg3 rfl rfl rfl rfl rfl ?_
          refine l_val rfl rfl rfl (r_field Try.runUnderlying69 rfl Try.sizeOf3 rfl rfl) ?_
          refine l_load1 (i := 0) (v := .int .i64 a0.A) Try.isAgg3 rfl rfl rfl rfl rfl ?_
          refine l_val rfl rfl rfl (r_leq rfl rfl) ?_
          refine l_val rfl rfl rfl (r_pickT (v := .bool (decide (a0.B ≤ a0.A))) rfl rfl) ?_
          refine l_nil ?_
          refine c_if (b := (decide (a0.B ≤ a0.A))) rfl (fun hb => ?_) (fun hb => ?_)
          · have H41 := cnd_t hb H40; clear H40
            refine c_seq ?_
            refine c_region ?_
            refine l_val rfl rfl rfl (r_assign (v := .int .i64 5) rfl) ?_
            refine l_nil ?_
            refine c_ret ?_
            obtain rfl := Option.some.inj H41
            refine ret1 (v := .int .i64 5) rfl rfl (fin rfl)
          · have H42 := cnd_f hb H40; clear H40
            refine c_skip ?_
            refine c_seq ?_
            refine c_region ?_
            refine l_val rfl rfl rfl (r_assign (v := .int .i64 0) rfl) ?_
            refine l_nil ?_
            refine c_ret ?_
            obtain rfl := Option.some.inj H42
            refine ret1 (v := .int .i64 0) rfl rfl (fin rfl)
        · have H43 := cnd_f hb H39; clear H39
          refine l_passed rfl rfl rfl ?_
          refine l_passed rfl rfl rfl ?_
          refine l_passed rfl rfl rfl ?_
          refine l_passed rfl rfl rfl ?_
          refine l_passed rfl rfl rfl ?_
          refine l_val rfl rfl rfl (r_pickF (v := .bool false) rfl rfl) ?_
          refine l_nil ?_
          refine c_false rfl ?_
          refine c_skip ?_
          refine c_seq ?_
          refine c_region ?_
          refine l_val rfl rfl rfl (r_assign (v := .int .i64 0) rfl) ?_
          refine l_nil ?_
          refine c_ret ?_
          obtain rfl := Option.some.inj H43
          refine ret1 (v := .int .i64 0) rfl rfl (fin rfl)
theorem k104 {a0 : (List T_edit_Step)} {v0 : Value} {r : Int} {w : World} {h : Heap} (hw : Know h w noS) (f0 : FrS h 5 v0 (a0.map e_edit_Step)) (H : edit_Check a0 = some r) : Does Try.prog 104 (List.toArray [v0]) w (fun v w' => v = (.int .i64 r) ∧ Grow w w') := by
  refine enter (n := 21) Try.func104 rfl rfl rfl noS [] (Sat.nil _ _) ?_
  refine c_seq ?_
  refine c_region ?_
  refine l_val rfl rfl rfl (r_assign (v := .int .i64 0) rfl) ?_
  refine l_nil ?_
  refine c_seq ?_
  refine c_seq ?_
  refine c_region ?_
  refine l_val rfl rfl rfl (r_move (v := v0) rfl) ?_
  refine l_val rfl rfl rfl (r_lenF Try.underlying61 rfl f0 rfl) ?_
  refine l_val rfl rfl rfl (r_gtr rfl rfl) ?_
  refine l_nil ?_
  refine c_if (b := (decide (50 < (a0.length : Int)))) rfl (fun hb => ?_) (fun hb => ?_)
  · have H11 := cnd_t hb H; clear H
    refine c_seq ?_
    refine c_region ?_
    refine l_val rfl rfl rfl (r_assign (v := .int .i64 4) rfl) ?_
    refine l_nil ?_
    refine c_ret ?_
    obtain rfl := Option.some.inj H11
    refine ret1 (v := .int .i64 4) rfl rfl (fin rfl)
  · have H12 := cnd_f hb H; clear H
    refine c_skip ?_
    refine c_seq ?_
    refine c_seq ?_
    refine c_region ?_
    refine l_val rfl rfl rfl (r_move (v := v0) rfl) ?_
    refine l_val rfl rfl rfl (r_lenF Try.underlying61 rfl f0 rfl) ?_
    refine l_val rfl rfl rfl (r_move (v := .int .i64 0) rfl) ?_
    refine l_nil ?_
    refine c_block ?_
    refine c_fix (σ := Int) (τ := Unit) (fun next1 s => edit_Check_l1 a0 next1 s) (fun s t => [(9, v0), (10, .int .i64 (a0.length : Int)), (11, .int .i64 s)]) (fun s t => []) (fun s t => True) 0 () [] H12 (by exact trivial) (by exact ⟨rfl, rfl, rfl, trivial⟩) (by decide) rfl ?_
    rintro x11_2 _ m1 gg H13 _
    clear H12
    replace H13 : edit_Check_l1 a0 (it (fun next1 s => edit_Check_l1 a0 next1 s) m1) x11_2 = some r := H13
    generalize hn1 : it (fun next1 s => edit_Check_l1 a0 next1 s) m1 = next1 at H13
    refine c_tidyF [(9, v0), (10, .int .i64 (a0.length : Int)), (11, .int .i64 x11_2)] [] rfl rfl ?_
    refine c_seq ?_
    refine c_region ?_
    refine l_val rfl rfl rfl (r_lss rfl rfl) ?_
    refine l_nil ?_
    refine c_seq ?_
    refine c_if (b := (decide (x11_2 < (a0.length : Int)))) rfl (fun hb => ?_) (fun hb => ?_)
    · have H14 := cnd_t hb H13; clear H13
      refine c_skip ?_
      refine c_seq ?_
      refine c_block ?_
      refine c_seq ?_
      refine c_region ?_
      obtain ⟨t13, h_t13, H15⟩ := bnd_some H14; clear H14
      refine l_val rfl rfl rfl (r_indexF Try.underlying61 Try.sizeOf69 rfl rfl f0 h_t13) ?_
      refine l_read (fun w hF hS => run_loadGN (f := e_edit_Step) (i := x11_2) (sz := 5) (j := 0) (vs := [.int .i64 t13.Kind, .int .i64 t13.A, .int .i64 t13.B, .int .i64 t13.C, .int .i64 t13.D]) Try.isAgg69 Try.sizeOf69 rfl rfl (f0.row (hw.now hF)) h_t13 rfl) rfl rfl rfl ?_
      refine l_alloc (cs := [.int .i64 0, .int .i64 0, .int .i64 0, .int .i64 0, .int .i64 0]) Try.zeroValue69 rfl rfl rfl (fun b1 => ?_)
      refine l_store (i := 0) (vs := [.int .i64 t13.Kind, .int .i64 t13.A, .int .i64 t13.B, .int .i64 t13.C, .int .i64 t13.D]) (cs' := [.int .i64 t13.Kind, .int .i64 t13.A, .int .i64 t13.B, .int .i64 t13.C, .int .i64 t13.D]) Try.sizeOf69 rfl rfl rfl rfl rfl rfl rfl rfl rfl ?_
      refine l_nil ?_
      refine c_seq ?_
      refine c_region ?_
      refine l_loadN (i := 0) (vs := [.int .i64 t13.Kind, .int .i64 t13.A, .int .i64 t13.B, .int .i64 t13.C, .int .i64 t13.D]) Try.isAgg69 Try.sizeOf69 rfl rfl rfl rfl rfl ?_
      obtain ⟨t16, h_t16, H16⟩ := bnd_some H15; clear H15
      refine l_call (k107 h_t16) Try.call107 rfl rfl rfl ?_
      refine l_val rfl rfl rfl (r_assign (v := .int .i64 t16) rfl) ?_
      refine l_nil ?_
      refine c_seq ?_
      refine c_region ?_
      refine l_val rfl rfl rfl (r_move (v := .int .i64 t16) rfl) ?_
      refine l_val rfl rfl rfl (r_neq rfl rfl) ?_
      refine l_nil ?_
      refine c_if (b := (decide (t16 ≠ 0))) rfl (fun hb => ?_) (fun hb => ?_)
      · have H17 := cnd_t hb H16; clear H16
        refine c_seq ?_
        refine c_region ?_
        refine l_val rfl rfl rfl (r_move (v := .int .i64 t16) rfl) ?_
        refine l_val rfl rfl rfl (r_assign (v := .int .i64 t16) rfl) ?_
        refine l_nil ?_
        refine c_ret ?_
        obtain rfl := Option.some.inj H17
        refine ret1 (v := .int .i64 t16) rfl rfl (fin rfl)
      · have H18 := cnd_f hb H16; clear H16
        refine c_skip ?_
        refine c_region ?_
        obtain ⟨t20, h_t20, H19⟩ := bnd_some H18; clear H18
        refine l_val rfl rfl rfl (r_addG rfl rfl h_t20) ?_
        refine l_val rfl rfl rfl (r_move (v := .int .i64 t20) rfl) ?_
        refine l_nil ?_
        refine c_close t20 () m1 [] (by exact ⟨rfl, rfl, rfl, trivial⟩) (by decide) rfl (by exact ⟨(by subst hn1; exact H19), trivial⟩) (Nat.lt_succ_self _)
    · have H20 := cnd_f hb H13; clear H13
      refine c_exit ?_
      refine c_seq ?_
      refine c_region ?_
      refine l_val rfl rfl rfl (r_assign (v := .int .i64 0) rfl) ?_
      refine l_nil ?_
      refine c_ret ?_
      obtain rfl := Option.some.inj H20
      refine ret1 (v := .int .i64 0) rfl rfl (fin rfl)
theorem k151 {a0 : T_edit_Step} {a1 : Int} {a2 : Int} {r : Int × Int × Bool} (H : edit_Step_size a0 a1 a2 = some r) : Ret Try.prog 151 [.agg #[.int .i64 a0.Kind, .int .i64 a0.A, .int .i64 a0.B, .int .i64 a0.C, .int .i64 a0.D], .int .i64 a1, .int .i64 a2] (.tuple #[.int .i64 r.1, .int .i64 r.2.1, .bool r.2.2]) := by
  refine enterRet (n := 48) Try.func151 rfl rfl rfl (fun wd => ?_)
  refine c_seq ?_
  refine c_region ?_
  refine l_box (cs := [.int .i64 a0.Kind, .int .i64 a0.A, .int .i64 a0.B, .int .i64 a0.C, .int .i64 a0.D]) rfl rfl rfl rfl (fun b1 => ?_)
  refine l_val rfl rfl rfl (r_assign (v := .int .i64 0) rfl) ?_
  refine l_val rfl rfl rfl (r_assign (v := .int .i64 0) rfl) ?_
  refine l_val rfl rfl rfl (r_assign (v := .bool false) rfl) ?_
  refine l_nil ?_
  refine c_meet (r := r) (σ := Unit) (τ := Unit) (fun s => edit_Step_size_j1 a1 a2) (fun s t => [(1, .int .i64 a1), (2, .int .i64 a2)]) (fun s t => []) (fun s t => True) ?_ ?_
  · refine c_seq ?_
    refine c_region ?_
    refine l_val rfl rfl rfl (r_field Try.runUnderlying69 rfl Try.sizeOf3 rfl rfl) ?_
    refine l_load1 (i := 0) (v := .int .i64 a0.Kind) Try.isAgg3 rfl rfl rfl rfl rfl ?_
    refine l_nil ?_
    refine c_block ?_
    refine c_seq ?_
    refine c_region ?_
    refine l_val rfl rfl rfl (r_eql rfl rfl) ?_
    refine l_val rfl rfl rfl (r_assign (v := .bool (decide (a0.Kind = 1))) rfl) ?_
    refine l_nil ?_
    refine c_if (b := (decide (a0.Kind = 1))) rfl (fun hb => ?_) (fun hb => ?_)
    · have H15 := cnd_t hb H; clear H
      refine c_seq ?_
      refine c_region ?_
      refine l_val rfl rfl rfl (r_field Try.runUnderlying69 rfl Try.sizeOf3 rfl rfl) ?_
      refine l_load1 (i := 0) (v := .int .i64 a0.A) Try.isAgg3 rfl rfl rfl rfl rfl ?_
      refine l_val rfl rfl rfl (r_geq rfl rfl) ?_
      refine l_nil ?_
      refine c_if (b := (decide (5 ≤ a0.A))) rfl (fun hb => ?_) (fun hb => ?_)
      · have H16 := cnd_t hb H15; clear H15
        refine c_seq ?_
        refine c_region ?_
        refine l_val rfl rfl rfl (r_move (v := .int .i64 a2) rfl) ?_
        refine l_val rfl rfl rfl (r_move (v := .int .i64 a1) rfl) ?_
        refine l_val rfl rfl rfl (r_assign (v := .int .i64 a2) rfl) ?_
        refine l_val rfl rfl rfl (r_assign (v := .int .i64 a1) rfl) ?_
        refine l_val rfl rfl rfl (r_assign (v := .bool true) rfl) ?_
        refine l_nil ?_
        refine c_ret ?_
        obtain rfl := Option.some.inj H16
        refine ret3 (v1 := .int .i64 a2) (v2 := .int .i64 a1) (v3 := .bool true) rfl rfl rfl rfl (fin rfl)
      · have H17 := cnd_f hb H15; clear H15
        refine c_skip ?_
        refine c_close () () 0 [] (by exact ⟨rfl, rfl, trivial⟩) (by decide) rfl (by exact ⟨H17, trivial⟩) (Nat.lt_succ_self _)
    · have H18 := cnd_f hb H; clear H
      refine c_seq ?_
      refine c_region ?_
      refine l_val rfl rfl rfl (r_eql rfl rfl) ?_
      refine l_val rfl rfl rfl (r_assign (v := .bool (decide (a0.Kind = 2))) rfl) ?_
      refine l_nil ?_
      refine c_if (b := (decide (a0.Kind = 2))) rfl (fun hb => ?_) (fun hb => ?_)
      · have H19 := cnd_t hb H18; clear H18
        refine c_seq ?_
        exact c_regionD (Kd.p :: Kd.d [0] _ :: Kd.p :: Kd.d [0] _ :: Kd.p :: Kd.d [0] _ :: Kd.p :: Kd.d [0] _ :: Kd.p :: Kd.p :: Kd.p :: Kd.p :: Kd.p :: Kd.d [0] _ :: Kd.p :: Kd.d [0] _ :: Kd.p :: Kd.p :: Kd.p :: Kd.p :: Kd.p :: Kd.p :: Kd.p :: []) 0 mixed (by
          refine d_val rfl rfl (r_field Try.runUnderlying69 rfl Try.sizeOf3 rfl rfl) ?_
          refine d_load1 (i := 0) (v := .int .i64 a0.C) Try.isAgg3 rfl rfl rfl rfl ?_
          refine d_val rfl rfl (r_field Try.runUnderlying69 rfl Try.sizeOf3 rfl rfl) ?_
          refine d_load1 (i := 0) (v := .int .i64 a0.D) Try.isAgg3 rfl rfl rfl rfl ?_
          refine d_val rfl rfl (r_field Try.runUnderlying69 rfl Try.sizeOf3 rfl rfl) ?_
          refine d_load1 (i := 0) (v := .int .i64 a0.A) Try.isAgg3 rfl rfl rfl rfl ?_
          refine d_val rfl rfl (r_field Try.runUnderlying69 rfl Try.sizeOf3 rfl rfl) ?_
          refine d_load1 (i := 0) (v := .int .i64 a0.C) Try.isAgg3 rfl rfl rfl rfl ?_
          have h_t28 := bnd_val H19
          have H20 := bnd_rest H19
          refine d_val rfl rfl (r_addG rfl rfl h_t28) ?_
          refine d_val rfl rfl (r_move (v := .int .i64 a1) rfl) ?_
          refine d_val rfl rfl (r_leq rfl rfl) ?_
          refine d_val rfl rfl (r_move (v := .bool (decide ((val (gI (a0.A + a0.C))) ≤ a1))) rfl) ?_
          refine splitS (fun hb => ?_) (fun hb => ?_)
          · have H21 := cnd_t hb H20
            refine d_val rfl rfl (r_field Try.runUnderlying69 rfl Try.sizeOf3 rfl rfl) ?_
            refine d_load1 (i := 0) (v := .int .i64 a0.B) Try.isAgg3 rfl rfl rfl rfl ?_
            refine d_val rfl rfl (r_field Try.runUnderlying69 rfl Try.sizeOf3 rfl rfl) ?_
            refine d_load1 (i := 0) (v := .int .i64 a0.D) Try.isAgg3 rfl rfl rfl rfl ?_
            have h_t36 := bnd_val H21
            have H22 := bnd_rest H21
            refine d_val rfl rfl (r_addG rfl rfl h_t36) ?_
            refine d_val rfl rfl (r_move (v := .int .i64 a2) rfl) ?_
            refine d_val rfl rfl (r_leq rfl rfl) ?_
            refine d_val rfl rfl (r_pickT (v := .bool (decide ((val (gI (a0.B + a0.D))) ≤ a2))) rfl rfl) ?_
            refine d_val rfl rfl (r_assign (v := .int .i64 a0.C) rfl) ?_
            refine d_val rfl rfl (r_assign (v := .int .i64 a0.D) rfl) ?_
            refine d_val rfl rfl (r_assign (v := .bool (decide ((val (gI (a0.B + a0.D))) ≤ a2))) rfl) ?_
            refine d_nil ?_
            refine c_ret ?_
            obtain rfl := Option.some.inj H22
            refine ret3 (v1 := .int .i64 a0.C) (v2 := .int .i64 a0.D) (v3 := .bool (decide ((val (gI (a0.B + a0.D))) ≤ a2))) rfl rfl rfl rfl (fin rfl)
          · have H23 := cnd_f hb H20
            refine d_pass rfl rfl ?_
            refine d_pass rfl rfl ?_
            refine d_pass rfl rfl ?_
            refine d_pass rfl rfl ?_
            refine d_pass rfl rfl ?_
            refine d_pass rfl rfl ?_
            refine d_pass rfl rfl ?_
            refine d_val rfl rfl (r_pickF (v := .bool false) rfl rfl) ?_
            refine d_val rfl rfl (r_assign (v := .int .i64 a0.C) rfl) ?_
            refine d_val rfl rfl (r_assign (v := .int .i64 a0.D) rfl) ?_
            refine d_val rfl rfl (r_assign (v := .bool false) rfl) ?_
            refine d_nil ?_
            refine c_ret ?_
            obtain rfl := Option.some.inj H23
            refine ret3 (v1 := .int .i64 a0.C) (v2 := .int .i64 a0.D) (v3 := .bool false) rfl rfl rfl rfl (fin rfl)
          ) (by kernel_rfl)
      · have H24 := cnd_f hb H18; clear H18
        refine c_seq ?_
        refine c_region ?_
        refine l_val rfl rfl rfl (r_eql rfl rfl) ?_
        refine l_val rfl rfl rfl (r_assign (v := .bool (decide (a0.Kind = 3))) rfl) ?_
        refine l_nil ?_
        refine c_if (b := (decide (a0.Kind = 3))) rfl (fun hb => ?_) (fun hb => ?_)
        · have H25 := cnd_t hb H24; clear H24
          refine c_seq ?_
          exact c_regionD (Kd.p :: Kd.d [0] _ :: Kd.p :: Kd.d [0] _ :: Kd.p :: Kd.p :: Kd.p :: []) 0 mixed (by
            refine d_val rfl rfl (r_field Try.runUnderlying69 rfl Try.sizeOf3 rfl rfl) ?_
            refine d_load1 (i := 0) (v := .int .i64 a0.A) Try.isAgg3 rfl rfl rfl rfl ?_
            refine d_val rfl rfl (r_field Try.runUnderlying69 rfl Try.sizeOf3 rfl rfl) ?_
            refine d_load1 (i := 0) (v := .int .i64 a0.B) Try.isAgg3 rfl rfl rfl rfl ?_
            refine d_val rfl rfl (r_assign (v := .int .i64 a0.A) rfl) ?_
            refine d_val rfl rfl (r_assign (v := .int .i64 a0.B) rfl) ?_
            refine d_val rfl rfl (r_assign (v := .bool true) rfl) ?_
            refine d_nil ?_
            refine c_ret ?_
            obtain rfl := Option.some.inj H25
            refine ret3 (v1 := .int .i64 a0.A) (v2 := .int .i64 a0.B) (v3 := .bool true) rfl rfl rfl rfl (fin rfl)
            ) (by kernel_rfl)
        · have H26 := cnd_f hb H24; clear H24
          refine c_skip ?_
          refine c_close () () 0 [] (by exact ⟨rfl, rfl, trivial⟩) (by decide) rfl (by exact ⟨H26, trivial⟩) (Nat.lt_succ_self _)
  · rintro _ _ gg H14 _
    replace H14 : edit_Step_size_j1 a1 a2 = some r := H14
    refine c_tidyF [(1, .int .i64 a1), (2, .int .i64 a2)] [] rfl rfl ?_
    refine c_seq ?_
    refine c_region ?_
    refine l_val rfl rfl rfl (r_move (v := .int .i64 a1) rfl) ?_
    refine l_val rfl rfl rfl (r_move (v := .int .i64 a2) rfl) ?_
    refine l_val rfl rfl rfl (r_assign (v := .int .i64 a1) rfl) ?_
    refine l_val rfl rfl rfl (r_assign (v := .int .i64 a2) rfl) ?_
    refine l_val rfl rfl rfl (r_assign (v := .bool true) rfl) ?_
    refine l_nil ?_
    refine c_ret ?_
    obtain rfl := Option.some.inj H14
    refine ret3 (v1 := .int .i64 a1) (v2 := .int .i64 a2) (v3 := .bool true) rfl rfl rfl rfl (fin rfl)
theorem k112 {a0 : (List T_edit_Step)} {v0 : Value} {a1 : Int} {a2 : Int} {r : Int × Int × Int} {w : World} {h : Heap} (hw : Know h w noS) (f0 : FrS h 5 v0 (a0.map e_edit_Step)) (H : edit_size a0 a1 a2 = some r) : Does Try.prog 112 (List.toArray [v0, .int .i64 a1, .int .i64 a2]) w (fun v w' => v = (.tuple #[.int .i64 r.1, .int .i64 r.2.1, .int .i64 r.2.2]) ∧ Grow w w') := by
  refine enter (n := 37) Try.func112 rfl rfl rfl noS [] (Sat.nil _ _) ?_
  refine c_seq ?_
  refine c_region ?_
  refine l_val rfl rfl rfl (r_assign (v := .int .i64 0) rfl) ?_
  refine l_val rfl rfl rfl (r_assign (v := .int .i64 0) rfl) ?_
  refine l_val rfl rfl rfl (r_assign (v := .int .i64 0) rfl) ?_
  refine l_nil ?_
  refine c_seq ?_
  refine c_seq ?_
  refine c_region ?_
  refine l_val rfl rfl rfl (r_move (v := .int .i64 a1) rfl) ?_
  obtain ⟨t13, h_t13, H16⟩ := bnd_some H; clear H
  refine l_call (k110 h_t13) Try.call110 rfl rfl rfl ?_
  refine l_val rfl rfl rfl (r_move (v := .bool t13) rfl) ?_
  refine split (fun hb => ?_) (fun hb => ?_)
  · have H17 := cnd_t hb H16; clear H16
    refine l_passed rfl rfl rfl ?_
    refine l_passed rfl rfl rfl ?_
    refine l_val rfl rfl rfl (r_pickT (v := .bool true) rfl rfl) ?_
    refine l_nil ?_
    refine c_true rfl ?_
    refine c_seq ?_
    refine c_region ?_
    refine l_val rfl rfl rfl (r_assign (v := .int .i64 0) rfl) ?_
    refine l_val rfl rfl rfl (r_assign (v := .int .i64 0) rfl) ?_
    refine l_val rfl rfl rfl (r_assign (v := .int .i64 2) rfl) ?_
    refine l_nil ?_
    refine c_ret ?_
    obtain rfl := Option.some.inj H17
    refine ret3 (v1 := .int .i64 0) (v2 := .int .i64 0) (v3 := .int .i64 2) rfl rfl rfl rfl (fin rfl)
  · have H18 := cnd_f hb H16; clear H16
    refine l_val rfl rfl rfl (r_move (v := .int .i64 a2) rfl) ?_
    obtain ⟨t16, h_t16, H19⟩ := bnd_some H18; clear H18
    refine l_call (k110 h_t16) Try.call110 rfl rfl rfl ?_
    refine l_val rfl rfl rfl (r_pickF (v := .bool t16) rfl rfl) ?_
    refine l_nil ?_
    refine c_if (b := t16) rfl (fun hb => ?_) (fun hb => ?_)
    · have H20 := cnd_t hb H19; clear H19
      refine c_seq ?_
      refine c_region ?_
      refine l_val rfl rfl rfl (r_assign (v := .int .i64 0) rfl) ?_
      refine l_val rfl rfl rfl (r_assign (v := .int .i64 0) rfl) ?_
      refine l_val rfl rfl rfl (r_assign (v := .int .i64 2) rfl) ?_
      refine l_nil ?_
      refine c_ret ?_
      obtain rfl := Option.some.inj H20
      refine ret3 (v1 := .int .i64 0) (v2 := .int .i64 0) (v3 := .int .i64 2) rfl rfl rfl rfl (fin rfl)
    · have H21 := cnd_f hb H19; clear H19
      refine c_skip ?_
      refine c_meet (r := r) (σ := Int × Int) (τ := Unit) (fun s => edit_size_j1 s.1 s.2) (fun s t => [(1, .int .i64 s.1), (2, .int .i64 s.2)]) (fun s t => []) (fun s t => True) ?_ ?_
      · refine c_seq ?_
        refine c_region ?_
        refine l_val rfl rfl rfl (r_move (v := v0) rfl) ?_
        refine l_val rfl rfl rfl (r_lenF Try.underlying61 rfl f0 rfl) ?_
        refine l_val rfl rfl rfl (r_move (v := .int .i64 0) rfl) ?_
        refine l_nil ?_
        refine c_block ?_
        refine c_fix (σ := Int × Int × Int) (τ := Unit) (fun next2 s => edit_size_l2 a0 next2 s.1 s.2.1 s.2.2) (fun s t => [(1, .int .i64 s.1), (2, .int .i64 s.2.1), (18, v0), (19, .int .i64 (a0.length : Int)), (20, .int .i64 s.2.2)]) (fun s t => []) (fun s t => True) (a1, a2, 0) () [] H21 (by exact trivial) (by exact ⟨rfl, rfl, rfl, rfl, rfl, trivial⟩) (by decide) rfl ?_
        rintro ⟨x1_3, x2_3, x20_2⟩ _ m2 gg H23 _
        clear H21
        replace H23 : edit_size_l2 a0 (it (fun next2 s => edit_size_l2 a0 next2 s.1 s.2.1 s.2.2) m2) x1_3 x2_3 x20_2 = some r := H23
        generalize hn2 : it (fun next2 s => edit_size_l2 a0 next2 s.1 s.2.1 s.2.2) m2 = next2 at H23
        refine c_tidyF [(1, .int .i64 x1_3), (2, .int .i64 x2_3), (18, v0), (19, .int .i64 (a0.length : Int)), (20, .int .i64 x20_2)] [] rfl rfl ?_
        refine c_seq ?_
        refine c_region ?_
        refine l_val rfl rfl rfl (r_lss rfl rfl) ?_
        refine l_nil ?_
        refine c_seq ?_
        refine c_if (b := (decide (x20_2 < (a0.length : Int)))) rfl (fun hb => ?_) (fun hb => ?_)
        · have H24 := cnd_t hb H23; clear H23
          refine c_skip ?_
          refine c_seq ?_
          refine c_block ?_
          refine c_seq ?_
          refine c_region ?_
          obtain ⟨t22, h_t22, H25⟩ := bnd_some H24; clear H24
          refine l_val rfl rfl rfl (r_indexF Try.underlying61 Try.sizeOf69 rfl rfl f0 h_t22) ?_
          refine l_read (fun w hF hS => run_loadGN (f := e_edit_Step) (i := x20_2) (sz := 5) (j := 0) (vs := [.int .i64 t22.Kind, .int .i64 t22.A, .int .i64 t22.B, .int .i64 t22.C, .int .i64 t22.D]) Try.isAgg69 Try.sizeOf69 rfl rfl (f0.row (hw.now hF)) h_t22 rfl) rfl rfl rfl ?_
          refine l_alloc (cs := [.int .i64 0, .int .i64 0, .int .i64 0, .int .i64 0, .int .i64 0]) Try.zeroValue69 rfl rfl rfl (fun b1 => ?_)
          refine l_store (i := 0) (vs := [.int .i64 t22.Kind, .int .i64 t22.A, .int .i64 t22.B, .int .i64 t22.C, .int .i64 t22.D]) (cs' := [.int .i64 t22.Kind, .int .i64 t22.A, .int .i64 t22.B, .int .i64 t22.C, .int .i64 t22.D]) Try.sizeOf69 rfl rfl rfl rfl rfl rfl rfl rfl rfl ?_
          refine l_nil ?_
          refine c_seq ?_
          refine c_region ?_
          refine l_val rfl rfl rfl (r_assign (v := .bool false) rfl) ?_
          refine l_nil ?_
          refine c_seq ?_
          refine c_region ?_
          refine l_loadN (i := 0) (vs := [.int .i64 t22.Kind, .int .i64 t22.A, .int .i64 t22.B, .int .i64 t22.C, .int .i64 t22.D]) Try.isAgg69 Try.sizeOf69 rfl rfl rfl rfl rfl ?_
          refine l_val rfl rfl rfl (r_move (v := .int .i64 x1_3) rfl) ?_
          refine l_val rfl rfl rfl (r_move (v := .int .i64 x2_3) rfl) ?_
          obtain ⟨t28, h_t28, H26⟩ := bnd_some H25; clear H25
          refine l_call (k151 h_t28) Try.call151 rfl rfl rfl ?_
          refine l_val rfl rfl rfl (r_move (v := .tuple #[.int .i64 t28.1, .int .i64 t28.2.1, .bool t28.2.2]) rfl) ?_
          refine l_val rfl rfl rfl (r_extract (v := .int .i64 t28.1) rfl rfl) ?_
          refine l_val rfl rfl rfl (r_extract (v := .int .i64 t28.2.1) rfl rfl) ?_
          refine l_val rfl rfl rfl (r_extract (v := .bool t28.2.2) rfl rfl) ?_
          refine l_val rfl rfl rfl (r_assign (v := .int .i64 t28.1) rfl) ?_
          refine l_val rfl rfl rfl (r_assign (v := .int .i64 t28.2.1) rfl) ?_
          refine l_val rfl rfl rfl (r_assign (v := .bool t28.2.2) rfl) ?_
          refine l_nil ?_
          refine c_seq ?_
          refine c_region ?_
          refine l_val rfl rfl rfl (r_move (v := .bool t28.2.2) rfl) ?_
          refine l_val rfl rfl rfl (r_not rfl) ?_
          refine l_nil ?_
          refine c_if (b := (!t28.2.2)) rfl (fun hb => ?_) (fun hb => ?_)
          · have H27 := cnd_t hb H26; clear H26
            refine c_seq ?_
            refine c_region ?_
            refine l_val rfl rfl rfl (r_assign (v := .int .i64 0) rfl) ?_
            refine l_val rfl rfl rfl (r_assign (v := .int .i64 0) rfl) ?_
            refine l_val rfl rfl rfl (r_assign (v := .int .i64 7) rfl) ?_
            refine l_nil ?_
            refine c_ret ?_
            obtain rfl := Option.some.inj H27
            refine ret3 (v1 := .int .i64 0) (v2 := .int .i64 0) (v3 := .int .i64 7) rfl rfl rfl rfl (fin rfl)
          · have H28 := cnd_f hb H26; clear H26
            refine c_skip ?_
            refine c_region ?_
            obtain ⟨t34, h_t34, H29⟩ := bnd_some H28; clear H28
            refine l_val rfl rfl rfl (r_addG rfl rfl h_t34) ?_
            refine l_val rfl rfl rfl (r_move (v := .int .i64 t34) rfl) ?_
            refine l_nil ?_
            refine c_close (t28.1, t28.2.1, t34) () m2 [] (by exact ⟨rfl, rfl, rfl, rfl, rfl, trivial⟩) (by decide) rfl (by exact ⟨(by subst hn2; exact H29), trivial⟩) (Nat.lt_succ_self _)
        · have H30 := cnd_f hb H23; clear H23
          refine c_exit ?_
          refine c_close (x1_3, x2_3) () 0 [] (by exact ⟨rfl, rfl, trivial⟩) (by decide) rfl (by exact ⟨H30, trivial⟩) (Nat.lt_succ_self _)
      · rintro ⟨x1, x2⟩ _ gg H22 _
        replace H22 : edit_size_j1 x1 x2 = some r := H22
        refine c_tidyF [(1, .int .i64 x1), (2, .int .i64 x2)] [] rfl rfl ?_
        refine c_seq ?_
        refine c_region ?_
        refine l_val rfl rfl rfl (r_move (v := .int .i64 x1) rfl) ?_
        refine l_val rfl rfl rfl (r_move (v := .int .i64 x2) rfl) ?_
        refine l_val rfl rfl rfl (r_assign (v := .int .i64 x1) rfl) ?_
        refine l_val rfl rfl rfl (r_assign (v := .int .i64 x2) rfl) ?_
        refine l_val rfl rfl rfl (r_assign (v := .int .i64 0) rfl) ?_
        refine l_nil ?_
        refine c_ret ?_
        obtain rfl := Option.some.inj H22
        refine ret3 (v1 := .int .i64 x1) (v2 := .int .i64 x2) (v3 := .int .i64 0) rfl rfl rfl rfl (fin rfl)
theorem k185 {a0 : Int} {a1 : Int} {a2 : Int} {a3 : Int} {r : Int × Int} (H : pix_turnings_1 a0 a1 a2 a3 = some r) : Ret Try.prog 185 [.int .i64 a0, .int .i64 a1, .int .i64 a2, .int .i64 a3] (.tuple #[.int .i64 r.1, .int .i64 r.2]) := by
  refine enterRet (n := 12) Try.func185 rfl rfl rfl (fun wd => ?_)
  refine c_seq ?_
  refine c_region ?_
  refine l_val rfl rfl rfl (r_assign (v := .int .i64 0) rfl) ?_
  refine l_val rfl rfl rfl (r_assign (v := .int .i64 0) rfl) ?_
  refine l_nil ?_
  refine c_seq ?_
  refine c_region ?_
  refine l_val rfl rfl rfl (r_move (v := .int .i64 a2) rfl) ?_
  refine l_val rfl rfl rfl (r_move (v := .int .i64 a3) rfl) ?_
  refine l_val rfl rfl rfl (r_assign (v := .int .i64 a2) rfl) ?_
  refine l_val rfl rfl rfl (r_assign (v := .int .i64 a3) rfl) ?_
  refine l_nil ?_
  refine c_ret ?_
  obtain rfl := Option.some.inj H
  refine ret2 (v1 := .int .i64 a2) (v2 := .int .i64 a3) rfl rfl rfl (fin rfl)
theorem k186 {a0 : Int} {a1 : Int} {a2 : Int} {a3 : Int} {r : Int × Int} (H : pix_turnings_2 a0 a1 a2 a3 = some r) : Ret Try.prog 186 [.int .i64 a0, .int .i64 a1, .int .i64 a2, .int .i64 a3] (.tuple #[.int .i64 r.1, .int .i64 r.2]) := by
  refine enterRet (n := 15) Try.func186 rfl rfl rfl (fun wd => ?_)
  refine c_seq ?_
  refine c_region ?_
  refine l_val rfl rfl rfl (r_assign (v := .int .i64 0) rfl) ?_
  refine l_val rfl rfl rfl (r_assign (v := .int .i64 0) rfl) ?_
  refine l_nil ?_
  refine c_seq ?_
  refine c_region ?_
  refine l_val rfl rfl rfl (r_move (v := .int .i64 a0) rfl) ?_
  obtain ⟨t11, h_t11, H3⟩ := bnd_some H; clear H
  refine l_val rfl rfl rfl (r_subG rfl rfl h_t11) ?_
  refine l_val rfl rfl rfl (r_move (v := .int .i64 a2) rfl) ?_
  obtain ⟨t13, h_t13, H4⟩ := bnd_some H3; clear H3
  refine l_val rfl rfl rfl (r_subG rfl rfl h_t13) ?_
  refine l_val rfl rfl rfl (r_move (v := .int .i64 a3) rfl) ?_
  refine l_val rfl rfl rfl (r_assign (v := .int .i64 t13) rfl) ?_
  refine l_val rfl rfl rfl (r_assign (v := .int .i64 a3) rfl) ?_
  refine l_nil ?_
  refine c_ret ?_
  obtain rfl := Option.some.inj H4
  refine ret2 (v1 := .int .i64 t13) (v2 := .int .i64 a3) rfl rfl rfl (fin rfl)
theorem k187 {a0 : Int} {a1 : Int} {a2 : Int} {a3 : Int} {r : Int × Int} (H : pix_turnings_3 a0 a1 a2 a3 = some r) : Ret Try.prog 187 [.int .i64 a0, .int .i64 a1, .int .i64 a2, .int .i64 a3] (.tuple #[.int .i64 r.1, .int .i64 r.2]) := by
  refine enterRet (n := 18) Try.func187 rfl rfl rfl (fun wd => ?_)
  refine c_seq ?_
  refine c_region ?_
  refine l_val rfl rfl rfl (r_assign (v := .int .i64 0) rfl) ?_
  refine l_val rfl rfl rfl (r_assign (v := .int .i64 0) rfl) ?_
  refine l_nil ?_
  refine c_seq ?_
  refine c_region ?_
  refine l_val rfl rfl rfl (r_move (v := .int .i64 a0) rfl) ?_
  obtain ⟨t11, h_t11, H5⟩ := bnd_some H; clear H
  refine l_val rfl rfl rfl (r_subG rfl rfl h_t11) ?_
  refine l_val rfl rfl rfl (r_move (v := .int .i64 a2) rfl) ?_
  obtain ⟨t13, h_t13, H6⟩ := bnd_some H5; clear H5
  refine l_val rfl rfl rfl (r_subG rfl rfl h_t13) ?_
  refine l_val rfl rfl rfl (r_move (v := .int .i64 a1) rfl) ?_
  obtain ⟨t15, h_t15, H7⟩ := bnd_some H6; clear H6
  refine l_val rfl rfl rfl (r_subG rfl rfl h_t15) ?_
  refine l_val rfl rfl rfl (r_move (v := .int .i64 a3) rfl) ?_
  obtain ⟨t17, h_t17, H8⟩ := bnd_some H7; clear H7
  refine l_val rfl rfl rfl (r_subG rfl rfl h_t17) ?_
  refine l_val rfl rfl rfl (r_assign (v := .int .i64 t13) rfl) ?_
  refine l_val rfl rfl rfl (r_assign (v := .int .i64 t17) rfl) ?_
  refine l_nil ?_
  refine c_ret ?_
  obtain rfl := Option.some.inj H8
  refine ret2 (v1 := .int .i64 t13) (v2 := .int .i64 t17) rfl rfl rfl (fin rfl)
theorem k188 {a0 : Int} {a1 : Int} {a2 : Int} {a3 : Int} {r : Int × Int} (H : pix_turnings_4 a0 a1 a2 a3 = some r) : Ret Try.prog 188 [.int .i64 a0, .int .i64 a1, .int .i64 a2, .int .i64 a3] (.tuple #[.int .i64 r.1, .int .i64 r.2]) := by
  refine enterRet (n := 15) Try.func188 rfl rfl rfl (fun wd => ?_)
  refine c_seq ?_
  refine c_region ?_
  refine l_val rfl rfl rfl (r_assign (v := .int .i64 0) rfl) ?_
  refine l_val rfl rfl rfl (r_assign (v := .int .i64 0) rfl) ?_
  refine l_nil ?_
  refine c_seq ?_
  refine c_region ?_
  refine l_val rfl rfl rfl (r_move (v := .int .i64 a2) rfl) ?_
  refine l_val rfl rfl rfl (r_move (v := .int .i64 a1) rfl) ?_
  obtain ⟨t12, h_t12, H3⟩ := bnd_some H; clear H
  refine l_val rfl rfl rfl (r_subG rfl rfl h_t12) ?_
  refine l_val rfl rfl rfl (r_move (v := .int .i64 a3) rfl) ?_
  obtain ⟨t14, h_t14, H4⟩ := bnd_some H3; clear H3
  refine l_val rfl rfl rfl (r_subG rfl rfl h_t14) ?_
  refine l_val rfl rfl rfl (r_assign (v := .int .i64 a2) rfl) ?_
  refine l_val rfl rfl rfl (r_assign (v := .int .i64 t14) rfl) ?_
  refine l_nil ?_
  refine c_ret ?_
  obtain rfl := Option.some.inj H4
  refine ret2 (v1 := .int .i64 a2) (v2 := .int .i64 t14) rfl rfl rfl (fin rfl)
theorem k189 {a0 : Int} {a1 : Int} {a2 : Int} {a3 : Int} {r : Int × Int} (H : pix_turnings_5 a0 a1 a2 a3 = some r) : Ret Try.prog 189 [.int .i64 a0, .int .i64 a1, .int .i64 a2, .int .i64 a3] (.tuple #[.int .i64 r.1, .int .i64 r.2]) := by
  refine enterRet (n := 12) Try.func189 rfl rfl rfl (fun wd => ?_)
  refine c_seq ?_
  refine c_region ?_
  refine l_val rfl rfl rfl (r_assign (v := .int .i64 0) rfl) ?_
  refine l_val rfl rfl rfl (r_assign (v := .int .i64 0) rfl) ?_
  refine l_nil ?_
  refine c_seq ?_
  refine c_region ?_
  refine l_val rfl rfl rfl (r_move (v := .int .i64 a3) rfl) ?_
  refine l_val rfl rfl rfl (r_move (v := .int .i64 a2) rfl) ?_
  refine l_val rfl rfl rfl (r_assign (v := .int .i64 a3) rfl) ?_
  refine l_val rfl rfl rfl (r_assign (v := .int .i64 a2) rfl) ?_
  refine l_nil ?_
  refine c_ret ?_
  obtain rfl := Option.some.inj H
  refine ret2 (v1 := .int .i64 a3) (v2 := .int .i64 a2) rfl rfl rfl (fin rfl)
theorem k190 {a0 : Int} {a1 : Int} {a2 : Int} {a3 : Int} {r : Int × Int} (H : pix_turnings_6 a0 a1 a2 a3 = some r) : Ret Try.prog 190 [.int .i64 a0, .int .i64 a1, .int .i64 a2, .int .i64 a3] (.tuple #[.int .i64 r.1, .int .i64 r.2]) := by
  refine enterRet (n := 15) Try.func190 rfl rfl rfl (fun wd => ?_)
  refine c_seq ?_
  refine c_region ?_
  refine l_val rfl rfl rfl (r_assign (v := .int .i64 0) rfl) ?_
  refine l_val rfl rfl rfl (r_assign (v := .int .i64 0) rfl) ?_
  refine l_nil ?_
  refine c_seq ?_
  refine c_region ?_
  refine l_val rfl rfl rfl (r_move (v := .int .i64 a3) rfl) ?_
  refine l_val rfl rfl rfl (r_move (v := .int .i64 a1) rfl) ?_
  obtain ⟨t12, h_t12, H3⟩ := bnd_some H; clear H
  refine l_val rfl rfl rfl (r_subG rfl rfl h_t12) ?_
  refine l_val rfl rfl rfl (r_move (v := .int .i64 a2) rfl) ?_
  obtain ⟨t14, h_t14, H4⟩ := bnd_some H3; clear H3
  refine l_val rfl rfl rfl (r_subG rfl rfl h_t14) ?_
  refine l_val rfl rfl rfl (r_assign (v := .int .i64 a3) rfl) ?_
  refine l_val rfl rfl rfl (r_assign (v := .int .i64 t14) rfl) ?_
  refine l_nil ?_
  refine c_ret ?_
  obtain rfl := Option.some.inj H4
  refine ret2 (v1 := .int .i64 a3) (v2 := .int .i64 t14) rfl rfl rfl (fin rfl)
theorem k191 {a0 : Int} {a1 : Int} {a2 : Int} {a3 : Int} {r : Int × Int} (H : pix_turnings_7 a0 a1 a2 a3 = some r) : Ret Try.prog 191 [.int .i64 a0, .int .i64 a1, .int .i64 a2, .int .i64 a3] (.tuple #[.int .i64 r.1, .int .i64 r.2]) := by
  refine enterRet (n := 18) Try.func191 rfl rfl rfl (fun wd => ?_)
  refine c_seq ?_
  refine c_region ?_
  refine l_val rfl rfl rfl (r_assign (v := .int .i64 0) rfl) ?_
  refine l_val rfl rfl rfl (r_assign (v := .int .i64 0) rfl) ?_
  refine l_nil ?_
  refine c_seq ?_
  refine c_region ?_
  refine l_val rfl rfl rfl (r_move (v := .int .i64 a0) rfl) ?_
  obtain ⟨t11, h_t11, H5⟩ := bnd_some H; clear H
  refine l_val rfl rfl rfl (r_subG rfl rfl h_t11) ?_
  refine l_val rfl rfl rfl (r_move (v := .int .i64 a3) rfl) ?_
  obtain ⟨t13, h_t13, H6⟩ := bnd_some H5; clear H5
  refine l_val rfl rfl rfl (r_subG rfl rfl h_t13) ?_
  refine l_val rfl rfl rfl (r_move (v := .int .i64 a1) rfl) ?_
  obtain ⟨t15, h_t15, H7⟩ := bnd_some H6; clear H6
  refine l_val rfl rfl rfl (r_subG rfl rfl h_t15) ?_
  refine l_val rfl rfl rfl (r_move (v := .int .i64 a2) rfl) ?_
  obtain ⟨t17, h_t17, H8⟩ := bnd_some H7; clear H7
  refine l_val rfl rfl rfl (r_subG rfl rfl h_t17) ?_
  refine l_val rfl rfl rfl (r_assign (v := .int .i64 t13) rfl) ?_
  refine l_val rfl rfl rfl (r_assign (v := .int .i64 t17) rfl) ?_
  refine l_nil ?_
  refine c_ret ?_
  obtain rfl := Option.some.inj H8
  refine ret2 (v1 := .int .i64 t13) (v2 := .int .i64 t17) rfl rfl rfl (fin rfl)
theorem k192 {a0 : Int} {a1 : Int} {a2 : Int} {a3 : Int} {r : Int × Int} (H : pix_turnings_8 a0 a1 a2 a3 = some r) : Ret Try.prog 192 [.int .i64 a0, .int .i64 a1, .int .i64 a2, .int .i64 a3] (.tuple #[.int .i64 r.1, .int .i64 r.2]) := by
  refine enterRet (n := 15) Try.func192 rfl rfl rfl (fun wd => ?_)
  refine c_seq ?_
  refine c_region ?_
  refine l_val rfl rfl rfl (r_assign (v := .int .i64 0) rfl) ?_
  refine l_val rfl rfl rfl (r_assign (v := .int .i64 0) rfl) ?_
  refine l_nil ?_
  refine c_seq ?_
  refine c_region ?_
  refine l_val rfl rfl rfl (r_move (v := .int .i64 a0) rfl) ?_
  obtain ⟨t11, h_t11, H3⟩ := bnd_some H; clear H
  refine l_val rfl rfl rfl (r_subG rfl rfl h_t11) ?_
  refine l_val rfl rfl rfl (r_move (v := .int .i64 a3) rfl) ?_
  obtain ⟨t13, h_t13, H4⟩ := bnd_some H3; clear H3
  refine l_val rfl rfl rfl (r_subG rfl rfl h_t13) ?_
  refine l_val rfl rfl rfl (r_move (v := .int .i64 a2) rfl) ?_
  refine l_val rfl rfl rfl (r_assign (v := .int .i64 t13) rfl) ?_
  refine l_val rfl rfl rfl (r_assign (v := .int .i64 a2) rfl) ?_
  refine l_nil ?_
  refine c_ret ?_
  obtain rfl := Option.some.inj H4
  refine ret2 (v1 := .int .i64 t13) (v2 := .int .i64 a2) rfl rfl rfl (fin rfl)
theorem k152 {r : Unit} (H : pix_turnings = some r) : Ret Try.prog 152 [] (.agg #[.nilFunc, .bool false, .func (.func 185) #[] #[], .bool false, .func (.func 186) #[] #[], .bool false, .func (.func 187) #[] #[], .bool false, .func (.func 188) #[] #[], .bool false, .func (.func 189) #[] #[], .bool true, .func (.func 190) #[] #[], .bool true, .func (.func 191) #[] #[], .bool true, .func (.func 192) #[] #[], .bool true]) := by
  refine enterRet (n := 10) Try.func152 rfl rfl rfl (fun wd => ?_)
  refine c_seq ?_
  refine c_region ?_
  refine l_alloc (cs := [.nilFunc, .bool false, .nilFunc, .bool false, .nilFunc, .bool false, .nilFunc, .bool false, .nilFunc, .bool false, .nilFunc, .bool false, .nilFunc, .bool false, .nilFunc, .bool false, .nilFunc, .bool false]) Try.zeroValue205 rfl rfl rfl (fun b2 => ?_)
  refine l_nil ?_
  refine c_seq ?_
  refine c_region ?_
  refine l_val rfl rfl rfl (r_build (pl := #[(0, 1), (1, 1)]) (ps := [(0, .func (.func 185) #[] #[]), (1, .bool false)]) (cells := #[.func (.func 185) #[] #[], .bool false]) Try.zeroValue204 Try.runUnderlying204 (fun w => by kernel_rfl) rfl rfl) ?_
  refine l_val rfl rfl rfl (r_build (pl := #[(0, 1), (1, 1)]) (ps := [(0, .func (.func 186) #[] #[]), (1, .bool false)]) (cells := #[.func (.func 186) #[] #[], .bool false]) Try.zeroValue204 Try.runUnderlying204 (fun w => by kernel_rfl) rfl rfl) ?_
  refine l_val rfl rfl rfl (r_build (pl := #[(0, 1), (1, 1)]) (ps := [(0, .func (.func 187) #[] #[]), (1, .bool false)]) (cells := #[.func (.func 187) #[] #[], .bool false]) Try.zeroValue204 Try.runUnderlying204 (fun w => by kernel_rfl) rfl rfl) ?_
  refine l_val rfl rfl rfl (r_build (pl := #[(0, 1), (1, 1)]) (ps := [(0, .func (.func 188) #[] #[]), (1, .bool false)]) (cells := #[.func (.func 188) #[] #[], .bool false]) Try.zeroValue204 Try.runUnderlying204 (fun w => by kernel_rfl) rfl rfl) ?_
  refine l_val rfl rfl rfl (r_build (pl := #[(0, 1), (1, 1)]) (ps := [(0, .func (.func 189) #[] #[]), (1, .bool true)]) (cells := #[.func (.func 189) #[] #[], .bool true]) Try.zeroValue204 Try.runUnderlying204 (fun w => by kernel_rfl) rfl rfl) ?_
  refine l_val rfl rfl rfl (r_build (pl := #[(0, 1), (1, 1)]) (ps := [(0, .func (.func 190) #[] #[]), (1, .bool true)]) (cells := #[.func (.func 190) #[] #[], .bool true]) Try.zeroValue204 Try.runUnderlying204 (fun w => by kernel_rfl) rfl rfl) ?_
  refine l_val rfl rfl rfl (r_build (pl := #[(0, 1), (1, 1)]) (ps := [(0, .func (.func 191) #[] #[]), (1, .bool true)]) (cells := #[.func (.func 191) #[] #[], .bool true]) Try.zeroValue204 Try.runUnderlying204 (fun w => by kernel_rfl) rfl rfl) ?_
  refine l_val rfl rfl rfl (r_build (pl := #[(0, 1), (1, 1)]) (ps := [(0, .func (.func 192) #[] #[]), (1, .bool true)]) (cells := #[.func (.func 192) #[] #[], .bool true]) Try.zeroValue204 Try.runUnderlying204 (fun w => by kernel_rfl) rfl rfl) ?_
  refine l_val rfl rfl rfl (r_buildA (ps := [(1, .agg #[.func (.func 185) #[] #[], .bool false]), (2, .agg #[.func (.func 186) #[] #[], .bool false]), (3, .agg #[.func (.func 187) #[] #[], .bool false]), (4, .agg #[.func (.func 188) #[] #[], .bool false]), (5, .agg #[.func (.func 189) #[] #[], .bool true]), (6, .agg #[.func (.func 190) #[] #[], .bool true]), (7, .agg #[.func (.func 191) #[] #[], .bool true]), (8, .agg #[.func (.func 192) #[] #[], .bool true])]) (cells := #[.nilFunc, .bool false, .func (.func 185) #[] #[], .bool false, .func (.func 186) #[] #[], .bool false, .func (.func 187) #[] #[], .bool false, .func (.func 188) #[] #[], .bool false, .func (.func 189) #[] #[], .bool true, .func (.func 190) #[] #[], .bool true, .func (.func 191) #[] #[], .bool true, .func (.func 192) #[] #[], .bool true]) Try.zeroValue205 Try.runUnderlying205 Try.sizeOf204 rfl rfl) ?_
  refine l_store (i := 0) (vs := [.nilFunc, .bool false, .func (.func 185) #[] #[], .bool false, .func (.func 186) #[] #[], .bool false, .func (.func 187) #[] #[], .bool false, .func (.func 188) #[] #[], .bool false, .func (.func 189) #[] #[], .bool true, .func (.func 190) #[] #[], .bool true, .func (.func 191) #[] #[], .bool true, .func (.func 192) #[] #[], .bool true]) (cs' := [.nilFunc, .bool false, .func (.func 185) #[] #[], .bool false, .func (.func 186) #[] #[], .bool false, .func (.func 187) #[] #[], .bool false, .func (.func 188) #[] #[], .bool false, .func (.func 189) #[] #[], .bool true, .func (.func 190) #[] #[], .bool true, .func (.func 191) #[] #[], .bool true, .func (.func 192) #[] #[], .bool true]) Try.sizeOf205 rfl rfl rfl rfl rfl rfl rfl rfl rfl ?_
  refine l_nil ?_
  refine c_ret ?_
  cases H
  refine retC (i := 0) (vs := [.nilFunc, .bool false, .func (.func 185) #[] #[], .bool false, .func (.func 186) #[] #[], .bool false, .func (.func 187) #[] #[], .bool false, .func (.func 188) #[] #[], .bool false, .func (.func 189) #[] #[], .bool true, .func (.func 190) #[] #[], .bool true, .func (.func 191) #[] #[], .bool true, .func (.func 192) #[] #[], .bool true]) Try.isAgg205 Try.sizeOf205 rfl rfl rfl rfl (fin rfl)
abbrev v152_0_0 : Nat → Value := ofL [.nilFunc, .func (.func 185) #[] #[], .func (.func 186) #[] #[], .func (.func 187) #[] #[], .func (.func 188) #[] #[], .func (.func 189) #[] #[], .func (.func 190) #[] #[], .func (.func 191) #[] #[], .func (.func 192) #[] #[]]
theorem h152_0_0 {k : Nat} (hk : k < 9) : FnV Try.prog (v152_0_0 k) (pix_turnings_tab0 k) (fun g => fnR_func_int_int_int_int_int_int g) :=
  match k, hk with
  | 0, _ => (show FnV Try.prog (v152_0_0 0) (pix_turnings_tab0 0) _ from FnV.nil)
  | 1, _ => (show FnV Try.prog (v152_0_0 1) (pix_turnings_tab0 1) _ from (FnV.mk (g := pix_turnings_1) (R := fun g => fnR_func_int_int_int_int_int_int g) (fun h_ => (FnH.mk ⟨185, #[], #[], rfl, Try.call185, fun args2 post2 w2 hk2 hR2 => by obtain ⟨a0_, a1_, a2_, a3_, r_, rfl, H_, rfl⟩ := hR2; exact k185 H_ w2⟩))))
  | 2, _ => (show FnV Try.prog (v152_0_0 2) (pix_turnings_tab0 2) _ from (FnV.mk (g := pix_turnings_2) (R := fun g => fnR_func_int_int_int_int_int_int g) (fun h_ => (FnH.mk ⟨186, #[], #[], rfl, Try.call186, fun args2 post2 w2 hk2 hR2 => by obtain ⟨a0_, a1_, a2_, a3_, r_, rfl, H_, rfl⟩ := hR2; exact k186 H_ w2⟩))))
  | 3, _ => (show FnV Try.prog (v152_0_0 3) (pix_turnings_tab0 3) _ from (FnV.mk (g := pix_turnings_3) (R := fun g => fnR_func_int_int_int_int_int_int g) (fun h_ => (FnH.mk ⟨187, #[], #[], rfl, Try.call187, fun args2 post2 w2 hk2 hR2 => by obtain ⟨a0_, a1_, a2_, a3_, r_, rfl, H_, rfl⟩ := hR2; exact k187 H_ w2⟩))))
  | 4, _ => (show FnV Try.prog (v152_0_0 4) (pix_turnings_tab0 4) _ from (FnV.mk (g := pix_turnings_4) (R := fun g => fnR_func_int_int_int_int_int_int g) (fun h_ => (FnH.mk ⟨188, #[], #[], rfl, Try.call188, fun args2 post2 w2 hk2 hR2 => by obtain ⟨a0_, a1_, a2_, a3_, r_, rfl, H_, rfl⟩ := hR2; exact k188 H_ w2⟩))))
  | 5, _ => (show FnV Try.prog (v152_0_0 5) (pix_turnings_tab0 5) _ from (FnV.mk (g := pix_turnings_5) (R := fun g => fnR_func_int_int_int_int_int_int g) (fun h_ => (FnH.mk ⟨189, #[], #[], rfl, Try.call189, fun args2 post2 w2 hk2 hR2 => by obtain ⟨a0_, a1_, a2_, a3_, r_, rfl, H_, rfl⟩ := hR2; exact k189 H_ w2⟩))))
  | 6, _ => (show FnV Try.prog (v152_0_0 6) (pix_turnings_tab0 6) _ from (FnV.mk (g := pix_turnings_6) (R := fun g => fnR_func_int_int_int_int_int_int g) (fun h_ => (FnH.mk ⟨190, #[], #[], rfl, Try.call190, fun args2 post2 w2 hk2 hR2 => by obtain ⟨a0_, a1_, a2_, a3_, r_, rfl, H_, rfl⟩ := hR2; exact k190 H_ w2⟩))))
  | 7, _ => (show FnV Try.prog (v152_0_0 7) (pix_turnings_tab0 7) _ from (FnV.mk (g := pix_turnings_7) (R := fun g => fnR_func_int_int_int_int_int_int g) (fun h_ => (FnH.mk ⟨191, #[], #[], rfl, Try.call191, fun args2 post2 w2 hk2 hR2 => by obtain ⟨a0_, a1_, a2_, a3_, r_, rfl, H_, rfl⟩ := hR2; exact k191 H_ w2⟩))))
  | 8, _ => (show FnV Try.prog (v152_0_0 8) (pix_turnings_tab0 8) _ from (FnV.mk (g := pix_turnings_8) (R := fun g => fnR_func_int_int_int_int_int_int g) (fun h_ => (FnH.mk ⟨192, #[], #[], rfl, Try.call192, fun args2 post2 w2 hk2 hR2 => by obtain ⟨a0_, a1_, a2_, a3_, r_, rfl, H_, rfl⟩ := hR2; exact k192 H_ w2⟩))))
  | k_ + 9, hk => absurd hk (by omega)

theorem k113 {a0 : Int} {a1 : Int} {a2 : Int} {a3 : Int} {a4 : Int} {r : Int × Int} (H : pix_From a0 a1 a2 a3 a4 = some r) : Ret Try.prog 113 [.int .i64 a0, .int .i64 a1, .int .i64 a2, .int .i64 a3, .int .i64 a4] (.tuple #[.int .i64 r.1, .int .i64 r.2]) := by
  refine enterRet (n := 23) Try.func113 rfl rfl rfl (fun wd => ?_)
  refine c_seq ?_
  refine c_region ?_
  refine l_val rfl rfl rfl (r_assign (v := .int .i64 0) rfl) ?_
  refine l_val rfl rfl rfl (r_assign (v := .int .i64 0) rfl) ?_
  refine l_nil ?_
  refine c_seq ?_
  refine c_region ?_
  obtain ⟨t12, h_t12, H5⟩ := bnd_some H; clear H
  refine l_call (k152 h_t12) Try.call152 rfl rfl rfl ?_
  refine l_val rfl rfl rfl (r_move (v := .int .i64 a0) rfl) ?_
  obtain ⟨k14, h_k14, H6⟩ := bnd_some H5; clear H5
  refine l_val rfl rfl rfl (r_indexAN (f := fun j_ => [v152_0_0 j_, .bool (pix_turnings_tab1 j_)]) Try.runUnderlying205 Try.isAgg204 Try.sizeOf204 rfl rfl rfl (fun _ => rfl) h_k14) ?_
  refine l_val rfl rfl rfl (r_fieldV (v := (v152_0_0 k14)) Try.runUnderlying204 Try.isAgg202 rfl rfl rfl) ?_
  refine l_val rfl rfl rfl (r_move (v := .int .i64 a1) rfl) ?_
  refine l_val rfl rfl rfl (r_move (v := .int .i64 a2) rfl) ?_
  refine l_val rfl rfl rfl (r_move (v := .int .i64 a3) rfl) ?_
  refine l_val rfl rfl rfl (r_move (v := .int .i64 a4) rfl) ?_
  obtain ⟨g20, h_g20, H7⟩ := bnd_some H6; clear H6
  obtain ⟨t20, h_t20, H8⟩ := bnd_some H7; clear H7
  refine l_callV (R := fnR_func_int_int_int_int_int_int g20) (r := .tuple #[.int .i64 t20.1, .int .i64 t20.2]) (v := (v152_0_0 k14)) (fun w hF hS => ⟨((h152_0_0 (gIx_lt h_k14)).fn (gFn_some h_g20) _), ⟨a1, a2, a3, a4, _, rfl, h_t20, rfl⟩⟩) rfl rfl rfl rfl ?_
  refine l_val rfl rfl rfl (r_extract (v := .int .i64 t20.1) rfl rfl) ?_
  refine l_val rfl rfl rfl (r_extract (v := .int .i64 t20.2) rfl rfl) ?_
  refine l_val rfl rfl rfl (r_assign (v := .int .i64 t20.1) rfl) ?_
  refine l_val rfl rfl rfl (r_assign (v := .int .i64 t20.2) rfl) ?_
  refine l_nil ?_
  refine c_ret ?_
  obtain rfl := Option.some.inj H8
  refine ret2 (v1 := .int .i64 t20.1) (v2 := .int .i64 t20.2) rfl rfl rfl (fin rfl)
theorem k51 {a0 : (List T_edit_Step)} {v0 : Value} {a1 : Int} {a2 : Int} {a3 : Int} {a4 : Int} {r : Int × Int × Int} {w : World} {h : Heap} (hw : Know h w noS) (f0 : FrS h 5 v0 (a0.map e_edit_Step)) (H : edit_Comes a0 a1 a2 a3 a4 = some r) : Does Try.prog 51 (List.toArray [v0, .int .i64 a1, .int .i64 a2, .int .i64 a3, .int .i64 a4]) w (fun v w' => v = (.tuple #[.int .i64 r.1, .int .i64 r.2.1, .int .i64 r.2.2]) ∧ Grow w w') := by
  refine enter (n := 107) Try.func51 rfl rfl rfl noS [] (Sat.nil _ _) ?_
  refine c_seq ?_
  refine c_region ?_
  refine l_val rfl rfl rfl (r_assign (v := .int .i64 0) rfl) ?_
  refine l_val rfl rfl rfl (r_assign (v := .int .i64 0) rfl) ?_
  refine l_val rfl rfl rfl (r_assign (v := .int .i64 0) rfl) ?_
  refine l_nil ?_
  refine c_seq ?_
  refine c_seq ?_
  refine c_region ?_
  refine l_val rfl rfl rfl (r_move (v := v0) rfl) ?_
  obtain ⟨t25, h_t25, H40⟩ := bnd_some H; clear H
  refine l_callG (fun w hF hS => k104 (know_all w) (f0.mono (hw.now hF)) h_t25) Try.call104 rfl rfl rfl ?_
  refine l_val rfl rfl rfl (r_assign (v := .int .i64 t25) rfl) ?_
  refine l_nil ?_
  refine c_seq ?_
  refine c_region ?_
  refine l_val rfl rfl rfl (r_move (v := .int .i64 t25) rfl) ?_
  refine l_val rfl rfl rfl (r_neq rfl rfl) ?_
  refine l_nil ?_
  refine c_if (b := (decide (t25 ≠ 0))) rfl (fun hb => ?_) (fun hb => ?_)
  · have H41 := cnd_t hb H40; clear H40
    refine c_seq ?_
    refine c_region ?_
    refine l_val rfl rfl rfl (r_move (v := .int .i64 t25) rfl) ?_
    refine l_val rfl rfl rfl (r_assign (v := .int .i64 0) rfl) ?_
    refine l_val rfl rfl rfl (r_assign (v := .int .i64 0) rfl) ?_
    refine l_val rfl rfl rfl (r_assign (v := .int .i64 t25) rfl) ?_
    refine l_nil ?_
    refine c_ret ?_
    obtain rfl := Option.some.inj H41
    refine ret3 (v1 := .int .i64 0) (v2 := .int .i64 0) (v3 := .int .i64 t25) rfl rfl rfl rfl (fin rfl)
  · have H42 := cnd_f hb H40; clear H40
    refine c_skip ?_
    refine c_seq ?_
    refine c_region ?_
    refine l_val rfl rfl rfl (r_move (v := v0) rfl) ?_
    refine l_val rfl rfl rfl (r_move (v := .int .i64 a1) rfl) ?_
    refine l_val rfl rfl rfl (r_move (v := .int .i64 a2) rfl) ?_
    obtain ⟨t33, h_t33, H43⟩ := bnd_some H42; clear H42
    refine l_callG (fun w hF hS => k112 (know_all w) (f0.mono (hw.now hF)) h_t33) Try.call112 rfl rfl rfl ?_
    refine l_val rfl rfl rfl (r_move (v := .tuple #[.int .i64 t33.1, .int .i64 t33.2.1, .int .i64 t33.2.2]) rfl) ?_
    refine l_val rfl rfl rfl (r_extract (v := .int .i64 t33.1) rfl rfl) ?_
    refine l_val rfl rfl rfl (r_extract (v := .int .i64 t33.2.1) rfl rfl) ?_
    refine l_val rfl rfl rfl (r_extract (v := .int .i64 t33.2.2) rfl rfl) ?_
    refine l_val rfl rfl rfl (r_assign (v := .int .i64 t33.1) rfl) ?_
    refine l_val rfl rfl rfl (r_assign (v := .int .i64 t33.2.1) rfl) ?_
    refine l_val rfl rfl rfl (r_assign (v := .int .i64 t33.2.2) rfl) ?_
    refine l_nil ?_
    refine c_seq ?_
    refine c_seq ?_
    refine c_region ?_
    refine l_val rfl rfl rfl (r_move (v := .int .i64 t33.2.2) rfl) ?_
    refine l_val rfl rfl rfl (r_neq rfl rfl) ?_
    refine l_nil ?_
    refine c_if (b := (decide (t33.2.2 ≠ 0))) rfl (fun hb => ?_) (fun hb => ?_)
    · have H44 := cnd_t hb H43; clear H43
      refine c_seq ?_
      refine c_region ?_
      refine l_val rfl rfl rfl (r_move (v := .int .i64 t33.2.2) rfl) ?_
      refine l_val rfl rfl rfl (r_assign (v := .int .i64 0) rfl) ?_
      refine l_val rfl rfl rfl (r_assign (v := .int .i64 0) rfl) ?_
      refine l_val rfl rfl rfl (r_assign (v := .int .i64 t33.2.2) rfl) ?_
      refine l_nil ?_
      refine c_ret ?_
      obtain rfl := Option.some.inj H44
      refine ret3 (v1 := .int .i64 0) (v2 := .int .i64 0) (v3 := .int .i64 t33.2.2) rfl rfl rfl rfl (fin rfl)
    · have H45 := cnd_f hb H43; clear H43
      refine c_skip ?_
      refine c_meet (r := r) (σ := Unit) (τ := Unit) (fun s => edit_Comes_j1 a0 a1 a2 a3 a4 t33) (fun s t => [(0, v0), (1, .int .i64 a1), (2, .int .i64 a2), (3, .int .i64 a3), (4, .int .i64 a4), (14, .int .i64 t33.1), (15, .int .i64 t33.2.1)]) (fun s t => []) (fun s t => True) ?_ ?_
      · refine c_seq ?_
        refine c_region ?_
        refine l_val rfl rfl rfl (r_move (v := v0) rfl) ?_
        refine l_val rfl rfl rfl (r_lenF Try.underlying61 rfl f0 rfl) ?_
        refine l_val rfl rfl rfl (r_move (v := .int .i64 0) rfl) ?_
        refine l_nil ?_
        refine c_block ?_
        refine c_fix (σ := Int) (τ := Unit) (fun next5 s => edit_Comes_l5 a0 a1 a2 a3 a4 t33 next5 s) (fun s t => [(0, v0), (1, .int .i64 a1), (2, .int .i64 a2), (3, .int .i64 a3), (4, .int .i64 a4), (14, .int .i64 t33.1), (15, .int .i64 t33.2.1), (40, v0), (41, .int .i64 (a0.length : Int)), (42, .int .i64 s)]) (fun s t => []) (fun s t => True) 0 () [] H45 (by exact trivial) (by exact ⟨rfl, rfl, rfl, rfl, rfl, rfl, rfl, rfl, rfl, rfl, trivial⟩) (by decide) rfl ?_
        rintro x42_2 _ m5 gg H72 _
        clear H45
        replace H72 : edit_Comes_l5 a0 a1 a2 a3 a4 t33 (it (fun next5 s => edit_Comes_l5 a0 a1 a2 a3 a4 t33 next5 s) m5) x42_2 = some r := H72
        generalize hn5 : it (fun next5 s => edit_Comes_l5 a0 a1 a2 a3 a4 t33 next5 s) m5 = next5 at H72
        refine c_tidyF [(0, v0), (1, .int .i64 a1), (2, .int .i64 a2), (3, .int .i64 a3), (4, .int .i64 a4), (14, .int .i64 t33.1), (15, .int .i64 t33.2.1), (40, v0), (41, .int .i64 (a0.length : Int)), (42, .int .i64 x42_2)] [] rfl rfl ?_
        refine c_seq ?_
        refine c_region ?_
        refine l_val rfl rfl rfl (r_lss rfl rfl) ?_
        refine l_nil ?_
        refine c_seq ?_
        refine c_if (b := (decide (x42_2 < (a0.length : Int)))) rfl (fun hb => ?_) (fun hb => ?_)
        · have H73 := cnd_t hb H72; clear H72
          refine c_skip ?_
          refine c_seq ?_
          refine c_block ?_
          refine c_seq ?_
          refine c_region ?_
          obtain ⟨t44, h_t44, H74⟩ := bnd_some H73; clear H73
          refine l_val rfl rfl rfl (r_indexF Try.underlying61 Try.sizeOf69 rfl rfl f0 h_t44) ?_
          refine l_read (fun w hF hS => run_loadGN (f := e_edit_Step) (i := x42_2) (sz := 5) (j := 0) (vs := [.int .i64 t44.Kind, .int .i64 t44.A, .int .i64 t44.B, .int .i64 t44.C, .int .i64 t44.D]) Try.isAgg69 Try.sizeOf69 rfl rfl (f0.row (hw.now hF)) h_t44 rfl) rfl rfl rfl ?_
          refine l_alloc (cs := [.int .i64 0, .int .i64 0, .int .i64 0, .int .i64 0, .int .i64 0]) Try.zeroValue69 rfl rfl rfl (fun b3 => ?_)
          refine l_store (i := 0) (vs := [.int .i64 t44.Kind, .int .i64 t44.A, .int .i64 t44.B, .int .i64 t44.C, .int .i64 t44.D]) (cs' := [.int .i64 t44.Kind, .int .i64 t44.A, .int .i64 t44.B, .int .i64 t44.C, .int .i64 t44.D]) Try.sizeOf69 rfl rfl rfl rfl rfl rfl rfl rfl rfl ?_
          refine l_nil ?_
          refine c_seq ?_
          refine c_region ?_
          refine l_val rfl rfl rfl (r_field Try.runUnderlying69 rfl Try.sizeOf3 rfl rfl) ?_
          refine l_load1 (i := 0) (v := .int .i64 t44.Kind) Try.isAgg3 rfl rfl rfl rfl rfl ?_
          refine l_val rfl rfl rfl (r_eql rfl rfl) ?_
          refine l_nil ?_
          refine c_if (b := (decide (t44.Kind = 3))) rfl (fun hb => ?_) (fun hb => ?_)
          · have H75 := cnd_t hb H74; clear H74
            refine c_seq ?_
            refine c_region ?_
            refine l_val rfl rfl rfl (r_assign (v := .int .i64 0) rfl) ?_
            refine l_val rfl rfl rfl (r_assign (v := .int .i64 0) rfl) ?_
            refine l_val rfl rfl rfl (r_assign (v := .int .i64 11) rfl) ?_
            refine l_nil ?_
            refine c_ret ?_
            obtain rfl := Option.some.inj H75
            refine ret3 (v1 := .int .i64 0) (v2 := .int .i64 0) (v3 := .int .i64 11) rfl rfl rfl rfl (fin rfl)
          · have H76 := cnd_f hb H74; clear H74
            refine c_skip ?_
            refine c_region ?_
            obtain ⟨t49, h_t49, H77⟩ := bnd_some H76; clear H76
            refine l_val rfl rfl rfl (r_addG rfl rfl h_t49) ?_
            refine l_val rfl rfl rfl (r_move (v := .int .i64 t49) rfl) ?_
            refine l_nil ?_
            refine c_close t49 () m5 [] (by exact ⟨rfl, rfl, rfl, rfl, rfl, rfl, rfl, rfl, rfl, rfl, trivial⟩) (by decide) rfl (by exact ⟨(by subst hn5; exact H77), trivial⟩) (Nat.lt_succ_self _)
        · have H78 := cnd_f hb H72; clear H72
          refine c_exit ?_
          refine c_close () () 0 [] (by exact ⟨rfl, rfl, rfl, rfl, rfl, rfl, rfl, trivial⟩) (by decide) rfl (by exact ⟨H78, trivial⟩) (Nat.lt_succ_self _)
      · rintro _ _ gg H46 _
        replace H46 : edit_Comes_j1 a0 a1 a2 a3 a4 t33 = some r := H46
        refine c_tidyF [(0, v0), (1, .int .i64 a1), (2, .int .i64 a2), (3, .int .i64 a3), (4, .int .i64 a4), (14, .int .i64 t33.1), (15, .int .i64 t33.2.1)] [] rfl rfl ?_
        refine c_seq ?_
        refine c_seq ?_
        refine c_region ?_
        refine l_val rfl rfl rfl (r_move (v := .int .i64 a3) rfl) ?_
        refine l_val rfl rfl rfl (r_move (v := .int .i64 t33.1) rfl) ?_
        obtain ⟨t52, h_t52, H47⟩ := bnd_some H46; clear H46
        refine l_val rfl rfl rfl (r_subG rfl rfl h_t52) ?_
        obtain ⟨t53, h_t53, H48⟩ := bnd_some H47; clear H47
        refine l_call (k110 h_t53) Try.call110 rfl rfl rfl ?_
        refine l_val rfl rfl rfl (r_move (v := .bool t53) rfl) ?_
        refine split (fun hb => ?_) (fun hb => ?_)
        · have H49 := cnd_t hb H48; clear H48
          refine l_passed rfl rfl rfl ?_
          refine l_passed rfl rfl rfl ?_
          refine l_passed rfl rfl rfl ?_
          refine l_passed rfl rfl rfl ?_
          refine l_val rfl rfl rfl (r_pickT (v := .bool true) rfl rfl) ?_
          refine l_nil ?_
          refine c_true rfl ?_
          refine c_seq ?_
          refine c_region ?_
          refine l_val rfl rfl rfl (r_assign (v := .int .i64 0) rfl) ?_
          refine l_val rfl rfl rfl (r_assign (v := .int .i64 0) rfl) ?_
          refine l_val rfl rfl rfl (r_assign (v := .int .i64 2) rfl) ?_
          refine l_nil ?_
          refine c_ret ?_
          obtain rfl := Option.some.inj H49
          refine ret3 (v1 := .int .i64 0) (v2 := .int .i64 0) (v3 := .int .i64 2) rfl rfl rfl rfl (fin rfl)
        · have H50 := cnd_f hb H48; clear H48
          refine l_val rfl rfl rfl (r_move (v := .int .i64 a4) rfl) ?_
          refine l_val rfl rfl rfl (r_move (v := .int .i64 t33.2.1) rfl) ?_
          obtain ⟨t57, h_t57, H51⟩ := bnd_some H50; clear H50
          refine l_val rfl rfl rfl (r_subG rfl rfl h_t57) ?_
          obtain ⟨t58, h_t58, H52⟩ := bnd_some H51; clear H51
          refine l_call (k110 h_t58) Try.call110 rfl rfl rfl ?_
          refine l_val rfl rfl rfl (r_pickF (v := .bool t58) rfl rfl) ?_
          refine l_nil ?_
          refine c_if (b := t58) rfl (fun hb => ?_) (fun hb => ?_)
          · have H53 := cnd_t hb H52; clear H52
            refine c_seq ?_
            refine c_region ?_
            refine l_val rfl rfl rfl (r_assign (v := .int .i64 0) rfl) ?_
            refine l_val rfl rfl rfl (r_assign (v := .int .i64 0) rfl) ?_
            refine l_val rfl rfl rfl (r_assign (v := .int .i64 2) rfl) ?_
            refine l_nil ?_
            refine c_ret ?_
            obtain rfl := Option.some.inj H53
            refine ret3 (v1 := .int .i64 0) (v2 := .int .i64 0) (v3 := .int .i64 2) rfl rfl rfl rfl (fin rfl)
          · have H54 := cnd_f hb H52; clear H52
            refine c_skip ?_
            refine c_meet (r := r) (σ := Int × Int) (τ := Unit) (fun s => edit_Comes_j2 s.1 s.2) (fun s t => [(3, .int .i64 s.1), (4, .int .i64 s.2)]) (fun s t => []) (fun s t => True) ?_ ?_
            · refine c_seq ?_
              refine c_region ?_
              refine l_val rfl rfl rfl (r_move (v := v0) rfl) ?_
              refine l_val rfl rfl rfl (r_lenF Try.underlying61 rfl f0 rfl) ?_
              obtain ⟨t62, h_t62, H56⟩ := bnd_some H54; clear H54
              refine l_val rfl rfl rfl (r_subG rfl rfl h_t62) ?_
              refine l_val rfl rfl rfl (r_assign (v := .int .i64 t62) rfl) ?_
              refine l_nil ?_
              refine c_block ?_
              refine c_fix (σ := Int × Int × Int) (τ := Unit) (fun next3 s => edit_Comes_l3 a0 a1 a2 next3 s.1 s.2.1 s.2.2) (fun s t => [(0, v0), (1, .int .i64 a1), (2, .int .i64 a2), (3, .int .i64 s.1), (4, .int .i64 s.2.1), (19, .int .i64 s.2.2)]) (fun s t => []) (fun s t => True) (a3, a4, t62) () [] H56 (by exact trivial) (by exact ⟨rfl, rfl, rfl, rfl, rfl, rfl, trivial⟩) (by decide) rfl ?_
              rintro ⟨x3_3, x4_3, x19_2⟩ _ m3 gg H57 _
              clear H56
              replace H57 : edit_Comes_l3 a0 a1 a2 (it (fun next3 s => edit_Comes_l3 a0 a1 a2 next3 s.1 s.2.1 s.2.2) m3) x3_3 x4_3 x19_2 = some r := H57
              generalize hn3 : it (fun next3 s => edit_Comes_l3 a0 a1 a2 next3 s.1 s.2.1 s.2.2) m3 = next3 at H57
              refine c_tidyF [(0, v0), (1, .int .i64 a1), (2, .int .i64 a2), (3, .int .i64 x3_3), (4, .int .i64 x4_3), (19, .int .i64 x19_2)] [] rfl rfl ?_
              refine c_seq ?_
              refine c_seq ?_
              refine c_region ?_
              refine l_val rfl rfl rfl (r_move (v := .int .i64 x19_2) rfl) ?_
              refine l_val rfl rfl rfl (r_geq rfl rfl) ?_
              refine l_nil ?_
              refine c_if (b := (decide (0 ≤ x19_2))) rfl (fun hb => ?_) (fun hb => ?_)
              · have H58 := cnd_t hb H57; clear H57
                refine c_skip ?_
                refine c_meet (r := r) (σ := Int × Int) (τ := Unit) (fun s => edit_Comes_j4 x19_2 next3 s.1 s.2) (fun s t => [(0, v0), (1, .int .i64 a1), (2, .int .i64 a2), (3, .int .i64 s.1), (4, .int .i64 s.2), (19, .int .i64 x19_2)]) (fun s t => []) (fun s t => True) ?_ ?_
                · refine c_block ?_
                  refine c_seq ?_
                  refine c_region ?_
                  refine l_val rfl rfl rfl (r_move (v := v0) rfl) ?_
                  refine l_val rfl rfl rfl (r_move (v := .int .i64 x19_2) rfl) ?_
                  obtain ⟨t69, h_t69, H61⟩ := bnd_some H58; clear H58
                  refine l_val rfl rfl rfl (r_indexF Try.underlying61 Try.sizeOf69 rfl rfl f0 h_t69) ?_
                  refine l_read (fun w hF hS => run_loadGN (f := e_edit_Step) (i := x19_2) (sz := 5) (j := 0) (vs := [.int .i64 t69.Kind, .int .i64 t69.A, .int .i64 t69.B, .int .i64 t69.C, .int .i64 t69.D]) Try.isAgg69 Try.sizeOf69 rfl rfl (f0.row (hw.now hF)) h_t69 rfl) rfl rfl rfl ?_
                  refine l_alloc (cs := [.int .i64 0, .int .i64 0, .int .i64 0, .int .i64 0, .int .i64 0]) Try.zeroValue69 rfl rfl rfl (fun b2 => ?_)
                  refine l_store (i := 0) (vs := [.int .i64 t69.Kind, .int .i64 t69.A, .int .i64 t69.B, .int .i64 t69.C, .int .i64 t69.D]) (cs' := [.int .i64 t69.Kind, .int .i64 t69.A, .int .i64 t69.B, .int .i64 t69.C, .int .i64 t69.D]) Try.sizeOf69 rfl rfl rfl rfl rfl rfl rfl rfl rfl ?_
                  refine l_nil ?_
                  refine c_seq ?_
                  refine c_region ?_
                  refine l_val rfl rfl rfl (r_field Try.runUnderlying69 rfl Try.sizeOf3 rfl rfl) ?_
                  refine l_load1 (i := 0) (v := .int .i64 t69.Kind) Try.isAgg3 rfl rfl rfl rfl rfl ?_
                  refine l_nil ?_
                  refine c_block ?_
                  refine c_seq ?_
                  refine c_region ?_
                  refine l_val rfl rfl rfl (r_eql rfl rfl) ?_
                  refine l_val rfl rfl rfl (r_assign (v := .bool (decide (t69.Kind = 1))) rfl) ?_
                  refine l_nil ?_
                  refine c_if (b := (decide (t69.Kind = 1))) rfl (fun hb => ?_) (fun hb => ?_)
                  · have H62 := cnd_t hb H61; clear H61
                    refine c_seq ?_
                    refine c_region ?_
                    refine l_val rfl rfl rfl (r_move (v := v0) rfl) ?_
                    refine l_val rfl rfl rfl (r_move (v := .int .i64 x19_2) rfl) ?_
                    obtain ⟨t78, h_t78, H63⟩ := bnd_some H62; clear H62
                    refine l_val rfl rfl rfl (r_sliceHF Try.underlying61 Try.sizeOf69 rfl rfl f0 h_t78) ?_
                    refine l_val rfl rfl rfl (r_move (v := .int .i64 a1) rfl) ?_
                    refine l_val rfl rfl rfl (r_move (v := .int .i64 a2) rfl) ?_
                    obtain ⟨t81, h_t81, H64⟩ := bnd_some H63; clear H63
                    refine l_callG (fun w hF hS => k112 (know_all w) ((f0.cut h_t78).mono (hw.now hF)) h_t81) Try.call112 rfl rfl rfl ?_
                    refine l_val rfl rfl rfl (r_move (v := .tuple #[.int .i64 t81.1, .int .i64 t81.2.1, .int .i64 t81.2.2]) rfl) ?_
                    refine l_val rfl rfl rfl (r_extract (v := .int .i64 t81.1) rfl rfl) ?_
                    refine l_val rfl rfl rfl (r_extract (v := .int .i64 t81.2.1) rfl rfl) ?_
                    refine l_val rfl rfl rfl (r_extract (v := .int .i64 t81.2.2) rfl rfl) ?_
                    refine l_val rfl rfl rfl (r_assign (v := .int .i64 t81.1) rfl) ?_
                    refine l_val rfl rfl rfl (r_assign (v := .int .i64 t81.2.1) rfl) ?_
                    refine l_val rfl rfl rfl (r_assign (v := .int .i64 t81.2.2) rfl) ?_
                    refine l_nil ?_
                    refine c_region ?_
                    refine l_val rfl rfl rfl (r_field Try.runUnderlying69 rfl Try.sizeOf3 rfl rfl) ?_
                    refine l_load1 (i := 0) (v := .int .i64 t69.A) Try.isAgg3 rfl rfl rfl rfl rfl ?_
                    refine l_val rfl rfl rfl (r_move (v := .int .i64 t81.1) rfl) ?_
                    refine l_val rfl rfl rfl (r_move (v := .int .i64 t81.2.1) rfl) ?_
                    refine l_val rfl rfl rfl (r_move (v := .int .i64 x3_3) rfl) ?_
                    refine l_val rfl rfl rfl (r_move (v := .int .i64 x4_3) rfl) ?_
                    obtain ⟨t92, h_t92, H65⟩ := bnd_some H64; clear H64
                    refine l_call (k113 h_t92) Try.call113 rfl rfl rfl ?_
                    refine l_val rfl rfl rfl (r_move (v := .tuple #[.int .i64 t92.1, .int .i64 t92.2]) rfl) ?_
                    refine l_val rfl rfl rfl (r_extract (v := .int .i64 t92.1) rfl rfl) ?_
                    refine l_val rfl rfl rfl (r_extract (v := .int .i64 t92.2) rfl rfl) ?_
                    refine l_val rfl rfl rfl (r_assign (v := .int .i64 t92.1) rfl) ?_
                    refine l_val rfl rfl rfl (r_assign (v := .int .i64 t92.2) rfl) ?_
                    refine l_nil ?_
                    refine c_close (t92.1, t92.2) () 0 [] (by exact ⟨rfl, rfl, rfl, rfl, rfl, rfl, trivial⟩) (by decide) rfl (by exact ⟨H65, trivial⟩) (Nat.lt_succ_self _)
                  · have H66 := cnd_f hb H61; clear H61
                    refine c_seq ?_
                    refine c_region ?_
                    refine l_val rfl rfl rfl (r_eql rfl rfl) ?_
                    refine l_val rfl rfl rfl (r_assign (v := .bool (decide (t69.Kind = 2))) rfl) ?_
                    refine l_nil ?_
                    refine c_if (b := (decide (t69.Kind = 2))) rfl (fun hb => ?_) (fun hb => ?_)
                    · have H67 := cnd_t hb H66; clear H66
                      exact c_regionD (Kd.p :: Kd.p :: Kd.d [0] _ :: Kd.p :: Kd.p :: Kd.p :: Kd.d [0] _ :: Kd.p :: Kd.p :: Kd.p :: []) 0 mixed (by
                        refine d_val rfl rfl (r_move (v := .int .i64 x3_3) rfl) ?_
                        refine d_val rfl rfl (r_field Try.runUnderlying69 rfl Try.sizeOf3 rfl rfl) ?_
                        refine d_load1 (i := 0) (v := .int .i64 t69.A) Try.isAgg3 rfl rfl rfl rfl ?_
                        have h_t100 := bnd_val H67
                        have H68 := bnd_rest H67
                        refine d_val rfl rfl (r_addG rfl rfl h_t100) ?_
                        refine d_val rfl rfl (r_move (v := .int .i64 x4_3) rfl) ?_
                        refine d_val rfl rfl (r_field Try.runUnderlying69 rfl Try.sizeOf3 rfl rfl) ?_
                        refine d_load1 (i := 0) (v := .int .i64 t69.B) Try.isAgg3 rfl rfl rfl rfl ?_
                        have h_t104 := bnd_val H68
                        have H69 := bnd_rest H68
                        refine d_val rfl rfl (r_addG rfl rfl h_t104) ?_
                        refine d_val rfl rfl (r_assign (v := .int .i64 (val (gI (x3_3 + t69.A)))) rfl) ?_
                        refine d_val rfl rfl (r_assign (v := .int .i64 (val (gI (x4_3 + t69.B)))) rfl) ?_
                        refine d_nil ?_
                        refine c_close ((val (gI (x3_3 + t69.A))), (val (gI (x4_3 + t69.B)))) () 0 [] (by exact ⟨rfl, rfl, rfl, rfl, rfl, rfl, trivial⟩) (by decide) rfl (by exact ⟨H69, trivial⟩) (Nat.lt_succ_self _)
                        ) (by kernel_rfl)
                    · have H70 := cnd_f hb H66; clear H66
                      refine c_skip ?_
                      refine c_close (x3_3, x4_3) () 0 [] (by exact ⟨rfl, rfl, rfl, rfl, rfl, rfl, trivial⟩) (by decide) rfl (by exact ⟨H70, trivial⟩) (Nat.lt_succ_self _)
                · rintro ⟨x3_4, x4_4⟩ _ gg H59 _
                  replace H59 : edit_Comes_j4 x19_2 next3 x3_4 x4_4 = some r := H59
                  refine c_tidyF [(0, v0), (1, .int .i64 a1), (2, .int .i64 a2), (3, .int .i64 x3_4), (4, .int .i64 x4_4), (19, .int .i64 x19_2)] [] rfl rfl ?_
                  refine c_region ?_
                  refine l_val rfl rfl rfl (r_move (v := .int .i64 x19_2) rfl) ?_
                  obtain ⟨t66, h_t66, H60⟩ := bnd_some H59; clear H59
                  refine l_val rfl rfl rfl (r_subG rfl rfl h_t66) ?_
                  refine l_val rfl rfl rfl (r_assign (v := .int .i64 t66) rfl) ?_
                  refine l_nil ?_
                  refine c_close (x3_4, x4_4, t66) () m3 [] (by exact ⟨rfl, rfl, rfl, rfl, rfl, rfl, trivial⟩) (by decide) rfl (by exact ⟨(by subst hn3; exact H60), trivial⟩) (Nat.lt_succ_self _)
              · have H71 := cnd_f hb H57; clear H57
                refine c_exit ?_
                refine c_close (x3_3, x4_3) () 0 [] (by exact ⟨rfl, rfl, trivial⟩) (by decide) rfl (by exact ⟨H71, trivial⟩) (Nat.lt_succ_self _)
            · rintro ⟨x3, x4⟩ _ gg H55 _
              replace H55 : edit_Comes_j2 x3 x4 = some r := H55
              refine c_tidyF [(3, .int .i64 x3), (4, .int .i64 x4)] [] rfl rfl ?_
              refine c_seq ?_
              refine c_region ?_
              refine l_val rfl rfl rfl (r_move (v := .int .i64 x3) rfl) ?_
              refine l_val rfl rfl rfl (r_move (v := .int .i64 x4) rfl) ?_
              refine l_val rfl rfl rfl (r_assign (v := .int .i64 x3) rfl) ?_
              refine l_val rfl rfl rfl (r_assign (v := .int .i64 x4) rfl) ?_
              refine l_val rfl rfl rfl (r_assign (v := .int .i64 0) rfl) ?_
              refine l_nil ?_
              refine c_ret ?_
              obtain rfl := Option.some.inj H55
              refine ret3 (v1 := .int .i64 x3) (v2 := .int .i64 x4) (v3 := .int .i64 0) rfl rfl rfl rfl (fin rfl)
theorem k60 {a0 : (List T_edit_Step)} {v0 : Value} {a1 : Int} {a2 : Int} {r : Int × Int × Int} {w : World} {h : Heap} (hw : Know h w noS) (f0 : FrS h 5 v0 (a0.map e_edit_Step)) (H : R_SizeOf a0 a1 a2 = some r) : Does Try.prog 60 (List.toArray [v0, .int .i64 a1, .int .i64 a2]) w (fun v w' => v = (.tuple #[.int .i64 r.1, .int .i64 r.2.1, .int .i64 r.2.2]) ∧ Grow w w') := by
  refine enter (n := 71) Try.func60 rfl rfl rfl noS [] (Sat.nil _ _) ?_
  refine c_seq ?_
  refine c_region ?_
  refine l_val rfl rfl rfl (r_assign (v := .int .i64 0) rfl) ?_
  refine l_val rfl rfl rfl (r_assign (v := .int .i64 0) rfl) ?_
  refine l_val rfl rfl rfl (r_assign (v := .int .i64 0) rfl) ?_
  refine l_nil ?_
  refine c_seq ?_
  refine c_seq ?_
  refine c_region ?_
  refine l_val rfl rfl rfl (r_move (v := .int .i64 a1) rfl) ?_
  refine l_val rfl rfl rfl (r_lss rfl rfl) ?_
  refine l_val rfl rfl rfl (r_move (v := .bool (decide (a1 < 1))) rfl) ?_
  refine split (fun hb => ?_) (fun hb => ?_)
  · have H30 := cnd_t hb H; clear H
    refine l_passed rfl rfl rfl ?_
    refine l_passed rfl rfl rfl ?_
    refine l_val rfl rfl rfl (r_pickT (v := .bool true) rfl rfl) ?_
    refine l_val rfl rfl rfl (r_move (v := .bool true) rfl) ?_
    refine l_passed rfl rfl rfl ?_
    refine l_passed rfl rfl rfl ?_
    refine l_val rfl rfl rfl (r_pickT (v := .bool true) rfl rfl) ?_
    refine l_val rfl rfl rfl (r_move (v := .bool true) rfl) ?_
    refine l_passed rfl rfl rfl ?_
    refine l_passed rfl rfl rfl ?_
    refine l_val rfl rfl rfl (r_pickT (v := .bool true) rfl rfl) ?_
    refine l_nil ?_
    refine c_true rfl ?_
    refine c_seq ?_
    refine c_region ?_
    refine l_val rfl rfl rfl (r_assign (v := .int .i64 0) rfl) ?_
    refine l_val rfl rfl rfl (r_assign (v := .int .i64 0) rfl) ?_
    refine l_val rfl rfl rfl (r_assign (v := .int .i64 2) rfl) ?_
    refine l_nil ?_
    refine c_ret ?_
    obtain rfl := Option.some.inj H30
    refine ret3 (v1 := .int .i64 0) (v2 := .int .i64 0) (v3 := .int .i64 2) rfl rfl rfl rfl (fin rfl)
  · have H31 := cnd_f hb H; clear H
    refine l_val rfl rfl rfl (r_move (v := .int .i64 a1) rfl) ?_
    refine l_val rfl rfl rfl (r_gtr rfl rfl) ?_
    refine l_val rfl rfl rfl (r_pickF (v := .bool (decide (64 < a1))) rfl rfl) ?_
    refine l_val rfl rfl rfl (r_move (v := .bool (decide (64 < a1))) rfl) ?_
    refine split (fun hb => ?_) (fun hb => ?_)
    · have H32 := cnd_t hb H31; clear H31
      refine l_passed rfl rfl rfl ?_
      refine l_passed rfl rfl rfl ?_
      refine l_val rfl rfl rfl (r_pickT (v := .bool true) rfl rfl) ?_
      refine l_val rfl rfl rfl (r_move (v := .bool true) rfl) ?_
      refine l_passed rfl rfl rfl ?_
      refine l_passed rfl rfl rfl ?_
      refine l_val rfl rfl rfl (r_pickT (v := .bool true) rfl rfl) ?_
      refine l_nil ?_
      refine c_true rfl ?_
      refine c_seq ?_
      refine c_region ?_
      refine l_val rfl rfl rfl (r_assign (v := .int .i64 0) rfl) ?_
      refine l_val rfl rfl rfl (r_assign (v := .int .i64 0) rfl) ?_
      refine l_val rfl rfl rfl (r_assign (v := .int .i64 2) rfl) ?_
      refine l_nil ?_
      refine c_ret ?_
      obtain rfl := Option.some.inj H32
      refine ret3 (v1 := .int .i64 0) (v2 := .int .i64 0) (v3 := .int .i64 2) rfl rfl rfl rfl (fin rfl)
    · have H33 := cnd_f hb H31; clear H31
      refine l_val rfl rfl rfl (r_move (v := .int .i64 a2) rfl) ?_
      refine l_val rfl rfl rfl (r_lss rfl rfl) ?_
      refine l_val rfl rfl rfl (r_pickF (v := .bool (decide (a2 < 1))) rfl rfl) ?_
      refine l_val rfl rfl rfl (r_move (v := .bool (decide (a2 < 1))) rfl) ?_
      refine split (fun hb => ?_) (fun hb => ?_)
      · have H34 := cnd_t hb H33; clear H33
        refine l_passed rfl rfl rfl ?_
        refine l_passed rfl rfl rfl ?_
        refine l_val rfl rfl rfl (r_pickT (v := .bool true) rfl rfl) ?_
        refine l_nil ?_
        refine c_true rfl ?_
        refine c_seq ?_
        refine c_region ?_
        refine l_val rfl rfl rfl (r_assign (v := .int .i64 0) rfl) ?_
        refine l_val rfl rfl rfl (r_assign (v := .int .i64 0) rfl) ?_
        refine l_val rfl rfl rfl (r_assign (v := .int .i64 2) rfl) ?_
        refine l_nil ?_
        refine c_ret ?_
        obtain rfl := Option.some.inj H34
        refine ret3 (v1 := .int .i64 0) (v2 := .int .i64 0) (v3 := .int .i64 2) rfl rfl rfl rfl (fin rfl)
      · have H35 := cnd_f hb H33; clear H33
        refine l_val rfl rfl rfl (r_move (v := .int .i64 a2) rfl) ?_
        refine l_val rfl rfl rfl (r_gtr rfl rfl) ?_
        refine l_val rfl rfl rfl (r_pickF (v := .bool (decide (64 < a2))) rfl rfl) ?_
        refine l_nil ?_
        refine c_if (b := (decide (64 < a2))) rfl (fun hb => ?_) (fun hb => ?_)
        · have H36 := cnd_t hb H35; clear H35
          refine c_seq ?_
          refine c_region ?_
          refine l_val rfl rfl rfl (r_assign (v := .int .i64 0) rfl) ?_
          refine l_val rfl rfl rfl (r_assign (v := .int .i64 0) rfl) ?_
          refine l_val rfl rfl rfl (r_assign (v := .int .i64 2) rfl) ?_
          refine l_nil ?_
          refine c_ret ?_
          obtain rfl := Option.some.inj H36
          refine ret3 (v1 := .int .i64 0) (v2 := .int .i64 0) (v3 := .int .i64 2) rfl rfl rfl rfl (fin rfl)
        · have H37 := cnd_f hb H35; clear H35
          refine c_skip ?_
          refine c_meet (r := r) (σ := Int × Int) (τ := Unit) (fun s => R_SizeOf_j1 s.1 s.2) (fun s t => [(1, .int .i64 s.1), (2, .int .i64 s.2)]) (fun s t => []) (fun s t => True) ?_ ?_
          · refine c_seq ?_
            refine c_region ?_
            refine l_val rfl rfl rfl (r_move (v := v0) rfl) ?_
            refine l_val rfl rfl rfl (r_lenF Try.underlying61 rfl f0 rfl) ?_
            refine l_val rfl rfl rfl (r_move (v := .int .i64 0) rfl) ?_
            refine l_nil ?_
            refine c_block ?_
            refine c_fix (σ := Int × Int × Int) (τ := Unit) (fun next2 s => R_SizeOf_l2 a0 next2 s.1 s.2.1 s.2.2) (fun s t => [(1, .int .i64 s.1), (2, .int .i64 s.2.1), (25, v0), (26, .int .i64 (a0.length : Int)), (27, .int .i64 s.2.2)]) (fun s t => []) (fun s t => True) (a1, a2, 0) () [] H37 (by exact trivial) (by exact ⟨rfl, rfl, rfl, rfl, rfl, trivial⟩) (by decide) rfl ?_
            rintro ⟨x1_3, x2_3, x27_2⟩ _ m2 gg H39 _
            clear H37
            replace H39 : R_SizeOf_l2 a0 (it (fun next2 s => R_SizeOf_l2 a0 next2 s.1 s.2.1 s.2.2) m2) x1_3 x2_3 x27_2 = some r := H39
            generalize hn2 : it (fun next2 s => R_SizeOf_l2 a0 next2 s.1 s.2.1 s.2.2) m2 = next2 at H39
            refine c_tidyF [(1, .int .i64 x1_3), (2, .int .i64 x2_3), (25, v0), (26, .int .i64 (a0.length : Int)), (27, .int .i64 x27_2)] [] rfl rfl ?_
            refine c_seq ?_
            refine c_region ?_
            refine l_val rfl rfl rfl (r_lss rfl rfl) ?_
            refine l_nil ?_
            refine c_seq ?_
            refine c_if (b := (decide (x27_2 < (a0.length : Int)))) rfl (fun hb => ?_) (fun hb => ?_)
            · have H40 := cnd_t hb H39; clear H39
              refine c_skip ?_
              refine c_meet (r := r) (σ := Int × Int) (τ := Unit) (fun s => R_SizeOf_j3 x27_2 next2 s.1 s.2) (fun s t => [(1, .int .i64 s.1), (2, .int .i64 s.2), (25, v0), (26, .int .i64 (a0.length : Int)), (27, .int .i64 x27_2)]) (fun s t => []) (fun s t => True) ?_ ?_
              · refine c_block ?_
                refine c_seq ?_
                refine c_region ?_
                obtain ⟨t29, h_t29, H43⟩ := bnd_some H40; clear H40
                refine l_val rfl rfl rfl (r_indexF Try.underlying61 Try.sizeOf69 rfl rfl f0 h_t29) ?_
                refine l_read (fun w hF hS => run_loadGN (f := e_edit_Step) (i := x27_2) (sz := 5) (j := 0) (vs := [.int .i64 t29.Kind, .int .i64 t29.A, .int .i64 t29.B, .int .i64 t29.C, .int .i64 t29.D]) Try.isAgg69 Try.sizeOf69 rfl rfl (f0.row (hw.now hF)) h_t29 rfl) rfl rfl rfl ?_
                refine l_alloc (cs := [.int .i64 0, .int .i64 0, .int .i64 0, .int .i64 0, .int .i64 0]) Try.zeroValue69 rfl rfl rfl (fun b1 => ?_)
                refine l_store (i := 0) (vs := [.int .i64 t29.Kind, .int .i64 t29.A, .int .i64 t29.B, .int .i64 t29.C, .int .i64 t29.D]) (cs' := [.int .i64 t29.Kind, .int .i64 t29.A, .int .i64 t29.B, .int .i64 t29.C, .int .i64 t29.D]) Try.sizeOf69 rfl rfl rfl rfl rfl rfl rfl rfl rfl ?_
                refine l_nil ?_
                refine c_seq ?_
                refine c_region ?_
                refine l_val rfl rfl rfl (r_field Try.runUnderlying69 rfl Try.sizeOf3 rfl rfl) ?_
                refine l_load1 (i := 0) (v := .int .i64 t29.Kind) Try.isAgg3 rfl rfl rfl rfl rfl ?_
                refine l_nil ?_
                refine c_block ?_
                refine c_seq ?_
                refine c_region ?_
                refine l_val rfl rfl rfl (r_eql rfl rfl) ?_
                refine l_val rfl rfl rfl (r_assign (v := .bool (decide (t29.Kind = 1))) rfl) ?_
                refine l_nil ?_
                refine c_if (b := (decide (t29.Kind = 1))) rfl (fun hb => ?_) (fun hb => ?_)
                · have H44 := cnd_t hb H43; clear H43
                  refine c_seq ?_
                  refine c_region ?_
                  refine l_val rfl rfl rfl (r_field Try.runUnderlying69 rfl Try.sizeOf3 rfl rfl) ?_
                  refine l_load1 (i := 0) (v := .int .i64 t29.A) Try.isAgg3 rfl rfl rfl rfl rfl ?_
                  refine l_val rfl rfl rfl (r_geq rfl rfl) ?_
                  refine l_nil ?_
                  refine c_if (b := (decide (5 ≤ t29.A))) rfl (fun hb => ?_) (fun hb => ?_)
                  · have H45 := cnd_t hb H44; clear H44
                    refine c_region ?_
                    refine l_val rfl rfl rfl (r_move (v := .int .i64 x2_3) rfl) ?_
                    refine l_val rfl rfl rfl (r_move (v := .int .i64 x1_3) rfl) ?_
                    refine l_val rfl rfl rfl (r_assign (v := .int .i64 x2_3) rfl) ?_
                    refine l_val rfl rfl rfl (r_assign (v := .int .i64 x1_3) rfl) ?_
                    refine l_nil ?_
                    refine c_close (x2_3, x1_3) () 0 [] (by exact ⟨rfl, rfl, rfl, rfl, rfl, trivial⟩) (by decide) rfl (by exact ⟨H45, trivial⟩) (Nat.lt_succ_self _)
                  · have H46 := cnd_f hb H44; clear H44
                    refine c_skip ?_
                    refine c_close (x1_3, x2_3) () 0 [] (by exact ⟨rfl, rfl, rfl, rfl, rfl, trivial⟩) (by decide) rfl (by exact ⟨H46, trivial⟩) (Nat.lt_succ_self _)
                · have H47 := cnd_f hb H43; clear H43
                  refine c_seq ?_
                  refine c_region ?_
                  refine l_val rfl rfl rfl (r_eql rfl rfl) ?_
                  refine l_val rfl rfl rfl (r_assign (v := .bool (decide (t29.Kind = 2))) rfl) ?_
                  refine l_nil ?_
                  refine c_if (b := (decide (t29.Kind = 2))) rfl (fun hb => ?_) (fun hb => ?_)
                  · have H48 := cnd_t hb H47; clear H47
                    refine c_seq ?_
                    refine c_seq ?_
                    refine c_region ?_
                    refine l_val rfl rfl rfl (r_field Try.runUnderlying69 rfl Try.sizeOf3 rfl rfl) ?_
                    refine l_load1 (i := 0) (v := .int .i64 t29.A) Try.isAgg3 rfl rfl rfl rfl rfl ?_
                    refine l_val rfl rfl rfl (r_field Try.runUnderlying69 rfl Try.sizeOf3 rfl rfl) ?_
                    refine l_load1 (i := 0) (v := .int .i64 t29.C) Try.isAgg3 rfl rfl rfl rfl rfl ?_
                    obtain ⟨t46, h_t46, H49⟩ := bnd_some H48; clear H48
                    refine l_val rfl rfl rfl (r_addG rfl rfl h_t46) ?_
                    refine l_val rfl rfl rfl (r_move (v := .int .i64 x1_3) rfl) ?_
                    refine l_val rfl rfl rfl (r_gtr rfl rfl) ?_
                    refine l_val rfl rfl rfl (r_move (v := .bool (decide (x1_3 < t46))) rfl) ?_
                    refine split (fun hb => ?_) (fun hb => ?_)
                    · have H50 := cnd_t hb H49; clear H49
                      refine l_passed rfl rfl rfl ?_
                      refine l_passed rfl rfl rfl ?_
                      refine l_passed rfl rfl rfl ?_
                      refine l_passed rfl rfl rfl ?_
                      refine l_passed rfl rfl rfl ?_
                      refine l_passed rfl rfl rfl ?_
                      refine l_passed rfl rfl rfl ?_
                      refine l_val rfl rfl rfl (r_pickT (v := .bool true) rfl rfl) ?_
                      refine l_nil ?_
                      refine c_true rfl ?_
                      refine c_seq ?_
                      refine c_region ?_
                      refine l_val rfl rfl rfl (r_assign (v := .int .i64 0) rfl) ?_
                      refine l_val rfl rfl rfl (r_assign (v := .int .i64 0) rfl) ?_
                      refine l_val rfl rfl rfl (r_assign (v := .int .i64 7) rfl) ?_
                      refine l_nil ?_
                      refine c_ret ?_
                      obtain rfl := Option.some.inj H50
                      refine ret3 (v1 := .int .i64 0) (v2 := .int .i64 0) (v3 := .int .i64 7) rfl rfl rfl rfl (fin rfl)
                    · have H51 := cnd_f hb H49; clear H49
                      refine l_val rfl rfl rfl (r_field Try.runUnderlying69 rfl Try.sizeOf3 rfl rfl) ?_
                      refine l_load1 (i := 0) (v := .int .i64 t29.B) Try.isAgg3 rfl rfl rfl rfl rfl ?_
                      refine l_val rfl rfl rfl (r_field Try.runUnderlying69 rfl Try.sizeOf3 rfl rfl) ?_
                      refine l_load1 (i := 0) (v := .int .i64 t29.D) Try.isAgg3 rfl rfl rfl rfl rfl ?_
                      obtain ⟨t54, h_t54, H52⟩ := bnd_some H51; clear H51
                      refine l_val rfl rfl rfl (r_addG rfl rfl h_t54) ?_
                      refine l_val rfl rfl rfl (r_move (v := .int .i64 x2_3) rfl) ?_
                      refine l_val rfl rfl rfl (r_gtr rfl rfl) ?_
                      refine l_val rfl rfl rfl (r_pickF (v := .bool (decide (x2_3 < t54))) rfl rfl) ?_
                      refine l_nil ?_
                      refine c_if (b := (decide (x2_3 < t54))) rfl (fun hb => ?_) (fun hb => ?_)
                      · have H53 := cnd_t hb H52; clear H52
                        refine c_seq ?_
                        refine c_region ?_
                        refine l_val rfl rfl rfl (r_assign (v := .int .i64 0) rfl) ?_
                        refine l_val rfl rfl rfl (r_assign (v := .int .i64 0) rfl) ?_
                        refine l_val rfl rfl rfl (r_assign (v := .int .i64 7) rfl) ?_
                        refine l_nil ?_
                        refine c_ret ?_
                        obtain rfl := Option.some.inj H53
                        refine ret3 (v1 := .int .i64 0) (v2 := .int .i64 0) (v3 := .int .i64 7) rfl rfl rfl rfl (fin rfl)
                      · have H54 := cnd_f hb H52; clear H52
                        refine c_skip ?_
                        exact c_regionD (Kd.p :: Kd.d [0] _ :: Kd.p :: Kd.d [0] _ :: Kd.p :: Kd.p :: []) 0 mixed (by
                          refine d_val rfl rfl (r_field Try.runUnderlying69 rfl Try.sizeOf3 rfl rfl) ?_
                          refine d_load1 (i := 0) (v := .int .i64 t29.C) Try.isAgg3 rfl rfl rfl rfl ?_
                          refine d_val rfl rfl (r_field Try.runUnderlying69 rfl Try.sizeOf3 rfl rfl) ?_
                          refine d_load1 (i := 0) (v := .int .i64 t29.D) Try.isAgg3 rfl rfl rfl rfl ?_
                          refine d_val rfl rfl (r_assign (v := .int .i64 t29.C) rfl) ?_
                          refine d_val rfl rfl (r_assign (v := .int .i64 t29.D) rfl) ?_
                          refine d_nil ?_
                          refine c_close (t29.C, t29.D) () 0 [] (by exact ⟨rfl, rfl, rfl, rfl, rfl, trivial⟩) (by decide) rfl (by exact ⟨H54, trivial⟩) (Nat.lt_succ_self _)
                          ) (by kernel_rfl)
                  · have H55 := cnd_f hb H47; clear H47
                    refine c_seq ?_
                    refine c_region ?_
                    refine l_val rfl rfl rfl (r_eql rfl rfl) ?_
                    refine l_val rfl rfl rfl (r_assign (v := .bool (decide (t29.Kind = 3))) rfl) ?_
                    refine l_nil ?_
                    refine c_if (b := (decide (t29.Kind = 3))) rfl (fun hb => ?_) (fun hb => ?_)
                    · have H56 := cnd_t hb H55; clear H55
                      exact c_regionD (Kd.p :: Kd.d [0] _ :: Kd.p :: Kd.d [0] _ :: Kd.p :: Kd.p :: []) 0 mixed (by
                        refine d_val rfl rfl (r_field Try.runUnderlying69 rfl Try.sizeOf3 rfl rfl) ?_
                        refine d_load1 (i := 0) (v := .int .i64 t29.A) Try.isAgg3 rfl rfl rfl rfl ?_
                        refine d_val rfl rfl (r_field Try.runUnderlying69 rfl Try.sizeOf3 rfl rfl) ?_
                        refine d_load1 (i := 0) (v := .int .i64 t29.B) Try.isAgg3 rfl rfl rfl rfl ?_
                        refine d_val rfl rfl (r_assign (v := .int .i64 t29.A) rfl) ?_
                        refine d_val rfl rfl (r_assign (v := .int .i64 t29.B) rfl) ?_
                        refine d_nil ?_
                        refine c_close (t29.A, t29.B) () 0 [] (by exact ⟨rfl, rfl, rfl, rfl, rfl, trivial⟩) (by decide) rfl (by exact ⟨H56, trivial⟩) (Nat.lt_succ_self _)
                        ) (by kernel_rfl)
                    · have H57 := cnd_f hb H55; clear H55
                      refine c_skip ?_
                      refine c_close (x1_3, x2_3) () 0 [] (by exact ⟨rfl, rfl, rfl, rfl, rfl, trivial⟩) (by decide) rfl (by exact ⟨H57, trivial⟩) (Nat.lt_succ_self _)
              · rintro ⟨x1_4, x2_4⟩ _ gg H41 _
                replace H41 : R_SizeOf_j3 x27_2 next2 x1_4 x2_4 = some r := H41
                refine c_tidyF [(1, .int .i64 x1_4), (2, .int .i64 x2_4), (25, v0), (26, .int .i64 (a0.length : Int)), (27, .int .i64 x27_2)] [] rfl rfl ?_
                refine c_region ?_
                obtain ⟨t68, h_t68, H42⟩ := bnd_some H41; clear H41
                refine l_val rfl rfl rfl (r_addG rfl rfl h_t68) ?_
                refine l_val rfl rfl rfl (r_move (v := .int .i64 t68) rfl) ?_
                refine l_nil ?_
                refine c_close (x1_4, x2_4, t68) () m2 [] (by exact ⟨rfl, rfl, rfl, rfl, rfl, trivial⟩) (by decide) rfl (by exact ⟨(by subst hn2; exact H42), trivial⟩) (Nat.lt_succ_self _)
            · have H58 := cnd_f hb H39; clear H39
              refine c_exit ?_
              refine c_close (x1_3, x2_3) () 0 [] (by exact ⟨rfl, rfl, trivial⟩) (by decide) rfl (by exact ⟨H58, trivial⟩) (Nat.lt_succ_self _)
          · rintro ⟨x1, x2⟩ _ gg H38 _
            replace H38 : R_SizeOf_j1 x1 x2 = some r := H38
            refine c_tidyF [(1, .int .i64 x1), (2, .int .i64 x2)] [] rfl rfl ?_
            refine c_seq ?_
            refine c_region ?_
            refine l_val rfl rfl rfl (r_move (v := .int .i64 x1) rfl) ?_
            refine l_val rfl rfl rfl (r_move (v := .int .i64 x2) rfl) ?_
            refine l_val rfl rfl rfl (r_assign (v := .int .i64 x1) rfl) ?_
            refine l_val rfl rfl rfl (r_assign (v := .int .i64 x2) rfl) ?_
            refine l_val rfl rfl rfl (r_assign (v := .int .i64 0) rfl) ?_
            refine l_nil ?_
            refine c_ret ?_
            obtain rfl := Option.some.inj H38
            refine ret3 (v1 := .int .i64 x1) (v2 := .int .i64 x2) (v3 := .int .i64 0) rfl rfl rfl rfl (fin rfl)
theorem k153 {a0 : (List T_edit_Step)} {v0 : Value} {a1 : (T_edit_Step → Option (Bool))} {v1 : Value} {r : Int} {w : World} {h : Heap} (hw : Know h w noS) (f0 : FrS h 5 v0 (a0.map e_edit_Step)) (f1 : FnH Try.prog h v1 (fnR_func_edit_Step_bool a1)) (H : slices_IndexFunc_edit_Step a0 a1 = some r) : Does Try.prog 153 (List.toArray [v0, v1]) w (fun v w' => v = (.int .i64 r) ∧ Grow w w') := by
  refine enter (n := 19) Try.func153 rfl rfl rfl noS [] (Sat.nil _ _) ?_
  refine c_seq ?_
  refine c_region ?_
  refine l_val rfl rfl rfl (r_assign (v := .int .i64 0) rfl) ?_
  refine l_nil ?_
  refine c_seq ?_
  refine c_seq ?_
  refine c_region ?_
  refine l_val rfl rfl rfl (r_move (v := v0) rfl) ?_
  refine l_val rfl rfl rfl (r_lenF Try.underlying61 rfl f0 rfl) ?_
  refine l_val rfl rfl rfl (r_move (v := .int .i64 0) rfl) ?_
  refine l_nil ?_
  refine c_block ?_
  refine c_fix (σ := Int) (τ := Unit) (fun next1 s => slices_IndexFunc_edit_Step_l1 a0 a1 next1 s) (fun s t => [(0, v0), (1, v1), (7, .int .i64 (a0.length : Int)), (8, .int .i64 s)]) (fun s t => []) (fun s t => True) 0 () [] H (by exact trivial) (by exact ⟨rfl, rfl, rfl, rfl, trivial⟩) (by decide) rfl ?_
  rintro x8_2 _ m1 gg H9 _
  clear H
  replace H9 : slices_IndexFunc_edit_Step_l1 a0 a1 (it (fun next1 s => slices_IndexFunc_edit_Step_l1 a0 a1 next1 s) m1) x8_2 = some r := H9
  generalize hn1 : it (fun next1 s => slices_IndexFunc_edit_Step_l1 a0 a1 next1 s) m1 = next1 at H9
  refine c_tidyF [(0, v0), (1, v1), (7, .int .i64 (a0.length : Int)), (8, .int .i64 x8_2)] [] rfl rfl ?_
  refine c_seq ?_
  refine c_region ?_
  refine l_val rfl rfl rfl (r_lss rfl rfl) ?_
  refine l_nil ?_
  refine c_seq ?_
  refine c_if (b := (decide (x8_2 < (a0.length : Int)))) rfl (fun hb => ?_) (fun hb => ?_)
  · have H10 := cnd_t hb H9; clear H9
    refine c_skip ?_
    refine c_seq ?_
    refine c_block ?_
    refine c_seq ?_
    refine c_region ?_
    refine l_val rfl rfl rfl (r_move (v := .int .i64 x8_2) rfl) ?_
    refine l_val rfl rfl rfl (r_assign (v := .int .i64 x8_2) rfl) ?_
    refine l_nil ?_
    refine c_seq ?_
    refine c_region ?_
    refine l_val rfl rfl rfl (r_move (v := v1) rfl) ?_
    refine l_val rfl rfl rfl (r_move (v := v0) rfl) ?_
    refine l_val rfl rfl rfl (r_move (v := .int .i64 x8_2) rfl) ?_
    obtain ⟨t14, h_t14, H11⟩ := bnd_some H10; clear H10
    refine l_val rfl rfl rfl (r_indexF Try.underlying61 Try.sizeOf69 rfl rfl f0 h_t14) ?_
    refine l_read (fun w hF hS => run_loadGN (f := e_edit_Step) (i := x8_2) (sz := 5) (j := 0) (vs := [.int .i64 t14.Kind, .int .i64 t14.A, .int .i64 t14.B, .int .i64 t14.C, .int .i64 t14.D]) Try.isAgg69 Try.sizeOf69 rfl rfl (f0.row (hw.now hF)) h_t14 rfl) rfl rfl rfl ?_
    obtain ⟨t16, h_t16, H12⟩ := bnd_some H11; clear H11
    refine l_callV (R := fnR_func_edit_Step_bool a1) (r := .bool t16) (v := v1) (fun w hF hS => ⟨(f1.mono (hw.now hF)), ⟨t14, _, rfl, h_t16, rfl⟩⟩) rfl rfl rfl rfl ?_
    refine l_nil ?_
    refine c_if (b := t16) rfl (fun hb => ?_) (fun hb => ?_)
    · have H13 := cnd_t hb H12; clear H12
      refine c_seq ?_
      refine c_region ?_
      refine l_val rfl rfl rfl (r_move (v := .int .i64 x8_2) rfl) ?_
      refine l_val rfl rfl rfl (r_assign (v := .int .i64 x8_2) rfl) ?_
      refine l_nil ?_
      refine c_ret ?_
      obtain rfl := Option.some.inj H13
      refine ret1 (v := .int .i64 x8_2) rfl rfl (fin rfl)
    · have H14 := cnd_f hb H12; clear H12
      refine c_skip ?_
      refine c_region ?_
      obtain ⟨t18, h_t18, H15⟩ := bnd_some H14; clear H14
      refine l_val rfl rfl rfl (r_addG rfl rfl h_t18) ?_
      refine l_val rfl rfl rfl (r_move (v := .int .i64 t18) rfl) ?_
      refine l_nil ?_
      refine c_close t18 () m1 [] (by exact ⟨rfl, rfl, rfl, rfl, trivial⟩) (by decide) rfl (by exact ⟨(by subst hn1; exact H15), trivial⟩) (Nat.lt_succ_self _)
  · have H16 := cnd_f hb H9; clear H9
    refine c_exit ?_
    refine c_seq ?_
    refine c_region ?_
    refine l_val rfl rfl rfl (r_assign (v := .int .i64 (-1)) rfl) ?_
    refine l_nil ?_
    refine c_ret ?_
    obtain rfl := Option.some.inj H16
    refine ret1 (v := .int .i64 (-1)) rfl rfl (fin rfl)
theorem k114 {a0 : (List T_edit_Step)} {v0 : Value} {a1 : (T_edit_Step → Option (Bool))} {v1 : Value} {r : Bool} {w : World} {h : Heap} (hw : Know h w noS) (f0 : FrS h 5 v0 (a0.map e_edit_Step)) (f1 : FnH Try.prog h v1 (fnR_func_edit_Step_bool a1)) (H : slices_ContainsFunc_edit_Step a0 a1 = some r) : Does Try.prog 114 (List.toArray [v0, v1]) w (fun v w' => v = (.bool r) ∧ Grow w w') := by
  refine enter (n := 9) Try.func114 rfl rfl rfl noS [] (Sat.nil _ _) ?_
  refine c_seq ?_
  refine c_region ?_
  refine l_val rfl rfl rfl (r_assign (v := .bool false) rfl) ?_
  refine l_nil ?_
  refine c_seq ?_
  refine c_region ?_
  refine l_val rfl rfl rfl (r_move (v := v0) rfl) ?_
  refine l_val rfl rfl rfl (r_move (v := v1) rfl) ?_
  obtain ⟨t7, h_t7, H2⟩ := bnd_some H; clear H
  refine l_callG (fun w hF hS => k153 (know_all w) (f0.mono (hw.now hF)) (f1.mono (hw.now hF)) h_t7) Try.call153 rfl rfl rfl ?_
  refine l_val rfl rfl rfl (r_geq rfl rfl) ?_
  refine l_val rfl rfl rfl (r_assign (v := .bool (decide (0 ≤ t7))) rfl) ?_
  refine l_nil ?_
  refine c_ret ?_
  obtain rfl := Option.some.inj H2
  refine ret1 (v := .bool (decide (0 ≤ t7))) rfl rfl (fin rfl)
theorem k115 {a0 : T_edit_Step} {r : Bool} (H : R_ComesFrom_1 a0 = some r) : Ret Try.prog 115 [.agg #[.int .i64 a0.Kind, .int .i64 a0.A, .int .i64 a0.B, .int .i64 a0.C, .int .i64 a0.D]] (.bool r) := by
  refine enterRet (n := 6) Try.func115 rfl rfl rfl (fun wd => ?_)
  refine c_seq ?_
  refine c_region ?_
  refine l_box (cs := [.int .i64 a0.Kind, .int .i64 a0.A, .int .i64 a0.B, .int .i64 a0.C, .int .i64 a0.D]) rfl rfl rfl rfl (fun b1 => ?_)
  refine l_val rfl rfl rfl (r_assign (v := .bool false) rfl) ?_
  refine l_nil ?_
  refine c_seq ?_
  refine c_region ?_
  refine l_val rfl rfl rfl (r_field Try.runUnderlying69 rfl Try.sizeOf3 rfl rfl) ?_
  refine l_load1 (i := 0) (v := .int .i64 a0.Kind) Try.isAgg3 rfl rfl rfl rfl rfl ?_
  refine l_val rfl rfl rfl (r_eql rfl rfl) ?_
  refine l_val rfl rfl rfl (r_assign (v := .bool (decide (a0.Kind = 3))) rfl) ?_
  refine l_nil ?_
  refine c_ret ?_
  obtain rfl := Option.some.inj H
  refine ret1 (v := .bool (decide (a0.Kind = 3))) rfl rfl (fin rfl)
theorem k116 {a0 : Int} {a1 : Int} {a2 : Int} {a3 : Int} {a4 : Int} {r : Int × Int} (H : R_source a0 a1 a2 a3 a4 = some r) : Ret Try.prog 116 [.int .i64 a0, .int .i64 a1, .int .i64 a2, .int .i64 a3, .int .i64 a4] (.tuple #[.int .i64 r.1, .int .i64 r.2]) := by
  refine enterRet (n := 67) Try.func116 rfl rfl rfl (fun wd => ?_)
  refine c_seq ?_
  refine c_region ?_
  refine l_val rfl rfl rfl (r_assign (v := .int .i64 0) rfl) ?_
  refine l_val rfl rfl rfl (r_assign (v := .int .i64 0) rfl) ?_
  refine l_nil ?_
  refine c_seq ?_
  refine c_seq ?_
  refine c_region ?_
  refine l_val rfl rfl rfl (r_move (v := .int .i64 a0) rfl) ?_
  refine l_nil ?_
  refine c_block ?_
  refine c_seq ?_
  refine c_region ?_
  refine l_val rfl rfl rfl (r_eql rfl rfl) ?_
  refine l_val rfl rfl rfl (r_assign (v := .bool (decide (a0 = 2))) rfl) ?_
  refine l_nil ?_
  refine c_if (b := (decide (a0 = 2))) rfl (fun hb => ?_) (fun hb => ?_)
  · have H31 := cnd_t hb H; clear H
    refine c_seq ?_
    refine c_region ?_
    refine l_val rfl rfl rfl (r_move (v := .int .i64 a1) rfl) ?_
    obtain ⟨t16, h_t16, H32⟩ := bnd_some H31; clear H31
    refine l_val rfl rfl rfl (r_subG rfl rfl h_t16) ?_
    refine l_val rfl rfl rfl (r_move (v := .int .i64 a3) rfl) ?_
    obtain ⟨t18, h_t18, H33⟩ := bnd_some H32; clear H32
    refine l_val rfl rfl rfl (r_subG rfl rfl h_t18) ?_
    refine l_val rfl rfl rfl (r_move (v := .int .i64 a4) rfl) ?_
    refine l_val rfl rfl rfl (r_assign (v := .int .i64 t18) rfl) ?_
    refine l_val rfl rfl rfl (r_assign (v := .int .i64 a4) rfl) ?_
    refine l_nil ?_
    refine c_ret ?_
    obtain rfl := Option.some.inj H33
    refine ret2 (v1 := .int .i64 t18) (v2 := .int .i64 a4) rfl rfl rfl (fin rfl)
  · have H34 := cnd_f hb H; clear H
    refine c_seq ?_
    refine c_region ?_
    refine l_val rfl rfl rfl (r_eql rfl rfl) ?_
    refine l_val rfl rfl rfl (r_assign (v := .bool (decide (a0 = 3))) rfl) ?_
    refine l_nil ?_
    refine c_if (b := (decide (a0 = 3))) rfl (fun hb => ?_) (fun hb => ?_)
    · have H35 := cnd_t hb H34; clear H34
      refine c_seq ?_
      refine c_region ?_
      refine l_val rfl rfl rfl (r_move (v := .int .i64 a1) rfl) ?_
      obtain ⟨t23, h_t23, H36⟩ := bnd_some H35; clear H35
      refine l_val rfl rfl rfl (r_subG rfl rfl h_t23) ?_
      refine l_val rfl rfl rfl (r_move (v := .int .i64 a3) rfl) ?_
      obtain ⟨t25, h_t25, H37⟩ := bnd_some H36; clear H36
      refine l_val rfl rfl rfl (r_subG rfl rfl h_t25) ?_
      refine l_val rfl rfl rfl (r_move (v := .int .i64 a2) rfl) ?_
      obtain ⟨t27, h_t27, H38⟩ := bnd_some H37; clear H37
      refine l_val rfl rfl rfl (r_subG rfl rfl h_t27) ?_
      refine l_val rfl rfl rfl (r_move (v := .int .i64 a4) rfl) ?_
      obtain ⟨t29, h_t29, H39⟩ := bnd_some H38; clear H38
      refine l_val rfl rfl rfl (r_subG rfl rfl h_t29) ?_
      refine l_val rfl rfl rfl (r_assign (v := .int .i64 t25) rfl) ?_
      refine l_val rfl rfl rfl (r_assign (v := .int .i64 t29) rfl) ?_
      refine l_nil ?_
      refine c_ret ?_
      obtain rfl := Option.some.inj H39
      refine ret2 (v1 := .int .i64 t25) (v2 := .int .i64 t29) rfl rfl rfl (fin rfl)
    · have H40 := cnd_f hb H34; clear H34
      refine c_seq ?_
      refine c_region ?_
      refine l_val rfl rfl rfl (r_eql rfl rfl) ?_
      refine l_val rfl rfl rfl (r_assign (v := .bool (decide (a0 = 4))) rfl) ?_
      refine l_nil ?_
      refine c_if (b := (decide (a0 = 4))) rfl (fun hb => ?_) (fun hb => ?_)
      · have H41 := cnd_t hb H40; clear H40
        refine c_seq ?_
        refine c_region ?_
        refine l_val rfl rfl rfl (r_move (v := .int .i64 a3) rfl) ?_
        refine l_val rfl rfl rfl (r_move (v := .int .i64 a2) rfl) ?_
        obtain ⟨t34, h_t34, H42⟩ := bnd_some H41; clear H41
        refine l_val rfl rfl rfl (r_subG rfl rfl h_t34) ?_
        refine l_val rfl rfl rfl (r_move (v := .int .i64 a4) rfl) ?_
        obtain ⟨t36, h_t36, H43⟩ := bnd_some H42; clear H42
        refine l_val rfl rfl rfl (r_subG rfl rfl h_t36) ?_
        refine l_val rfl rfl rfl (r_assign (v := .int .i64 a3) rfl) ?_
        refine l_val rfl rfl rfl (r_assign (v := .int .i64 t36) rfl) ?_
        refine l_nil ?_
        refine c_ret ?_
        obtain rfl := Option.some.inj H43
        refine ret2 (v1 := .int .i64 a3) (v2 := .int .i64 t36) rfl rfl rfl (fin rfl)
      · have H44 := cnd_f hb H40; clear H40
        refine c_seq ?_
        refine c_region ?_
        refine l_val rfl rfl rfl (r_eql rfl rfl) ?_
        refine l_val rfl rfl rfl (r_assign (v := .bool (decide (a0 = 5))) rfl) ?_
        refine l_nil ?_
        refine c_if (b := (decide (a0 = 5))) rfl (fun hb => ?_) (fun hb => ?_)
        · have H45 := cnd_t hb H44; clear H44
          refine c_seq ?_
          refine c_region ?_
          refine l_val rfl rfl rfl (r_move (v := .int .i64 a4) rfl) ?_
          refine l_val rfl rfl rfl (r_move (v := .int .i64 a3) rfl) ?_
          refine l_val rfl rfl rfl (r_assign (v := .int .i64 a4) rfl) ?_
          refine l_val rfl rfl rfl (r_assign (v := .int .i64 a3) rfl) ?_
          refine l_nil ?_
          refine c_ret ?_
          obtain rfl := Option.some.inj H45
          refine ret2 (v1 := .int .i64 a4) (v2 := .int .i64 a3) rfl rfl rfl (fin rfl)
        · have H46 := cnd_f hb H44; clear H44
          refine c_seq ?_
          refine c_region ?_
          refine l_val rfl rfl rfl (r_eql rfl rfl) ?_
          refine l_val rfl rfl rfl (r_assign (v := .bool (decide (a0 = 6))) rfl) ?_
          refine l_nil ?_
          refine c_if (b := (decide (a0 = 6))) rfl (fun hb => ?_) (fun hb => ?_)
          · have H47 := cnd_t hb H46; clear H46
            refine c_seq ?_
            refine c_region ?_
            refine l_val rfl rfl rfl (r_move (v := .int .i64 a4) rfl) ?_
            refine l_val rfl rfl rfl (r_move (v := .int .i64 a2) rfl) ?_
            obtain ⟨t45, h_t45, H48⟩ := bnd_some H47; clear H47
            refine l_val rfl rfl rfl (r_subG rfl rfl h_t45) ?_
            refine l_val rfl rfl rfl (r_move (v := .int .i64 a3) rfl) ?_
            obtain ⟨t47, h_t47, H49⟩ := bnd_some H48; clear H48
            refine l_val rfl rfl rfl (r_subG rfl rfl h_t47) ?_
            refine l_val rfl rfl rfl (r_assign (v := .int .i64 a4) rfl) ?_
            refine l_val rfl rfl rfl (r_assign (v := .int .i64 t47) rfl) ?_
            refine l_nil ?_
            refine c_ret ?_
            obtain rfl := Option.some.inj H49
            refine ret2 (v1 := .int .i64 a4) (v2 := .int .i64 t47) rfl rfl rfl (fin rfl)
          · have H50 := cnd_f hb H46; clear H46
            refine c_seq ?_
            refine c_region ?_
            refine l_val rfl rfl rfl (r_eql rfl rfl) ?_
            refine l_val rfl rfl rfl (r_assign (v := .bool (decide (a0 = 7))) rfl) ?_
            refine l_nil ?_
            refine c_if (b := (decide (a0 = 7))) rfl (fun hb => ?_) (fun hb => ?_)
            · have H51 := cnd_t hb H50; clear H50
              refine c_seq ?_
              refine c_region ?_
              refine l_val rfl rfl rfl (r_move (v := .int .i64 a1) rfl) ?_
              obtain ⟨t51, h_t51, H52⟩ := bnd_some H51; clear H51
              refine l_val rfl rfl rfl (r_subG rfl rfl h_t51) ?_
              refine l_val rfl rfl rfl (r_move (v := .int .i64 a4) rfl) ?_
              obtain ⟨t53, h_t53, H53⟩ := bnd_some H52; clear H52
              refine l_val rfl rfl rfl (r_subG rfl rfl h_t53) ?_
              refine l_val rfl rfl rfl (r_move (v := .int .i64 a2) rfl) ?_
              obtain ⟨t55, h_t55, H54⟩ := bnd_some H53; clear H53
              refine l_val rfl rfl rfl (r_subG rfl rfl h_t55) ?_
              refine l_val rfl rfl rfl (r_move (v := .int .i64 a3) rfl) ?_
              obtain ⟨t57, h_t57, H55⟩ := bnd_some H54; clear H54
              refine l_val rfl rfl rfl (r_subG rfl rfl h_t57) ?_
              refine l_val rfl rfl rfl (r_assign (v := .int .i64 t53) rfl) ?_
              refine l_val rfl rfl rfl (r_assign (v := .int .i64 t57) rfl) ?_
              refine l_nil ?_
              refine c_ret ?_
              obtain rfl := Option.some.inj H55
              refine ret2 (v1 := .int .i64 t53) (v2 := .int .i64 t57) rfl rfl rfl (fin rfl)
            · have H56 := cnd_f hb H50; clear H50
              refine c_seq ?_
              refine c_region ?_
              refine l_val rfl rfl rfl (r_eql rfl rfl) ?_
              refine l_val rfl rfl rfl (r_assign (v := .bool (decide (a0 = 8))) rfl) ?_
              refine l_nil ?_
              refine c_if (b := (decide (a0 = 8))) rfl (fun hb => ?_) (fun hb => ?_)
              · have H57 := cnd_t hb H56; clear H56
                refine c_seq ?_
                refine c_region ?_
                refine l_val rfl rfl rfl (r_move (v := .int .i64 a1) rfl) ?_
                obtain ⟨t61, h_t61, H58⟩ := bnd_some H57; clear H57
                refine l_val rfl rfl rfl (r_subG rfl rfl h_t61) ?_
                refine l_val rfl rfl rfl (r_move (v := .int .i64 a4) rfl) ?_
                obtain ⟨t63, h_t63, H59⟩ := bnd_some H58; clear H58
                refine l_val rfl rfl rfl (r_subG rfl rfl h_t63) ?_
                refine l_val rfl rfl rfl (r_move (v := .int .i64 a3) rfl) ?_
                refine l_val rfl rfl rfl (r_assign (v := .int .i64 t63) rfl) ?_
                refine l_val rfl rfl rfl (r_assign (v := .int .i64 a3) rfl) ?_
                refine l_nil ?_
                refine c_ret ?_
                obtain rfl := Option.some.inj H59
                refine ret2 (v1 := .int .i64 t63) (v2 := .int .i64 a3) rfl rfl rfl (fin rfl)
              · have H60 := cnd_f hb H56; clear H56
                refine c_skip ?_
                refine c_seq ?_
                refine c_region ?_
                refine l_val rfl rfl rfl (r_move (v := .int .i64 a3) rfl) ?_
                refine l_val rfl rfl rfl (r_move (v := .int .i64 a4) rfl) ?_
                refine l_val rfl rfl rfl (r_assign (v := .int .i64 a3) rfl) ?_
                refine l_val rfl rfl rfl (r_assign (v := .int .i64 a4) rfl) ?_
                refine l_nil ?_
                refine c_ret ?_
                obtain rfl := Option.some.inj H60
                refine ret2 (v1 := .int .i64 a3) (v2 := .int .i64 a4) rfl rfl rfl (fin rfl)
theorem k52 {a0 : (List T_edit_Step)} {v0 : Value} {a1 : Int} {a2 : Int} {a3 : Int} {a4 : Int} {r : Int × Int × Int} {w : World} {h : Heap} (hw : Know h w noS) (f0 : FrS h 5 v0 (a0.map e_edit_Step)) (H : R_ComesFrom a0 a1 a2 a3 a4 = some r) : Does Try.prog 52 (List.toArray [v0, .int .i64 a1, .int .i64 a2, .int .i64 a3, .int .i64 a4]) w (fun v w' => v = (.tuple #[.int .i64 r.1, .int .i64 r.2.1, .int .i64 r.2.2]) ∧ Grow w w') := by
  refine enter (n := 100) Try.func52 rfl rfl rfl noS [] (Sat.nil _ _) ?_
  refine c_seq ?_
  refine c_region ?_
  refine l_val rfl rfl rfl (r_assign (v := .int .i64 0) rfl) ?_
  refine l_val rfl rfl rfl (r_assign (v := .int .i64 0) rfl) ?_
  refine l_val rfl rfl rfl (r_assign (v := .int .i64 0) rfl) ?_
  refine l_nil ?_
  refine c_seq ?_
  refine c_region ?_
  refine l_val rfl rfl rfl (r_move (v := v0) rfl) ?_
  refine l_val rfl rfl rfl (r_move (v := .int .i64 a1) rfl) ?_
  refine l_val rfl rfl rfl (r_move (v := .int .i64 a2) rfl) ?_
  obtain ⟨t25, h_t25, H32⟩ := bnd_some H; clear H
  refine l_callG (fun w hF hS => k60 (know_all w) (f0.mono (hw.now hF)) h_t25) Try.call60 rfl rfl rfl ?_
  refine l_val rfl rfl rfl (r_move (v := .tuple #[.int .i64 t25.1, .int .i64 t25.2.1, .int .i64 t25.2.2]) rfl) ?_
  refine l_val rfl rfl rfl (r_extract (v := .int .i64 t25.1) rfl rfl) ?_
  refine l_val rfl rfl rfl (r_extract (v := .int .i64 t25.2.1) rfl rfl) ?_
  refine l_val rfl rfl rfl (r_extract (v := .int .i64 t25.2.2) rfl rfl) ?_
  refine l_val rfl rfl rfl (r_assign (v := .int .i64 t25.1) rfl) ?_
  refine l_val rfl rfl rfl (r_assign (v := .int .i64 t25.2.1) rfl) ?_
  refine l_val rfl rfl rfl (r_assign (v := .int .i64 t25.2.2) rfl) ?_
  refine l_nil ?_
  refine c_seq ?_
  refine c_block ?_
  refine c_seq ?_
  refine c_region ?_
  refine l_val rfl rfl rfl (r_move (v := .int .i64 t25.2.2) rfl) ?_
  refine l_val rfl rfl rfl (r_neq rfl rfl) ?_
  refine l_val rfl rfl rfl (r_assign (v := .bool (decide (t25.2.2 ≠ 0))) rfl) ?_
  refine l_nil ?_
  refine c_if (b := (decide (t25.2.2 ≠ 0))) rfl (fun hb => ?_) (fun hb => ?_)
  · have H33 := cnd_t hb H32; clear H32
    refine c_seq ?_
    refine c_region ?_
    refine l_val rfl rfl rfl (r_move (v := .int .i64 t25.2.2) rfl) ?_
    refine l_val rfl rfl rfl (r_assign (v := .int .i64 0) rfl) ?_
    refine l_val rfl rfl rfl (r_assign (v := .int .i64 0) rfl) ?_
    refine l_val rfl rfl rfl (r_assign (v := .int .i64 t25.2.2) rfl) ?_
    refine l_nil ?_
    refine c_ret ?_
    obtain rfl := Option.some.inj H33
    refine ret3 (v1 := .int .i64 0) (v2 := .int .i64 0) (v3 := .int .i64 t25.2.2) rfl rfl rfl rfl (fin rfl)
  · have H34 := cnd_f hb H32; clear H32
    refine c_seq ?_
    refine c_region ?_
    refine l_val rfl rfl rfl (r_move (v := v0) rfl) ?_
    obtain ⟨t35, h_t35, H35⟩ := bnd_some H34; clear H34
    refine l_callG (fun w hF hS => k114 (know_all w) (f0.mono (hw.now hF)) (FnH.mk ⟨115, #[], #[], rfl, Try.call115, fun args2 post2 w2 hk2 hR2 => by obtain ⟨a0_, r_, rfl, H_, rfl⟩ := hR2; exact k115 H_ w2⟩) h_t35) Try.call114 rfl rfl rfl ?_
    refine l_val rfl rfl rfl (r_assign (v := .bool t35) rfl) ?_
    refine l_nil ?_
    refine c_if (b := t35) rfl (fun hb => ?_) (fun hb => ?_)
    · have H36 := cnd_t hb H35; clear H35
      refine c_seq ?_
      refine c_region ?_
      refine l_val rfl rfl rfl (r_assign (v := .int .i64 0) rfl) ?_
      refine l_val rfl rfl rfl (r_assign (v := .int .i64 0) rfl) ?_
      refine l_val rfl rfl rfl (r_assign (v := .int .i64 11) rfl) ?_
      refine l_nil ?_
      refine c_ret ?_
      obtain rfl := Option.some.inj H36
      refine ret3 (v1 := .int .i64 0) (v2 := .int .i64 0) (v3 := .int .i64 11) rfl rfl rfl rfl (fin rfl)
    · have H37 := cnd_f hb H35; clear H35
      refine c_seq ?_
      refine c_region ?_
      refine l_val rfl rfl rfl (r_move (v := .int .i64 a3) rfl) ?_
      refine l_val rfl rfl rfl (r_lss rfl rfl) ?_
      refine l_val rfl rfl rfl (r_move (v := .bool (decide (a3 < 0))) rfl) ?_
      refine split (fun hb => ?_) (fun hb => ?_)
      · have H38 := cnd_t hb H37; clear H37
        refine l_passed rfl rfl rfl ?_
        refine l_passed rfl rfl rfl ?_
        refine l_passed rfl rfl rfl ?_
        refine l_val rfl rfl rfl (r_pickT (v := .bool true) rfl rfl) ?_
        refine l_val rfl rfl rfl (r_move (v := .bool true) rfl) ?_
        refine l_passed rfl rfl rfl ?_
        refine l_passed rfl rfl rfl ?_
        refine l_val rfl rfl rfl (r_pickT (v := .bool true) rfl rfl) ?_
        refine l_val rfl rfl rfl (r_move (v := .bool true) rfl) ?_
        refine l_passed rfl rfl rfl ?_
        refine l_passed rfl rfl rfl ?_
        refine l_passed rfl rfl rfl ?_
        refine l_val rfl rfl rfl (r_pickT (v := .bool true) rfl rfl) ?_
        refine l_val rfl rfl rfl (r_assign (v := .bool true) rfl) ?_
        refine l_nil ?_
        refine c_true rfl ?_
        refine c_seq ?_
        refine c_region ?_
        refine l_val rfl rfl rfl (r_assign (v := .int .i64 0) rfl) ?_
        refine l_val rfl rfl rfl (r_assign (v := .int .i64 0) rfl) ?_
        refine l_val rfl rfl rfl (r_assign (v := .int .i64 2) rfl) ?_
        refine l_nil ?_
        refine c_ret ?_
        obtain rfl := Option.some.inj H38
        refine ret3 (v1 := .int .i64 0) (v2 := .int .i64 0) (v3 := .int .i64 2) rfl rfl rfl rfl (fin rfl)
      · have H39 := cnd_f hb H37; clear H37
        refine l_val rfl rfl rfl (r_move (v := .int .i64 a3) rfl) ?_
        refine l_val rfl rfl rfl (r_move (v := .int .i64 t25.1) rfl) ?_
        refine l_val rfl rfl rfl (r_geq rfl rfl) ?_
        refine l_val rfl rfl rfl (r_pickF (v := .bool (decide (t25.1 ≤ a3))) rfl rfl) ?_
        refine l_val rfl rfl rfl (r_move (v := .bool (decide (t25.1 ≤ a3))) rfl) ?_
        refine split (fun hb => ?_) (fun hb => ?_)
        · have H40 := cnd_t hb H39; clear H39
          refine l_passed rfl rfl rfl ?_
          refine l_passed rfl rfl rfl ?_
          refine l_val rfl rfl rfl (r_pickT (v := .bool true) rfl rfl) ?_
          refine l_val rfl rfl rfl (r_move (v := .bool true) rfl) ?_
          refine l_passed rfl rfl rfl ?_
          refine l_passed rfl rfl rfl ?_
          refine l_passed rfl rfl rfl ?_
          refine l_val rfl rfl rfl (r_pickT (v := .bool true) rfl rfl) ?_
          refine l_val rfl rfl rfl (r_assign (v := .bool true) rfl) ?_
          refine l_nil ?_
          refine c_true rfl ?_
          refine c_seq ?_
          refine c_region ?_
          refine l_val rfl rfl rfl (r_assign (v := .int .i64 0) rfl) ?_
          refine l_val rfl rfl rfl (r_assign (v := .int .i64 0) rfl) ?_
          refine l_val rfl rfl rfl (r_assign (v := .int .i64 2) rfl) ?_
          refine l_nil ?_
          refine c_ret ?_
          obtain rfl := Option.some.inj H40
          refine ret3 (v1 := .int .i64 0) (v2 := .int .i64 0) (v3 := .int .i64 2) rfl rfl rfl rfl (fin rfl)
        · have H41 := cnd_f hb H39; clear H39
          refine l_val rfl rfl rfl (r_move (v := .int .i64 a4) rfl) ?_
          refine l_val rfl rfl rfl (r_lss rfl rfl) ?_
          refine l_val rfl rfl rfl (r_pickF (v := .bool (decide (a4 < 0))) rfl rfl) ?_
          refine l_val rfl rfl rfl (r_move (v := .bool (decide (a4 < 0))) rfl) ?_
          refine split (fun hb => ?_) (fun hb => ?_)
          · have H42 := cnd_t hb H41; clear H41
            refine l_passed rfl rfl rfl ?_
            refine l_passed rfl rfl rfl ?_
            refine l_passed rfl rfl rfl ?_
            refine l_val rfl rfl rfl (r_pickT (v := .bool true) rfl rfl) ?_
            refine l_val rfl rfl rfl (r_assign (v := .bool true) rfl) ?_
            refine l_nil ?_
            refine c_true rfl ?_
            refine c_seq ?_
            refine c_region ?_
            refine l_val rfl rfl rfl (r_assign (v := .int .i64 0) rfl) ?_
            refine l_val rfl rfl rfl (r_assign (v := .int .i64 0) rfl) ?_
            refine l_val rfl rfl rfl (r_assign (v := .int .i64 2) rfl) ?_
            refine l_nil ?_
            refine c_ret ?_
            obtain rfl := Option.some.inj H42
            refine ret3 (v1 := .int .i64 0) (v2 := .int .i64 0) (v3 := .int .i64 2) rfl rfl rfl rfl (fin rfl)
          · have H43 := cnd_f hb H41; clear H41
            refine l_val rfl rfl rfl (r_move (v := .int .i64 a4) rfl) ?_
            refine l_val rfl rfl rfl (r_move (v := .int .i64 t25.2.1) rfl) ?_
            refine l_val rfl rfl rfl (r_geq rfl rfl) ?_
            refine l_val rfl rfl rfl (r_pickF (v := .bool (decide (t25.2.1 ≤ a4))) rfl rfl) ?_
            refine l_val rfl rfl rfl (r_assign (v := .bool (decide (t25.2.1 ≤ a4))) rfl) ?_
            refine l_nil ?_
            refine c_if (b := (decide (t25.2.1 ≤ a4))) rfl (fun hb => ?_) (fun hb => ?_)
            · have H44 := cnd_t hb H43; clear H43
              refine c_seq ?_
              refine c_region ?_
              refine l_val rfl rfl rfl (r_assign (v := .int .i64 0) rfl) ?_
              refine l_val rfl rfl rfl (r_assign (v := .int .i64 0) rfl) ?_
              refine l_val rfl rfl rfl (r_assign (v := .int .i64 2) rfl) ?_
              refine l_nil ?_
              refine c_ret ?_
              obtain rfl := Option.some.inj H44
              refine ret3 (v1 := .int .i64 0) (v2 := .int .i64 0) (v3 := .int .i64 2) rfl rfl rfl rfl (fin rfl)
            · have H45 := cnd_f hb H43; clear H43
              refine c_skip ?_
              refine c_meet (r := r) (σ := Int × Int) (τ := Unit) (fun s => R_ComesFrom_j1 s.1 s.2) (fun s t => [(3, .int .i64 s.1), (4, .int .i64 s.2)]) (fun s t => []) (fun s t => True) ?_ ?_
              · refine c_seq ?_
                refine c_region ?_
                refine l_val rfl rfl rfl (r_move (v := v0) rfl) ?_
                refine l_val rfl rfl rfl (r_lenF Try.underlying61 rfl f0 rfl) ?_
                obtain ⟨t55, h_t55, H47⟩ := bnd_some H45; clear H45
                refine l_val rfl rfl rfl (r_subG rfl rfl h_t55) ?_
                refine l_val rfl rfl rfl (r_assign (v := .int .i64 t55) rfl) ?_
                refine l_nil ?_
                refine c_block ?_
                refine c_fix (σ := Int × Int × Int) (τ := Unit) (fun next2 s => R_ComesFrom_l2 a0 a1 a2 next2 s.1 s.2.1 s.2.2) (fun s t => [(0, v0), (1, .int .i64 a1), (2, .int .i64 a2), (3, .int .i64 s.1), (4, .int .i64 s.2.1), (16, .int .i64 s.2.2)]) (fun s t => []) (fun s t => True) (a3, a4, t55) () [] H47 (by exact trivial) (by exact ⟨rfl, rfl, rfl, rfl, rfl, rfl, trivial⟩) (by decide) rfl ?_
                rintro ⟨x3_3, x4_3, x16_2⟩ _ m2 gg H48 _
                clear H47
                replace H48 : R_ComesFrom_l2 a0 a1 a2 (it (fun next2 s => R_ComesFrom_l2 a0 a1 a2 next2 s.1 s.2.1 s.2.2) m2) x3_3 x4_3 x16_2 = some r := H48
                generalize hn2 : it (fun next2 s => R_ComesFrom_l2 a0 a1 a2 next2 s.1 s.2.1 s.2.2) m2 = next2 at H48
                refine c_tidyF [(0, v0), (1, .int .i64 a1), (2, .int .i64 a2), (3, .int .i64 x3_3), (4, .int .i64 x4_3), (16, .int .i64 x16_2)] [] rfl rfl ?_
                refine c_seq ?_
                refine c_seq ?_
                refine c_region ?_
                refine l_val rfl rfl rfl (r_move (v := .int .i64 x16_2) rfl) ?_
                refine l_val rfl rfl rfl (r_geq rfl rfl) ?_
                refine l_nil ?_
                refine c_if (b := (decide (0 ≤ x16_2))) rfl (fun hb => ?_) (fun hb => ?_)
                · have H49 := cnd_t hb H48; clear H48
                  refine c_skip ?_
                  refine c_meet (r := r) (σ := Int × Int) (τ := Unit) (fun s => R_ComesFrom_j3 x16_2 next2 s.1 s.2) (fun s t => [(0, v0), (1, .int .i64 a1), (2, .int .i64 a2), (3, .int .i64 s.1), (4, .int .i64 s.2), (16, .int .i64 x16_2)]) (fun s t => []) (fun s t => True) ?_ ?_
                  · refine c_block ?_
                    refine c_seq ?_
                    refine c_region ?_
                    refine l_val rfl rfl rfl (r_move (v := v0) rfl) ?_
                    refine l_val rfl rfl rfl (r_move (v := .int .i64 x16_2) rfl) ?_
                    obtain ⟨t63, h_t63, H52⟩ := bnd_some H49; clear H49
                    refine l_val rfl rfl rfl (r_sliceHF Try.underlying61 Try.sizeOf69 rfl rfl f0 h_t63) ?_
                    refine l_val rfl rfl rfl (r_move (v := .int .i64 a1) rfl) ?_
                    refine l_val rfl rfl rfl (r_move (v := .int .i64 a2) rfl) ?_
                    obtain ⟨t66, h_t66, H53⟩ := bnd_some H52; clear H52
                    refine l_callG (fun w hF hS => k60 (know_all w) ((f0.cut h_t63).mono (hw.now hF)) h_t66) Try.call60 rfl rfl rfl ?_
                    refine l_val rfl rfl rfl (r_move (v := .tuple #[.int .i64 t66.1, .int .i64 t66.2.1, .int .i64 t66.2.2]) rfl) ?_
                    refine l_val rfl rfl rfl (r_extract (v := .int .i64 t66.1) rfl rfl) ?_
                    refine l_val rfl rfl rfl (r_extract (v := .int .i64 t66.2.1) rfl rfl) ?_
                    refine l_val rfl rfl rfl (r_extract (v := .int .i64 t66.2.2) rfl rfl) ?_
                    refine l_val rfl rfl rfl (r_assign (v := .int .i64 t66.1) rfl) ?_
                    refine l_val rfl rfl rfl (r_assign (v := .int .i64 t66.2.1) rfl) ?_
                    refine l_val rfl rfl rfl (r_assign (v := .int .i64 t66.2.2) rfl) ?_
                    refine l_nil ?_
                    refine c_seq ?_
                    refine c_region ?_
                    refine l_val rfl rfl rfl (r_move (v := v0) rfl) ?_
                    refine l_val rfl rfl rfl (r_move (v := .int .i64 x16_2) rfl) ?_
                    obtain ⟨t72, h_t72, H54⟩ := bnd_some H53; clear H53
                    refine l_val rfl rfl rfl (r_indexF Try.underlying61 Try.sizeOf69 rfl rfl f0 h_t72) ?_
                    refine l_read (fun w hF hS => run_loadGN (f := e_edit_Step) (i := x16_2) (sz := 5) (j := 0) (vs := [.int .i64 t72.Kind, .int .i64 t72.A, .int .i64 t72.B, .int .i64 t72.C, .int .i64 t72.D]) Try.isAgg69 Try.sizeOf69 rfl rfl (f0.row (hw.now hF)) h_t72 rfl) rfl rfl rfl ?_
                    refine l_alloc (cs := [.int .i64 0, .int .i64 0, .int .i64 0, .int .i64 0, .int .i64 0]) Try.zeroValue69 rfl rfl rfl (fun b1 => ?_)
                    refine l_store (i := 0) (vs := [.int .i64 t72.Kind, .int .i64 t72.A, .int .i64 t72.B, .int .i64 t72.C, .int .i64 t72.D]) (cs' := [.int .i64 t72.Kind, .int .i64 t72.A, .int .i64 t72.B, .int .i64 t72.C, .int .i64 t72.D]) Try.sizeOf69 rfl rfl rfl rfl rfl rfl rfl rfl rfl ?_
                    refine l_nil ?_
                    refine c_seq ?_
                    refine c_region ?_
                    refine l_val rfl rfl rfl (r_field Try.runUnderlying69 rfl Try.sizeOf3 rfl rfl) ?_
                    refine l_load1 (i := 0) (v := .int .i64 t72.Kind) Try.isAgg3 rfl rfl rfl rfl rfl ?_
                    refine l_nil ?_
                    refine c_block ?_
                    refine c_seq ?_
                    refine c_region ?_
                    refine l_val rfl rfl rfl (r_eql rfl rfl) ?_
                    refine l_val rfl rfl rfl (r_assign (v := .bool (decide (t72.Kind = 1))) rfl) ?_
                    refine l_nil ?_
                    refine c_if (b := (decide (t72.Kind = 1))) rfl (fun hb => ?_) (fun hb => ?_)
                    · have H55 := cnd_t hb H54; clear H54
                      refine c_region ?_
                      refine l_val rfl rfl rfl (r_field Try.runUnderlying69 rfl Try.sizeOf3 rfl rfl) ?_
                      refine l_load1 (i := 0) (v := .int .i64 t72.A) Try.isAgg3 rfl rfl rfl rfl rfl ?_
                      refine l_val rfl rfl rfl (r_move (v := .int .i64 t66.1) rfl) ?_
                      refine l_val rfl rfl rfl (r_move (v := .int .i64 t66.2.1) rfl) ?_
                      refine l_val rfl rfl rfl (r_move (v := .int .i64 x3_3) rfl) ?_
                      refine l_val rfl rfl rfl (r_move (v := .int .i64 x4_3) rfl) ?_
                      obtain ⟨t85, h_t85, H56⟩ := bnd_some H55; clear H55
                      refine l_call (k116 h_t85) Try.call116 rfl rfl rfl ?_
                      refine l_val rfl rfl rfl (r_move (v := .tuple #[.int .i64 t85.1, .int .i64 t85.2]) rfl) ?_
                      refine l_val rfl rfl rfl (r_extract (v := .int .i64 t85.1) rfl rfl) ?_
                      refine l_val rfl rfl rfl (r_extract (v := .int .i64 t85.2) rfl rfl) ?_
                      refine l_val rfl rfl rfl (r_assign (v := .int .i64 t85.1) rfl) ?_
                      refine l_val rfl rfl rfl (r_assign (v := .int .i64 t85.2) rfl) ?_
                      refine l_nil ?_
                      refine c_close (t85.1, t85.2) () 0 [] (by exact ⟨rfl, rfl, rfl, rfl, rfl, rfl, trivial⟩) (by decide) rfl (by exact ⟨H56, trivial⟩) (Nat.lt_succ_self _)
                    · have H57 := cnd_f hb H54; clear H54
                      refine c_seq ?_
                      refine c_region ?_
                      refine l_val rfl rfl rfl (r_eql rfl rfl) ?_
                      refine l_val rfl rfl rfl (r_assign (v := .bool (decide (t72.Kind = 2))) rfl) ?_
                      refine l_nil ?_
                      refine c_if (b := (decide (t72.Kind = 2))) rfl (fun hb => ?_) (fun hb => ?_)
                      · have H58 := cnd_t hb H57; clear H57
                        exact c_regionD (Kd.p :: Kd.p :: Kd.d [0] _ :: Kd.p :: Kd.p :: Kd.p :: Kd.d [0] _ :: Kd.p :: Kd.p :: Kd.p :: []) 0 mixed (by
                          refine d_val rfl rfl (r_move (v := .int .i64 x3_3) rfl) ?_
                          refine d_val rfl rfl (r_field Try.runUnderlying69 rfl Try.sizeOf3 rfl rfl) ?_
                          refine d_load1 (i := 0) (v := .int .i64 t72.A) Try.isAgg3 rfl rfl rfl rfl ?_
                          have h_t93 := bnd_val H58
                          have H59 := bnd_rest H58
                          refine d_val rfl rfl (r_addG rfl rfl h_t93) ?_
                          refine d_val rfl rfl (r_move (v := .int .i64 x4_3) rfl) ?_
                          refine d_val rfl rfl (r_field Try.runUnderlying69 rfl Try.sizeOf3 rfl rfl) ?_
                          refine d_load1 (i := 0) (v := .int .i64 t72.B) Try.isAgg3 rfl rfl rfl rfl ?_
                          have h_t97 := bnd_val H59
                          have H60 := bnd_rest H59
                          refine d_val rfl rfl (r_addG rfl rfl h_t97) ?_
                          refine d_val rfl rfl (r_assign (v := .int .i64 (val (gI (x3_3 + t72.A)))) rfl) ?_
                          refine d_val rfl rfl (r_assign (v := .int .i64 (val (gI (x4_3 + t72.B)))) rfl) ?_
                          refine d_nil ?_
                          refine c_close ((val (gI (x3_3 + t72.A))), (val (gI (x4_3 + t72.B)))) () 0 [] (by exact ⟨rfl, rfl, rfl, rfl, rfl, rfl, trivial⟩) (by decide) rfl (by exact ⟨H60, trivial⟩) (Nat.lt_succ_self _)
                          ) (by kernel_rfl)
                      · have H61 := cnd_f hb H57; clear H57
                        refine c_skip ?_
                        refine c_close (x3_3, x4_3) () 0 [] (by exact ⟨rfl, rfl, rfl, rfl, rfl, rfl, trivial⟩) (by decide) rfl (by exact ⟨H61, trivial⟩) (Nat.lt_succ_self _)
                  · rintro ⟨x3_4, x4_4⟩ _ gg H50 _
                    replace H50 : R_ComesFrom_j3 x16_2 next2 x3_4 x4_4 = some r := H50
                    refine c_tidyF [(0, v0), (1, .int .i64 a1), (2, .int .i64 a2), (3, .int .i64 x3_4), (4, .int .i64 x4_4), (16, .int .i64 x16_2)] [] rfl rfl ?_
                    refine c_region ?_
                    refine l_val rfl rfl rfl (r_move (v := .int .i64 x16_2) rfl) ?_
                    obtain ⟨t59, h_t59, H51⟩ := bnd_some H50; clear H50
                    refine l_val rfl rfl rfl (r_subG rfl rfl h_t59) ?_
                    refine l_val rfl rfl rfl (r_assign (v := .int .i64 t59) rfl) ?_
                    refine l_nil ?_
                    refine c_close (x3_4, x4_4, t59) () m2 [] (by exact ⟨rfl, rfl, rfl, rfl, rfl, rfl, trivial⟩) (by decide) rfl (by exact ⟨(by subst hn2; exact H51), trivial⟩) (Nat.lt_succ_self _)
                · have H62 := cnd_f hb H48; clear H48
                  refine c_exit ?_
                  refine c_close (x3_3, x4_3) () 0 [] (by exact ⟨rfl, rfl, trivial⟩) (by decide) rfl (by exact ⟨H62, trivial⟩) (Nat.lt_succ_self _)
              · rintro ⟨x3, x4⟩ _ gg H46 _
                replace H46 : R_ComesFrom_j1 x3 x4 = some r := H46
                refine c_tidyF [(3, .int .i64 x3), (4, .int .i64 x4)] [] rfl rfl ?_
                refine c_seq ?_
                refine c_region ?_
                refine l_val rfl rfl rfl (r_move (v := .int .i64 x3) rfl) ?_
                refine l_val rfl rfl rfl (r_move (v := .int .i64 x4) rfl) ?_
                refine l_val rfl rfl rfl (r_assign (v := .int .i64 x3) rfl) ?_
                refine l_val rfl rfl rfl (r_assign (v := .int .i64 x4) rfl) ?_
                refine l_val rfl rfl rfl (r_assign (v := .int .i64 0) rfl) ?_
                refine l_nil ?_
                refine c_ret ?_
                obtain rfl := Option.some.inj H46
                refine ret3 (v1 := .int .i64 x3) (v2 := .int .i64 x4) (v3 := .int .i64 0) rfl rfl rfl rfl (fin rfl)
end Go.Proofs.Ytngogocmhmfbjaa
