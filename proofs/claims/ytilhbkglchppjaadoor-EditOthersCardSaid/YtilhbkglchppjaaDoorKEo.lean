/- EditOthers: the walks, printed by our generator; each follows its model. Conditions: the model yields a value. -/
import Derived.Test.YtilhbkglchppjaaDoorKEa
namespace Go.Proofs.YtilhbkglchppjaaDoor
open Go Go.Vc Go.Md Go.M Go.Lx
set_option maxRecDepth 100000
set_option maxHeartbeats 4000000
set_option linter.unusedVariables false

theorem k8 {a0 : (List Int)} {v0 : Value} {r : Int} {w : World} {h : Heap} (hw : Know h w noS) (f0 : FrS h 1 v0 (a0.map e_i64)) (H : Law_first a0 = some r) : Does Tryd.prog 8 (List.toArray [v0]) w (fun v w' => v = (.int .i64 r) ∧ Grow w w') := by
  refine enter (n := 15) Tryd.func8 rfl rfl rfl noS [] (Sat.nil _ _) ?_
  refine c_seq ?_
  refine c_region ?_
  refine l_val rfl rfl rfl (r_assign (v := .int .i64 0) rfl) ?_
  refine l_nil ?_
  refine c_seq ?_
  refine c_seq ?_
  refine c_region ?_
  refine l_val rfl rfl rfl (r_move (v := v0) rfl) ?_
  refine l_val rfl rfl rfl (r_lenF Tryd.underlying99 rfl f0 rfl) ?_
  refine l_val rfl rfl rfl (r_move (v := .int .i64 0) rfl) ?_
  refine l_nil ?_
  refine c_block ?_
  refine c_fix (σ := Int) (τ := Unit) (fun next1 s => Law_first_l1 a0 next1 s) (fun s t => [(5, v0), (6, .int .i64 (a0.length : Int)), (7, .int .i64 s)]) (fun s t => []) (fun s t => True) 0 () [] H (by exact trivial) (by exact ⟨rfl, rfl, rfl, trivial⟩) (by decide) rfl ?_
  rintro x7_2 _ m1 gg H8 _
  clear H
  replace H8 : Law_first_l1 a0 (it (fun next1 s => Law_first_l1 a0 next1 s) m1) x7_2 = some r := H8
  generalize hn1 : it (fun next1 s => Law_first_l1 a0 next1 s) m1 = next1 at H8
  refine c_tidyF [(5, v0), (6, .int .i64 (a0.length : Int)), (7, .int .i64 x7_2)] [] rfl rfl ?_
  refine c_seq ?_
  refine c_region ?_
  refine l_val rfl rfl rfl (r_lss rfl rfl) ?_
  refine l_nil ?_
  refine c_seq ?_
  refine c_if (b := (decide (x7_2 < (a0.length : Int)))) rfl (fun hb => ?_) (fun hb => ?_)
  · have H9 := cnd_t hb H8; clear H8
    refine c_skip ?_
    refine c_seq ?_
    refine c_block ?_
    refine c_seq ?_
    refine c_region ?_
    obtain ⟨t9, h_t9, H10⟩ := bnd_some H9; clear H9
    refine l_val rfl rfl rfl (r_indexF Tryd.underlying99 Tryd.sizeOf23 rfl rfl f0 h_t9) ?_
    refine l_read (fun w hF hS => run_loadG1 (f := e_i64) (i := x7_2) (sz := 1) (j := 0) (v := .int .i64 t9) Tryd.isAgg23 rfl rfl (f0.row (hw.now hF)) h_t9 rfl) rfl rfl rfl ?_
    refine l_val rfl rfl rfl (r_assign (v := .int .i64 t9) rfl) ?_
    refine l_nil ?_
    refine c_seq ?_
    refine c_region ?_
    refine l_val rfl rfl rfl (r_move (v := .int .i64 t9) rfl) ?_
    refine l_val rfl rfl rfl (r_neq rfl rfl) ?_
    refine l_nil ?_
    refine c_if (b := (decide (t9 ≠ 0))) rfl (fun hb => ?_) (fun hb => ?_)
    · have H11 := cnd_t hb H10; clear H10
      refine c_seq ?_
      refine c_region ?_
      refine l_val rfl rfl rfl (r_move (v := .int .i64 t9) rfl) ?_
      refine l_val rfl rfl rfl (r_assign (v := .int .i64 t9) rfl) ?_
      refine l_nil ?_
      refine c_ret ?_
      obtain rfl := Option.some.inj H11
      refine ret1 (v := .int .i64 t9) rfl rfl (fin rfl)
    · have H12 := cnd_f hb H10; clear H10
      refine c_skip ?_
      refine c_region ?_
      obtain ⟨t14, h_t14, H13⟩ := bnd_some H12; clear H12
      refine l_val rfl rfl rfl (r_addG rfl rfl h_t14) ?_
      refine l_val rfl rfl rfl (r_move (v := .int .i64 t14) rfl) ?_
      refine l_nil ?_
      refine c_close t14 () m1 [] (by exact ⟨rfl, rfl, rfl, trivial⟩) (by decide) rfl (by exact ⟨(by subst hn1; exact H13), trivial⟩) (Nat.lt_succ_self _)
  · have H14 := cnd_f hb H8; clear H8
    refine c_exit ?_
    refine c_seq ?_
    refine c_region ?_
    refine l_val rfl rfl rfl (r_assign (v := .int .i64 0) rfl) ?_
    refine l_nil ?_
    refine c_ret ?_
    obtain rfl := Option.some.inj H14
    refine ret1 (v := .int .i64 0) rfl rfl (fin rfl)
theorem k107 {a0 : Int} {r : Int} (H : R_numbersUsed a0 = some r) : Ret Tryd.prog 107 [.int .i64 a0] (.int .i64 r) := by
  refine enterRet (n := 7) Tryd.func107 rfl rfl rfl (fun wd => ?_)
  refine c_seq ?_
  refine c_region ?_
  refine l_val rfl rfl rfl (r_assign (v := .int .i64 0) rfl) ?_
  refine l_nil ?_
  refine c_seq ?_
  refine c_region ?_
  refine l_buildSlice (vs := [.int .i64 0, .int .i64 1, .int .i64 4, .int .i64 2, .int .i64 1, .int .i64 1, .int .i64 2, .int .i64 1, .int .i64 1, .int .i64 0]) (cs := [.int .i64 0, .int .i64 1, .int .i64 4, .int .i64 2, .int .i64 1, .int .i64 1, .int .i64 2, .int .i64 1, .int .i64 1, .int .i64 0]) Tryd.underlying132 Tryd.sizeOf3 Tryd.zeroValue3 rfl rfl rfl rfl rfl rfl rfl (fun b1 => ?_)
  refine l_val rfl rfl rfl (r_move (v := .int .i64 a0) rfl) ?_
  obtain ⟨t5, h_t5, H2⟩ := bnd_some H; clear H
  refine l_val rfl rfl rfl (r_indexS Tryd.underlying132 Tryd.sizeOf3 rfl rfl h_t5 rfl) ?_
  refine l_read (fun w hF hS => run_loadG1 (f := e_i64) (i := a0) (sz := 1) (j := 0) (v := .int .i64 t5) Tryd.isAgg3 rfl rfl (row_box (sz := 1) (xs := ([0, 1, 4, 2, 1, 1, 2, 1, 1, 0] : List Int).map e_i64) (i := 0) hS rfl rfl rfl) h_t5 rfl) rfl rfl rfl ?_
  refine l_val rfl rfl rfl (r_assign (v := .int .i64 t5) rfl) ?_
  refine l_nil ?_
  refine c_ret ?_
  obtain rfl := Option.some.inj H2
  refine ret1 (v := .int .i64 t5) rfl rfl (fin rfl)
theorem k108 {a0 : Int} {a1 : Int} {a2 : Int} {r : Bool} (H : R_StepFault_1 a0 a1 a2 = some r) : Ret Tryd.prog 108 [.int .i64 a0, .int .i64 a1, .int .i64 a2] (.bool r) := by
  refine enterRet (n := 15) Tryd.func108 rfl rfl rfl (fun wd => ?_)
  refine c_seq ?_
  refine c_region ?_
  refine l_val rfl rfl rfl (r_assign (v := .bool false) rfl) ?_
  refine l_nil ?_
  refine c_seq ?_
  refine c_region ?_
  refine l_val rfl rfl rfl (r_move (v := .int .i64 a0) rfl) ?_
  refine l_val rfl rfl rfl (r_move (v := .int .i64 a1) rfl) ?_
  refine l_val rfl rfl rfl (r_lss rfl rfl) ?_
  refine l_val rfl rfl rfl (r_move (v := .bool (decide (a0 < a1))) rfl) ?_
  refine split (fun hb => ?_) (fun hb => ?_)
  · have H3 := cnd_t hb H; clear H
    refine l_passed rfl rfl rfl ?_
    refine l_passed rfl rfl rfl ?_
    refine l_passed rfl rfl rfl ?_
    refine l_val rfl rfl rfl (r_pickT (v := .bool true) rfl rfl) ?_
    refine l_val rfl rfl rfl (r_assign (v := .bool true) rfl) ?_
    refine l_nil ?_
    refine c_ret ?_
    obtain rfl := Option.some.inj H3
    refine ret1 (v := .bool true) rfl rfl (fin rfl)
  · have H4 := cnd_f hb H; clear H
    refine l_val rfl rfl rfl (r_move (v := .int .i64 a0) rfl) ?_
    refine l_val rfl rfl rfl (r_move (v := .int .i64 a2) rfl) ?_
    refine l_val rfl rfl rfl (r_gtr rfl rfl) ?_
    refine l_val rfl rfl rfl (r_pickF (v := .bool (decide (a2 < a0))) rfl rfl) ?_
    refine l_val rfl rfl rfl (r_assign (v := .bool (decide (a2 < a0))) rfl) ?_
    refine l_nil ?_
    refine c_ret ?_
    obtain rfl := Option.some.inj H4
    refine ret1 (v := .bool (decide (a2 < a0))) rfl rfl (fin rfl)
theorem k53 {a0 : T_edit_Step} {r : Int} (H : R_StepFault a0 = some r) : Ret Tryd.prog 53 [.agg #[.int .i64 a0.Kind, .int .i64 a0.A, .int .i64 a0.B, .int .i64 a0.C, .int .i64 a0.D]] (.int .i64 r) := by
  refine enterRet (n := 131) Tryd.func53 rfl rfl rfl (fun wd => ?_)
  refine c_seq ?_
  refine c_region ?_
  refine l_box (cs := [.int .i64 a0.Kind, .int .i64 a0.A, .int .i64 a0.B, .int .i64 a0.C, .int .i64 a0.D]) rfl rfl rfl rfl (fun b2 => ?_)
  refine l_val rfl rfl rfl (r_assign (v := .int .i64 0) rfl) ?_
  refine l_nil ?_
  refine c_seq ?_
  refine c_seq ?_
  refine c_region ?_
  refine l_val rfl rfl rfl (r_field Tryd.runUnderlying35 rfl Tryd.sizeOf3 rfl rfl) ?_
  refine l_load1 (i := 0) (v := .int .i64 a0.Kind) Tryd.isAgg3 rfl rfl rfl rfl rfl ?_
  refine l_val rfl rfl rfl (r_lss rfl rfl) ?_
  refine l_val rfl rfl rfl (r_move (v := .bool (decide (a0.Kind < 1))) rfl) ?_
  refine split (fun hb => ?_) (fun hb => ?_)
  · have H63 := cnd_t hb H; clear H
    refine l_passed rfl rfl rfl ?_
    refine l_passed rfl rfl rfl ?_
    refine l_passed rfl rfl rfl ?_
    refine l_val rfl rfl rfl (r_pickT (v := .bool true) rfl rfl) ?_
    refine l_nil ?_
    refine c_true rfl ?_
    refine c_seq ?_
    refine c_region ?_
    refine l_val rfl rfl rfl (r_assign (v := .int .i64 10) rfl) ?_
    refine l_nil ?_
    refine c_ret ?_
    obtain rfl := Option.some.inj H63
    refine ret1 (v := .int .i64 10) rfl rfl (fin rfl)
  · have H64 := cnd_f hb H; clear H
    refine l_val rfl rfl rfl (r_field Tryd.runUnderlying35 rfl Tryd.sizeOf3 rfl rfl) ?_
    refine l_load1 (i := 0) (v := .int .i64 a0.Kind) Tryd.isAgg3 rfl rfl rfl rfl rfl ?_
    refine l_val rfl rfl rfl (r_gtr rfl rfl) ?_
    refine l_val rfl rfl rfl (r_pickF (v := .bool (decide (9 < a0.Kind))) rfl rfl) ?_
    refine l_nil ?_
    refine c_if (b := (decide (9 < a0.Kind))) rfl (fun hb => ?_) (fun hb => ?_)
    · have H65 := cnd_t hb H64; clear H64
      refine c_seq ?_
      refine c_region ?_
      refine l_val rfl rfl rfl (r_assign (v := .int .i64 10) rfl) ?_
      refine l_nil ?_
      refine c_ret ?_
      obtain rfl := Option.some.inj H65
      refine ret1 (v := .int .i64 10) rfl rfl (fin rfl)
    · have H66 := cnd_f hb H64; clear H64
      refine c_skip ?_
      refine c_meet (r := r) (σ := Unit) (τ := Unit) (fun s => R_StepFault_j1 a0) (fun s t => [(1, .pointer (some ⟨b2, 0, none⟩))]) (fun s t => [cellsC b2 [.int .i64 a0.Kind, .int .i64 a0.A, .int .i64 a0.B, .int .i64 a0.C, .int .i64 a0.D] 35]) (fun s t => True) ?_ ?_
      · refine c_seq ?_
        refine c_region ?_
        refine l_val rfl rfl rfl (r_field Tryd.runUnderlying35 rfl Tryd.sizeOf3 rfl rfl) ?_
        refine l_load1 (i := 0) (v := .int .i64 a0.A) Tryd.isAgg3 rfl rfl rfl rfl rfl ?_
        refine l_val rfl rfl rfl (r_field Tryd.runUnderlying35 rfl Tryd.sizeOf3 rfl rfl) ?_
        refine l_load1 (i := 0) (v := .int .i64 a0.B) Tryd.isAgg3 rfl rfl rfl rfl rfl ?_
        refine l_val rfl rfl rfl (r_field Tryd.runUnderlying35 rfl Tryd.sizeOf3 rfl rfl) ?_
        refine l_load1 (i := 0) (v := .int .i64 a0.C) Tryd.isAgg3 rfl rfl rfl rfl rfl ?_
        refine l_val rfl rfl rfl (r_field Tryd.runUnderlying35 rfl Tryd.sizeOf3 rfl rfl) ?_
        refine l_load1 (i := 0) (v := .int .i64 a0.D) Tryd.isAgg3 rfl rfl rfl rfl rfl ?_
        refine l_buildSlice (vs := [.int .i64 a0.A, .int .i64 a0.B, .int .i64 a0.C, .int .i64 a0.D]) (cs := [.int .i64 a0.A, .int .i64 a0.B, .int .i64 a0.C, .int .i64 a0.D]) Tryd.underlying132 Tryd.sizeOf3 Tryd.zeroValue3 rfl rfl rfl rfl rfl rfl rfl (fun b3 => ?_)
        refine l_val rfl rfl rfl (r_len Tryd.underlying132 rfl) ?_
        refine l_val rfl rfl rfl (r_move (v := .int .i64 0) rfl) ?_
        refine l_nil ?_
        refine c_block ?_
        refine c_fix (σ := Int) (τ := Unit) (fun next3 s => R_StepFault_l3 a0 next3 s) (fun s t => [(1, .pointer (some ⟨b2, 0, none⟩)), (23, .slice (some ⟨b3, 0, none⟩) 4 4), (24, .int .i64 4), (25, .int .i64 s)]) (fun s t => [cellsC b2 [.int .i64 a0.Kind, .int .i64 a0.A, .int .i64 a0.B, .int .i64 a0.C, .int .i64 a0.D] 35, cellsC b3 [.int .i64 a0.A, .int .i64 a0.B, .int .i64 a0.C, .int .i64 a0.D] 3]) (fun s t => True) 0 () [0, 1] H66 (by exact trivial) (by exact ⟨rfl, rfl, rfl, rfl, trivial⟩) (by decide) rfl ?_
        rintro x25_2 _ m3 gg H114 _
        clear H66
        replace H114 : R_StepFault_l3 a0 (it (fun next3 s => R_StepFault_l3 a0 next3 s) m3) x25_2 = some r := H114
        generalize hn3 : it (fun next3 s => R_StepFault_l3 a0 next3 s) m3 = next3 at H114
        refine c_tidyF [(1, .pointer (some ⟨b2, 0, none⟩)), (23, .slice (some ⟨b3, 0, none⟩) 4 4), (24, .int .i64 4), (25, .int .i64 x25_2)] [cellsC b2 [.int .i64 a0.Kind, .int .i64 a0.A, .int .i64 a0.B, .int .i64 a0.C, .int .i64 a0.D] 35, cellsC b3 [.int .i64 a0.A, .int .i64 a0.B, .int .i64 a0.C, .int .i64 a0.D] 3] rfl rfl ?_
        refine c_seq ?_
        refine c_region ?_
        refine l_val rfl rfl rfl (r_lss rfl rfl) ?_
        refine l_nil ?_
        refine c_seq ?_
        refine c_if (b := (decide (x25_2 < 4))) rfl (fun hb => ?_) (fun hb => ?_)
        · have H115 := cnd_t hb H114; clear H114
          refine c_skip ?_
          refine c_meet (r := r) (σ := Unit) (τ := Unit) (fun s => R_StepFault_j4 x25_2 next3) (fun s t => [(1, .pointer (some ⟨b2, 0, none⟩)), (23, .slice (some ⟨b3, 0, none⟩) 4 4), (24, .int .i64 4), (25, .int .i64 x25_2)]) (fun s t => [cellsC b2 [.int .i64 a0.Kind, .int .i64 a0.A, .int .i64 a0.B, .int .i64 a0.C, .int .i64 a0.D] 35, cellsC b3 [.int .i64 a0.A, .int .i64 a0.B, .int .i64 a0.C, .int .i64 a0.D] 3]) (fun s t => True) ?_ ?_
          · refine c_block ?_
            refine c_seq ?_
            refine c_region ?_
            refine l_val rfl rfl rfl (r_move (v := .int .i64 x25_2) rfl) ?_
            obtain ⟨t28, h_t28, H118⟩ := bnd_some H115; clear H115
            refine l_val rfl rfl rfl (r_indexS Tryd.underlying132 Tryd.sizeOf3 rfl rfl h_t28 rfl) ?_
            refine l_read (fun w hF hS => run_loadG1 (f := e_i64) (i := x25_2) (sz := 1) (j := 0) (v := .int .i64 t28) Tryd.isAgg3 rfl rfl (row_box (sz := 1) (xs := ([a0.A, a0.B, a0.C, a0.D] : List Int).map e_i64) (i := 1) hS rfl rfl rfl) h_t28 rfl) rfl rfl rfl ?_
            refine l_val rfl rfl rfl (r_assign (v := .int .i64 x25_2) rfl) ?_
            refine l_val rfl rfl rfl (r_assign (v := .int .i64 t28) rfl) ?_
            refine l_nil ?_
            refine c_seq ?_
            refine c_region ?_
            refine l_val rfl rfl rfl (r_move (v := .int .i64 x25_2) rfl) ?_
            refine l_val rfl rfl rfl (r_field Tryd.runUnderlying35 rfl Tryd.sizeOf3 rfl rfl) ?_
            refine l_load1 (i := 0) (v := .int .i64 a0.Kind) Tryd.isAgg3 rfl rfl rfl rfl rfl ?_
            obtain ⟨t33, h_t33, H119⟩ := bnd_some H118; clear H118
            refine l_call (k107 h_t33) Tryd.call107 rfl rfl rfl ?_
            refine l_val rfl rfl rfl (r_geq rfl rfl) ?_
            refine l_val rfl rfl rfl (r_move (v := .bool (decide (t33 ≤ x25_2))) rfl) ?_
            refine split (fun hb => ?_) (fun hb => ?_)
            · have H120 := cnd_t hb H119; clear H119
              refine l_val rfl rfl rfl (r_move (v := .int .i64 t28) rfl) ?_
              refine l_val rfl rfl rfl (r_neq rfl rfl) ?_
              refine l_val rfl rfl rfl (r_pickT (v := .bool (decide (t28 ≠ 0))) rfl rfl) ?_
              refine l_nil ?_
              refine c_if (b := (decide (t28 ≠ 0))) rfl (fun hb => ?_) (fun hb => ?_)
              · have H121 := cnd_t hb H120; clear H120
                refine c_seq ?_
                refine c_region ?_
                refine l_val rfl rfl rfl (r_assign (v := .int .i64 1) rfl) ?_
                refine l_nil ?_
                refine c_ret ?_
                obtain rfl := Option.some.inj H121
                refine ret1 (v := .int .i64 1) rfl rfl (fin rfl)
              · have H122 := cnd_f hb H120; clear H120
                refine c_skip ?_
                refine c_close () () 0 [0, 1] (by exact ⟨rfl, rfl, rfl, rfl, trivial⟩) (by decide) rfl (by exact ⟨H122, trivial⟩) (Nat.lt_succ_self _)
            · have H123 := cnd_f hb H119; clear H119
              refine l_passed rfl rfl rfl ?_
              refine l_passed rfl rfl rfl ?_
              refine l_val rfl rfl rfl (r_pickF (v := .bool false) rfl rfl) ?_
              refine l_nil ?_
              refine c_false rfl ?_
              refine c_skip ?_
              refine c_close () () 0 [0, 1] (by exact ⟨rfl, rfl, rfl, rfl, trivial⟩) (by decide) rfl (by exact ⟨H123, trivial⟩) (Nat.lt_succ_self _)
          · rintro _ _ gg H116 _
            replace H116 : R_StepFault_j4 x25_2 next3 = some r := H116
            refine c_tidyF [(1, .pointer (some ⟨b2, 0, none⟩)), (23, .slice (some ⟨b3, 0, none⟩) 4 4), (24, .int .i64 4), (25, .int .i64 x25_2)] [cellsC b2 [.int .i64 a0.Kind, .int .i64 a0.A, .int .i64 a0.B, .int .i64 a0.C, .int .i64 a0.D] 35, cellsC b3 [.int .i64 a0.A, .int .i64 a0.B, .int .i64 a0.C, .int .i64 a0.D] 3] rfl rfl ?_
            refine c_region ?_
            obtain ⟨t39, h_t39, H117⟩ := bnd_some H116; clear H116
            refine l_val rfl rfl rfl (r_addG rfl rfl h_t39) ?_
            refine l_val rfl rfl rfl (r_move (v := .int .i64 t39) rfl) ?_
            refine l_nil ?_
            refine c_close t39 () m3 [0, 1] (by exact ⟨rfl, rfl, rfl, rfl, trivial⟩) (by decide) rfl (by exact ⟨(by subst hn3; exact H117), trivial⟩) (Nat.lt_succ_self _)
        · have H124 := cnd_f hb H114; clear H114
          refine c_exit ?_
          refine c_close () () 0 [0] (by exact ⟨rfl, trivial⟩) (by decide) rfl (by exact ⟨H124, trivial⟩) (Nat.lt_succ_self _)
      · rintro _ _ gg H67 _
        replace H67 : R_StepFault_j1 a0 = some r := H67
        refine c_tidyF [(1, .pointer (some ⟨b2, 0, none⟩))] [cellsC b2 [.int .i64 a0.Kind, .int .i64 a0.A, .int .i64 a0.B, .int .i64 a0.C, .int .i64 a0.D] 35] rfl rfl ?_
        refine c_seq ?_
        refine c_region ?_
        refine l_val rfl rfl rfl (r_assign (v := .func (.func 108) #[] #[]) rfl) ?_
        refine l_nil ?_
        refine c_seq ?_
        refine c_region ?_
        refine l_val rfl rfl rfl (r_assign (v := .bool false) rfl) ?_
        refine l_nil ?_
        refine c_meet (r := r) (σ := Bool) (τ := Unit) (fun s => R_StepFault_j2 a0 s) (fun s t => [(1, .pointer (some ⟨b2, 0, none⟩)), (6, .bool s)]) (fun s t => [cellsC b2 [.int .i64 a0.Kind, .int .i64 a0.A, .int .i64 a0.B, .int .i64 a0.C, .int .i64 a0.D] 35]) (fun s t => True) ?_ ?_
        · refine c_seq ?_
          refine c_region ?_
          refine l_val rfl rfl rfl (r_field Tryd.runUnderlying35 rfl Tryd.sizeOf3 rfl rfl) ?_
          refine l_load1 (i := 0) (v := .int .i64 a0.Kind) Tryd.isAgg3 rfl rfl rfl rfl rfl ?_
          refine l_nil ?_
          refine c_block ?_
          refine c_seq ?_
          refine c_region ?_
          refine l_val rfl rfl rfl (r_eql rfl rfl) ?_
          refine l_val rfl rfl rfl (r_assign (v := .bool (decide (a0.Kind = 1))) rfl) ?_
          refine l_nil ?_
          refine c_if (b := (decide (a0.Kind = 1))) rfl (fun hb => ?_) (fun hb => ?_)
          · have H75 := cnd_t hb H67; clear H67
            refine c_region ?_
            refine l_val rfl rfl rfl (r_move (v := .func (.func 108) #[] #[]) rfl) ?_
            refine l_val rfl rfl rfl (r_field Tryd.runUnderlying35 rfl Tryd.sizeOf3 rfl rfl) ?_
            refine l_load1 (i := 0) (v := .int .i64 a0.A) Tryd.isAgg3 rfl rfl rfl rfl rfl ?_
            obtain ⟨t47, h_t47, H76⟩ := bnd_some H75; clear H75
            refine l_callV (R := fnR_func_int_int_int_bool R_StepFault_1) (r := .bool t47) (v := .func (.func 108) #[] #[]) (fun w hF hS => ⟨(FnH.mk ⟨108, #[], #[], rfl, Tryd.call108, fun args2 post2 w2 hk2 hR2 => by obtain ⟨a0_, a1_, a2_, r_, rfl, H_, rfl⟩ := hR2; exact k108 H_ w2⟩), ⟨a0.A, 1, 8, _, rfl, h_t47, rfl⟩⟩) rfl rfl rfl rfl ?_
            refine l_val rfl rfl rfl (r_assign (v := .bool t47) rfl) ?_
            refine l_nil ?_
            refine c_close t47 () 0 [0] (by exact ⟨rfl, rfl, trivial⟩) (by decide) rfl (by exact ⟨H76, trivial⟩) (Nat.lt_succ_self _)
          · have H77 := cnd_f hb H67; clear H67
            refine c_seq ?_
            refine c_region ?_
            refine l_val rfl rfl rfl (r_eql rfl rfl) ?_
            refine l_val rfl rfl rfl (r_assign (v := .bool (decide (a0.Kind = 2))) rfl) ?_
            refine l_nil ?_
            refine c_if (b := (decide (a0.Kind = 2))) rfl (fun hb => ?_) (fun hb => ?_)
            · have H78 := cnd_t hb H77; clear H77
              refine c_region ?_
              refine l_val rfl rfl rfl (r_move (v := .func (.func 108) #[] #[]) rfl) ?_
              refine l_val rfl rfl rfl (r_field Tryd.runUnderlying35 rfl Tryd.sizeOf3 rfl rfl) ?_
              refine l_load1 (i := 0) (v := .int .i64 a0.A) Tryd.isAgg3 rfl rfl rfl rfl rfl ?_
              obtain ⟨t53, h_t53, H79⟩ := bnd_some H78; clear H78
              refine l_callV (R := fnR_func_int_int_int_bool R_StepFault_1) (r := .bool t53) (v := .func (.func 108) #[] #[]) (fun w hF hS => ⟨(FnH.mk ⟨108, #[], #[], rfl, Tryd.call108, fun args2 post2 w2 hk2 hR2 => by obtain ⟨a0_, a1_, a2_, r_, rfl, H_, rfl⟩ := hR2; exact k108 H_ w2⟩), ⟨a0.A, 0, 63, _, rfl, h_t53, rfl⟩⟩) rfl rfl rfl rfl ?_
              refine l_val rfl rfl rfl (r_move (v := .bool t53) rfl) ?_
              refine split (fun hb => ?_) (fun hb => ?_)
              · have H80 := cnd_t hb H79; clear H79
                refine l_passed rfl rfl rfl ?_
                refine l_passed rfl rfl rfl ?_
                refine l_passed rfl rfl rfl ?_
                refine l_passed rfl rfl rfl ?_
                refine l_val rfl rfl rfl (r_pickT (v := .bool true) rfl rfl) ?_
                refine l_val rfl rfl rfl (r_move (v := .bool true) rfl) ?_
                refine l_passed rfl rfl rfl ?_
                refine l_passed rfl rfl rfl ?_
                refine l_passed rfl rfl rfl ?_
                refine l_passed rfl rfl rfl ?_
                refine l_val rfl rfl rfl (r_pickT (v := .bool true) rfl rfl) ?_
                refine l_val rfl rfl rfl (r_move (v := .bool true) rfl) ?_
                refine l_passed rfl rfl rfl ?_
                refine l_passed rfl rfl rfl ?_
                refine l_passed rfl rfl rfl ?_
                refine l_passed rfl rfl rfl ?_
                refine l_val rfl rfl rfl (r_pickT (v := .bool true) rfl rfl) ?_
                refine l_val rfl rfl rfl (r_assign (v := .bool true) rfl) ?_
                refine l_nil ?_
                refine c_close true () 0 [0] (by exact ⟨rfl, rfl, trivial⟩) (by decide) rfl (by exact ⟨H80, trivial⟩) (Nat.lt_succ_self _)
              · have H81 := cnd_f hb H79; clear H79
                refine l_val rfl rfl rfl (r_move (v := .func (.func 108) #[] #[]) rfl) ?_
                refine l_val rfl rfl rfl (r_field Tryd.runUnderlying35 rfl Tryd.sizeOf3 rfl rfl) ?_
                refine l_load1 (i := 0) (v := .int .i64 a0.B) Tryd.isAgg3 rfl rfl rfl rfl rfl ?_
                obtain ⟨t58, h_t58, H82⟩ := bnd_some H81; clear H81
                refine l_callV (R := fnR_func_int_int_int_bool R_StepFault_1) (r := .bool t58) (v := .func (.func 108) #[] #[]) (fun w hF hS => ⟨(FnH.mk ⟨108, #[], #[], rfl, Tryd.call108, fun args2 post2 w2 hk2 hR2 => by obtain ⟨a0_, a1_, a2_, r_, rfl, H_, rfl⟩ := hR2; exact k108 H_ w2⟩), ⟨a0.B, 0, 63, _, rfl, h_t58, rfl⟩⟩) rfl rfl rfl rfl ?_
                refine l_val rfl rfl rfl (r_pickF (v := .bool t58) rfl rfl) ?_
                refine l_val rfl rfl rfl (r_move (v := .bool t58) rfl) ?_
                refine split (fun hb => ?_) (fun hb => ?_)
                · have H83 := cnd_t hb H82; clear H82
                  refine l_passed rfl rfl rfl ?_
                  refine l_passed rfl rfl rfl ?_
                  refine l_passed rfl rfl rfl ?_
                  refine l_passed rfl rfl rfl ?_
                  refine l_val rfl rfl rfl (r_pickT (v := .bool true) rfl rfl) ?_
                  refine l_val rfl rfl rfl (r_move (v := .bool true) rfl) ?_
                  refine l_passed rfl rfl rfl ?_
                  refine l_passed rfl rfl rfl ?_
                  refine l_passed rfl rfl rfl ?_
                  refine l_passed rfl rfl rfl ?_
                  refine l_val rfl rfl rfl (r_pickT (v := .bool true) rfl rfl) ?_
                  refine l_val rfl rfl rfl (r_assign (v := .bool true) rfl) ?_
                  refine l_nil ?_
                  refine c_close true () 0 [0] (by exact ⟨rfl, rfl, trivial⟩) (by decide) rfl (by exact ⟨H83, trivial⟩) (Nat.lt_succ_self _)
                · have H84 := cnd_f hb H82; clear H82
                  refine l_val rfl rfl rfl (r_move (v := .func (.func 108) #[] #[]) rfl) ?_
                  refine l_val rfl rfl rfl (r_field Tryd.runUnderlying35 rfl Tryd.sizeOf3 rfl rfl) ?_
                  refine l_load1 (i := 0) (v := .int .i64 a0.C) Tryd.isAgg3 rfl rfl rfl rfl rfl ?_
                  obtain ⟨t64, h_t64, H85⟩ := bnd_some H84; clear H84
                  refine l_callV (R := fnR_func_int_int_int_bool R_StepFault_1) (r := .bool t64) (v := .func (.func 108) #[] #[]) (fun w hF hS => ⟨(FnH.mk ⟨108, #[], #[], rfl, Tryd.call108, fun args2 post2 w2 hk2 hR2 => by obtain ⟨a0_, a1_, a2_, r_, rfl, H_, rfl⟩ := hR2; exact k108 H_ w2⟩), ⟨a0.C, 1, 64, _, rfl, h_t64, rfl⟩⟩) rfl rfl rfl rfl ?_
                  refine l_val rfl rfl rfl (r_pickF (v := .bool t64) rfl rfl) ?_
                  refine l_val rfl rfl rfl (r_move (v := .bool t64) rfl) ?_
                  refine split (fun hb => ?_) (fun hb => ?_)
                  · have H86 := cnd_t hb H85; clear H85
                    refine l_passed rfl rfl rfl ?_
                    refine l_passed rfl rfl rfl ?_
                    refine l_passed rfl rfl rfl ?_
                    refine l_passed rfl rfl rfl ?_
                    refine l_val rfl rfl rfl (r_pickT (v := .bool true) rfl rfl) ?_
                    refine l_val rfl rfl rfl (r_assign (v := .bool true) rfl) ?_
                    refine l_nil ?_
                    refine c_close true () 0 [0] (by exact ⟨rfl, rfl, trivial⟩) (by decide) rfl (by exact ⟨H86, trivial⟩) (Nat.lt_succ_self _)
                  · have H87 := cnd_f hb H85; clear H85
                    refine l_val rfl rfl rfl (r_move (v := .func (.func 108) #[] #[]) rfl) ?_
                    refine l_val rfl rfl rfl (r_field Tryd.runUnderlying35 rfl Tryd.sizeOf3 rfl rfl) ?_
                    refine l_load1 (i := 0) (v := .int .i64 a0.D) Tryd.isAgg3 rfl rfl rfl rfl rfl ?_
                    obtain ⟨t70, h_t70, H88⟩ := bnd_some H87; clear H87
                    refine l_callV (R := fnR_func_int_int_int_bool R_StepFault_1) (r := .bool t70) (v := .func (.func 108) #[] #[]) (fun w hF hS => ⟨(FnH.mk ⟨108, #[], #[], rfl, Tryd.call108, fun args2 post2 w2 hk2 hR2 => by obtain ⟨a0_, a1_, a2_, r_, rfl, H_, rfl⟩ := hR2; exact k108 H_ w2⟩), ⟨a0.D, 1, 64, _, rfl, h_t70, rfl⟩⟩) rfl rfl rfl rfl ?_
                    refine l_val rfl rfl rfl (r_pickF (v := .bool t70) rfl rfl) ?_
                    refine l_val rfl rfl rfl (r_assign (v := .bool t70) rfl) ?_
                    refine l_nil ?_
                    refine c_close t70 () 0 [0] (by exact ⟨rfl, rfl, trivial⟩) (by decide) rfl (by exact ⟨H88, trivial⟩) (Nat.lt_succ_self _)
            · have H89 := cnd_f hb H77; clear H77
              refine c_seq ?_
              refine c_region ?_
              refine l_val rfl rfl rfl (r_eql rfl rfl) ?_
              refine l_val rfl rfl rfl (r_assign (v := .bool (decide (a0.Kind = 3))) rfl) ?_
              refine l_nil ?_
              refine c_if (b := (decide (a0.Kind = 3))) rfl (fun hb => ?_) (fun hb => ?_)
              · have H90 := cnd_t hb H89; clear H89
                refine c_region ?_
                refine l_val rfl rfl rfl (r_move (v := .func (.func 108) #[] #[]) rfl) ?_
                refine l_val rfl rfl rfl (r_field Tryd.runUnderlying35 rfl Tryd.sizeOf3 rfl rfl) ?_
                refine l_load1 (i := 0) (v := .int .i64 a0.A) Tryd.isAgg3 rfl rfl rfl rfl rfl ?_
                obtain ⟨t77, h_t77, H91⟩ := bnd_some H90; clear H90
                refine l_callV (R := fnR_func_int_int_int_bool R_StepFault_1) (r := .bool t77) (v := .func (.func 108) #[] #[]) (fun w hF hS => ⟨(FnH.mk ⟨108, #[], #[], rfl, Tryd.call108, fun args2 post2 w2 hk2 hR2 => by obtain ⟨a0_, a1_, a2_, r_, rfl, H_, rfl⟩ := hR2; exact k108 H_ w2⟩), ⟨a0.A, 1, 64, _, rfl, h_t77, rfl⟩⟩) rfl rfl rfl rfl ?_
                refine l_val rfl rfl rfl (r_move (v := .bool t77) rfl) ?_
                refine split (fun hb => ?_) (fun hb => ?_)
                · have H92 := cnd_t hb H91; clear H91
                  refine l_passed rfl rfl rfl ?_
                  refine l_passed rfl rfl rfl ?_
                  refine l_passed rfl rfl rfl ?_
                  refine l_passed rfl rfl rfl ?_
                  refine l_val rfl rfl rfl (r_pickT (v := .bool true) rfl rfl) ?_
                  refine l_val rfl rfl rfl (r_assign (v := .bool true) rfl) ?_
                  refine l_nil ?_
                  refine c_close true () 0 [0] (by exact ⟨rfl, rfl, trivial⟩) (by decide) rfl (by exact ⟨H92, trivial⟩) (Nat.lt_succ_self _)
                · have H93 := cnd_f hb H91; clear H91
                  refine l_val rfl rfl rfl (r_move (v := .func (.func 108) #[] #[]) rfl) ?_
                  refine l_val rfl rfl rfl (r_field Tryd.runUnderlying35 rfl Tryd.sizeOf3 rfl rfl) ?_
                  refine l_load1 (i := 0) (v := .int .i64 a0.B) Tryd.isAgg3 rfl rfl rfl rfl rfl ?_
                  obtain ⟨t82, h_t82, H94⟩ := bnd_some H93; clear H93
                  refine l_callV (R := fnR_func_int_int_int_bool R_StepFault_1) (r := .bool t82) (v := .func (.func 108) #[] #[]) (fun w hF hS => ⟨(FnH.mk ⟨108, #[], #[], rfl, Tryd.call108, fun args2 post2 w2 hk2 hR2 => by obtain ⟨a0_, a1_, a2_, r_, rfl, H_, rfl⟩ := hR2; exact k108 H_ w2⟩), ⟨a0.B, 1, 64, _, rfl, h_t82, rfl⟩⟩) rfl rfl rfl rfl ?_
                  refine l_val rfl rfl rfl (r_pickF (v := .bool t82) rfl rfl) ?_
                  refine l_val rfl rfl rfl (r_assign (v := .bool t82) rfl) ?_
                  refine l_nil ?_
                  refine c_close t82 () 0 [0] (by exact ⟨rfl, rfl, trivial⟩) (by decide) rfl (by exact ⟨H94, trivial⟩) (Nat.lt_succ_self _)
              · have H95 := cnd_f hb H89; clear H89
                refine c_seq ?_
                refine c_region ?_
                refine l_val rfl rfl rfl (r_eql rfl rfl) ?_
                refine l_val rfl rfl rfl (r_assign (v := .bool (decide (a0.Kind = 4))) rfl) ?_
                refine l_nil ?_
                refine c_if (b := (decide (a0.Kind = 4))) rfl (fun hb => ?_) (fun hb => ?_)
                · have H96 := cnd_t hb H95; clear H95
                  refine c_region ?_
                  refine l_val rfl rfl rfl (r_move (v := .func (.func 108) #[] #[]) rfl) ?_
                  refine l_val rfl rfl rfl (r_field Tryd.runUnderlying35 rfl Tryd.sizeOf3 rfl rfl) ?_
                  refine l_load1 (i := 0) (v := .int .i64 a0.A) Tryd.isAgg3 rfl rfl rfl rfl rfl ?_
                  obtain ⟨t89, h_t89, H97⟩ := bnd_some H96; clear H96
                  refine l_callV (R := fnR_func_int_int_int_bool R_StepFault_1) (r := .bool t89) (v := .func (.func 108) #[] #[]) (fun w hF hS => ⟨(FnH.mk ⟨108, #[], #[], rfl, Tryd.call108, fun args2 post2 w2 hk2 hR2 => by obtain ⟨a0_, a1_, a2_, r_, rfl, H_, rfl⟩ := hR2; exact k108 H_ w2⟩), ⟨a0.A, (-255), 255, _, rfl, h_t89, rfl⟩⟩) rfl rfl rfl rfl ?_
                  refine l_val rfl rfl rfl (r_assign (v := .bool t89) rfl) ?_
                  refine l_nil ?_
                  refine c_close t89 () 0 [0] (by exact ⟨rfl, rfl, trivial⟩) (by decide) rfl (by exact ⟨H97, trivial⟩) (Nat.lt_succ_self _)
                · have H98 := cnd_f hb H95; clear H95
                  refine c_seq ?_
                  refine c_region ?_
                  refine l_val rfl rfl rfl (r_eql rfl rfl) ?_
                  refine l_val rfl rfl rfl (r_assign (v := .bool (decide (a0.Kind = 5))) rfl) ?_
                  refine l_nil ?_
                  refine c_if (b := (decide (a0.Kind = 5))) rfl (fun hb => ?_) (fun hb => ?_)
                  · have H99 := cnd_t hb H98; clear H98
                    refine c_region ?_
                    refine l_val rfl rfl rfl (r_move (v := .func (.func 108) #[] #[]) rfl) ?_
                    refine l_val rfl rfl rfl (r_field Tryd.runUnderlying35 rfl Tryd.sizeOf3 rfl rfl) ?_
                    refine l_load1 (i := 0) (v := .int .i64 a0.A) Tryd.isAgg3 rfl rfl rfl rfl rfl ?_
                    obtain ⟨t95, h_t95, H100⟩ := bnd_some H99; clear H99
                    refine l_callV (R := fnR_func_int_int_int_bool R_StepFault_1) (r := .bool t95) (v := .func (.func 108) #[] #[]) (fun w hF hS => ⟨(FnH.mk ⟨108, #[], #[], rfl, Tryd.call108, fun args2 post2 w2 hk2 hR2 => by obtain ⟨a0_, a1_, a2_, r_, rfl, H_, rfl⟩ := hR2; exact k108 H_ w2⟩), ⟨a0.A, 0, 400, _, rfl, h_t95, rfl⟩⟩) rfl rfl rfl rfl ?_
                    refine l_val rfl rfl rfl (r_assign (v := .bool t95) rfl) ?_
                    refine l_nil ?_
                    refine c_close t95 () 0 [0] (by exact ⟨rfl, rfl, trivial⟩) (by decide) rfl (by exact ⟨H100, trivial⟩) (Nat.lt_succ_self _)
                  · have H101 := cnd_f hb H98; clear H98
                    refine c_seq ?_
                    refine c_region ?_
                    refine l_val rfl rfl rfl (r_eql rfl rfl) ?_
                    refine l_val rfl rfl rfl (r_assign (v := .bool (decide (a0.Kind = 6))) rfl) ?_
                    refine l_nil ?_
                    refine c_if (b := (decide (a0.Kind = 6))) rfl (fun hb => ?_) (fun hb => ?_)
                    · have H102 := cnd_t hb H101; clear H101
                      refine c_region ?_
                      refine l_val rfl rfl rfl (r_move (v := .func (.func 108) #[] #[]) rfl) ?_
                      refine l_val rfl rfl rfl (r_field Tryd.runUnderlying35 rfl Tryd.sizeOf3 rfl rfl) ?_
                      refine l_load1 (i := 0) (v := .int .i64 a0.A) Tryd.isAgg3 rfl rfl rfl rfl rfl ?_
                      obtain ⟨t101, h_t101, H103⟩ := bnd_some H102; clear H102
                      refine l_callV (R := fnR_func_int_int_int_bool R_StepFault_1) (r := .bool t101) (v := .func (.func 108) #[] #[]) (fun w hF hS => ⟨(FnH.mk ⟨108, #[], #[], rfl, Tryd.call108, fun args2 post2 w2 hk2 hR2 => by obtain ⟨a0_, a1_, a2_, r_, rfl, H_, rfl⟩ := hR2; exact k108 H_ w2⟩), ⟨a0.A, 0, 255, _, rfl, h_t101, rfl⟩⟩) rfl rfl rfl rfl ?_
                      refine l_val rfl rfl rfl (r_move (v := .bool t101) rfl) ?_
                      refine split (fun hb => ?_) (fun hb => ?_)
                      · have H104 := cnd_t hb H103; clear H103
                        refine l_passed rfl rfl rfl ?_
                        refine l_passed rfl rfl rfl ?_
                        refine l_passed rfl rfl rfl ?_
                        refine l_passed rfl rfl rfl ?_
                        refine l_val rfl rfl rfl (r_pickT (v := .bool true) rfl rfl) ?_
                        refine l_val rfl rfl rfl (r_assign (v := .bool true) rfl) ?_
                        refine l_nil ?_
                        refine c_close true () 0 [0] (by exact ⟨rfl, rfl, trivial⟩) (by decide) rfl (by exact ⟨H104, trivial⟩) (Nat.lt_succ_self _)
                      · have H105 := cnd_f hb H103; clear H103
                        refine l_val rfl rfl rfl (r_move (v := .func (.func 108) #[] #[]) rfl) ?_
                        refine l_val rfl rfl rfl (r_field Tryd.runUnderlying35 rfl Tryd.sizeOf3 rfl rfl) ?_
                        refine l_load1 (i := 0) (v := .int .i64 a0.B) Tryd.isAgg3 rfl rfl rfl rfl rfl ?_
                        obtain ⟨t106, h_t106, H106⟩ := bnd_some H105; clear H105
                        refine l_callV (R := fnR_func_int_int_int_bool R_StepFault_1) (r := .bool t106) (v := .func (.func 108) #[] #[]) (fun w hF hS => ⟨(FnH.mk ⟨108, #[], #[], rfl, Tryd.call108, fun args2 post2 w2 hk2 hR2 => by obtain ⟨a0_, a1_, a2_, r_, rfl, H_, rfl⟩ := hR2; exact k108 H_ w2⟩), ⟨a0.B, 0, 255, _, rfl, h_t106, rfl⟩⟩) rfl rfl rfl rfl ?_
                        refine l_val rfl rfl rfl (r_pickF (v := .bool t106) rfl rfl) ?_
                        refine l_val rfl rfl rfl (r_assign (v := .bool t106) rfl) ?_
                        refine l_nil ?_
                        refine c_close t106 () 0 [0] (by exact ⟨rfl, rfl, trivial⟩) (by decide) rfl (by exact ⟨H106, trivial⟩) (Nat.lt_succ_self _)
                    · have H107 := cnd_f hb H101; clear H101
                      refine c_seq ?_
                      refine c_region ?_
                      refine l_val rfl rfl rfl (r_eql rfl rfl) ?_
                      refine l_val rfl rfl rfl (r_assign (v := .bool (decide (a0.Kind = 7))) rfl) ?_
                      refine l_nil ?_
                      refine c_if (b := (decide (a0.Kind = 7))) rfl (fun hb => ?_) (fun hb => ?_)
                      · have H108 := cnd_t hb H107; clear H107
                        refine c_region ?_
                        refine l_val rfl rfl rfl (r_move (v := .func (.func 108) #[] #[]) rfl) ?_
                        refine l_val rfl rfl rfl (r_field Tryd.runUnderlying35 rfl Tryd.sizeOf3 rfl rfl) ?_
                        refine l_load1 (i := 0) (v := .int .i64 a0.A) Tryd.isAgg3 rfl rfl rfl rfl rfl ?_
                        obtain ⟨t113, h_t113, H109⟩ := bnd_some H108; clear H108
                        refine l_callV (R := fnR_func_int_int_int_bool R_StepFault_1) (r := .bool t113) (v := .func (.func 108) #[] #[]) (fun w hF hS => ⟨(FnH.mk ⟨108, #[], #[], rfl, Tryd.call108, fun args2 post2 w2 hk2 hR2 => by obtain ⟨a0_, a1_, a2_, r_, rfl, H_, rfl⟩ := hR2; exact k108 H_ w2⟩), ⟨a0.A, (-100), 100, _, rfl, h_t113, rfl⟩⟩) rfl rfl rfl rfl ?_
                        refine l_val rfl rfl rfl (r_assign (v := .bool t113) rfl) ?_
                        refine l_nil ?_
                        refine c_close t113 () 0 [0] (by exact ⟨rfl, rfl, trivial⟩) (by decide) rfl (by exact ⟨H109, trivial⟩) (Nat.lt_succ_self _)
                      · have H110 := cnd_f hb H107; clear H107
                        refine c_seq ?_
                        refine c_region ?_
                        refine l_val rfl rfl rfl (r_eql rfl rfl) ?_
                        refine l_val rfl rfl rfl (r_assign (v := .bool (decide (a0.Kind = 8))) rfl) ?_
                        refine l_nil ?_
                        refine c_if (b := (decide (a0.Kind = 8))) rfl (fun hb => ?_) (fun hb => ?_)
                        · have H111 := cnd_t hb H110; clear H110
                          refine c_region ?_
                          refine l_val rfl rfl rfl (r_move (v := .func (.func 108) #[] #[]) rfl) ?_
                          refine l_val rfl rfl rfl (r_field Tryd.runUnderlying35 rfl Tryd.sizeOf3 rfl rfl) ?_
                          refine l_load1 (i := 0) (v := .int .i64 a0.A) Tryd.isAgg3 rfl rfl rfl rfl rfl ?_
                          obtain ⟨t119, h_t119, H112⟩ := bnd_some H111; clear H111
                          refine l_callV (R := fnR_func_int_int_int_bool R_StepFault_1) (r := .bool t119) (v := .func (.func 108) #[] #[]) (fun w hF hS => ⟨(FnH.mk ⟨108, #[], #[], rfl, Tryd.call108, fun args2 post2 w2 hk2 hR2 => by obtain ⟨a0_, a1_, a2_, r_, rfl, H_, rfl⟩ := hR2; exact k108 H_ w2⟩), ⟨a0.A, 0, 100, _, rfl, h_t119, rfl⟩⟩) rfl rfl rfl rfl ?_
                          refine l_val rfl rfl rfl (r_assign (v := .bool t119) rfl) ?_
                          refine l_nil ?_
                          refine c_close t119 () 0 [0] (by exact ⟨rfl, rfl, trivial⟩) (by decide) rfl (by exact ⟨H112, trivial⟩) (Nat.lt_succ_self _)
                        · have H113 := cnd_f hb H110; clear H110
                          refine c_skip ?_
                          refine c_close false () 0 [0] (by exact ⟨rfl, rfl, trivial⟩) (by decide) rfl (by exact ⟨H113, trivial⟩) (Nat.lt_succ_self _)
        · rintro x6 _ gg H68 _
          replace H68 : R_StepFault_j2 a0 x6 = some r := H68
          refine c_tidyF [(1, .pointer (some ⟨b2, 0, none⟩)), (6, .bool x6)] [cellsC b2 [.int .i64 a0.Kind, .int .i64 a0.A, .int .i64 a0.B, .int .i64 a0.C, .int .i64 a0.D] 35] rfl rfl ?_
          refine c_seq ?_
          refine c_seq ?_
          refine c_region ?_
          refine l_val rfl rfl rfl (r_move (v := .bool x6) rfl) ?_
          refine l_nil ?_
          refine c_if (b := x6) rfl (fun hb => ?_) (fun hb => ?_)
          · have H69 := cnd_t hb H68; clear H68
            refine c_seq ?_
            refine c_region ?_
            refine l_val rfl rfl rfl (r_assign (v := .int .i64 2) rfl) ?_
            refine l_nil ?_
            refine c_ret ?_
            obtain rfl := Option.some.inj H69
            refine ret1 (v := .int .i64 2) rfl rfl (fin rfl)
          · have H70 := cnd_f hb H68; clear H68
            refine c_skip ?_
            refine c_seq ?_
            refine c_seq ?_
            refine c_region ?_
            refine l_val rfl rfl rfl (r_field Tryd.runUnderlying35 rfl Tryd.sizeOf3 rfl rfl) ?_
            refine l_load1 (i := 0) (v := .int .i64 a0.Kind) Tryd.isAgg3 rfl rfl rfl rfl rfl ?_
            refine l_val rfl rfl rfl (r_eql rfl rfl) ?_
            refine l_val rfl rfl rfl (r_move (v := .bool (decide (a0.Kind = 6))) rfl) ?_
            refine split (fun hb => ?_) (fun hb => ?_)
            · have H71 := cnd_t hb H70; clear H70
              refine l_val rfl rfl rfl (r_field Tryd.runUnderlying35 rfl Tryd.sizeOf3 rfl rfl) ?_
              refine l_load1 (i := 0) (v := .int .i64 a0.B) Tryd.isAgg3 rfl rfl rfl rfl rfl ?_
              refine l_val rfl rfl rfl (r_field Tryd.runUnderlying35 rfl Tryd.sizeOf3 rfl rfl) ?_
              refine l_load1 (i := 0) (v := .int .i64 a0.A) Tryd.isAgg3 rfl rfl rfl rfl rfl ?_
              refine l_val rfl rfl rfl (r_leq rfl rfl) ?_
              refine l_val rfl rfl rfl (r_pickT (v := .bool (decide (a0.B ≤ a0.A))) rfl rfl) ?_
              refine l_nil ?_
              refine c_if (b := (decide (a0.B ≤ a0.A))) rfl (fun hb => ?_) (fun hb => ?_)
              · have H72 := cnd_t hb H71; clear H71
                refine c_seq ?_
                refine c_region ?_
                refine l_val rfl rfl rfl (r_assign (v := .int .i64 5) rfl) ?_
                refine l_nil ?_
                refine c_ret ?_
                obtain rfl := Option.some.inj H72
                refine ret1 (v := .int .i64 5) rfl rfl (fin rfl)
              · have H73 := cnd_f hb H71; clear H71
                refine c_skip ?_
                refine c_seq ?_
                refine c_region ?_
                refine l_val rfl rfl rfl (r_assign (v := .int .i64 0) rfl) ?_
                refine l_nil ?_
                refine c_ret ?_
                obtain rfl := Option.some.inj H73
                refine ret1 (v := .int .i64 0) rfl rfl (fin rfl)
            · have H74 := cnd_f hb H70; clear H70
              refine l_passed rfl rfl rfl ?_
              refine l_passed rfl rfl rfl ?_
              refine l_passed rfl rfl rfl ?_
              refine l_passed rfl rfl rfl ?_
              refine l_passed rfl rfl rfl ?_
              refine l_val rfl rfl rfl (r_pickF (v := .bool false) rfl rfl) ?_
              refine l_nil ?_
              refine c_false rfl ?_
              refine c_skip ?_
              refine c_seq ?_
              refine c_region ?_
              refine l_val rfl rfl rfl (r_assign (v := .int .i64 0) rfl) ?_
              refine l_nil ?_
              refine c_ret ?_
              obtain rfl := Option.some.inj H74
              refine ret1 (v := .int .i64 0) rfl rfl (fin rfl)
theorem k9 {a0 : (List T_edit_Step)} {v0 : Value} {r : Int} {w : World} {h : Heap} (hw : Know h w noS) (f0 : FrS h 5 v0 (a0.map e_edit_Step)) (H : R_StepsFault a0 = some r) : Does Tryd.prog 9 (List.toArray [v0]) w (fun v w' => v = (.int .i64 r) ∧ Grow w w') := by
  refine enter (n := 21) Tryd.func9 rfl rfl rfl noS [] (Sat.nil _ _) ?_
  refine c_seq ?_
  refine c_region ?_
  refine l_val rfl rfl rfl (r_assign (v := .int .i64 0) rfl) ?_
  refine l_nil ?_
  refine c_seq ?_
  refine c_seq ?_
  refine c_region ?_
  refine l_val rfl rfl rfl (r_move (v := v0) rfl) ?_
  refine l_val rfl rfl rfl (r_lenF Tryd.underlying22 rfl f0 rfl) ?_
  refine l_val rfl rfl rfl (r_gtr rfl rfl) ?_
  refine l_nil ?_
  refine c_if (b := (decide (50 < (a0.length : Int)))) rfl (fun hb => ?_) (fun hb => ?_)
  · have H11 := cnd_t hb H; clear H
    refine c_seq ?_
    refine c_region ?_
    refine l_val rfl rfl rfl (r_assign (v := .int .i64 4) rfl) ?_
    refine l_nil ?_
    refine c_ret ?_
    obtain rfl := Option.some.inj H11
    refine ret1 (v := .int .i64 4) rfl rfl (fin rfl)
  · have H12 := cnd_f hb H; clear H
    refine c_skip ?_
    refine c_seq ?_
    refine c_seq ?_
    refine c_region ?_
    refine l_val rfl rfl rfl (r_move (v := v0) rfl) ?_
    refine l_val rfl rfl rfl (r_lenF Tryd.underlying22 rfl f0 rfl) ?_
    refine l_val rfl rfl rfl (r_move (v := .int .i64 0) rfl) ?_
    refine l_nil ?_
    refine c_block ?_
    refine c_fix (σ := Int) (τ := Unit) (fun next1 s => R_StepsFault_l1 a0 next1 s) (fun s t => [(9, v0), (10, .int .i64 (a0.length : Int)), (11, .int .i64 s)]) (fun s t => []) (fun s t => True) 0 () [] H12 (by exact trivial) (by exact ⟨rfl, rfl, rfl, trivial⟩) (by decide) rfl ?_
    rintro x11_2 _ m1 gg H13 _
    clear H12
    replace H13 : R_StepsFault_l1 a0 (it (fun next1 s => R_StepsFault_l1 a0 next1 s) m1) x11_2 = some r := H13
    generalize hn1 : it (fun next1 s => R_StepsFault_l1 a0 next1 s) m1 = next1 at H13
    refine c_tidyF [(9, v0), (10, .int .i64 (a0.length : Int)), (11, .int .i64 x11_2)] [] rfl rfl ?_
    refine c_seq ?_
    refine c_region ?_
    refine l_val rfl rfl rfl (r_lss rfl rfl) ?_
    refine l_nil ?_
    refine c_seq ?_
    refine c_if (b := (decide (x11_2 < (a0.length : Int)))) rfl (fun hb => ?_) (fun hb => ?_)
    · have H14 := cnd_t hb H13; clear H13
      refine c_skip ?_
      refine c_seq ?_
      refine c_block ?_
      refine c_seq ?_
      refine c_region ?_
      obtain ⟨t13, h_t13, H15⟩ := bnd_some H14; clear H14
      refine l_val rfl rfl rfl (r_indexF Tryd.underlying22 Tryd.sizeOf35 rfl rfl f0 h_t13) ?_
      refine l_read (fun w hF hS => run_loadGN (f := e_edit_Step) (i := x11_2) (sz := 5) (j := 0) (vs := [.int .i64 t13.Kind, .int .i64 t13.A, .int .i64 t13.B, .int .i64 t13.C, .int .i64 t13.D]) Tryd.isAgg35 Tryd.sizeOf35 rfl rfl (f0.row (hw.now hF)) h_t13 rfl) rfl rfl rfl ?_
      refine l_alloc (cs := [.int .i64 0, .int .i64 0, .int .i64 0, .int .i64 0, .int .i64 0]) Tryd.zeroValue35 rfl rfl rfl (fun b1 => ?_)
      refine l_store (i := 0) (vs := [.int .i64 t13.Kind, .int .i64 t13.A, .int .i64 t13.B, .int .i64 t13.C, .int .i64 t13.D]) (cs' := [.int .i64 t13.Kind, .int .i64 t13.A, .int .i64 t13.B, .int .i64 t13.C, .int .i64 t13.D]) Tryd.sizeOf35 rfl rfl rfl rfl rfl rfl rfl rfl rfl ?_
      refine l_nil ?_
      refine c_seq ?_
      refine c_region ?_
      refine l_loadN (i := 0) (vs := [.int .i64 t13.Kind, .int .i64 t13.A, .int .i64 t13.B, .int .i64 t13.C, .int .i64 t13.D]) Tryd.isAgg35 Tryd.sizeOf35 rfl rfl rfl rfl rfl ?_
      obtain ⟨t16, h_t16, H16⟩ := bnd_some H15; clear H15
      refine l_call (k53 h_t16) Tryd.call53 rfl rfl rfl ?_
      refine l_val rfl rfl rfl (r_assign (v := .int .i64 t16) rfl) ?_
      refine l_nil ?_
      refine c_seq ?_
      refine c_region ?_
      refine l_val rfl rfl rfl (r_move (v := .int .i64 t16) rfl) ?_
      refine l_val rfl rfl rfl (r_neq rfl rfl) ?_
      refine l_nil ?_
      refine c_if (b := (decide (t16 ≠ 0))) rfl (fun hb => ?_) (fun hb => ?_)
      · have H17 := cnd_t hb H16; clear H16
        refine c_seq ?_
        refine c_region ?_
        refine l_val rfl rfl rfl (r_move (v := .int .i64 t16) rfl) ?_
        refine l_val rfl rfl rfl (r_assign (v := .int .i64 t16) rfl) ?_
        refine l_nil ?_
        refine c_ret ?_
        obtain rfl := Option.some.inj H17
        refine ret1 (v := .int .i64 t16) rfl rfl (fin rfl)
      · have H18 := cnd_f hb H16; clear H16
        refine c_skip ?_
        refine c_region ?_
        obtain ⟨t20, h_t20, H19⟩ := bnd_some H18; clear H18
        refine l_val rfl rfl rfl (r_addG rfl rfl h_t20) ?_
        refine l_val rfl rfl rfl (r_move (v := .int .i64 t20) rfl) ?_
        refine l_nil ?_
        refine c_close t20 () m1 [] (by exact ⟨rfl, rfl, rfl, trivial⟩) (by decide) rfl (by exact ⟨(by subst hn1; exact H19), trivial⟩) (Nat.lt_succ_self _)
    · have H20 := cnd_f hb H13; clear H13
      refine c_exit ?_
      refine c_seq ?_
      refine c_region ?_
      refine l_val rfl rfl rfl (r_assign (v := .int .i64 0) rfl) ?_
      refine l_nil ?_
      refine c_ret ?_
      obtain rfl := Option.some.inj H20
      refine ret1 (v := .int .i64 0) rfl rfl (fin rfl)
theorem k111 {a0 : Int} {r : (List UInt8)} {w : World} {h : Heap} (hw : Know h w noS) (tb_pow10 : TabH Tryd.prog h "internal/strconv.uint64pow10" .u64 Lib.pow10Tab) (H : gItoa a0 = some r) : Does Tryd.prog 111 (List.toArray [.int .i64 a0]) w (fun v w' => v = (str r) ∧ Grow w w') :=
  itoa_does (ρ := Go.Proofs.Tryd.laysM171_ren) Go.Proofs.Tryd.laysM171 hw tb_pow10 H

theorem k57 {a0 : T_edit_Step} {r : (List UInt8)} {w : World} {h : Heap} (hw : Know h w noS) (tb_pow10 : TabH Tryd.prog h "internal/strconv.uint64pow10" .u64 Lib.pow10Tab) (H : edit_Step_line a0 = some r) : Does Tryd.prog 57 (List.toArray [.agg #[.int .i64 a0.Kind, .int .i64 a0.A, .int .i64 a0.B, .int .i64 a0.C, .int .i64 a0.D]]) w (fun v w' => v = (str r) ∧ Grow w w') := by
  refine enter (n := 29) Tryd.func57 rfl rfl rfl noS [] (Sat.nil _ _) ?_
  refine c_seq ?_
  refine c_region ?_
  refine l_box (cs := [.int .i64 a0.Kind, .int .i64 a0.A, .int .i64 a0.B, .int .i64 a0.C, .int .i64 a0.D]) rfl rfl rfl rfl (fun b1 => ?_)
  refine l_val rfl rfl rfl (r_assign (v := str []) rfl) ?_
  refine l_nil ?_
  refine c_seq ?_
  refine c_region ?_
  refine l_val rfl rfl rfl (r_field Tryd.runUnderlying35 rfl Tryd.sizeOf3 rfl rfl) ?_
  refine l_load1 (i := 0) (v := .int .i64 a0.Kind) Tryd.isAgg3 rfl rfl rfl rfl rfl ?_
  obtain ⟨t10, h_t10, H12⟩ := bnd_some H; clear H
  refine l_call (k109 h_t10) Tryd.call109 rfl rfl rfl ?_
  refine l_val rfl rfl rfl (r_move (v := .tuple #[str t10.1, .int .i64 t10.2]) rfl) ?_
  refine l_val rfl rfl rfl (r_extract (v := str t10.1) rfl rfl) ?_
  refine l_val rfl rfl rfl (r_extract (v := .int .i64 t10.2) rfl rfl) ?_
  refine l_val rfl rfl rfl (r_assign (v := str t10.1) rfl) ?_
  refine l_val rfl rfl rfl (r_assign (v := .int .i64 t10.2) rfl) ?_
  refine l_nil ?_
  refine c_seq ?_
  refine c_seq ?_
  refine c_region ?_
  refine l_loadN (i := 0) (vs := [.int .i64 a0.Kind, .int .i64 a0.A, .int .i64 a0.B, .int .i64 a0.C, .int .i64 a0.D]) Tryd.isAgg35 Tryd.sizeOf35 rfl rfl rfl rfl rfl ?_
  obtain ⟨t14, h_t14, H13⟩ := bnd_some H12; clear H12
  refine l_make (makes_call (rds := []) (G := fun x : (Option Addr × Nat) => .slice x.1 t14.length x.2) (C := fun x : (Option Addr × Nat) => rowV 3 1 (.slice x.1 t14.length x.2) t14.length (t14.map e_i64)) (fun w L' hF hS hi => k110 (know_all w)  h_t14) Tryd.call110 rfl) rfl rfl rfl (fun p => ?_)
  refine l_val rfl rfl rfl (r_move (v := .int .i64 t10.2) rfl) ?_
  obtain ⟨t16, h_t16, H14⟩ := bnd_some H13; clear H13
  refine l_read (v := .slice (cutA p.1 (Int.toNat (0 : Int)) p.2 1) t16.length (p.2 - Int.toNat (0 : Int))) (fun w hF hS => run_sliceHO (xs := t14) Tryd.underlying132 Tryd.sizeOf3 rfl rfl rfl (capOf (i := 1) hS rfl) h_t16) rfl rfl rfl ?_
  refine l_val rfl rfl rfl (r_len Tryd.underlying132 rfl) ?_
  refine l_val rfl rfl rfl (r_move (v := .int .i64 0) rfl) ?_
  refine l_nil ?_
  refine c_block ?_
  refine c_sel [1] [rowV 3 1 (.slice p.1 t14.length p.2) t14.length (t14.map e_i64)] rfl (by decide) ?_
  refine c_fix (σ := (List UInt8) × Int) (τ := Unit) (fun next1 s => edit_Step_line_l1 t16 next1 s.1 s.2) (fun s t => [(3, str s.1), (16, .slice (cutA p.1 (Int.toNat (0 : Int)) p.2 1) t16.length (p.2 - Int.toNat (0 : Int))), (17, .int .i64 (t16.length : Int)), (18, .int .i64 s.2)]) (fun s t => [rowV 3 1 (.slice p.1 t14.length p.2) t14.length (t14.map e_i64)]) (fun s t => True) (t10.1, 0) () [0] H14 (by exact trivial) (by exact ⟨rfl, rfl, rfl, rfl, trivial⟩) (by decide) rfl ?_
  rintro ⟨x3_2, x18_2⟩ _ m1 gg H15 _
  clear H14
  replace H15 : edit_Step_line_l1 t16 (it (fun next1 s => edit_Step_line_l1 t16 next1 s.1 s.2) m1) x3_2 x18_2 = some r := H15
  generalize hn1 : it (fun next1 s => edit_Step_line_l1 t16 next1 s.1 s.2) m1 = next1 at H15
  refine c_tidyF [(3, str x3_2), (16, .slice (cutA p.1 (Int.toNat (0 : Int)) p.2 1) t16.length (p.2 - Int.toNat (0 : Int))), (17, .int .i64 (t16.length : Int)), (18, .int .i64 x18_2)] [rowV 3 1 (.slice p.1 t14.length p.2) t14.length (t14.map e_i64)] rfl rfl ?_
  refine c_seq ?_
  refine c_region ?_
  refine l_val rfl rfl rfl (r_lss rfl rfl) ?_
  refine l_nil ?_
  refine c_seq ?_
  refine c_if (b := (decide (x18_2 < (t16.length : Int)))) rfl (fun hb => ?_) (fun hb => ?_)
  · have H16 := cnd_t hb H15; clear H15
    refine c_skip ?_
    refine c_seq ?_
    refine c_block ?_
    refine c_seq ?_
    refine c_region ?_
    obtain ⟨t20, h_t20, H17⟩ := bnd_some H16; clear H16
    refine l_read (fun w hF hS => run_indexO Tryd.underlying132 Tryd.sizeOf3 rfl rfl (Row.cutG (rowOf (i := 0) hS rfl) rfl (capOf (i := 0) hS rfl) h_t16) rfl h_t20) rfl rfl rfl ?_
    refine l_read (fun w hF hS => run_loadG1 (f := e_i64) (i := x18_2) (sz := 1) (j := 0) (v := .int .i64 t20) Tryd.isAgg3 rfl rfl (Row.cutG (rowOf (i := 0) hS rfl) rfl (capOf (i := 0) hS rfl) h_t16) h_t20 rfl) rfl rfl rfl ?_
    refine l_val rfl rfl rfl (r_assign (v := .int .i64 t20) rfl) ?_
    refine l_nil ?_
    refine c_region ?_
    refine l_val rfl rfl rfl (r_move (v := str x3_2) rfl) ?_
    refine l_val rfl rfl rfl (r_move (v := .int .i64 t20) rfl) ?_
    obtain ⟨t24, h_t24, H18⟩ := bnd_some H17; clear H17
    refine l_callG (fun w hF hS => k111 (know_all w) (tb_pow10.mono (hw.now hF)) h_t24) Tryd.call111 rfl rfl rfl ?_
    obtain ⟨t25, h_t25, H19⟩ := bnd_some H18; clear H18
    refine l_val rfl rfl rfl (r_concatG rfl rfl h_t25) ?_
    obtain ⟨t26, h_t26, H20⟩ := bnd_some H19; clear H19
    refine l_val rfl rfl rfl (r_concatG rfl rfl h_t26) ?_
    refine l_val rfl rfl rfl (r_assign (v := str t26) rfl) ?_
    refine l_nil ?_
    refine c_region ?_
    obtain ⟨t27, h_t27, H21⟩ := bnd_some H20; clear H20
    refine l_val rfl rfl rfl (r_addG rfl rfl h_t27) ?_
    refine l_val rfl rfl rfl (r_move (v := .int .i64 t27) rfl) ?_
    refine l_nil ?_
    refine c_close (t26, t27) () m1 [0] (by exact ⟨rfl, rfl, rfl, rfl, trivial⟩) (by decide) rfl (by exact ⟨(by subst hn1; exact H21), trivial⟩) (Nat.lt_succ_self _)
  · have H22 := cnd_f hb H15; clear H15
    refine c_exit ?_
    refine c_seq ?_
    refine c_region ?_
    refine l_val rfl rfl rfl (r_move (v := str x3_2) rfl) ?_
    refine l_val rfl rfl rfl (r_assign (v := str x3_2) rfl) ?_
    refine l_nil ?_
    refine c_ret ?_
    obtain rfl := Option.some.inj H22
    refine ret1 (v := str x3_2) rfl rfl (fin rfl)
theorem k58 {a : Option Addr} {n c : Nat} (hc : n ≤ c) : Ret Tryd.prog 58 [.slice a n c] (.slice (cutA a 0 n 1) n n) := by
  refine enterRet (n := 9) Tryd.func58 rfl rfl rfl (fun wd => ?_)
  refine c_seq ?_
  refine c_region ?_
  refine l_val rfl rfl rfl (r_assign (v := .slice none 0 0) rfl) ?_
  refine l_nil ?_
  refine c_seq ?_
  refine c_region ?_
  refine l_val rfl rfl rfl (r_move (v := .slice a n c) rfl) ?_
  refine l_val rfl rfl rfl (r_move (v := .slice a n c) rfl) ?_
  refine l_val rfl rfl rfl (r_len Tryd.underlying28 rfl) ?_
  refine l_val rfl rfl rfl (r_move (v := .slice a n c) rfl) ?_
  refine l_val rfl rfl rfl (r_len Tryd.underlying28 rfl) ?_
  refine l_val rfl rfl rfl (r_sliceHM (a := a) (m := n) (c := c) (h := (n : Int)) (q := (n : Int)) Tryd.underlying28 Tryd.sizeOf9 rfl rfl rfl (Int.natCast_nonneg n) (Int.le_refl _) (Int.ofNat_le.2 hc)) ?_
  refine l_val rfl rfl rfl (r_assign (v := .slice (cutA a 0 n 1) n n) rfl) ?_
  refine l_nil ?_
  refine c_ret ?_
  exact ret1 (v := .slice (cutA a 0 n 1) n n) rfl rfl (fin rfl)

theorem k11 {a0 : (List T_edit_Step)} {v0 : Value} {a1 : (List T_edit_Step)} {v1 : Value} {r : (List (List UInt8)) × Int} {w : World} {h : Heap} (hw : Know h w noS) (f0 : FrS h 5 v0 (a0.map e_edit_Step)) (f1 : FrS h 5 v1 (a1.map e_edit_Step)) (tb_pow10 : TabH Tryd.prog h "internal/strconv.uint64pow10" .u64 Lib.pow10Tab) (H : edit_Differ a0 a1 = some r) : Does Tryd.prog 11 (List.toArray [v0, v1]) w (fun v w' => ∃ x : (Option Addr × Nat), v = (.tuple #[.slice x.1 r.1.length x.2, .int .i64 r.2]) ∧ Turn w w' noS (roV 1 (.slice x.1 r.1.length x.2) r.1.length (r.1.map e_string))) := by
  refine enter (n := 55) Tryd.func11 rfl rfl rfl noS [] (Sat.nil _ _) ?_
  refine c_seq ?_
  refine c_region ?_
  refine l_val rfl rfl rfl (r_assign (v := .slice none 0 0) rfl) ?_
  refine l_val rfl rfl rfl (r_assign (v := .int .i64 0) rfl) ?_
  refine l_nil ?_
  refine c_seq ?_
  refine c_seq ?_
  refine c_region ?_
  refine l_val rfl rfl rfl (r_move (v := v0) rfl) ?_
  refine l_val rfl rfl rfl (r_move (v := v1) rfl) ?_
  refine l_buildSlice (vs := [v0, v1]) (cs := [v0, v1]) Tryd.underlying104 Tryd.sizeOf22 Tryd.zeroValue22 rfl rfl rfl rfl (by simp only [List.all_cons, List.all_nil, cells_sz f0.cells, cells_sz f1.cells] <;> rfl) rfl (by simp only [List.flatMap_cons, List.flatMap_nil, f0.cells, f1.cells] <;> rfl) (fun b10 => ?_)
  obtain ⟨t16, h_t16, H49⟩ := bnd_some H; clear H
  refine l_callG (fun w hF hS => k54 (know_all w) (frn_box (G := gs_edit_Step) (sz := 1) (xs := ([a0, a1] : List (List T_edit_Step))) (i := 0) hS rfl rfl rfl rfl ⟨(f0.mono (hw.now hF)), (f1.mono (hw.now hF)), rfl⟩) h_t16) Tryd.call54 rfl rfl rfl ?_
  refine l_val rfl rfl rfl (r_assign (v := .int .i64 t16) rfl) ?_
  refine l_nil ?_
  refine c_seq ?_
  refine c_region ?_
  refine l_val rfl rfl rfl (r_move (v := .int .i64 t16) rfl) ?_
  refine l_val rfl rfl rfl (r_neq rfl rfl) ?_
  refine l_nil ?_
  refine c_if (b := (decide (t16 ≠ 0))) rfl (fun hb => ?_) (fun hb => ?_)
  · have H50 := cnd_t hb H49; clear H49
    refine c_seq ?_
    refine c_region ?_
    refine l_val rfl rfl rfl (r_move (v := .int .i64 t16) rfl) ?_
    refine l_val rfl rfl rfl (r_assign (v := .slice none 0 0) rfl) ?_
    refine l_val rfl rfl rfl (r_assign (v := .int .i64 t16) rfl) ?_
    refine l_nil ?_
    refine c_ret ?_
    refine c_nilRow 9 1 ?_
    obtain rfl := Option.some.inj H50
    refine c_imp 1 rfl (row_ro _ _ _ _ _) ?_
    refine ret2 (v1 := .slice ((none, 0) : Option Addr × Nat).1 ([] : List (List UInt8)).length ((none, 0) : Option Addr × Nat).2) (v2 := .int .i64 t16) rfl rfl rfl (finX ((none, 0) : Option Addr × Nat) (i := 1) rfl rfl (Imp.refl _))
  · have H51 := cnd_f hb H49; clear H49
    refine c_skip ?_
    refine c_seq ?_
    refine c_region ?_
    refine l_val rfl rfl rfl (r_move (v := v0) rfl) ?_
    refine l_val rfl rfl rfl (r_move (v := v1) rfl) ?_
    obtain ⟨t22, h_t22, H52⟩ := bnd_some H51; clear H51
    refine l_callG (fun w hF hS => k16 (know_all w) (f0.mono (hw.now hF)) (f1.mono (hw.now hF)) h_t22) Tryd.call16 rfl rfl rfl ?_
    refine l_val rfl rfl rfl (r_assign (v := .int .i64 t22) rfl) ?_
    refine l_nil ?_
    refine c_seq ?_
    refine c_region ?_
    refine l_val rfl rfl rfl (r_assign (v := .slice none 0 0) rfl) ?_
    refine l_nil ?_
    refine c_meet (r := r) (σ := (List (List UInt8))) (τ := (Option Addr × Nat)) (fun s => edit_Differ_j1 a1 t22 s) (fun s t => [(1, v1), (7, .int .i64 t22), (8, .slice t.1 s.length t.2)]) (fun s t => [rowV 9 1 (.slice t.1 s.length t.2) s.length (s.map e_string)]) (fun s t => True) ?_ ?_
    · refine c_seq ?_
      refine c_region ?_
      refine l_val rfl rfl rfl (r_move (v := v0) rfl) ?_
      refine l_val rfl rfl rfl (r_move (v := .int .i64 t22) rfl) ?_
      obtain ⟨t25, h_t25, H64⟩ := bnd_some H52; clear H52
      refine l_val rfl rfl rfl (r_sliceLF Tryd.underlying22 Tryd.sizeOf35 rfl rfl f0 h_t25) ?_
      refine l_val rfl rfl rfl (r_lenF Tryd.underlying22 rfl (f0.cut h_t25) rfl) ?_
      refine l_val rfl rfl rfl (r_move (v := .int .i64 0) rfl) ?_
      refine l_nil ?_
      refine c_block ?_
      refine c_sel [] [] rfl (by decide) ?_
      refine c_nilRow 9 1 ?_
      refine c_fix (σ := Int × (List (List UInt8))) (τ := (Option Addr × Nat)) (fun next4 s => edit_Differ_l4 a1 t22 t25 next4 s.1 s.2) (fun s t => [(1, v1), (7, .int .i64 t22), (8, .slice t.1 s.2.length t.2), (25, (cutV 5 v0 t22 a0.length)), (26, .int .i64 (t25.length : Int)), (27, .int .i64 s.1)]) (fun s t => [rowV 9 1 (.slice t.1 s.2.length t.2) s.2.length (s.2.map e_string)]) (fun s t => True) (0, ([] : List (List UInt8))) ((none, 0) : Option Addr × Nat) [0] H64 (by exact trivial) (by exact ⟨rfl, rfl, rfl, rfl, rfl, rfl, trivial⟩) (by decide) rfl ?_
      rintro ⟨x27_2, l_6⟩ p_5 m4 gg H65 _
      clear H64
      replace H65 : edit_Differ_l4 a1 t22 t25 (it (fun next4 s => edit_Differ_l4 a1 t22 t25 next4 s.1 s.2) m4) x27_2 l_6 = some r := H65
      generalize hn4 : it (fun next4 s => edit_Differ_l4 a1 t22 t25 next4 s.1 s.2) m4 = next4 at H65
      refine c_tidyF [(1, v1), (7, .int .i64 t22), (8, .slice p_5.1 l_6.length p_5.2), (25, (cutV 5 v0 t22 a0.length)), (26, .int .i64 (t25.length : Int)), (27, .int .i64 x27_2)] [rowV 9 1 (.slice p_5.1 l_6.length p_5.2) l_6.length (l_6.map e_string)] rfl rfl ?_
      refine c_seq ?_
      refine c_region ?_
      refine l_val rfl rfl rfl (r_lss rfl rfl) ?_
      refine l_nil ?_
      refine c_seq ?_
      refine c_if (b := (decide (x27_2 < (t25.length : Int)))) rfl (fun hb => ?_) (fun hb => ?_)
      · have H66 := cnd_t hb H65; clear H65
        refine c_skip ?_
        refine c_seq ?_
        refine c_block ?_
        refine c_seq ?_
        refine c_region ?_
        obtain ⟨t29, h_t29, H67⟩ := bnd_some H66; clear H66
        refine l_val rfl rfl rfl (r_indexF Tryd.underlying22 Tryd.sizeOf35 rfl rfl (f0.cut h_t25) h_t29) ?_
        refine l_read (fun w hF hS => run_loadGN (f := e_edit_Step) (i := x27_2) (sz := 5) (j := 0) (vs := [.int .i64 t29.Kind, .int .i64 t29.A, .int .i64 t29.B, .int .i64 t29.C, .int .i64 t29.D]) Tryd.isAgg35 Tryd.sizeOf35 rfl rfl ((f0.cut h_t25).row (hw.now hF)) h_t29 rfl) rfl rfl rfl ?_
        refine l_alloc (cs := [.int .i64 0, .int .i64 0, .int .i64 0, .int .i64 0, .int .i64 0]) Tryd.zeroValue35 rfl rfl rfl (fun b13 => ?_)
        refine l_store (i := 1) (vs := [.int .i64 t29.Kind, .int .i64 t29.A, .int .i64 t29.B, .int .i64 t29.C, .int .i64 t29.D]) (cs' := [.int .i64 t29.Kind, .int .i64 t29.A, .int .i64 t29.B, .int .i64 t29.C, .int .i64 t29.D]) Tryd.sizeOf35 rfl rfl rfl rfl rfl rfl rfl rfl rfl ?_
        refine l_nil ?_
        refine c_region ?_
        refine l_val rfl rfl rfl (r_move (v := .slice p_5.1 l_6.length p_5.2) rfl) ?_
        refine l_loadN (i := 1) (vs := [.int .i64 t29.Kind, .int .i64 t29.A, .int .i64 t29.B, .int .i64 t29.C, .int .i64 t29.D]) Tryd.isAgg35 Tryd.sizeOf35 rfl rfl rfl rfl rfl ?_
        obtain ⟨t33, h_t33, H68⟩ := bnd_some H67; clear H67
        refine l_callG (fun w hF hS => k57 (know_all w) (tb_pow10.mono (hw.now hF)) h_t33) Tryd.call57 rfl rfl rfl ?_
        obtain ⟨t34, h_t34, H69⟩ := bnd_some H68; clear H68
        refine l_val rfl rfl rfl (r_concatG rfl rfl h_t34) ?_
        refine l_buildSlice (vs := [str t34]) (cs := [str t34]) Tryd.underlying28 Tryd.sizeOf9 Tryd.zeroValue9 rfl rfl rfl rfl rfl rfl rfl (fun b14 => ?_)
        obtain ⟨l36, h_l36, H70⟩ := bnd_some H69; clear H69
        refine l_turn (turns_appG (i := 0) (hn := rfl) (rds := [2]) (p := p_5) (sz := 1) (by_ := 16) (f := e_string) (ys := l_6) (ls := ([t34] : List (List UInt8))) (V := .slice (some ⟨b14, 0, none⟩) 1 1) Tryd.underlying28 (info_of Tryd.typeInfo9) rfl rfl rfl rfl rfl rfl rfl rfl rfl rfl (fun w L' hF hS hi => row_box (i := 2) hS ((hi 2 (by simp)).trans rfl) rfl rfl) (fun _ => rfl) (fun _ => rfl) h_l36) rfl rfl rfl (fun p_6 => ?_)
        refine l_val rfl rfl rfl (r_assign (v := .slice p_6.1 l36.length p_6.2) rfl) ?_
        refine l_nil ?_
        refine c_region ?_
        obtain ⟨t37, h_t37, H71⟩ := bnd_some H70; clear H70
        refine l_val rfl rfl rfl (r_addG rfl rfl h_t37) ?_
        refine l_val rfl rfl rfl (r_move (v := .int .i64 t37) rfl) ?_
        refine l_nil ?_
        refine c_close (t37, l36) p_6 m4 [0] (by exact ⟨rfl, rfl, rfl, rfl, rfl, rfl, trivial⟩) (by decide) rfl (by exact ⟨(by subst hn4; exact H71), trivial⟩) (Nat.lt_succ_self _)
      · have H72 := cnd_f hb H65; clear H65
        refine c_exit ?_
        refine c_close l_6 p_5 0 [0] (by exact ⟨rfl, rfl, rfl, trivial⟩) (by decide) rfl (by exact ⟨H72, trivial⟩) (Nat.lt_succ_self _)
    · rintro l p gg H53 _
      replace H53 : edit_Differ_j1 a1 t22 l = some r := H53
      refine c_tidyF [(1, v1), (7, .int .i64 t22), (8, .slice p.1 l.length p.2)] [rowV 9 1 (.slice p.1 l.length p.2) l.length (l.map e_string)] rfl rfl ?_
      refine c_meet (r := r) (σ := (List (List UInt8))) (τ := (Option Addr × Nat)) (fun s => edit_Differ_j2 s) (fun s t => [(8, .slice t.1 s.length t.2)]) (fun s t => [rowV 9 1 (.slice t.1 s.length t.2) s.length (s.map e_string)]) (fun s t => True) ?_ ?_
      · refine c_seq ?_
        refine c_region ?_
        refine l_val rfl rfl rfl (r_move (v := v1) rfl) ?_
        refine l_val rfl rfl rfl (r_move (v := .int .i64 t22) rfl) ?_
        obtain ⟨t40, h_t40, H55⟩ := bnd_some H53; clear H53
        refine l_val rfl rfl rfl (r_sliceLF Tryd.underlying22 Tryd.sizeOf35 rfl rfl f1 h_t40) ?_
        refine l_val rfl rfl rfl (r_lenF Tryd.underlying22 rfl (f1.cut h_t40) rfl) ?_
        refine l_val rfl rfl rfl (r_move (v := .int .i64 0) rfl) ?_
        refine l_nil ?_
        refine c_block ?_
        refine c_fix (σ := Int × (List (List UInt8))) (τ := (Option Addr × Nat)) (fun next3 s => edit_Differ_l3 t40 next3 s.1 s.2) (fun s t => [(8, .slice t.1 s.2.length t.2), (40, (cutV 5 v1 t22 a1.length)), (41, .int .i64 (t40.length : Int)), (42, .int .i64 s.1)]) (fun s t => [rowV 9 1 (.slice t.1 s.2.length t.2) s.2.length (s.2.map e_string)]) (fun s t => True) (0, l) p [0] H55 (by exact trivial) (by exact ⟨rfl, rfl, rfl, rfl, trivial⟩) (by decide) rfl ?_
        rintro ⟨x42_2, l_4⟩ p_3 m3 gg H56 _
        clear H55
        replace H56 : edit_Differ_l3 t40 (it (fun next3 s => edit_Differ_l3 t40 next3 s.1 s.2) m3) x42_2 l_4 = some r := H56
        generalize hn3 : it (fun next3 s => edit_Differ_l3 t40 next3 s.1 s.2) m3 = next3 at H56
        refine c_tidyF [(8, .slice p_3.1 l_4.length p_3.2), (40, (cutV 5 v1 t22 a1.length)), (41, .int .i64 (t40.length : Int)), (42, .int .i64 x42_2)] [rowV 9 1 (.slice p_3.1 l_4.length p_3.2) l_4.length (l_4.map e_string)] rfl rfl ?_
        refine c_seq ?_
        refine c_region ?_
        refine l_val rfl rfl rfl (r_lss rfl rfl) ?_
        refine l_nil ?_
        refine c_seq ?_
        refine c_if (b := (decide (x42_2 < (t40.length : Int)))) rfl (fun hb => ?_) (fun hb => ?_)
        · have H57 := cnd_t hb H56; clear H56
          refine c_skip ?_
          refine c_seq ?_
          refine c_block ?_
          refine c_seq ?_
          refine c_region ?_
          obtain ⟨t44, h_t44, H58⟩ := bnd_some H57; clear H57
          refine l_val rfl rfl rfl (r_indexF Tryd.underlying22 Tryd.sizeOf35 rfl rfl (f1.cut h_t40) h_t44) ?_
          refine l_read (fun w hF hS => run_loadGN (f := e_edit_Step) (i := x42_2) (sz := 5) (j := 0) (vs := [.int .i64 t44.Kind, .int .i64 t44.A, .int .i64 t44.B, .int .i64 t44.C, .int .i64 t44.D]) Tryd.isAgg35 Tryd.sizeOf35 rfl rfl ((f1.cut h_t40).row (hw.now hF)) h_t44 rfl) rfl rfl rfl ?_
          refine l_alloc (cs := [.int .i64 0, .int .i64 0, .int .i64 0, .int .i64 0, .int .i64 0]) Tryd.zeroValue35 rfl rfl rfl (fun b11 => ?_)
          refine l_store (i := 1) (vs := [.int .i64 t44.Kind, .int .i64 t44.A, .int .i64 t44.B, .int .i64 t44.C, .int .i64 t44.D]) (cs' := [.int .i64 t44.Kind, .int .i64 t44.A, .int .i64 t44.B, .int .i64 t44.C, .int .i64 t44.D]) Tryd.sizeOf35 rfl rfl rfl rfl rfl rfl rfl rfl rfl ?_
          refine l_nil ?_
          refine c_region ?_
          refine l_val rfl rfl rfl (r_move (v := .slice p_3.1 l_4.length p_3.2) rfl) ?_
          refine l_loadN (i := 1) (vs := [.int .i64 t44.Kind, .int .i64 t44.A, .int .i64 t44.B, .int .i64 t44.C, .int .i64 t44.D]) Tryd.isAgg35 Tryd.sizeOf35 rfl rfl rfl rfl rfl ?_
          obtain ⟨t48, h_t48, H59⟩ := bnd_some H58; clear H58
          refine l_callG (fun w hF hS => k57 (know_all w) (tb_pow10.mono (hw.now hF)) h_t48) Tryd.call57 rfl rfl rfl ?_
          obtain ⟨t49, h_t49, H60⟩ := bnd_some H59; clear H59
          refine l_val rfl rfl rfl (r_concatG rfl rfl h_t49) ?_
          refine l_buildSlice (vs := [str t49]) (cs := [str t49]) Tryd.underlying28 Tryd.sizeOf9 Tryd.zeroValue9 rfl rfl rfl rfl rfl rfl rfl (fun b12 => ?_)
          obtain ⟨l51, h_l51, H61⟩ := bnd_some H60; clear H60
          refine l_turn (turns_appG (i := 0) (hn := rfl) (rds := [2]) (p := p_3) (sz := 1) (by_ := 16) (f := e_string) (ys := l_4) (ls := ([t49] : List (List UInt8))) (V := .slice (some ⟨b12, 0, none⟩) 1 1) Tryd.underlying28 (info_of Tryd.typeInfo9) rfl rfl rfl rfl rfl rfl rfl rfl rfl rfl (fun w L' hF hS hi => row_box (i := 2) hS ((hi 2 (by simp)).trans rfl) rfl rfl) (fun _ => rfl) (fun _ => rfl) h_l51) rfl rfl rfl (fun p_4 => ?_)
          refine l_val rfl rfl rfl (r_assign (v := .slice p_4.1 l51.length p_4.2) rfl) ?_
          refine l_nil ?_
          refine c_region ?_
          obtain ⟨t52, h_t52, H62⟩ := bnd_some H61; clear H61
          refine l_val rfl rfl rfl (r_addG rfl rfl h_t52) ?_
          refine l_val rfl rfl rfl (r_move (v := .int .i64 t52) rfl) ?_
          refine l_nil ?_
          refine c_close (t52, l51) p_4 m3 [0] (by exact ⟨rfl, rfl, rfl, rfl, trivial⟩) (by decide) rfl (by exact ⟨(by subst hn3; exact H62), trivial⟩) (Nat.lt_succ_self _)
        · have H63 := cnd_f hb H56; clear H56
          refine c_exit ?_
          refine c_close l_4 p_3 0 [0] (by exact ⟨rfl, trivial⟩) (by decide) rfl (by exact ⟨H63, trivial⟩) (Nat.lt_succ_self _)
      · rintro l_2 p_2 gg H54 _
        replace H54 : edit_Differ_j2 l_2 = some r := H54
        refine c_tidyF [(8, .slice p_2.1 l_2.length p_2.2)] [rowV 9 1 (.slice p_2.1 l_2.length p_2.2) l_2.length (l_2.map e_string)] rfl rfl ?_
        refine c_seq ?_
        refine c_region ?_
        refine l_val rfl rfl rfl (r_move (v := .slice p_2.1 l_2.length p_2.2) rfl) ?_
        refine l_callG (fun w hF hS => k58 (capOf (i := 0) hS rfl) w) Tryd.call58 rfl rfl rfl ?_
        refine l_val rfl rfl rfl (r_assign (v := .slice (cutA p_2.1 0 l_2.length 1) l_2.length l_2.length) rfl) ?_
        refine l_val rfl rfl rfl (r_assign (v := .int .i64 0) rfl) ?_
        refine l_nil ?_
        refine c_ret ?_
        obtain rfl := Option.some.inj H54
        refine c_imp 0 rfl (imp_clipO _ _ _ _ _ _) ?_
        refine ret2 (v1 := .slice (cutA p_2.1 0 l_2.length 1) l_2.length l_2.length) (v2 := .int .i64 0) rfl rfl rfl (finX (cutA p_2.1 0 l_2.length 1, l_2.length) (i := 0) rfl rfl (Imp.refl _))
theorem k59 {a0 : T_edit_Step} {r : Bool} (H : R_Shaped a0 = some r) : Ret Tryd.prog 59 [.agg #[.int .i64 a0.Kind, .int .i64 a0.A, .int .i64 a0.B, .int .i64 a0.C, .int .i64 a0.D]] (.bool r) := by
  refine enterRet (n := 11) Tryd.func59 rfl rfl rfl (fun wd => ?_)
  refine c_seq ?_
  refine c_region ?_
  refine l_box (cs := [.int .i64 a0.Kind, .int .i64 a0.A, .int .i64 a0.B, .int .i64 a0.C, .int .i64 a0.D]) rfl rfl rfl rfl (fun b1 => ?_)
  refine l_val rfl rfl rfl (r_assign (v := .bool false) rfl) ?_
  refine l_nil ?_
  refine c_seq ?_
  refine c_region ?_
  refine l_val rfl rfl rfl (r_field Tryd.runUnderlying35 rfl Tryd.sizeOf3 rfl rfl) ?_
  refine l_load1 (i := 0) (v := .int .i64 a0.Kind) Tryd.isAgg3 rfl rfl rfl rfl rfl ?_
  refine l_val rfl rfl rfl (r_geq rfl rfl) ?_
  refine l_val rfl rfl rfl (r_move (v := .bool (decide (1 ≤ a0.Kind))) rfl) ?_
  refine split (fun hb => ?_) (fun hb => ?_)
  · have H3 := cnd_t hb H; clear H
    refine l_val rfl rfl rfl (r_field Tryd.runUnderlying35 rfl Tryd.sizeOf3 rfl rfl) ?_
    refine l_load1 (i := 0) (v := .int .i64 a0.Kind) Tryd.isAgg3 rfl rfl rfl rfl rfl ?_
    refine l_val rfl rfl rfl (r_leq rfl rfl) ?_
    refine l_val rfl rfl rfl (r_pickT (v := .bool (decide (a0.Kind ≤ 3))) rfl rfl) ?_
    refine l_val rfl rfl rfl (r_assign (v := .bool (decide (a0.Kind ≤ 3))) rfl) ?_
    refine l_nil ?_
    refine c_ret ?_
    obtain rfl := Option.some.inj H3
    refine ret1 (v := .bool (decide (a0.Kind ≤ 3))) rfl rfl (fin rfl)
  · have H4 := cnd_f hb H; clear H
    refine l_passed rfl rfl rfl ?_
    refine l_passed rfl rfl rfl ?_
    refine l_passed rfl rfl rfl ?_
    refine l_val rfl rfl rfl (r_pickF (v := .bool false) rfl rfl) ?_
    refine l_val rfl rfl rfl (r_assign (v := .bool false) rfl) ?_
    refine l_nil ?_
    refine c_ret ?_
    obtain rfl := Option.some.inj H4
    refine ret1 (v := .bool false) rfl rfl (fin rfl)
theorem k12 {a0 : (List T_edit_Step)} {v0 : Value} {r : (List T_edit_Step) × (List T_edit_Step)} {w : World} {h : Heap} (hw : Know h w noS) (f0 : FrS h 5 v0 (a0.map e_edit_Step)) (H : R_Parted a0 = some r) : Does Tryd.prog 12 (List.toArray [v0]) w (fun v w' => ∃ x : (Option Addr × Nat) × (Option Addr × Nat), v = (.tuple #[.slice x.1.1 r.1.length x.1.2, .slice x.2.1 r.2.length x.2.2]) ∧ Turn w w' noS (bothC (rowV 35 5 (.slice x.1.1 r.1.length x.1.2) r.1.length (r.1.map e_edit_Step)) (rowV 35 5 (.slice x.2.1 r.2.length x.2.2) r.2.length (r.2.map e_edit_Step)))) := by
  refine enter (n := 25) Tryd.func12 rfl rfl rfl noS [] (Sat.nil _ _) ?_
  refine c_seq ?_
  refine c_region ?_
  refine l_val rfl rfl rfl (r_assign (v := .slice none 0 0) rfl) ?_
  refine l_val rfl rfl rfl (r_assign (v := .slice none 0 0) rfl) ?_
  refine l_nil ?_
  refine c_meet (r := r) (σ := (List T_edit_Step) × (List T_edit_Step)) (τ := (Option Addr × Nat) × (Option Addr × Nat)) (fun s => R_Parted_j1 s.1 s.2) (fun s t => [(2, .slice t.1.1 s.1.length t.1.2), (3, .slice t.2.1 s.2.length t.2.2)]) (fun s t => [rowV 35 5 (.slice t.1.1 s.1.length t.1.2) s.1.length (s.1.map e_edit_Step), rowV 35 5 (.slice t.2.1 s.2.length t.2.2) s.2.length (s.2.map e_edit_Step)]) (fun s t => True) ?_ ?_
  · refine c_seq ?_
    refine c_region ?_
    refine l_val rfl rfl rfl (r_move (v := v0) rfl) ?_
    refine l_val rfl rfl rfl (r_lenF Tryd.underlying22 rfl f0 rfl) ?_
    refine l_val rfl rfl rfl (r_move (v := .int .i64 0) rfl) ?_
    refine l_nil ?_
    refine c_block ?_
    refine c_nilRow 35 5 ?_
    refine c_nilRow 35 5 ?_
    refine c_fix (σ := Int × (List T_edit_Step) × (List T_edit_Step)) (τ := (Option Addr × Nat) × (Option Addr × Nat)) (fun next2 s => R_Parted_l2 a0 next2 s.1 s.2.1 s.2.2) (fun s t => [(2, .slice t.1.1 s.2.1.length t.1.2), (3, .slice t.2.1 s.2.2.length t.2.2), (6, v0), (7, .int .i64 (a0.length : Int)), (8, .int .i64 s.1)]) (fun s t => [rowV 35 5 (.slice t.1.1 s.2.1.length t.1.2) s.2.1.length (s.2.1.map e_edit_Step), rowV 35 5 (.slice t.2.1 s.2.2.length t.2.2) s.2.2.length (s.2.2.map e_edit_Step)]) (fun s t => True) (0, ([] : List T_edit_Step), ([] : List T_edit_Step)) (((none, 0) : Option Addr × Nat), ((none, 0) : Option Addr × Nat)) [0, 1] H (by exact trivial) (by exact ⟨rfl, rfl, rfl, rfl, rfl, trivial⟩) (by decide) rfl ?_
    rintro ⟨x8_2, l_5, l_6⟩ ⟨p_3, p_4⟩ m2 gg H14 _
    clear H
    replace H14 : R_Parted_l2 a0 (it (fun next2 s => R_Parted_l2 a0 next2 s.1 s.2.1 s.2.2) m2) x8_2 l_5 l_6 = some r := H14
    generalize hn2 : it (fun next2 s => R_Parted_l2 a0 next2 s.1 s.2.1 s.2.2) m2 = next2 at H14
    refine c_tidyF [(2, .slice p_3.1 l_5.length p_3.2), (3, .slice p_4.1 l_6.length p_4.2), (6, v0), (7, .int .i64 (a0.length : Int)), (8, .int .i64 x8_2)] [rowV 35 5 (.slice p_3.1 l_5.length p_3.2) l_5.length (l_5.map e_edit_Step), rowV 35 5 (.slice p_4.1 l_6.length p_4.2) l_6.length (l_6.map e_edit_Step)] rfl rfl ?_
    refine c_seq ?_
    refine c_region ?_
    refine l_val rfl rfl rfl (r_lss rfl rfl) ?_
    refine l_nil ?_
    refine c_seq ?_
    refine c_if (b := (decide (x8_2 < (a0.length : Int)))) rfl (fun hb => ?_) (fun hb => ?_)
    · have H15 := cnd_t hb H14; clear H14
      refine c_skip ?_
      refine c_meet (r := r) (σ := (List T_edit_Step) × (List T_edit_Step)) (τ := (Option Addr × Nat) × (Option Addr × Nat)) (fun s => R_Parted_j3 x8_2 next2 s.1 s.2) (fun s t => [(2, .slice t.1.1 s.1.length t.1.2), (3, .slice t.2.1 s.2.length t.2.2), (6, v0), (7, .int .i64 (a0.length : Int)), (8, .int .i64 x8_2)]) (fun s t => [rowV 35 5 (.slice t.1.1 s.1.length t.1.2) s.1.length (s.1.map e_edit_Step), rowV 35 5 (.slice t.2.1 s.2.length t.2.2) s.2.length (s.2.map e_edit_Step)]) (fun s t => True) ?_ ?_
      · refine c_block ?_
        refine c_seq ?_
        refine c_region ?_
        obtain ⟨t10, h_t10, H18⟩ := bnd_some H15; clear H15
        refine l_val rfl rfl rfl (r_indexF Tryd.underlying22 Tryd.sizeOf35 rfl rfl f0 h_t10) ?_
        refine l_read (fun w hF hS => run_loadGN (f := e_edit_Step) (i := x8_2) (sz := 5) (j := 0) (vs := [.int .i64 t10.Kind, .int .i64 t10.A, .int .i64 t10.B, .int .i64 t10.C, .int .i64 t10.D]) Tryd.isAgg35 Tryd.sizeOf35 rfl rfl (f0.row (hw.now hF)) h_t10 rfl) rfl rfl rfl ?_
        refine l_alloc (cs := [.int .i64 0, .int .i64 0, .int .i64 0, .int .i64 0, .int .i64 0]) Tryd.zeroValue35 rfl rfl rfl (fun b3 => ?_)
        refine l_store (i := 2) (vs := [.int .i64 t10.Kind, .int .i64 t10.A, .int .i64 t10.B, .int .i64 t10.C, .int .i64 t10.D]) (cs' := [.int .i64 t10.Kind, .int .i64 t10.A, .int .i64 t10.B, .int .i64 t10.C, .int .i64 t10.D]) Tryd.sizeOf35 rfl rfl rfl rfl rfl rfl rfl rfl rfl ?_
        refine l_nil ?_
        refine c_seq ?_
        refine c_region ?_
        refine l_loadN (i := 2) (vs := [.int .i64 t10.Kind, .int .i64 t10.A, .int .i64 t10.B, .int .i64 t10.C, .int .i64 t10.D]) Tryd.isAgg35 Tryd.sizeOf35 rfl rfl rfl rfl rfl ?_
        obtain ⟨t13, h_t13, H19⟩ := bnd_some H18; clear H18
        refine l_call (k59 h_t13) Tryd.call59 rfl rfl rfl ?_
        refine l_nil ?_
        refine c_if (b := t13) rfl (fun hb => ?_) (fun hb => ?_)
        · have H20 := cnd_t hb H19; clear H19
          refine c_region ?_
          refine l_val rfl rfl rfl (r_move (v := .slice p_3.1 l_5.length p_3.2) rfl) ?_
          refine l_loadN (i := 2) (vs := [.int .i64 t10.Kind, .int .i64 t10.A, .int .i64 t10.B, .int .i64 t10.C, .int .i64 t10.D]) Tryd.isAgg35 Tryd.sizeOf35 rfl rfl rfl rfl rfl ?_
          refine l_buildSlice (vs := [.agg #[.int .i64 t10.Kind, .int .i64 t10.A, .int .i64 t10.B, .int .i64 t10.C, .int .i64 t10.D]]) (cs := [.int .i64 t10.Kind, .int .i64 t10.A, .int .i64 t10.B, .int .i64 t10.C, .int .i64 t10.D]) Tryd.underlying22 Tryd.sizeOf35 Tryd.zeroValue35 rfl rfl rfl rfl rfl rfl rfl (fun b4 => ?_)
          obtain ⟨l17, h_l17, H21⟩ := bnd_some H20; clear H20
          refine l_turn (turns_appG (i := 0) (hn := rfl) (rds := [3]) (p := p_3) (sz := 5) (by_ := 40) (f := e_edit_Step) (ys := l_5) (ls := ([t10] : List T_edit_Step)) (V := .slice (some ⟨b4, 0, none⟩) 1 1) Tryd.underlying22 (info_of Tryd.typeInfo35) rfl rfl rfl rfl rfl rfl rfl rfl rfl rfl (fun w L' hF hS hi => row_box (i := 3) hS ((hi 3 (by simp)).trans rfl) rfl rfl) (fun _ => rfl) (fun _ => rfl) h_l17) rfl rfl rfl (fun p_7 => ?_)
          refine l_val rfl rfl rfl (r_assign (v := .slice p_7.1 l17.length p_7.2) rfl) ?_
          refine l_nil ?_
          refine c_close (l17, l_6) (p_7, p_4) 0 [0, 1] (by exact ⟨rfl, rfl, rfl, rfl, rfl, trivial⟩) (by decide) rfl (by exact ⟨H21, trivial⟩) (Nat.lt_succ_self _)
        · have H22 := cnd_f hb H19; clear H19
          refine c_region ?_
          refine l_val rfl rfl rfl (r_move (v := .slice p_4.1 l_6.length p_4.2) rfl) ?_
          refine l_loadN (i := 2) (vs := [.int .i64 t10.Kind, .int .i64 t10.A, .int .i64 t10.B, .int .i64 t10.C, .int .i64 t10.D]) Tryd.isAgg35 Tryd.sizeOf35 rfl rfl rfl rfl rfl ?_
          refine l_buildSlice (vs := [.agg #[.int .i64 t10.Kind, .int .i64 t10.A, .int .i64 t10.B, .int .i64 t10.C, .int .i64 t10.D]]) (cs := [.int .i64 t10.Kind, .int .i64 t10.A, .int .i64 t10.B, .int .i64 t10.C, .int .i64 t10.D]) Tryd.underlying22 Tryd.sizeOf35 Tryd.zeroValue35 rfl rfl rfl rfl rfl rfl rfl (fun b5 => ?_)
          obtain ⟨l21, h_l21, H23⟩ := bnd_some H22; clear H22
          refine l_turn (turns_appG (i := 1) (hn := rfl) (rds := [3]) (p := p_4) (sz := 5) (by_ := 40) (f := e_edit_Step) (ys := l_6) (ls := ([t10] : List T_edit_Step)) (V := .slice (some ⟨b5, 0, none⟩) 1 1) Tryd.underlying22 (info_of Tryd.typeInfo35) rfl rfl rfl rfl rfl rfl rfl rfl rfl rfl (fun w L' hF hS hi => row_box (i := 3) hS ((hi 3 (by simp)).trans rfl) rfl rfl) (fun _ => rfl) (fun _ => rfl) h_l21) rfl rfl rfl (fun p_8 => ?_)
          refine l_val rfl rfl rfl (r_assign (v := .slice p_8.1 l21.length p_8.2) rfl) ?_
          refine l_nil ?_
          refine c_close (l_5, l21) (p_3, p_8) 0 [0, 1] (by exact ⟨rfl, rfl, rfl, rfl, rfl, trivial⟩) (by decide) rfl (by exact ⟨H23, trivial⟩) (Nat.lt_succ_self _)
      · rintro ⟨l_7, l_8⟩ ⟨p_5, p_6⟩ gg H16 _
        replace H16 : R_Parted_j3 x8_2 next2 l_7 l_8 = some r := H16
        refine c_tidyF [(2, .slice p_5.1 l_7.length p_5.2), (3, .slice p_6.1 l_8.length p_6.2), (6, v0), (7, .int .i64 (a0.length : Int)), (8, .int .i64 x8_2)] [rowV 35 5 (.slice p_5.1 l_7.length p_5.2) l_7.length (l_7.map e_edit_Step), rowV 35 5 (.slice p_6.1 l_8.length p_6.2) l_8.length (l_8.map e_edit_Step)] rfl rfl ?_
        refine c_region ?_
        obtain ⟨t22, h_t22, H17⟩ := bnd_some H16; clear H16
        refine l_val rfl rfl rfl (r_addG rfl rfl h_t22) ?_
        refine l_val rfl rfl rfl (r_move (v := .int .i64 t22) rfl) ?_
        refine l_nil ?_
        refine c_close (t22, l_7, l_8) (p_5, p_6) m2 [0, 1] (by exact ⟨rfl, rfl, rfl, rfl, rfl, trivial⟩) (by decide) rfl (by exact ⟨(by subst hn2; exact H17), trivial⟩) (Nat.lt_succ_self _)
    · have H24 := cnd_f hb H14; clear H14
      refine c_exit ?_
      refine c_close (l_5, l_6) (p_3, p_4) 0 [0, 1] (by exact ⟨rfl, rfl, trivial⟩) (by decide) rfl (by exact ⟨H24, trivial⟩) (Nat.lt_succ_self _)
  · rintro ⟨l, l_2⟩ ⟨p, p_2⟩ gg H13 _
    replace H13 : R_Parted_j1 l l_2 = some r := H13
    refine c_tidyF [(2, .slice p.1 l.length p.2), (3, .slice p_2.1 l_2.length p_2.2)] [rowV 35 5 (.slice p.1 l.length p.2) l.length (l.map e_edit_Step), rowV 35 5 (.slice p_2.1 l_2.length p_2.2) l_2.length (l_2.map e_edit_Step)] rfl rfl ?_
    refine c_seq ?_
    refine c_region ?_
    refine l_val rfl rfl rfl (r_move (v := .slice p.1 l.length p.2) rfl) ?_
    refine l_val rfl rfl rfl (r_move (v := .slice p_2.1 l_2.length p_2.2) rfl) ?_
    refine l_val rfl rfl rfl (r_assign (v := .slice p.1 l.length p.2) rfl) ?_
    refine l_val rfl rfl rfl (r_assign (v := .slice p_2.1 l_2.length p_2.2) rfl) ?_
    refine l_nil ?_
    refine c_ret ?_
    obtain rfl := Option.some.inj H13
    refine c_both 0 1 rfl rfl (by decide) ?_
    refine ret2 (v1 := .slice p.1 l.length p.2) (v2 := .slice p_2.1 l_2.length p_2.2) rfl rfl rfl (finX (p, p_2) (i := 0) rfl rfl (Imp.refl _))
theorem k14 {a0 : Bool} {a1 : Int} {r : Int} (H : Law_unless a0 a1 = some r) : Ret Tryd.prog 14 [.bool a0, .int .i64 a1] (.int .i64 r) := by
  refine enterRet (n := 7) Tryd.func14 rfl rfl rfl (fun wd => ?_)
  refine c_seq ?_
  refine c_region ?_
  refine l_val rfl rfl rfl (r_assign (v := .int .i64 0) rfl) ?_
  refine l_nil ?_
  refine c_seq ?_
  refine c_seq ?_
  refine c_region ?_
  refine l_val rfl rfl rfl (r_move (v := .bool a0) rfl) ?_
  refine l_nil ?_
  refine c_if (b := a0) rfl (fun hb => ?_) (fun hb => ?_)
  · have H3 := cnd_t hb H; clear H
    refine c_seq ?_
    refine c_region ?_
    refine l_val rfl rfl rfl (r_assign (v := .int .i64 0) rfl) ?_
    refine l_nil ?_
    refine c_ret ?_
    obtain rfl := Option.some.inj H3
    refine ret1 (v := .int .i64 0) rfl rfl (fin rfl)
  · have H4 := cnd_f hb H; clear H
    refine c_skip ?_
    refine c_seq ?_
    refine c_region ?_
    refine l_val rfl rfl rfl (r_move (v := .int .i64 a1) rfl) ?_
    refine l_val rfl rfl rfl (r_assign (v := .int .i64 a1) rfl) ?_
    refine l_nil ?_
    refine c_ret ?_
    obtain rfl := Option.some.inj H4
    refine ret1 (v := .int .i64 a1) rfl rfl (fin rfl)
theorem k17 {a0 : (List T_edit_Step)} {v0 : Value} {a1 : (List T_edit_Step)} {v1 : Value} {r : Int} {w : World} {h : Heap} (hw : Know h w noS) (f0 : FrS h 5 v0 (a0.map e_edit_Step)) (f1 : FrS h 5 v1 (a1.map e_edit_Step)) (H : R_CommonOf a0 a1 = some r) : Does Tryd.prog 17 (List.toArray [v0, v1]) w (fun v w' => v = (.int .i64 r) ∧ Grow w w') := by
  refine enter (n := 30) Tryd.func17 rfl rfl rfl noS [] (Sat.nil _ _) ?_
  refine c_seq ?_
  refine c_region ?_
  refine l_val rfl rfl rfl (r_assign (v := .int .i64 0) rfl) ?_
  refine l_nil ?_
  refine c_seq ?_
  refine c_region ?_
  refine l_val rfl rfl rfl (r_assign (v := .int .i64 0) rfl) ?_
  refine l_nil ?_
  refine c_seq ?_
  refine c_block ?_
  refine c_fix (σ := Int) (τ := Unit) (fun next1 s => R_CommonOf_l1 a0 a1 next1 s) (fun s t => [(0, v0), (1, v1), (5, .int .i64 s)]) (fun s t => []) (fun s t => True) 0 () [] H (by exact trivial) (by exact ⟨rfl, rfl, rfl, trivial⟩) (by decide) rfl ?_
  rintro x5_2 _ m1 gg H11 _
  clear H
  replace H11 : R_CommonOf_l1 a0 a1 (it (fun next1 s => R_CommonOf_l1 a0 a1 next1 s) m1) x5_2 = some r := H11
  generalize hn1 : it (fun next1 s => R_CommonOf_l1 a0 a1 next1 s) m1 = next1 at H11
  refine c_tidyF [(0, v0), (1, v1), (5, .int .i64 x5_2)] [] rfl rfl ?_
  refine c_seq ?_
  refine c_seq ?_
  exact c_regionD (Kd.p :: Kd.p :: Kd.p :: Kd.p :: Kd.p :: Kd.p :: Kd.p :: Kd.p :: Kd.p :: Kd.p :: Kd.p :: Kd.p :: Kd.p :: Kd.p :: Kd.d [] _ :: Kd.p :: Kd.p :: Kd.p :: Kd.d [] _ :: Kd.p :: Kd.p :: []) 0 mixed (by
    refine d_val rfl rfl (r_move (v := .int .i64 x5_2) rfl) ?_
    refine d_val rfl rfl (r_move (v := v0) rfl) ?_
    refine d_val rfl rfl (r_lenF Tryd.underlying22 rfl f0 rfl) ?_
    refine d_val rfl rfl (r_lss rfl rfl) ?_
    refine d_val rfl rfl (r_move (v := .bool (decide (x5_2 < (a0.length : Int)))) rfl) ?_
    refine splitS (fun hb => ?_) (fun hb => ?_)
    · have H12 := cnd_t hb H11
      refine d_val rfl rfl (r_move (v := .int .i64 x5_2) rfl) ?_
      refine d_val rfl rfl (r_move (v := v1) rfl) ?_
      refine d_val rfl rfl (r_lenF Tryd.underlying22 rfl f1 rfl) ?_
      refine d_val rfl rfl (r_lss rfl rfl) ?_
      refine d_val rfl rfl (r_pickT (v := .bool (decide (x5_2 < (a1.length : Int)))) rfl rfl) ?_
      refine d_val rfl rfl (r_move (v := .bool (decide (x5_2 < (a1.length : Int)))) rfl) ?_
      refine splitS (fun hb => ?_) (fun hb => ?_)
      · have H13 := cnd_t hb H12
        refine d_val rfl rfl (r_move (v := v0) rfl) ?_
        refine d_val rfl rfl (r_move (v := .int .i64 x5_2) rfl) ?_
        have h_t19 := bnd_val H13
        have H14 := bnd_rest H13
        refine d_val rfl rfl (r_indexF Tryd.underlying22 Tryd.sizeOf35 rfl rfl f0 h_t19) ?_
        refine d_read (fun w hF => run_loadGN (f := e_edit_Step) (i := x5_2) (sz := 5) (j := 0) (vs := [.int .i64 (val (gAt a0 x5_2)).Kind, .int .i64 (val (gAt a0 x5_2)).A, .int .i64 (val (gAt a0 x5_2)).B, .int .i64 (val (gAt a0 x5_2)).C, .int .i64 (val (gAt a0 x5_2)).D]) Tryd.isAgg35 Tryd.sizeOf35 rfl rfl (f0.row (hw.now hF)) h_t19 rfl) rfl rfl ?_
        refine d_val rfl rfl (r_move (v := v1) rfl) ?_
        refine d_val rfl rfl (r_move (v := .int .i64 x5_2) rfl) ?_
        have h_t23 := bnd_val H14
        have H15 := bnd_rest H14
        refine d_val rfl rfl (r_indexF Tryd.underlying22 Tryd.sizeOf35 rfl rfl f1 h_t23) ?_
        refine d_read (fun w hF => run_loadGN (f := e_edit_Step) (i := x5_2) (sz := 5) (j := 0) (vs := [.int .i64 (val (gAt a1 x5_2)).Kind, .int .i64 (val (gAt a1 x5_2)).A, .int .i64 (val (gAt a1 x5_2)).B, .int .i64 (val (gAt a1 x5_2)).C, .int .i64 (val (gAt a1 x5_2)).D]) Tryd.isAgg35 Tryd.sizeOf35 rfl rfl (f1.row (hw.now hF)) h_t23 rfl) rfl rfl ?_
        refine d_val rfl rfl (r_eqlA (xs := #[.int .i64 (val (gAt a0 x5_2)).Kind, .int .i64 (val (gAt a0 x5_2)).A, .int .i64 (val (gAt a0 x5_2)).B, .int .i64 (val (gAt a0 x5_2)).C, .int .i64 (val (gAt a0 x5_2)).D]) (ys := #[.int .i64 (val (gAt a1 x5_2)).Kind, .int .i64 (val (gAt a1 x5_2)).A, .int .i64 (val (gAt a1 x5_2)).B, .int .i64 (val (gAt a1 x5_2)).C, .int .i64 (val (gAt a1 x5_2)).D]) Tryd.eqGuardType35 (fun w => run_eq_edit_Step w (val (gAt a0 x5_2)) (val (gAt a1 x5_2))) rfl rfl) ?_
        refine d_val rfl rfl (r_pickT (v := .bool (eq_edit_Step (val (gAt a0 x5_2)) (val (gAt a1 x5_2)))) rfl rfl) ?_
        refine d_nil ?_
        refine c_if (b := (eq_edit_Step (val (gAt a0 x5_2)) (val (gAt a1 x5_2)))) rfl (fun hb => ?_) (fun hb => ?_)
        · have H16 := cnd_t hb H15; clear H15
          refine c_skip ?_
          refine c_block ?_
          refine c_region ?_
          refine l_val rfl rfl rfl (r_move (v := .int .i64 x5_2) rfl) ?_
          obtain ⟨t28, h_t28, H17⟩ := bnd_some H16; clear H16
          refine l_val rfl rfl rfl (r_addG rfl rfl h_t28) ?_
          refine l_val rfl rfl rfl (r_assign (v := .int .i64 t28) rfl) ?_
          refine l_nil ?_
          refine c_close t28 () m1 [] (by exact ⟨rfl, rfl, rfl, trivial⟩) (by decide) rfl (by exact ⟨(by subst hn1; exact H17), trivial⟩) (Nat.lt_succ_self _)
        · have H18 := cnd_f hb H15; clear H15
          refine c_exit ?_
          refine c_seq ?_
          refine c_region ?_
          refine l_val rfl rfl rfl (r_move (v := .int .i64 x5_2) rfl) ?_
          refine l_val rfl rfl rfl (r_assign (v := .int .i64 x5_2) rfl) ?_
          refine l_nil ?_
          refine c_ret ?_
          obtain rfl := Option.some.inj H18
          refine ret1 (v := .int .i64 x5_2) rfl rfl (fin rfl)
      · have H19 := cnd_f hb H12
        refine d_pass rfl rfl ?_
        refine d_pass rfl rfl ?_
        refine d_pass rfl rfl ?_
        refine d_pass rfl rfl ?_
        refine d_pass rfl rfl ?_
        refine d_pass rfl rfl ?_
        refine d_pass rfl rfl ?_
        refine d_pass rfl rfl ?_
        refine d_pass rfl rfl ?_
        refine d_val rfl rfl (r_pickF (v := .bool false) rfl rfl) ?_
        refine d_nil ?_
        refine c_false rfl ?_
        refine c_exit ?_
        refine c_seq ?_
        refine c_region ?_
        refine l_val rfl rfl rfl (r_move (v := .int .i64 x5_2) rfl) ?_
        refine l_val rfl rfl rfl (r_assign (v := .int .i64 x5_2) rfl) ?_
        refine l_nil ?_
        refine c_ret ?_
        obtain rfl := Option.some.inj H19
        refine ret1 (v := .int .i64 x5_2) rfl rfl (fin rfl)
    · have H20 := cnd_f hb H11
      refine d_pass rfl rfl ?_
      refine d_pass rfl rfl ?_
      refine d_pass rfl rfl ?_
      refine d_pass rfl rfl ?_
      refine d_val rfl rfl (r_pickF (v := .bool false) rfl rfl) ?_
      refine d_val rfl rfl (r_move (v := .bool false) rfl) ?_
      refine d_pass rfl rfl ?_
      refine d_pass rfl rfl ?_
      refine d_pass rfl rfl ?_
      refine d_pass rfl rfl ?_
      refine d_pass rfl rfl ?_
      refine d_pass rfl rfl ?_
      refine d_pass rfl rfl ?_
      refine d_pass rfl rfl ?_
      refine d_pass rfl rfl ?_
      refine d_val rfl rfl (r_pickF (v := .bool false) rfl rfl) ?_
      refine d_nil ?_
      refine c_false rfl ?_
      refine c_exit ?_
      refine c_seq ?_
      refine c_region ?_
      refine l_val rfl rfl rfl (r_move (v := .int .i64 x5_2) rfl) ?_
      refine l_val rfl rfl rfl (r_assign (v := .int .i64 x5_2) rfl) ?_
      refine l_nil ?_
      refine c_ret ?_
      obtain rfl := Option.some.inj H20
      refine ret1 (v := .int .i64 x5_2) rfl rfl (fin rfl)
    ) (by kernel_rfl)
theorem k112 {r : (List (List UInt8))} {w : World} {h : Heap} (hw : Know h w noS) (H : R_stepWords = some r) : Does Tryd.prog 112 (List.toArray []) w (fun v w' => ∃ x : (Option Addr × Nat), v = (.slice x.1 r.length x.2) ∧ Turn w w' noS (rowV 9 1 (.slice x.1 r.length x.2) r.length (r.map e_string))) := by
  refine enter (n := 2) Tryd.func112 rfl rfl rfl noS [] (Sat.nil _ _) ?_
  refine c_seq ?_
  refine c_region ?_
  refine l_val rfl rfl rfl (r_assign (v := .slice none 0 0) rfl) ?_
  refine l_nil ?_
  refine c_seq ?_
  refine c_region ?_
  refine l_buildSlice (vs := [str [], str [116, 117, 114, 110], str [99, 114, 111, 112], str [115, 99, 97, 108, 101], str [108, 105, 103, 104, 116], str [115, 112, 114, 101, 97, 100], str [108, 101, 118, 101, 108, 115], str [119, 97, 114, 109], str [109, 117, 116, 101], str [105, 110, 118, 101, 114, 116]]) (cs := [str [], str [116, 117, 114, 110], str [99, 114, 111, 112], str [115, 99, 97, 108, 101], str [108, 105, 103, 104, 116], str [115, 112, 114, 101, 97, 100], str [108, 101, 118, 101, 108, 115], str [119, 97, 114, 109], str [109, 117, 116, 101], str [105, 110, 118, 101, 114, 116]]) Tryd.underlying28 Tryd.sizeOf9 Tryd.zeroValue9 rfl rfl rfl rfl rfl rfl rfl (fun b1 => ?_)
  refine l_val rfl rfl rfl (r_assign (v := .slice (some ⟨b1, 0, none⟩) 10 10) rfl) ?_
  refine l_nil ?_
  refine c_ret ?_
  refine c_imp 0 rfl (imp_box (m := 10) (E := 9) (sz := 1) (xs := (([[], [116, 117, 114, 110], [99, 114, 111, 112], [115, 99, 97, 108, 101], [108, 105, 103, 104, 116], [115, 112, 114, 101, 97, 100], [108, 101, 118, 101, 108, 115], [119, 97, 114, 109], [109, 117, 116, 101], [105, 110, 118, 101, 114, 116]] : List (List UInt8))).map e_string) rfl rfl rfl ⟨rfl, by decide⟩) ?_
  obtain rfl := Option.some.inj H
  refine ret1 (v := .slice ((some ⟨b1, 0, none⟩, 10) : Option Addr × Nat).1 10 ((some ⟨b1, 0, none⟩, 10) : Option Addr × Nat).2) rfl rfl (finX ((some ⟨b1, 0, none⟩, 10) : Option Addr × Nat) (i := 0) rfl rfl (Imp.refl _))
theorem k61 {a0 : T_edit_Step} {r : (List UInt8)} {w : World} {h : Heap} (hw : Know h w noS) (tb_pow10 : TabH Tryd.prog h "internal/strconv.uint64pow10" .u64 Lib.pow10Tab) (H : R_stepLine a0 = some r) : Does Tryd.prog 61 (List.toArray [.agg #[.int .i64 a0.Kind, .int .i64 a0.A, .int .i64 a0.B, .int .i64 a0.C, .int .i64 a0.D]]) w (fun v w' => v = (str r) ∧ Grow w w') := by
  refine enter (n := 36) Tryd.func61 rfl rfl rfl noS [] (Sat.nil _ _) ?_
  refine c_seq ?_
  refine c_region ?_
  refine l_box (cs := [.int .i64 a0.Kind, .int .i64 a0.A, .int .i64 a0.B, .int .i64 a0.C, .int .i64 a0.D]) rfl rfl rfl rfl (fun b2 => ?_)
  refine l_val rfl rfl rfl (r_assign (v := str []) rfl) ?_
  refine l_nil ?_
  refine c_seq ?_
  exact c_regionD (Kd.t 1 [] _ _ :: Kd.p :: Kd.d [0] _ :: Kd.dv 6 [1] (fun v => ptrAt (sa v) _) :: Kd.d [1] _ :: Kd.p :: []) 1 mixed (by
    have h_t6 := bnd_val H
    have H13 := bnd_rest H
    refine d_make (Cv := fun v => rowV 9 1 v (val R_stepWords).length ((val R_stepWords).map e_string)) (none, 0) (makes_call (G := fun x : (Option Addr × Nat) => .slice x.1 (val R_stepWords).length x.2) (C := fun x : (Option Addr × Nat) => rowV 9 1 (.slice x.1 (val R_stepWords).length x.2) (val R_stepWords).length ((val R_stepWords).map e_string)) (fun w L' hF hS hi => k112 (know_all w)  h_t6) Tryd.call112 rfl) (fun _ => rfl) rfl rfl rfl (fun p => ?_)
    refine d_val rfl rfl (r_field Tryd.runUnderlying35 rfl Tryd.sizeOf3 rfl rfl) ?_
    refine d_load1 (i := 0) (v := .int .i64 a0.Kind) Tryd.isAgg3 rfl rfl rfl rfl ?_
    have h_t9 := bnd_val H13
    have H14 := bnd_rest H13
    refine d_readV (a := 6) rfl (fun w L' hF hS hi => run_indexO Tryd.underlying28 Tryd.sizeOf9 rfl rfl (rowOf (i := 1) (E := 9) (sz := 1) (n := (val R_stepWords).length) (a := p.1) (c := p.2) hS ((hi 1 (by simp)).trans rfl)) rfl h_t9) rfl rfl ?_
    refine d_readD (fun w L' hF hS hi => run_loadG1 (f := e_string) (i := a0.Kind) (sz := 1) (j := 0) (v := str (val (gAt (val R_stepWords) a0.Kind))) Tryd.isAgg9 rfl rfl (rowOf (i := 1) (E := 9) (sz := 1) (n := (val R_stepWords).length) (a := p.1) (c := p.2) hS ((hi 1 (by simp)).trans rfl)) h_t9 rfl) rfl rfl ?_
    refine d_val rfl rfl (r_assign (v := str (val (gAt (val R_stepWords) a0.Kind))) rfl) ?_
    refine d_nil ?_
    refine c_seq ?_
    refine c_seq ?_
    exact c_regionD (Kd.p :: Kd.d [0] _ :: Kd.p :: Kd.d [0] _ :: Kd.p :: Kd.d [0] _ :: Kd.p :: Kd.d [0] _ :: Kd.ns 2 [_, _, _, _] 3 4 :: Kd.p :: Kd.d [0] _ :: Kd.d [] _ :: Kd.p :: Kd.p :: Kd.p :: []) 1 mixed (by
      refine d_val rfl rfl (r_field Tryd.runUnderlying35 rfl Tryd.sizeOf3 rfl rfl) ?_
      refine d_load1 (i := 0) (v := .int .i64 a0.A) Tryd.isAgg3 rfl rfl rfl rfl ?_
      refine d_val rfl rfl (r_field Tryd.runUnderlying35 rfl Tryd.sizeOf3 rfl rfl) ?_
      refine d_load1 (i := 0) (v := .int .i64 a0.B) Tryd.isAgg3 rfl rfl rfl rfl ?_
      refine d_val rfl rfl (r_field Tryd.runUnderlying35 rfl Tryd.sizeOf3 rfl rfl) ?_
      refine d_load1 (i := 0) (v := .int .i64 a0.C) Tryd.isAgg3 rfl rfl rfl rfl ?_
      refine d_val rfl rfl (r_field Tryd.runUnderlying35 rfl Tryd.sizeOf3 rfl rfl) ?_
      refine d_load1 (i := 0) (v := .int .i64 a0.D) Tryd.isAgg3 rfl rfl rfl rfl ?_
      refine d_newS rfl rfl (run_buildSlice (vs := [.int .i64 a0.A, .int .i64 a0.B, .int .i64 a0.C, .int .i64 a0.D]) (cs := [.int .i64 a0.A, .int .i64 a0.B, .int .i64 a0.C, .int .i64 a0.D]) Tryd.underlying132 Tryd.sizeOf3 Tryd.zeroValue3 rfl rfl rfl rfl rfl) rfl (fun b3 => ?_)
      refine d_val rfl rfl (r_field Tryd.runUnderlying35 rfl Tryd.sizeOf3 rfl rfl) ?_
      refine d_load1 (i := 0) (v := .int .i64 a0.Kind) Tryd.isAgg3 rfl rfl rfl rfl ?_
      have h_t22 := bnd_val H14
      have H15 := bnd_rest H14
      refine d_call (k107 h_t22) Tryd.call107 rfl rfl ?_
      have h_t23 := bnd_val H15
      have H16 := bnd_rest H15
      refine d_val (v := .slice (cutA ((some ⟨b3, 0, none⟩, 4) : Option Addr × Nat).1 (Int.toNat (0 : Int)) ((some ⟨b3, 0, none⟩, 4) : Option Addr × Nat).2 1) (val (gCut ([a0.A, a0.B, a0.C, a0.D] : List Int) 0 (val (R_numbersUsed a0.Kind)))).length (((some ⟨b3, 0, none⟩, 4) : Option Addr × Nat).2 - Int.toNat (0 : Int))) rfl rfl (fun w => run_sliceHO (w := w) (a := ((some ⟨b3, 0, none⟩, 4) : Option Addr × Nat).1) (m := 4) (c := ((some ⟨b3, 0, none⟩, 4) : Option Addr × Nat).2) (xs := ([a0.A, a0.B, a0.C, a0.D] : List Int)) Tryd.underlying132 Tryd.sizeOf3 rfl rfl rfl (Nat.le_refl _) h_t23) ?_
      refine d_val rfl rfl (r_len Tryd.underlying132 rfl) ?_
      refine d_val rfl rfl (r_move (v := .int .i64 0) rfl) ?_
      refine d_nil ?_
      refine c_imp 2 rfl (imp_box (m := 4) (E := 3) (sz := 1) (xs := (([a0.A, a0.B, a0.C, a0.D] : List Int)).map e_i64) rfl rfl rfl ⟨rfl, by decide⟩) ?_
      refine c_block ?_
      refine c_sel [2] [rowV 3 1 (.slice ((some ⟨b3, 0, none⟩, 4) : Option Addr × Nat).1 4 ((some ⟨b3, 0, none⟩, 4) : Option Addr × Nat).2) 4 (([a0.A, a0.B, a0.C, a0.D] : List Int).map e_i64)] rfl (by decide) ?_
      refine c_fix (σ := (List UInt8) × Int) (τ := Unit) (fun next1 s => R_stepLine_l1 (val (gCut ([a0.A, a0.B, a0.C, a0.D] : List Int) 0 (val (R_numbersUsed a0.Kind)))) next1 s.1 s.2) (fun s t => [(3, str s.1), (23, .slice (cutA ((some ⟨b3, 0, none⟩, 4) : Option Addr × Nat).1 (Int.toNat (0 : Int)) ((some ⟨b3, 0, none⟩, 4) : Option Addr × Nat).2 1) (val (gCut ([a0.A, a0.B, a0.C, a0.D] : List Int) 0 (val (R_numbersUsed a0.Kind)))).length (((some ⟨b3, 0, none⟩, 4) : Option Addr × Nat).2 - Int.toNat (0 : Int))), (24, .int .i64 ((val (gCut ([a0.A, a0.B, a0.C, a0.D] : List Int) 0 (val (R_numbersUsed a0.Kind)))).length : Int)), (25, .int .i64 s.2)]) (fun s t => [rowV 3 1 (.slice ((some ⟨b3, 0, none⟩, 4) : Option Addr × Nat).1 4 ((some ⟨b3, 0, none⟩, 4) : Option Addr × Nat).2) 4 (([a0.A, a0.B, a0.C, a0.D] : List Int).map e_i64)]) (fun s t => True) ((val (gAt (val R_stepWords) a0.Kind)), 0) () [0] H16 (by exact trivial) (by exact ⟨rfl, rfl, rfl, rfl, trivial⟩) (by decide) rfl ?_
      rintro ⟨x3_2, x25_2⟩ _ m1 gg H17 _
      clear H16
      replace H17 : R_stepLine_l1 (val (gCut ([a0.A, a0.B, a0.C, a0.D] : List Int) 0 (val (R_numbersUsed a0.Kind)))) (it (fun next1 s => R_stepLine_l1 (val (gCut ([a0.A, a0.B, a0.C, a0.D] : List Int) 0 (val (R_numbersUsed a0.Kind)))) next1 s.1 s.2) m1) x3_2 x25_2 = some r := H17
      generalize hn1 : it (fun next1 s => R_stepLine_l1 (val (gCut ([a0.A, a0.B, a0.C, a0.D] : List Int) 0 (val (R_numbersUsed a0.Kind)))) next1 s.1 s.2) m1 = next1 at H17
      refine c_tidyF [(3, str x3_2), (23, .slice (cutA ((some ⟨b3, 0, none⟩, 4) : Option Addr × Nat).1 (Int.toNat (0 : Int)) ((some ⟨b3, 0, none⟩, 4) : Option Addr × Nat).2 1) (val (gCut ([a0.A, a0.B, a0.C, a0.D] : List Int) 0 (val (R_numbersUsed a0.Kind)))).length (((some ⟨b3, 0, none⟩, 4) : Option Addr × Nat).2 - Int.toNat (0 : Int))), (24, .int .i64 ((val (gCut ([a0.A, a0.B, a0.C, a0.D] : List Int) 0 (val (R_numbersUsed a0.Kind)))).length : Int)), (25, .int .i64 x25_2)] [rowV 3 1 (.slice ((some ⟨b3, 0, none⟩, 4) : Option Addr × Nat).1 4 ((some ⟨b3, 0, none⟩, 4) : Option Addr × Nat).2) 4 (([a0.A, a0.B, a0.C, a0.D] : List Int).map e_i64)] rfl rfl ?_
      refine c_seq ?_
      refine c_region ?_
      refine l_val rfl rfl rfl (r_lss rfl rfl) ?_
      refine l_nil ?_
      refine c_seq ?_
      refine c_if (b := (decide (x25_2 < ((val (gCut ([a0.A, a0.B, a0.C, a0.D] : List Int) 0 (val (R_numbersUsed a0.Kind)))).length : Int)))) rfl (fun hb => ?_) (fun hb => ?_)
      · have H18 := cnd_t hb H17; clear H17
        refine c_skip ?_
        refine c_seq ?_
        refine c_block ?_
        refine c_seq ?_
        refine c_region ?_
        obtain ⟨t27, h_t27, H19⟩ := bnd_some H18; clear H18
        refine l_read (fun w hF hS => run_indexO Tryd.underlying132 Tryd.sizeOf3 rfl rfl (Row.cutG (rowOf (i := 0) hS rfl) rfl (capOf (i := 0) hS rfl) h_t23) rfl h_t27) rfl rfl rfl ?_
        refine l_read (fun w hF hS => run_loadG1 (f := e_i64) (i := x25_2) (sz := 1) (j := 0) (v := .int .i64 t27) Tryd.isAgg3 rfl rfl (Row.cutG (rowOf (i := 0) hS rfl) rfl (capOf (i := 0) hS rfl) h_t23) h_t27 rfl) rfl rfl rfl ?_
        refine l_val rfl rfl rfl (r_assign (v := .int .i64 t27) rfl) ?_
        refine l_nil ?_
        refine c_region ?_
        refine l_val rfl rfl rfl (r_move (v := str x3_2) rfl) ?_
        refine l_val rfl rfl rfl (r_move (v := .int .i64 t27) rfl) ?_
        obtain ⟨t31, h_t31, H20⟩ := bnd_some H19; clear H19
        refine l_callG (fun w hF hS => k111 (know_all w) (tb_pow10.mono (hw.now hF)) h_t31) Tryd.call111 rfl rfl rfl ?_
        obtain ⟨t32, h_t32, H21⟩ := bnd_some H20; clear H20
        refine l_val rfl rfl rfl (r_concatG rfl rfl h_t32) ?_
        obtain ⟨t33, h_t33, H22⟩ := bnd_some H21; clear H21
        refine l_val rfl rfl rfl (r_concatG rfl rfl h_t33) ?_
        refine l_val rfl rfl rfl (r_assign (v := str t33) rfl) ?_
        refine l_nil ?_
        refine c_region ?_
        obtain ⟨t34, h_t34, H23⟩ := bnd_some H22; clear H22
        refine l_val rfl rfl rfl (r_addG rfl rfl h_t34) ?_
        refine l_val rfl rfl rfl (r_move (v := .int .i64 t34) rfl) ?_
        refine l_nil ?_
        refine c_close (t33, t34) () m1 [0] (by exact ⟨rfl, rfl, rfl, rfl, trivial⟩) (by decide) rfl (by exact ⟨(by subst hn1; exact H23), trivial⟩) (Nat.lt_succ_self _)
      · have H24 := cnd_f hb H17; clear H17
        refine c_exit ?_
        refine c_seq ?_
        refine c_region ?_
        refine l_val rfl rfl rfl (r_move (v := str x3_2) rfl) ?_
        refine l_val rfl rfl rfl (r_assign (v := str x3_2) rfl) ?_
        refine l_nil ?_
        refine c_ret ?_
        obtain rfl := Option.some.inj H24
        refine ret1 (v := str x3_2) rfl rfl (fin rfl)
      ) (by kernel_rfl)
    ) (by kernel_rfl)
theorem k15 {a0 : (List T_edit_Step)} {v0 : Value} {a1 : (List T_edit_Step)} {v1 : Value} {r : (List (List UInt8))} {w : World} {h : Heap} (hw : Know h w noS) (f0 : FrS h 5 v0 (a0.map e_edit_Step)) (f1 : FrS h 5 v1 (a1.map e_edit_Step)) (tb_pow10 : TabH Tryd.prog h "internal/strconv.uint64pow10" .u64 Lib.pow10Tab) (H : R_DifferOf a0 a1 = some r) : Does Tryd.prog 15 (List.toArray [v0, v1]) w (fun v w' => ∃ x : (Option Addr × Nat), v = (.slice x.1 r.length x.2) ∧ Turn w w' noS (rowV 9 1 (.slice x.1 r.length x.2) r.length (r.map e_string))) := by
  refine enter (n := 45) Tryd.func15 rfl rfl rfl noS [] (Sat.nil _ _) ?_
  refine c_seq ?_
  refine c_region ?_
  refine l_val rfl rfl rfl (r_assign (v := .slice none 0 0) rfl) ?_
  refine l_nil ?_
  refine c_seq ?_
  refine c_region ?_
  refine l_val rfl rfl rfl (r_move (v := v0) rfl) ?_
  refine l_val rfl rfl rfl (r_move (v := v1) rfl) ?_
  obtain ⟨t13, h_t13, H21⟩ := bnd_some H; clear H
  refine l_callG (fun w hF hS => k17 (know_all w) (f0.mono (hw.now hF)) (f1.mono (hw.now hF)) h_t13) Tryd.call17 rfl rfl rfl ?_
  refine l_val rfl rfl rfl (r_assign (v := .int .i64 t13) rfl) ?_
  refine l_nil ?_
  refine c_seq ?_
  refine c_region ?_
  refine l_val rfl rfl rfl (r_assign (v := .slice none 0 0) rfl) ?_
  refine l_nil ?_
  refine c_meet (r := r) (σ := (List (List UInt8))) (τ := (Option Addr × Nat)) (fun s => R_DifferOf_j1 a1 t13 s) (fun s t => [(1, v1), (5, .int .i64 t13), (6, .slice t.1 s.length t.2)]) (fun s t => [rowV 9 1 (.slice t.1 s.length t.2) s.length (s.map e_string)]) (fun s t => True) ?_ ?_
  · refine c_seq ?_
    refine c_region ?_
    refine l_val rfl rfl rfl (r_move (v := v0) rfl) ?_
    refine l_val rfl rfl rfl (r_move (v := .int .i64 t13) rfl) ?_
    obtain ⟨t16, h_t16, H32⟩ := bnd_some H21; clear H21
    refine l_val rfl rfl rfl (r_sliceLF Tryd.underlying22 Tryd.sizeOf35 rfl rfl f0 h_t16) ?_
    refine l_val rfl rfl rfl (r_lenF Tryd.underlying22 rfl (f0.cut h_t16) rfl) ?_
    refine l_val rfl rfl rfl (r_move (v := .int .i64 0) rfl) ?_
    refine l_nil ?_
    refine c_block ?_
    refine c_nilRow 9 1 ?_
    refine c_fix (σ := Int × (List (List UInt8))) (τ := (Option Addr × Nat)) (fun next3 s => R_DifferOf_l3 a1 t13 t16 next3 s.1 s.2) (fun s t => [(1, v1), (5, .int .i64 t13), (6, .slice t.1 s.2.length t.2), (16, (cutV 5 v0 t13 a0.length)), (17, .int .i64 (t16.length : Int)), (18, .int .i64 s.1)]) (fun s t => [rowV 9 1 (.slice t.1 s.2.length t.2) s.2.length (s.2.map e_string)]) (fun s t => True) (0, ([] : List (List UInt8))) ((none, 0) : Option Addr × Nat) [0] H32 (by exact trivial) (by exact ⟨rfl, rfl, rfl, rfl, rfl, rfl, trivial⟩) (by decide) rfl ?_
    rintro ⟨x18_2, l_5⟩ p_4 m3 gg H33 _
    clear H32
    replace H33 : R_DifferOf_l3 a1 t13 t16 (it (fun next3 s => R_DifferOf_l3 a1 t13 t16 next3 s.1 s.2) m3) x18_2 l_5 = some r := H33
    generalize hn3 : it (fun next3 s => R_DifferOf_l3 a1 t13 t16 next3 s.1 s.2) m3 = next3 at H33
    refine c_tidyF [(1, v1), (5, .int .i64 t13), (6, .slice p_4.1 l_5.length p_4.2), (16, (cutV 5 v0 t13 a0.length)), (17, .int .i64 (t16.length : Int)), (18, .int .i64 x18_2)] [rowV 9 1 (.slice p_4.1 l_5.length p_4.2) l_5.length (l_5.map e_string)] rfl rfl ?_
    refine c_seq ?_
    refine c_region ?_
    refine l_val rfl rfl rfl (r_lss rfl rfl) ?_
    refine l_nil ?_
    refine c_seq ?_
    refine c_if (b := (decide (x18_2 < (t16.length : Int)))) rfl (fun hb => ?_) (fun hb => ?_)
    · have H34 := cnd_t hb H33; clear H33
      refine c_skip ?_
      refine c_seq ?_
      refine c_block ?_
      refine c_seq ?_
      refine c_region ?_
      obtain ⟨t20, h_t20, H35⟩ := bnd_some H34; clear H34
      refine l_val rfl rfl rfl (r_indexF Tryd.underlying22 Tryd.sizeOf35 rfl rfl (f0.cut h_t16) h_t20) ?_
      refine l_read (fun w hF hS => run_loadGN (f := e_edit_Step) (i := x18_2) (sz := 5) (j := 0) (vs := [.int .i64 t20.Kind, .int .i64 t20.A, .int .i64 t20.B, .int .i64 t20.C, .int .i64 t20.D]) Tryd.isAgg35 Tryd.sizeOf35 rfl rfl ((f0.cut h_t16).row (hw.now hF)) h_t20 rfl) rfl rfl rfl ?_
      refine l_alloc (cs := [.int .i64 0, .int .i64 0, .int .i64 0, .int .i64 0, .int .i64 0]) Tryd.zeroValue35 rfl rfl rfl (fun b6 => ?_)
      refine l_store (i := 1) (vs := [.int .i64 t20.Kind, .int .i64 t20.A, .int .i64 t20.B, .int .i64 t20.C, .int .i64 t20.D]) (cs' := [.int .i64 t20.Kind, .int .i64 t20.A, .int .i64 t20.B, .int .i64 t20.C, .int .i64 t20.D]) Tryd.sizeOf35 rfl rfl rfl rfl rfl rfl rfl rfl rfl ?_
      refine l_nil ?_
      refine c_region ?_
      refine l_val rfl rfl rfl (r_move (v := .slice p_4.1 l_5.length p_4.2) rfl) ?_
      refine l_loadN (i := 1) (vs := [.int .i64 t20.Kind, .int .i64 t20.A, .int .i64 t20.B, .int .i64 t20.C, .int .i64 t20.D]) Tryd.isAgg35 Tryd.sizeOf35 rfl rfl rfl rfl rfl ?_
      obtain ⟨t24, h_t24, H36⟩ := bnd_some H35; clear H35
      refine l_callG (fun w hF hS => k61 (know_all w) (tb_pow10.mono (hw.now hF)) h_t24) Tryd.call61 rfl rfl rfl ?_
      obtain ⟨t25, h_t25, H37⟩ := bnd_some H36; clear H36
      refine l_val rfl rfl rfl (r_concatG rfl rfl h_t25) ?_
      refine l_buildSlice (vs := [str t25]) (cs := [str t25]) Tryd.underlying28 Tryd.sizeOf9 Tryd.zeroValue9 rfl rfl rfl rfl rfl rfl rfl (fun b7 => ?_)
      obtain ⟨l27, h_l27, H38⟩ := bnd_some H37; clear H37
      refine l_turn (turns_appG (i := 0) (hn := rfl) (rds := [2]) (p := p_4) (sz := 1) (by_ := 16) (f := e_string) (ys := l_5) (ls := ([t25] : List (List UInt8))) (V := .slice (some ⟨b7, 0, none⟩) 1 1) Tryd.underlying28 (info_of Tryd.typeInfo9) rfl rfl rfl rfl rfl rfl rfl rfl rfl rfl (fun w L' hF hS hi => row_box (i := 2) hS ((hi 2 (by simp)).trans rfl) rfl rfl) (fun _ => rfl) (fun _ => rfl) h_l27) rfl rfl rfl (fun p_5 => ?_)
      refine l_val rfl rfl rfl (r_assign (v := .slice p_5.1 l27.length p_5.2) rfl) ?_
      refine l_nil ?_
      refine c_region ?_
      obtain ⟨t28, h_t28, H39⟩ := bnd_some H38; clear H38
      refine l_val rfl rfl rfl (r_addG rfl rfl h_t28) ?_
      refine l_val rfl rfl rfl (r_move (v := .int .i64 t28) rfl) ?_
      refine l_nil ?_
      refine c_close (t28, l27) p_5 m3 [0] (by exact ⟨rfl, rfl, rfl, rfl, rfl, rfl, trivial⟩) (by decide) rfl (by exact ⟨(by subst hn3; exact H39), trivial⟩) (Nat.lt_succ_self _)
    · have H40 := cnd_f hb H33; clear H33
      refine c_exit ?_
      refine c_close l_5 p_4 0 [0] (by exact ⟨rfl, rfl, rfl, trivial⟩) (by decide) rfl (by exact ⟨H40, trivial⟩) (Nat.lt_succ_self _)
  · rintro l p gg H22 _
    replace H22 : R_DifferOf_j1 a1 t13 l = some r := H22
    refine c_tidyF [(1, v1), (5, .int .i64 t13), (6, .slice p.1 l.length p.2)] [rowV 9 1 (.slice p.1 l.length p.2) l.length (l.map e_string)] rfl rfl ?_
    refine c_seq ?_
    refine c_seq ?_
    refine c_region ?_
    refine l_val rfl rfl rfl (r_move (v := v1) rfl) ?_
    refine l_val rfl rfl rfl (r_move (v := .int .i64 t13) rfl) ?_
    obtain ⟨t31, h_t31, H23⟩ := bnd_some H22; clear H22
    refine l_val rfl rfl rfl (r_sliceLF Tryd.underlying22 Tryd.sizeOf35 rfl rfl f1 h_t31) ?_
    refine l_val rfl rfl rfl (r_lenF Tryd.underlying22 rfl (f1.cut h_t31) rfl) ?_
    refine l_val rfl rfl rfl (r_move (v := .int .i64 0) rfl) ?_
    refine l_nil ?_
    refine c_block ?_
    refine c_fix (σ := Int × (List (List UInt8))) (τ := (Option Addr × Nat)) (fun next2 s => R_DifferOf_l2 t31 next2 s.1 s.2) (fun s t => [(6, .slice t.1 s.2.length t.2), (31, (cutV 5 v1 t13 a1.length)), (32, .int .i64 (t31.length : Int)), (33, .int .i64 s.1)]) (fun s t => [rowV 9 1 (.slice t.1 s.2.length t.2) s.2.length (s.2.map e_string)]) (fun s t => True) (0, l) p [0] H23 (by exact trivial) (by exact ⟨rfl, rfl, rfl, rfl, trivial⟩) (by decide) rfl ?_
    rintro ⟨x33_2, l_3⟩ p_2 m2 gg H24 _
    clear H23
    replace H24 : R_DifferOf_l2 t31 (it (fun next2 s => R_DifferOf_l2 t31 next2 s.1 s.2) m2) x33_2 l_3 = some r := H24
    generalize hn2 : it (fun next2 s => R_DifferOf_l2 t31 next2 s.1 s.2) m2 = next2 at H24
    refine c_tidyF [(6, .slice p_2.1 l_3.length p_2.2), (31, (cutV 5 v1 t13 a1.length)), (32, .int .i64 (t31.length : Int)), (33, .int .i64 x33_2)] [rowV 9 1 (.slice p_2.1 l_3.length p_2.2) l_3.length (l_3.map e_string)] rfl rfl ?_
    refine c_seq ?_
    refine c_region ?_
    refine l_val rfl rfl rfl (r_lss rfl rfl) ?_
    refine l_nil ?_
    refine c_seq ?_
    refine c_if (b := (decide (x33_2 < (t31.length : Int)))) rfl (fun hb => ?_) (fun hb => ?_)
    · have H25 := cnd_t hb H24; clear H24
      refine c_skip ?_
      refine c_seq ?_
      refine c_block ?_
      refine c_seq ?_
      refine c_region ?_
      obtain ⟨t35, h_t35, H26⟩ := bnd_some H25; clear H25
      refine l_val rfl rfl rfl (r_indexF Tryd.underlying22 Tryd.sizeOf35 rfl rfl (f1.cut h_t31) h_t35) ?_
      refine l_read (fun w hF hS => run_loadGN (f := e_edit_Step) (i := x33_2) (sz := 5) (j := 0) (vs := [.int .i64 t35.Kind, .int .i64 t35.A, .int .i64 t35.B, .int .i64 t35.C, .int .i64 t35.D]) Tryd.isAgg35 Tryd.sizeOf35 rfl rfl ((f1.cut h_t31).row (hw.now hF)) h_t35 rfl) rfl rfl rfl ?_
      refine l_alloc (cs := [.int .i64 0, .int .i64 0, .int .i64 0, .int .i64 0, .int .i64 0]) Tryd.zeroValue35 rfl rfl rfl (fun b4 => ?_)
      refine l_store (i := 1) (vs := [.int .i64 t35.Kind, .int .i64 t35.A, .int .i64 t35.B, .int .i64 t35.C, .int .i64 t35.D]) (cs' := [.int .i64 t35.Kind, .int .i64 t35.A, .int .i64 t35.B, .int .i64 t35.C, .int .i64 t35.D]) Tryd.sizeOf35 rfl rfl rfl rfl rfl rfl rfl rfl rfl ?_
      refine l_nil ?_
      refine c_region ?_
      refine l_val rfl rfl rfl (r_move (v := .slice p_2.1 l_3.length p_2.2) rfl) ?_
      refine l_loadN (i := 1) (vs := [.int .i64 t35.Kind, .int .i64 t35.A, .int .i64 t35.B, .int .i64 t35.C, .int .i64 t35.D]) Tryd.isAgg35 Tryd.sizeOf35 rfl rfl rfl rfl rfl ?_
      obtain ⟨t39, h_t39, H27⟩ := bnd_some H26; clear H26
      refine l_callG (fun w hF hS => k61 (know_all w) (tb_pow10.mono (hw.now hF)) h_t39) Tryd.call61 rfl rfl rfl ?_
      obtain ⟨t40, h_t40, H28⟩ := bnd_some H27; clear H27
      refine l_val rfl rfl rfl (r_concatG rfl rfl h_t40) ?_
      refine l_buildSlice (vs := [str t40]) (cs := [str t40]) Tryd.underlying28 Tryd.sizeOf9 Tryd.zeroValue9 rfl rfl rfl rfl rfl rfl rfl (fun b5 => ?_)
      obtain ⟨l42, h_l42, H29⟩ := bnd_some H28; clear H28
      refine l_turn (turns_appG (i := 0) (hn := rfl) (rds := [2]) (p := p_2) (sz := 1) (by_ := 16) (f := e_string) (ys := l_3) (ls := ([t40] : List (List UInt8))) (V := .slice (some ⟨b5, 0, none⟩) 1 1) Tryd.underlying28 (info_of Tryd.typeInfo9) rfl rfl rfl rfl rfl rfl rfl rfl rfl rfl (fun w L' hF hS hi => row_box (i := 2) hS ((hi 2 (by simp)).trans rfl) rfl rfl) (fun _ => rfl) (fun _ => rfl) h_l42) rfl rfl rfl (fun p_3 => ?_)
      refine l_val rfl rfl rfl (r_assign (v := .slice p_3.1 l42.length p_3.2) rfl) ?_
      refine l_nil ?_
      refine c_region ?_
      obtain ⟨t43, h_t43, H30⟩ := bnd_some H29; clear H29
      refine l_val rfl rfl rfl (r_addG rfl rfl h_t43) ?_
      refine l_val rfl rfl rfl (r_move (v := .int .i64 t43) rfl) ?_
      refine l_nil ?_
      refine c_close (t43, l42) p_3 m2 [0] (by exact ⟨rfl, rfl, rfl, rfl, trivial⟩) (by decide) rfl (by exact ⟨(by subst hn2; exact H30), trivial⟩) (Nat.lt_succ_self _)
    · have H31 := cnd_f hb H24; clear H24
      refine c_exit ?_
      refine c_seq ?_
      refine c_region ?_
      refine l_val rfl rfl rfl (r_move (v := .slice p_2.1 l_3.length p_2.2) rfl) ?_
      refine l_val rfl rfl rfl (r_assign (v := .slice p_2.1 l_3.length p_2.2) rfl) ?_
      refine l_nil ?_
      refine c_ret ?_
      obtain rfl := Option.some.inj H31
      refine ret1 (v := .slice p_2.1 l_3.length p_2.2) rfl rfl (finX p_2 (i := 0) rfl rfl (Imp.refl _))
theorem k18 {a0 : (List T_edit_Step)} {v0 : Value} {a1 : Int} {a2 : (List T_edit_Step)} {v2 : Value} {a3 : Int} {r : Bool} {w : World} {h : Heap} (hw : Know h w noS) (f0 : FrS h 5 v0 (a0.map e_edit_Step)) (f2 : FrS h 5 v2 (a2.map e_edit_Step)) (H : Law_listed_edit_Step a0 a1 a2 a3 = some r) : Does Tryd.prog 18 (List.toArray [v0, .int .i64 a1, v2, .int .i64 a3]) w (fun v w' => v = (.bool r) ∧ Grow w w') := by
  refine enter (n := 19) Tryd.func18 rfl rfl rfl noS [] (Sat.nil _ _) ?_
  refine c_seq ?_
  refine c_region ?_
  refine l_val rfl rfl rfl (r_assign (v := .bool false) rfl) ?_
  refine l_nil ?_
  refine c_meet (r := r) (σ := (List T_edit_Step)) (τ := Value) (fun s => Law_listed_edit_Step_j1 a0 a1 a3 s) (fun s t => [(0, v0), (1, .int .i64 a1), (2, t), (3, .int .i64 a3)]) (fun s t => []) (fun s t => FrS h 5 t (s.map e_edit_Step)) ?_ ?_
  · refine c_seq ?_
    refine c_region ?_
    refine l_val rfl rfl rfl (r_move (v := .int .i64 a3) rfl) ?_
    refine l_val rfl rfl rfl (r_neq rfl rfl) ?_
    refine l_nil ?_
    refine c_if (b := (decide (a3 ≠ 0))) rfl (fun hb => ?_) (fun hb => ?_)
    · have H11 := cnd_t hb H; clear H
      refine c_region ?_
      refine l_val rfl rfl rfl (r_assign (v := .slice none 0 0) rfl) ?_
      refine l_nil ?_
      refine c_close ([] : (List T_edit_Step)) (.slice none 0 0) 0 [] (by exact ⟨rfl, rfl, rfl, rfl, trivial⟩) (by decide) rfl (by exact ⟨H11, (FrS.nil _ _)⟩) (Nat.lt_succ_self _)
    · have H12 := cnd_f hb H; clear H
      refine c_skip ?_
      refine c_close a2 v2 0 [] (by exact ⟨rfl, rfl, rfl, rfl, trivial⟩) (by decide) rfl (by exact ⟨H12, f2⟩) (Nat.lt_succ_self _)
  · rintro x2 gv gg H7 gf
    replace H7 : Law_listed_edit_Step_j1 a0 a1 a3 x2 = some r := H7
    refine c_tidyF [(0, v0), (1, .int .i64 a1), (2, gv), (3, .int .i64 a3)] [] rfl rfl ?_
    refine c_seq ?_
    refine c_region ?_
    refine l_val rfl rfl rfl (r_move (v := v0) rfl) ?_
    refine l_val rfl rfl rfl (r_move (v := gv) rfl) ?_
    obtain ⟨t13, h_t13, H8⟩ := bnd_some H7; clear H7
    refine l_callG (fun w hF hS => k62 (know_all w) (f0.mono (hw.now hF)) (gf.mono (hw.now hF)) h_t13) Tryd.call62 rfl rfl rfl ?_
    refine l_val rfl rfl rfl (r_move (v := .bool t13) rfl) ?_
    refine split (fun hb => ?_) (fun hb => ?_)
    · have H9 := cnd_t hb H8; clear H8
      refine l_val rfl rfl rfl (r_move (v := .int .i64 a1) rfl) ?_
      refine l_val rfl rfl rfl (r_move (v := .int .i64 a3) rfl) ?_
      refine l_val rfl rfl rfl (r_eql rfl rfl) ?_
      refine l_val rfl rfl rfl (r_pickT (v := .bool (decide (a1 = a3))) rfl rfl) ?_
      refine l_val rfl rfl rfl (r_assign (v := .bool (decide (a1 = a3))) rfl) ?_
      refine l_nil ?_
      refine c_ret ?_
      obtain rfl := Option.some.inj H9
      refine ret1 (v := .bool (decide (a1 = a3))) rfl rfl (fin rfl)
    · have H10 := cnd_f hb H8; clear H8
      refine l_passed rfl rfl rfl ?_
      refine l_passed rfl rfl rfl ?_
      refine l_passed rfl rfl rfl ?_
      refine l_val rfl rfl rfl (r_pickF (v := .bool false) rfl rfl) ?_
      refine l_val rfl rfl rfl (r_assign (v := .bool false) rfl) ?_
      refine l_nil ?_
      refine c_ret ?_
      obtain rfl := Option.some.inj H10
      refine ret1 (v := .bool false) rfl rfl (fin rfl)
theorem k63 {a0 : (List (List UInt8))} {v0 : Value} {a1 : (List (List UInt8))} {v1 : Value} {r : Bool} {w : World} {h : Heap} (hw : Know h w noS) (f0 : FrS h 1 v0 (a0.map e_string)) (f1 : FrS h 1 v1 (a1.map e_string)) (H : slices_Equal_string a0 a1 = some r) : Does Tryd.prog 63 (List.toArray [v0, v1]) w (fun v w' => v = (.bool r) ∧ Grow w w') := by
  refine enter (n := 26) Tryd.func63 rfl rfl rfl noS [] (Sat.nil _ _) ?_
  refine c_seq ?_
  refine c_region ?_
  refine l_val rfl rfl rfl (r_assign (v := .bool false) rfl) ?_
  refine l_nil ?_
  refine c_seq ?_
  refine c_seq ?_
  refine c_region ?_
  refine l_val rfl rfl rfl (r_move (v := v0) rfl) ?_
  refine l_val rfl rfl rfl (r_lenF Tryd.underlying28 rfl f0 rfl) ?_
  refine l_val rfl rfl rfl (r_move (v := v1) rfl) ?_
  refine l_val rfl rfl rfl (r_lenF Tryd.underlying28 rfl f1 rfl) ?_
  refine l_val rfl rfl rfl (r_neq rfl rfl) ?_
  refine l_nil ?_
  refine c_if (b := (decide ((a0.length : Int) ≠ (a1.length : Int)))) rfl (fun hb => ?_) (fun hb => ?_)
  · have H11 := cnd_t hb H; clear H
    refine c_seq ?_
    refine c_region ?_
    refine l_val rfl rfl rfl (r_assign (v := .bool false) rfl) ?_
    refine l_nil ?_
    refine c_ret ?_
    obtain rfl := Option.some.inj H11
    refine ret1 (v := .bool false) rfl rfl (fin rfl)
  · have H12 := cnd_f hb H; clear H
    refine c_skip ?_
    refine c_seq ?_
    refine c_seq ?_
    refine c_region ?_
    refine l_val rfl rfl rfl (r_move (v := v0) rfl) ?_
    refine l_val rfl rfl rfl (r_lenF Tryd.underlying28 rfl f0 rfl) ?_
    refine l_val rfl rfl rfl (r_move (v := .int .i64 0) rfl) ?_
    refine l_nil ?_
    refine c_block ?_
    refine c_fix (σ := Int) (τ := Unit) (fun next1 s => slices_Equal_string_l1 a0 a1 next1 s) (fun s t => [(0, v0), (1, v1), (12, .int .i64 (a0.length : Int)), (13, .int .i64 s)]) (fun s t => []) (fun s t => True) 0 () [] H12 (by exact trivial) (by exact ⟨rfl, rfl, rfl, rfl, trivial⟩) (by decide) rfl ?_
    rintro x13_2 _ m1 gg H13 _
    clear H12
    replace H13 : slices_Equal_string_l1 a0 a1 (it (fun next1 s => slices_Equal_string_l1 a0 a1 next1 s) m1) x13_2 = some r := H13
    generalize hn1 : it (fun next1 s => slices_Equal_string_l1 a0 a1 next1 s) m1 = next1 at H13
    refine c_tidyF [(0, v0), (1, v1), (12, .int .i64 (a0.length : Int)), (13, .int .i64 x13_2)] [] rfl rfl ?_
    refine c_seq ?_
    refine c_region ?_
    refine l_val rfl rfl rfl (r_lss rfl rfl) ?_
    refine l_nil ?_
    refine c_seq ?_
    refine c_if (b := (decide (x13_2 < (a0.length : Int)))) rfl (fun hb => ?_) (fun hb => ?_)
    · have H14 := cnd_t hb H13; clear H13
      refine c_skip ?_
      refine c_seq ?_
      refine c_block ?_
      refine c_seq ?_
      refine c_region ?_
      refine l_val rfl rfl rfl (r_move (v := .int .i64 x13_2) rfl) ?_
      refine l_val rfl rfl rfl (r_assign (v := .int .i64 x13_2) rfl) ?_
      refine l_nil ?_
      refine c_seq ?_
      exact c_regionD (Kd.p :: Kd.p :: Kd.p :: Kd.d [] _ :: Kd.p :: Kd.p :: Kd.p :: Kd.d [] _ :: Kd.p :: []) 0 mixed (by
        refine d_val rfl rfl (r_move (v := v0) rfl) ?_
        refine d_val rfl rfl (r_move (v := .int .i64 x13_2) rfl) ?_
        have h_t18 := bnd_val H14
        have H15 := bnd_rest H14
        refine d_val rfl rfl (r_indexF Tryd.underlying28 Tryd.sizeOf9 rfl rfl f0 h_t18) ?_
        refine d_read (fun w hF => run_loadG1 (f := e_string) (i := x13_2) (sz := 1) (j := 0) (v := str (val (gAt a0 x13_2))) Tryd.isAgg9 rfl rfl (f0.row (hw.now hF)) h_t18 rfl) rfl rfl ?_
        refine d_val rfl rfl (r_move (v := v1) rfl) ?_
        refine d_val rfl rfl (r_move (v := .int .i64 x13_2) rfl) ?_
        have h_t22 := bnd_val H15
        have H16 := bnd_rest H15
        refine d_val rfl rfl (r_indexF Tryd.underlying28 Tryd.sizeOf9 rfl rfl f1 h_t22) ?_
        refine d_read (fun w hF => run_loadG1 (f := e_string) (i := x13_2) (sz := 1) (j := 0) (v := str (val (gAt a1 x13_2))) Tryd.isAgg9 rfl rfl (f1.row (hw.now hF)) h_t22 rfl) rfl rfl ?_
        refine d_val rfl rfl (r_neqT rfl rfl) ?_
        refine d_nil ?_
        refine c_if (b := (decide ((val (gAt a0 x13_2)) ≠ (val (gAt a1 x13_2))))) rfl (fun hb => ?_) (fun hb => ?_)
        · have H17 := cnd_t hb H16; clear H16
          refine c_seq ?_
          refine c_region ?_
          refine l_val rfl rfl rfl (r_assign (v := .bool false) rfl) ?_
          refine l_nil ?_
          refine c_ret ?_
          obtain rfl := Option.some.inj H17
          refine ret1 (v := .bool false) rfl rfl (fin rfl)
        · have H18 := cnd_f hb H16; clear H16
          refine c_skip ?_
          refine c_region ?_
          obtain ⟨t25, h_t25, H19⟩ := bnd_some H18; clear H18
          refine l_val rfl rfl rfl (r_addG rfl rfl h_t25) ?_
          refine l_val rfl rfl rfl (r_move (v := .int .i64 t25) rfl) ?_
          refine l_nil ?_
          refine c_close t25 () m1 [] (by exact ⟨rfl, rfl, rfl, rfl, trivial⟩) (by decide) rfl (by exact ⟨(by subst hn1; exact H19), trivial⟩) (Nat.lt_succ_self _)
        ) (by kernel_rfl)
    · have H20 := cnd_f hb H13; clear H13
      refine c_exit ?_
      refine c_seq ?_
      refine c_region ?_
      refine l_val rfl rfl rfl (r_assign (v := .bool true) rfl) ?_
      refine l_nil ?_
      refine c_ret ?_
      obtain rfl := Option.some.inj H20
      refine ret1 (v := .bool true) rfl rfl (fin rfl)
theorem k19 {a0 : (List (List UInt8))} {v0 : Value} {a1 : Int} {a2 : (List (List UInt8))} {v2 : Value} {a3 : Int} {r : Bool} {w : World} {h : Heap} (hw : Know h w noS) (f0 : FrS h 1 v0 (a0.map e_string)) (f2 : FrS h 1 v2 (a2.map e_string)) (H : Law_listed_string a0 a1 a2 a3 = some r) : Does Tryd.prog 19 (List.toArray [v0, .int .i64 a1, v2, .int .i64 a3]) w (fun v w' => v = (.bool r) ∧ Grow w w') := by
  refine enter (n := 19) Tryd.func19 rfl rfl rfl noS [] (Sat.nil _ _) ?_
  refine c_seq ?_
  refine c_region ?_
  refine l_val rfl rfl rfl (r_assign (v := .bool false) rfl) ?_
  refine l_nil ?_
  refine c_meet (r := r) (σ := (List (List UInt8))) (τ := Value) (fun s => Law_listed_string_j1 a0 a1 a3 s) (fun s t => [(0, v0), (1, .int .i64 a1), (2, t), (3, .int .i64 a3)]) (fun s t => []) (fun s t => FrS h 1 t (s.map e_string)) ?_ ?_
  · refine c_seq ?_
    refine c_region ?_
    refine l_val rfl rfl rfl (r_move (v := .int .i64 a3) rfl) ?_
    refine l_val rfl rfl rfl (r_neq rfl rfl) ?_
    refine l_nil ?_
    refine c_if (b := (decide (a3 ≠ 0))) rfl (fun hb => ?_) (fun hb => ?_)
    · have H11 := cnd_t hb H; clear H
      refine c_region ?_
      refine l_val rfl rfl rfl (r_assign (v := .slice none 0 0) rfl) ?_
      refine l_nil ?_
      refine c_close ([] : (List (List UInt8))) (.slice none 0 0) 0 [] (by exact ⟨rfl, rfl, rfl, rfl, trivial⟩) (by decide) rfl (by exact ⟨H11, (FrS.nil _ _)⟩) (Nat.lt_succ_self _)
    · have H12 := cnd_f hb H; clear H
      refine c_skip ?_
      refine c_close a2 v2 0 [] (by exact ⟨rfl, rfl, rfl, rfl, trivial⟩) (by decide) rfl (by exact ⟨H12, f2⟩) (Nat.lt_succ_self _)
  · rintro x2 gv gg H7 gf
    replace H7 : Law_listed_string_j1 a0 a1 a3 x2 = some r := H7
    refine c_tidyF [(0, v0), (1, .int .i64 a1), (2, gv), (3, .int .i64 a3)] [] rfl rfl ?_
    refine c_seq ?_
    refine c_region ?_
    refine l_val rfl rfl rfl (r_move (v := v0) rfl) ?_
    refine l_val rfl rfl rfl (r_move (v := gv) rfl) ?_
    obtain ⟨t13, h_t13, H8⟩ := bnd_some H7; clear H7
    refine l_callG (fun w hF hS => k63 (know_all w) (f0.mono (hw.now hF)) (gf.mono (hw.now hF)) h_t13) Tryd.call63 rfl rfl rfl ?_
    refine l_val rfl rfl rfl (r_move (v := .bool t13) rfl) ?_
    refine split (fun hb => ?_) (fun hb => ?_)
    · have H9 := cnd_t hb H8; clear H8
      refine l_val rfl rfl rfl (r_move (v := .int .i64 a1) rfl) ?_
      refine l_val rfl rfl rfl (r_move (v := .int .i64 a3) rfl) ?_
      refine l_val rfl rfl rfl (r_eql rfl rfl) ?_
      refine l_val rfl rfl rfl (r_pickT (v := .bool (decide (a1 = a3))) rfl rfl) ?_
      refine l_val rfl rfl rfl (r_assign (v := .bool (decide (a1 = a3))) rfl) ?_
      refine l_nil ?_
      refine c_ret ?_
      obtain rfl := Option.some.inj H9
      refine ret1 (v := .bool (decide (a1 = a3))) rfl rfl (fin rfl)
    · have H10 := cnd_f hb H8; clear H8
      refine l_passed rfl rfl rfl ?_
      refine l_passed rfl rfl rfl ?_
      refine l_passed rfl rfl rfl ?_
      refine l_val rfl rfl rfl (r_pickF (v := .bool false) rfl rfl) ?_
      refine l_val rfl rfl rfl (r_assign (v := .bool false) rfl) ?_
      refine l_nil ?_
      refine c_ret ?_
      obtain rfl := Option.some.inj H10
      refine ret1 (v := .bool false) rfl rfl (fin rfl)
theorem k66 {a0 : T_edit_Step} {r : Bool} (H : R_MergeOf_1 a0 = some r) : Ret Tryd.prog 66 [.agg #[.int .i64 a0.Kind, .int .i64 a0.A, .int .i64 a0.B, .int .i64 a0.C, .int .i64 a0.D]] (.bool r) := by
  refine enterRet (n := 6) Tryd.func66 rfl rfl rfl (fun wd => ?_)
  refine c_seq ?_
  refine c_region ?_
  refine l_box (cs := [.int .i64 a0.Kind, .int .i64 a0.A, .int .i64 a0.B, .int .i64 a0.C, .int .i64 a0.D]) rfl rfl rfl rfl (fun b1 => ?_)
  refine l_val rfl rfl rfl (r_assign (v := .bool false) rfl) ?_
  refine l_nil ?_
  refine c_seq ?_
  refine c_region ?_
  refine l_loadN (i := 0) (vs := [.int .i64 a0.Kind, .int .i64 a0.A, .int .i64 a0.B, .int .i64 a0.C, .int .i64 a0.D]) Tryd.isAgg35 Tryd.sizeOf35 rfl rfl rfl rfl rfl ?_
  obtain ⟨t4, h_t4, H2⟩ := bnd_some H; clear H
  refine l_call (k59 h_t4) Tryd.call59 rfl rfl rfl ?_
  refine l_val rfl rfl rfl (r_not rfl) ?_
  refine l_val rfl rfl rfl (r_assign (v := .bool (!t4)) rfl) ?_
  refine l_nil ?_
  refine c_ret ?_
  obtain rfl := Option.some.inj H2
  refine ret1 (v := .bool (!t4)) rfl rfl (fin rfl)
theorem k67 {q0 : (T_edit_Step → Option (Bool))} {vq0 : Value} {c0 : Nat} {a0 : T_edit_Step} {r : Bool} {w : World} {h : Heap} (hw : Know h w noS) (fq0 : FnH Tryd.prog h vq0 (fnR_func_edit_Step_bool q0)) (hc0 : h c0 = some (.cells (List.toArray [vq0]) 56 (0, 0))) (H : R_MergeOf_2 q0 a0 = some r) : Does Tryd.prog 67 (List.toArray [.agg #[.int .i64 a0.Kind, .int .i64 a0.A, .int .i64 a0.B, .int .i64 a0.C, .int .i64 a0.D], .pointer (some ⟨c0, 0, none⟩)]) w (fun v w' => v = (.bool r) ∧ Grow w w') := by
  refine enter (n := 8) Tryd.func67 rfl rfl rfl noS [] (Sat.nil _ _) ?_
  refine c_seq ?_
  refine c_region ?_
  refine l_box (cs := [.int .i64 a0.Kind, .int .i64 a0.A, .int .i64 a0.B, .int .i64 a0.C, .int .i64 a0.D]) rfl rfl rfl rfl (fun b1 => ?_)
  refine l_val rfl rfl rfl (r_assign (v := .bool false) rfl) ?_
  refine l_nil ?_
  refine c_seq ?_
  refine c_region ?_
  refine l_read (fun w hF hS => run_loadK1 (v := vq0) Tryd.isAgg56 rfl (hw.now hF _ _ hc0) rfl) rfl rfl rfl ?_
  refine l_loadN (i := 0) (vs := [.int .i64 a0.Kind, .int .i64 a0.A, .int .i64 a0.B, .int .i64 a0.C, .int .i64 a0.D]) Tryd.isAgg35 Tryd.sizeOf35 rfl rfl rfl rfl rfl ?_
  obtain ⟨t6, h_t6, H2⟩ := bnd_some H; clear H
  refine l_callV (R := fnR_func_edit_Step_bool q0) (r := .bool t6) (v := vq0) (fun w hF hS => ⟨(fq0.mono (hw.now hF)), ⟨a0, _, rfl, h_t6, rfl⟩⟩) rfl rfl rfl rfl ?_
  refine l_val rfl rfl rfl (r_not rfl) ?_
  refine l_val rfl rfl rfl (r_assign (v := .bool (!t6)) rfl) ?_
  refine l_nil ?_
  refine c_ret ?_
  obtain rfl := Option.some.inj H2
  refine ret1 (v := .bool (!t6)) rfl rfl (fin rfl)
theorem k21 {a0 : (List T_edit_Step)} {v0 : Value} {a1 : (List T_edit_Step)} {v1 : Value} {a2 : (List T_edit_Step)} {v2 : Value} {r : (List T_edit_Step) × Bool} {w : World} {h : Heap} (hw : Know h w noS) (f0 : FrS h 5 v0 (a0.map e_edit_Step)) (f1 : FrS h 5 v1 (a1.map e_edit_Step)) (f2 : FrS h 5 v2 (a2.map e_edit_Step)) (H : R_MergeOf a0 a1 a2 = some r) : Does Tryd.prog 21 (List.toArray [v0, v1, v2]) w (fun v w' => ∃ x : (Option Addr × Nat), v = (.tuple #[.slice x.1 r.1.length x.2, .bool r.2]) ∧ Turn w w' noS (roH h 5 (.slice x.1 r.1.length x.2) r.1.length (r.1.map e_edit_Step))) := by
  refine enter (n := 68) Tryd.func21 rfl rfl rfl noS [] (Sat.nil _ _) ?_
  refine c_seq ?_
  refine c_region ?_
  refine l_val rfl rfl rfl (r_assign (v := .slice none 0 0) rfl) ?_
  refine l_val rfl rfl rfl (r_assign (v := .bool false) rfl) ?_
  refine l_nil ?_
  refine c_seq ?_
  refine c_region ?_
  refine l_val rfl rfl rfl (r_move (v := v0) rfl) ?_
  refine l_val rfl rfl rfl (r_move (v := v1) rfl) ?_
  obtain ⟨t16, h_t16, H49⟩ := bnd_some H; clear H
  refine l_callG (fun w hF hS => k17 (know_all w) (f0.mono (hw.now hF)) (f1.mono (hw.now hF)) h_t16) Tryd.call17 rfl rfl rfl ?_
  refine l_val rfl rfl rfl (r_move (v := v0) rfl) ?_
  refine l_val rfl rfl rfl (r_move (v := v2) rfl) ?_
  obtain ⟨t19, h_t19, H50⟩ := bnd_some H49; clear H49
  refine l_callG (fun w hF hS => k17 (know_all w) (f0.mono (hw.now hF)) (f2.mono (hw.now hF)) h_t19) Tryd.call17 rfl rfl rfl ?_
  refine l_val rfl rfl rfl (r_move (v := v1) rfl) ?_
  refine l_val rfl rfl rfl (r_move (v := v2) rfl) ?_
  obtain ⟨t22, h_t22, H51⟩ := bnd_some H50; clear H50
  refine l_callG (fun w hF hS => k17 (know_all w) (f1.mono (hw.now hF)) (f2.mono (hw.now hF)) h_t22) Tryd.call17 rfl rfl rfl ?_
  refine l_val rfl rfl rfl (r_min3 rfl rfl rfl) ?_
  refine l_val rfl rfl rfl (r_assign (v := .int .i64 (min (min t16 t19) t22)) rfl) ?_
  refine l_nil ?_
  refine c_seq ?_
  exact c_regionD (Kd.p :: Kd.p :: Kd.p :: Kd.p :: Kd.p :: Kd.p :: Kd.p :: Kd.p :: Kd.p :: Kd.p :: Kd.p :: Kd.p :: []) 0 mixed (by
    refine d_val rfl rfl (r_move (v := v1) rfl) ?_
    refine d_val rfl rfl (r_move (v := .int .i64 (min (min t16 t19) t22)) rfl) ?_
    have h_t26 := bnd_val H51
    have H52 := bnd_rest H51
    refine d_val rfl rfl (r_sliceLF Tryd.underlying22 Tryd.sizeOf35 rfl rfl f1 h_t26) ?_
    refine d_val rfl rfl (r_move (v := v2) rfl) ?_
    refine d_val rfl rfl (r_move (v := .int .i64 (min (min t16 t19) t22)) rfl) ?_
    have h_t29 := bnd_val H52
    have H53 := bnd_rest H52
    refine d_val rfl rfl (r_sliceLF Tryd.underlying22 Tryd.sizeOf35 rfl rfl f2 h_t29) ?_
    refine d_val rfl rfl (r_move (v := v0) rfl) ?_
    refine d_val rfl rfl (r_move (v := .int .i64 (min (min t16 t19) t22)) rfl) ?_
    have h_t32 := bnd_val H53
    have H54 := bnd_rest H53
    refine d_val rfl rfl (r_sliceLF Tryd.underlying22 Tryd.sizeOf35 rfl rfl f0 h_t32) ?_
    refine d_val rfl rfl (r_assign (v := (cutV 5 v1 (min (min t16 t19) t22) a1.length)) rfl) ?_
    refine d_val rfl rfl (r_assign (v := (cutV 5 v2 (min (min t16 t19) t22) a2.length)) rfl) ?_
    refine d_val rfl rfl (r_assign (v := (cutV 5 v0 (min (min t16 t19) t22) a0.length)) rfl) ?_
    refine d_nil ?_
    refine c_seq ?_
    refine c_region ?_
    refine l_alloc (cs := [.nilFunc]) Tryd.zeroValue56 rfl rfl rfl (fun b6 => ?_)
    refine l_store (i := 0) (vs := [.func (.func 66) #[] #[]]) (cs' := [.func (.func 66) #[] #[]]) Tryd.sizeOf56 rfl rfl rfl rfl rfl rfl rfl rfl rfl ?_
    refine l_nil ?_
    refine c_seq ?_
    refine c_region ?_
    refine l_val rfl rfl rfl (r_move (v := (cutV 5 v1 (min (min t16 t19) t22) a1.length)) rfl) ?_
    refine l_val rfl rfl rfl (r_move (v := (cutV 5 v2 (min (min t16 t19) t22) a2.length)) rfl) ?_
    refine l_buildSlice (vs := [(cutV 5 v1 (min (min t16 t19) t22) a1.length), (cutV 5 v2 (min (min t16 t19) t22) a2.length)]) (cs := [(cutV 5 v1 (min (min t16 t19) t22) a1.length), (cutV 5 v2 (min (min t16 t19) t22) a2.length)]) Tryd.underlying104 Tryd.sizeOf22 Tryd.zeroValue22 rfl rfl rfl rfl (by simp only [List.all_cons, List.all_nil, cells_sz (f1.cut h_t26).cells, cells_sz (f2.cut h_t29).cells] <;> rfl) rfl (by simp only [List.flatMap_cons, List.flatMap_nil, (f1.cut h_t26).cells, (f2.cut h_t29).cells] <;> rfl) (fun b7 => ?_)
    obtain ⟨t36, h_t36, H55⟩ := bnd_some H54; clear H54
    refine l_make (makes_call (rds := [1]) (G := fun x : (Option Addr × Nat) => .slice x.1 t36.length x.2) (C := fun x : (Option Addr × Nat) => rowV 35 5 (.slice x.1 t36.length x.2) t36.length (t36.map e_edit_Step)) (fun w L' hF hS hi => k13 (know_all w) (frn_box (G := gs_edit_Step) (sz := 1) (xs := ([(val (gCut a1 (min (min t16 t19) t22) a1.length)), (val (gCut a2 (min (min t16 t19) t22) a2.length))] : List (List T_edit_Step))) (i := 1) hS ((hi 1 (by simp)).trans rfl) rfl rfl rfl ⟨((f1.cut h_t26).mono (hw.now hF)), ((f2.cut h_t29).mono (hw.now hF)), rfl⟩) h_t36) Tryd.call13 rfl) rfl rfl rfl (fun p => ?_)
    refine l_val rfl rfl rfl (r_assign (v := .slice p.1 t36.length p.2) rfl) ?_
    refine l_nil ?_
    refine c_seq ?_
    refine c_block ?_
    refine c_seq ?_
    refine c_region ?_
    refine l_val rfl rfl rfl (r_move (v := (cutV 5 v1 (min (min t16 t19) t22) a1.length)) rfl) ?_
    refine l_val rfl rfl rfl (r_move (v := (cutV 5 v0 (min (min t16 t19) t22) a0.length)) rfl) ?_
    obtain ⟨t40, h_t40, H56⟩ := bnd_some H55; clear H55
    refine l_callG (fun w hF hS => k62 (know_all w) ((f1.cut h_t26).mono (hw.now hF)) ((f0.cut h_t32).mono (hw.now hF)) h_t40) Tryd.call62 rfl rfl rfl ?_
    refine l_val rfl rfl rfl (r_assign (v := .bool t40) rfl) ?_
    refine l_nil ?_
    refine c_if (b := t40) rfl (fun hb => ?_) (fun hb => ?_)
    · have H57 := cnd_t hb H56; clear H56
      refine c_seq ?_
      refine c_region ?_
      refine l_val rfl rfl rfl (r_move (v := v2) rfl) ?_
      refine l_val rfl rfl rfl (r_assign (v := v2) rfl) ?_
      refine l_val rfl rfl rfl (r_assign (v := .bool false) rfl) ?_
      refine l_nil ?_
      refine c_ret ?_
      obtain ⟨p_2, hp_⟩ := (f2).form; subst hp_
      refine c_frz f2 ?_
      obtain rfl := Option.some.inj H57
      refine ret2 (v1 := .slice p_2.1 a2.length p_2.2) (v2 := .bool false) rfl rfl rfl (finX p_2 (i := 3) rfl rfl (Imp.refl _))
    · have H58 := cnd_f hb H56; clear H56
      refine c_meet (r := r) (σ := Bool) (τ := Unit) (fun s => R_MergeOf_j1 a0 a1 t16 t19 t22 (val (gCut a1 (min (min t16 t19) t22) a1.length)) (val (gCut a2 (min (min t16 t19) t22) a2.length)) (val (gCut a0 (min (min t16 t19) t22) a0.length)) t36 s) (fun s t => [(0, v0), (1, v1), (8, .int .i64 (min (min t16 t19) t22)), (9, (cutV 5 v1 (min (min t16 t19) t22) a1.length)), (10, (cutV 5 v2 (min (min t16 t19) t22) a2.length)), (11, (cutV 5 v0 (min (min t16 t19) t22) a0.length)), (12, .pointer (some ⟨b6, 0, none⟩)), (13, .slice p.1 t36.length p.2), (42, .bool s)]) (fun s t => [cellsC b6 [.func (.func 66) #[] #[]] 56, rowV 35 5 (.slice p.1 t36.length p.2) t36.length (t36.map e_edit_Step)]) (fun s t => True) ?_ ?_
      · refine c_seq ?_
        refine c_region ?_
        refine l_val rfl rfl rfl (r_move (v := (cutV 5 v2 (min (min t16 t19) t22) a2.length)) rfl) ?_
        refine l_val rfl rfl rfl (r_move (v := (cutV 5 v0 (min (min t16 t19) t22) a0.length)) rfl) ?_
        obtain ⟨t45, h_t45, H69⟩ := bnd_some H58; clear H58
        refine l_callG (fun w hF hS => k62 (know_all w) ((f2.cut h_t29).mono (hw.now hF)) ((f0.cut h_t32).mono (hw.now hF)) h_t45) Tryd.call62 rfl rfl rfl ?_
        refine l_val rfl rfl rfl (r_assign (v := .bool t45) rfl) ?_
        refine l_nil ?_
        refine c_if (b := t45) rfl (fun hb => ?_) (fun hb => ?_)
        · have H70 := cnd_t hb H69; clear H69
          refine c_skip ?_
          refine c_close t45 () 0 [0, 2] (by exact ⟨rfl, rfl, rfl, rfl, rfl, rfl, rfl, rfl, rfl, trivial⟩) (by decide) rfl (by exact ⟨H70, trivial⟩) (Nat.lt_succ_self _)
        · have H71 := cnd_f hb H69; clear H69
          refine c_region ?_
          refine l_val rfl rfl rfl (r_move (v := (cutV 5 v1 (min (min t16 t19) t22) a1.length)) rfl) ?_
          refine l_val rfl rfl rfl (r_move (v := (cutV 5 v2 (min (min t16 t19) t22) a2.length)) rfl) ?_
          obtain ⟨t48, h_t48, H72⟩ := bnd_some H71; clear H71
          refine l_callG (fun w hF hS => k62 (know_all w) ((f1.cut h_t26).mono (hw.now hF)) ((f2.cut h_t29).mono (hw.now hF)) h_t48) Tryd.call62 rfl rfl rfl ?_
          refine l_val rfl rfl rfl (r_assign (v := .bool t48) rfl) ?_
          refine l_nil ?_
          refine c_close t48 () 0 [0, 2] (by exact ⟨rfl, rfl, rfl, rfl, rfl, rfl, rfl, rfl, rfl, trivial⟩) (by decide) rfl (by exact ⟨H72, trivial⟩) (Nat.lt_succ_self _)
      · rintro x42 _ gg H59 _
        replace H59 : R_MergeOf_j1 a0 a1 t16 t19 t22 (val (gCut a1 (min (min t16 t19) t22) a1.length)) (val (gCut a2 (min (min t16 t19) t22) a2.length)) (val (gCut a0 (min (min t16 t19) t22) a0.length)) t36 x42 = some r := H59
        refine c_tidyF [(0, v0), (1, v1), (8, .int .i64 (min (min t16 t19) t22)), (9, (cutV 5 v1 (min (min t16 t19) t22) a1.length)), (10, (cutV 5 v2 (min (min t16 t19) t22) a2.length)), (11, (cutV 5 v0 (min (min t16 t19) t22) a0.length)), (12, .pointer (some ⟨b6, 0, none⟩)), (13, .slice p.1 t36.length p.2), (42, .bool x42)] [cellsC b6 [.func (.func 66) #[] #[]] 56, rowV 35 5 (.slice p.1 t36.length p.2) t36.length (t36.map e_edit_Step)] rfl rfl ?_
        refine c_if (b := x42) rfl (fun hb => ?_) (fun hb => ?_)
        · have H60 := cnd_t hb H59; clear H59
          refine c_seq ?_
          refine c_region ?_
          refine l_val rfl rfl rfl (r_move (v := v1) rfl) ?_
          refine l_val rfl rfl rfl (r_assign (v := v1) rfl) ?_
          refine l_val rfl rfl rfl (r_assign (v := .bool false) rfl) ?_
          refine l_nil ?_
          refine c_ret ?_
          obtain ⟨p_3, hp_⟩ := (f1).form; subst hp_
          refine c_frz f1 ?_
          obtain rfl := Option.some.inj H60
          refine ret2 (v1 := .slice p_3.1 a1.length p_3.2) (v2 := .bool false) rfl rfl rfl (finX p_3 (i := 2) rfl rfl (Imp.refl _))
        · have H61 := cnd_f hb H59; clear H59
          refine c_seq ?_
          refine c_region ?_
          refine l_val rfl rfl rfl (r_move (v := (cutV 5 v0 (min (min t16 t19) t22) a0.length)) rfl) ?_
          refine l_val rfl rfl rfl (r_lenF Tryd.underlying22 rfl (f0.cut h_t32) rfl) ?_
          refine l_val rfl rfl rfl (r_eql rfl rfl) ?_
          refine l_val rfl rfl rfl (r_move (v := .bool (decide (((val (gCut a0 (min (min t16 t19) t22) a0.length)).length : Int) = 0))) rfl) ?_
          refine split (fun hb => ?_) (fun hb => ?_)
          · have H62 := cnd_t hb H61; clear H61
            refine l_val rfl rfl rfl (r_move (v := .slice p.1 t36.length p.2) rfl) ?_
            refine l_val rfl rfl rfl (r_makeFn (caps := #[.pointer (some ⟨b6, 0, none⟩)]) rfl) ?_
            obtain ⟨t57, h_t57, H63⟩ := bnd_some H62; clear H62
            refine l_callG (fun w hF hS => k27 (know_all w) (frs_own (i := 1) rfl hS rfl) (FnH.mk ⟨67, #[], #[.pointer (some ⟨b6, 0, none⟩)], rfl, Tryd.call67, fun args2 post2 w2 hk2 hR2 => by obtain ⟨a0_, r_, rfl, H_, rfl⟩ := hR2; exact k67 (know_all w2) ((FnH.mk ⟨66, #[], #[], rfl, Tryd.call66, fun args2 post2 w2 hk2 hR2 => by obtain ⟨a0_, r_, rfl, H_, rfl⟩ := hR2; exact k66 H_ w2⟩).mono hk2.up) (hk2.up _ _ (sat_cell (i := 0) hS rfl)) H_⟩) h_t57) Tryd.call27 rfl rfl rfl ?_
            refine l_val rfl rfl rfl (r_not rfl) ?_
            refine l_val rfl rfl rfl (r_pickT (v := .bool (!t57)) rfl rfl) ?_
            refine l_val rfl rfl rfl (r_assign (v := .bool (!t57)) rfl) ?_
            refine l_nil ?_
            refine c_if (b := (!t57)) rfl (fun hb => ?_) (fun hb => ?_)
            · have H64 := cnd_t hb H63; clear H63
              refine c_seq ?_
              refine c_region ?_
              refine l_val rfl rfl rfl (r_move (v := v0) rfl) ?_
              refine l_val rfl rfl rfl (r_move (v := .int .i64 (min (min t16 t19) t22)) rfl) ?_
              obtain ⟨t62, h_t62, H65⟩ := bnd_some H64; clear H64
              refine l_val rfl rfl rfl (r_sliceHF Tryd.underlying22 Tryd.sizeOf35 rfl rfl f0 h_t62) ?_
              refine l_val rfl rfl rfl (r_move (v := (cutV 5 v1 (min (min t16 t19) t22) a1.length)) rfl) ?_
              refine l_val rfl rfl rfl (r_move (v := (cutV 5 v2 (min (min t16 t19) t22) a2.length)) rfl) ?_
              refine l_buildSlice (vs := [(cutV 5 v0 0 (min (min t16 t19) t22)), (cutV 5 v1 (min (min t16 t19) t22) a1.length), (cutV 5 v2 (min (min t16 t19) t22) a2.length)]) (cs := [(cutV 5 v0 0 (min (min t16 t19) t22)), (cutV 5 v1 (min (min t16 t19) t22) a1.length), (cutV 5 v2 (min (min t16 t19) t22) a2.length)]) Tryd.underlying104 Tryd.sizeOf22 Tryd.zeroValue22 rfl rfl rfl rfl (by simp only [List.all_cons, List.all_nil, cells_sz (f0.cut h_t62).cells, cells_sz (f1.cut h_t26).cells, cells_sz (f2.cut h_t29).cells] <;> rfl) rfl (by simp only [List.flatMap_cons, List.flatMap_nil, (f0.cut h_t62).cells, (f1.cut h_t26).cells, (f2.cut h_t29).cells] <;> rfl) (fun b8 => ?_)
              obtain ⟨t66, h_t66, H66⟩ := bnd_some H65; clear H65
              refine l_make (makes_call (rds := [2]) (G := fun x : (Option Addr × Nat) => .slice x.1 t66.length x.2) (C := fun x : (Option Addr × Nat) => rowV 35 5 (.slice x.1 t66.length x.2) t66.length (t66.map e_edit_Step)) (fun w L' hF hS hi => k13 (know_all w) (frn_box (G := gs_edit_Step) (sz := 1) (xs := ([t62, (val (gCut a1 (min (min t16 t19) t22) a1.length)), (val (gCut a2 (min (min t16 t19) t22) a2.length))] : List (List T_edit_Step))) (i := 2) hS ((hi 2 (by simp)).trans rfl) rfl rfl rfl ⟨((f0.cut h_t62).mono (hw.now hF)), ((f1.cut h_t26).mono (hw.now hF)), ((f2.cut h_t29).mono (hw.now hF)), rfl⟩) h_t66) Tryd.call13 rfl) rfl rfl rfl (fun p_4 => ?_)
              refine l_val rfl rfl rfl (r_assign (v := .slice p_4.1 t66.length p_4.2) rfl) ?_
              refine l_val rfl rfl rfl (r_assign (v := .bool false) rfl) ?_
              refine l_nil ?_
              refine c_ret ?_
              refine c_imp 3 rfl (imp_rowH h _ _ _ _ _) ?_
              obtain rfl := Option.some.inj H66
              refine ret2 (v1 := .slice p_4.1 t66.length p_4.2) (v2 := .bool false) rfl rfl rfl (finX p_4 (i := 3) rfl rfl (Imp.refl _))
            · have H67 := cnd_f hb H63; clear H63
              refine c_skip ?_
              refine c_seq ?_
              refine c_region ?_
              refine l_val rfl rfl rfl (r_move (v := v1) rfl) ?_
              refine l_val rfl rfl rfl (r_assign (v := v1) rfl) ?_
              refine l_val rfl rfl rfl (r_assign (v := .bool true) rfl) ?_
              refine l_nil ?_
              refine c_ret ?_
              obtain ⟨p_5, hp_⟩ := (f1).form; subst hp_
              refine c_frz f1 ?_
              obtain rfl := Option.some.inj H67
              refine ret2 (v1 := .slice p_5.1 a1.length p_5.2) (v2 := .bool true) rfl rfl rfl (finX p_5 (i := 2) rfl rfl (Imp.refl _))
          · have H68 := cnd_f hb H61; clear H61
            refine l_passed rfl rfl rfl ?_
            refine l_passed rfl rfl rfl ?_
            refine l_passed rfl rfl rfl ?_
            refine l_passed rfl rfl rfl ?_
            refine l_val rfl rfl rfl (r_pickF (v := .bool false) rfl rfl) ?_
            refine l_val rfl rfl rfl (r_assign (v := .bool false) rfl) ?_
            refine l_nil ?_
            refine c_false rfl ?_
            refine c_skip ?_
            refine c_seq ?_
            refine c_region ?_
            refine l_val rfl rfl rfl (r_move (v := v1) rfl) ?_
            refine l_val rfl rfl rfl (r_assign (v := v1) rfl) ?_
            refine l_val rfl rfl rfl (r_assign (v := .bool true) rfl) ?_
            refine l_nil ?_
            refine c_ret ?_
            obtain ⟨p_6, hp_⟩ := (f1).form; subst hp_
            refine c_frz f1 ?_
            obtain rfl := Option.some.inj H68
            refine ret2 (v1 := .slice p_6.1 a1.length p_6.2) (v2 := .bool true) rfl rfl rfl (finX p_6 (i := 2) rfl rfl (Imp.refl _))
    ) (by kernel_rfl)
theorem k3 {a0 : (List T_edit_Step)} {v0 : Value} {a1 : (List T_edit_Step)} {v1 : Value} {a2 : (List T_edit_Step)} {v2 : Value} {r : Bool} {w : World} {h : Heap} (hw : Know h w noS) (f0 : FrS h 5 v0 (a0.map e_edit_Step)) (f1 : FrS h 5 v1 (a1.map e_edit_Step)) (f2 : FrS h 5 v2 (a2.map e_edit_Step)) (tb_pow10 : TabH Tryd.prog h "internal/strconv.uint64pow10" .u64 Lib.pow10Tab) (H : Law_EditOthers a0 a1 a2 = some r) : Does Tryd.prog 3 (List.toArray [v0, v1, v2]) w (fun v w' => v = (.bool r) ∧ Grow w w') := by
  refine enter (n := 130) Tryd.func3 rfl rfl rfl noS [] (Sat.nil _ _) ?_
  refine c_seq ?_
  refine c_region ?_
  refine l_val rfl rfl rfl (r_assign (v := .bool false) rfl) ?_
  refine l_nil ?_
  refine c_seq ?_
  refine c_region ?_
  refine l_val rfl rfl rfl (r_move (v := v1) rfl) ?_
  obtain ⟨t26, h_t26, H38⟩ := bnd_some H; clear H
  refine l_callG (fun w hF hS => k9 (know_all w) (f1.mono (hw.now hF)) h_t26) Tryd.call9 rfl rfl rfl ?_
  refine l_val rfl rfl rfl (r_move (v := v2) rfl) ?_
  obtain ⟨t28, h_t28, H39⟩ := bnd_some H38; clear H38
  refine l_callG (fun w hF hS => k9 (know_all w) (f2.mono (hw.now hF)) h_t28) Tryd.call9 rfl rfl rfl ?_
  refine l_buildSlice (vs := [.int .i64 t26, .int .i64 t28]) (cs := [.int .i64 t26, .int .i64 t28]) Tryd.underlying99 Tryd.sizeOf23 Tryd.zeroValue23 rfl rfl rfl rfl rfl rfl rfl (fun b4 => ?_)
  obtain ⟨t30, h_t30, H40⟩ := bnd_some H39; clear H39
  refine l_callG (fun w hF hS => k8 (know_all w) (frs_box (i := 0) (xs := ([t26, t28] : List Int)) (f := e_i64) hS rfl rfl rfl rfl rfl) h_t30) Tryd.call8 rfl rfl rfl ?_
  refine l_val rfl rfl rfl (r_assign (v := .int .i64 t30) rfl) ?_
  refine l_nil ?_
  refine c_seq ?_
  refine c_region ?_
  refine l_val rfl rfl rfl (r_move (v := v1) rfl) ?_
  refine l_val rfl rfl rfl (r_move (v := v2) rfl) ?_
  obtain ⟨t34, h_t34, H41⟩ := bnd_some H40; clear H40
  refine l_make (makes_call (rds := []) (G := fun x : (Option Addr × Nat) => .tuple #[.slice x.1 t34.1.length x.2, .int .i64 t34.2]) (C := fun x : (Option Addr × Nat) => roV 5 (.slice x.1 t34.1.length x.2) t34.1.length (t34.1.map e_edit_Step)) (fun w L' hF hS hi => k10 (know_all w) (f1.mono (hw.now hF)) (f2.mono (hw.now hF)) h_t34) Tryd.call10 rfl) rfl rfl rfl (fun p => ?_)
  refine l_val rfl rfl rfl (r_move (v := .tuple #[.slice p.1 t34.1.length p.2, .int .i64 t34.2]) rfl) ?_
  refine l_val rfl rfl rfl (r_extract (v := .slice p.1 t34.1.length p.2) rfl rfl) ?_
  refine l_val rfl rfl rfl (r_extract (v := .int .i64 t34.2) rfl rfl) ?_
  refine l_val rfl rfl rfl (r_assign (v := .slice p.1 t34.1.length p.2) rfl) ?_
  refine l_val rfl rfl rfl (r_assign (v := .int .i64 t34.2) rfl) ?_
  refine l_nil ?_
  refine c_seq ?_
  refine c_region ?_
  refine l_val rfl rfl rfl (r_move (v := v1) rfl) ?_
  refine l_val rfl rfl rfl (r_move (v := v2) rfl) ?_
  obtain ⟨t40, h_t40, H42⟩ := bnd_some H41; clear H41
  refine l_make (makes_call (rds := []) (G := fun x : (Option Addr × Nat) => .tuple #[.slice x.1 t40.1.length x.2, .int .i64 t40.2]) (C := fun x : (Option Addr × Nat) => roV 1 (.slice x.1 t40.1.length x.2) t40.1.length (t40.1.map e_string)) (fun w L' hF hS hi => k11 (know_all w) (f1.mono (hw.now hF)) (f2.mono (hw.now hF)) (tb_pow10.mono (hw.now hF)) h_t40) Tryd.call11 rfl) rfl rfl rfl (fun p_2 => ?_)
  refine l_val rfl rfl rfl (r_move (v := .tuple #[.slice p_2.1 t40.1.length p_2.2, .int .i64 t40.2]) rfl) ?_
  refine l_val rfl rfl rfl (r_extract (v := .slice p_2.1 t40.1.length p_2.2) rfl rfl) ?_
  refine l_val rfl rfl rfl (r_extract (v := .int .i64 t40.2) rfl rfl) ?_
  refine l_val rfl rfl rfl (r_assign (v := .slice p_2.1 t40.1.length p_2.2) rfl) ?_
  refine l_val rfl rfl rfl (r_assign (v := .int .i64 t40.2) rfl) ?_
  refine l_nil ?_
  refine c_seq ?_
  refine c_region ?_
  refine l_val rfl rfl rfl (r_move (v := v1) rfl) ?_
  obtain ⟨t45, h_t45, H43⟩ := bnd_some H42; clear H42
  refine l_make (makes_call (rds := []) (G := fun x : (Option Addr × Nat) × (Option Addr × Nat) => .tuple #[.slice x.1.1 t45.1.length x.1.2, .slice x.2.1 t45.2.length x.2.2]) (C := fun x : (Option Addr × Nat) × (Option Addr × Nat) => bothC (rowV 35 5 (.slice x.1.1 t45.1.length x.1.2) t45.1.length (t45.1.map e_edit_Step)) (rowV 35 5 (.slice x.2.1 t45.2.length x.2.2) t45.2.length (t45.2.map e_edit_Step))) (fun w L' hF hS hi => k12 (know_all w) (f1.mono (hw.now hF)) h_t45) Tryd.call12 rfl) rfl rfl rfl (fun ⟨p_3, p_4⟩ => ?_)
  refine c_split 3 rfl ?_
  refine l_val rfl rfl rfl (r_move (v := .tuple #[.slice p_3.1 t45.1.length p_3.2, .slice p_4.1 t45.2.length p_4.2]) rfl) ?_
  refine l_val rfl rfl rfl (r_extract (v := .slice p_3.1 t45.1.length p_3.2) rfl rfl) ?_
  refine l_val rfl rfl rfl (r_extract (v := .slice p_4.1 t45.2.length p_4.2) rfl rfl) ?_
  refine l_val rfl rfl rfl (r_assign (v := .slice p_3.1 t45.1.length p_3.2) rfl) ?_
  refine l_val rfl rfl rfl (r_assign (v := .slice p_4.1 t45.2.length p_4.2) rfl) ?_
  refine l_nil ?_
  refine c_seq ?_
  refine c_region ?_
  refine l_val rfl rfl rfl (r_move (v := v2) rfl) ?_
  obtain ⟨t50, h_t50, H44⟩ := bnd_some H43; clear H43
  refine l_make (makes_call (rds := []) (G := fun x : (Option Addr × Nat) × (Option Addr × Nat) => .tuple #[.slice x.1.1 t50.1.length x.1.2, .slice x.2.1 t50.2.length x.2.2]) (C := fun x : (Option Addr × Nat) × (Option Addr × Nat) => bothC (rowV 35 5 (.slice x.1.1 t50.1.length x.1.2) t50.1.length (t50.1.map e_edit_Step)) (rowV 35 5 (.slice x.2.1 t50.2.length x.2.2) t50.2.length (t50.2.map e_edit_Step))) (fun w L' hF hS hi => k12 (know_all w) (f2.mono (hw.now hF)) h_t50) Tryd.call12 rfl) rfl rfl rfl (fun ⟨p_5, p_6⟩ => ?_)
  refine c_split 5 rfl ?_
  refine l_val rfl rfl rfl (r_move (v := .tuple #[.slice p_5.1 t50.1.length p_5.2, .slice p_6.1 t50.2.length p_6.2]) rfl) ?_
  refine l_val rfl rfl rfl (r_extract (v := .slice p_5.1 t50.1.length p_5.2) rfl rfl) ?_
  refine l_val rfl rfl rfl (r_extract (v := .slice p_6.1 t50.2.length p_6.2) rfl rfl) ?_
  refine l_val rfl rfl rfl (r_assign (v := .slice p_5.1 t50.1.length p_5.2) rfl) ?_
  refine l_val rfl rfl rfl (r_assign (v := .slice p_6.1 t50.2.length p_6.2) rfl) ?_
  refine l_nil ?_
  refine c_seq ?_
  refine c_region ?_
  refine l_val rfl rfl rfl (r_move (v := .slice p_5.1 t50.1.length p_5.2) rfl) ?_
  refine l_val rfl rfl rfl (r_move (v := .slice p_4.1 t45.2.length p_4.2) rfl) ?_
  refine l_buildSlice (vs := [.slice p_5.1 t50.1.length p_5.2, .slice p_4.1 t45.2.length p_4.2]) (cs := [.slice p_5.1 t50.1.length p_5.2, .slice p_4.1 t45.2.length p_4.2]) Tryd.underlying104 Tryd.sizeOf22 Tryd.zeroValue22 rfl rfl rfl rfl rfl rfl rfl (fun b5 => ?_)
  obtain ⟨t56, h_t56, H45⟩ := bnd_some H44; clear H44
  refine l_make (makes_call (rds := [4, 5, 7]) (G := fun x : (Option Addr × Nat) => .slice x.1 t56.length x.2) (C := fun x : (Option Addr × Nat) => rowV 35 5 (.slice x.1 t56.length x.2) t56.length (t56.map e_edit_Step)) (fun w L' hF hS hi => k13 (know_all w) (frn_box (G := gs_edit_Step) (sz := 1) (xs := ([t50.1, t45.2] : List (List T_edit_Step))) (i := 7) hS ((hi 7 (by simp)).trans rfl) rfl rfl rfl ⟨(frs_own (i := 5) rfl hS ((hi 5 (by simp)).trans rfl)), (frs_own (i := 4) rfl hS ((hi 4 (by simp)).trans rfl)), rfl⟩) h_t56) Tryd.call13 rfl) rfl rfl rfl (fun p_7 => ?_)
  refine l_val rfl rfl rfl (r_assign (v := .slice p_7.1 t56.length p_7.2) rfl) ?_
  refine l_nil ?_
  refine c_seq ?_
  refine c_region ?_
  refine l_val rfl rfl rfl (r_move (v := .int .i64 t30) rfl) ?_
  refine l_val rfl rfl rfl (r_move (v := .slice p_7.1 t56.length p_7.2) rfl) ?_
  refine l_val rfl rfl rfl (r_len Tryd.underlying22 rfl) ?_
  refine l_val rfl rfl rfl (r_leq rfl rfl) ?_
  obtain ⟨t61, h_t61, H46⟩ := bnd_some H45; clear H45
  refine l_call (k14 h_t61) Tryd.call14 rfl rfl rfl ?_
  refine l_buildSlice (vs := [.int .i64 t30, .int .i64 t61]) (cs := [.int .i64 t30, .int .i64 t61]) Tryd.underlying99 Tryd.sizeOf23 Tryd.zeroValue23 rfl rfl rfl rfl rfl rfl rfl (fun b6 => ?_)
  obtain ⟨t63, h_t63, H47⟩ := bnd_some H46; clear H46
  refine l_callG (fun w hF hS => k8 (know_all w) (frs_box (i := 9) (xs := ([t30, t61] : List Int)) (f := e_i64) hS rfl rfl rfl rfl rfl) h_t63) Tryd.call8 rfl rfl rfl ?_
  refine l_val rfl rfl rfl (r_assign (v := .int .i64 t63) rfl) ?_
  refine l_nil ?_
  refine c_seq ?_
  refine c_region ?_
  refine l_val rfl rfl rfl (r_assign (v := .slice none 0 0) rfl) ?_
  refine l_nil ?_
  refine c_meet (r := r) (σ := (List (List UInt8))) (τ := (Option Addr × Nat)) (fun s => Law_EditOthers_j1 a0 a1 a2 t30 t34 t40 t56 t63 s) (fun s t => [(0, v0), (1, v1), (2, v2), (7, .int .i64 t30), (8, .slice p.1 t34.1.length p.2), (9, .int .i64 t34.2), (10, .slice p_2.1 t40.1.length p_2.2), (11, .int .i64 t40.2), (16, .slice p_7.1 t56.length p_7.2), (17, .int .i64 t63), (18, .slice t.1 s.length t.2)]) (fun s t => [roV 5 (.slice p.1 t34.1.length p.2) t34.1.length (t34.1.map e_edit_Step), roV 1 (.slice p_2.1 t40.1.length p_2.2) t40.1.length (t40.1.map e_string), rowV 35 5 (.slice p_7.1 t56.length p_7.2) t56.length (t56.map e_edit_Step), rowV 9 1 (.slice t.1 s.length t.2) s.length (s.map e_string)]) (fun s t => True) ?_ ?_
  · refine c_seq ?_
    refine c_region ?_
    refine l_val rfl rfl rfl (r_move (v := .int .i64 t30) rfl) ?_
    refine l_val rfl rfl rfl (r_eql rfl rfl) ?_
    refine l_nil ?_
    refine c_if (b := (decide (t30 = 0))) rfl (fun hb => ?_) (fun hb => ?_)
    · have H72 := cnd_t hb H47; clear H47
      refine c_region ?_
      refine l_val rfl rfl rfl (r_move (v := v1) rfl) ?_
      refine l_val rfl rfl rfl (r_move (v := v2) rfl) ?_
      obtain ⟨t68, h_t68, H73⟩ := bnd_some H72; clear H72
      refine l_make (makes_call (rds := []) (G := fun x : (Option Addr × Nat) => .slice x.1 t68.length x.2) (C := fun x : (Option Addr × Nat) => rowV 9 1 (.slice x.1 t68.length x.2) t68.length (t68.map e_string)) (fun w L' hF hS hi => k15 (know_all w) (f1.mono (hw.now hF)) (f2.mono (hw.now hF)) (tb_pow10.mono (hw.now hF)) h_t68) Tryd.call15 rfl) rfl rfl rfl (fun p_12 => ?_)
      refine l_val rfl rfl rfl (r_assign (v := .slice p_12.1 t68.length p_12.2) rfl) ?_
      refine l_nil ?_
      refine c_close t68 p_12 0 [1, 2, 8, 10] (by exact ⟨rfl, rfl, rfl, rfl, rfl, rfl, rfl, rfl, rfl, rfl, rfl, trivial⟩) (by decide) rfl (by exact ⟨H73, trivial⟩) (Nat.lt_succ_self _)
    · have H74 := cnd_f hb H47; clear H47
      refine c_skip ?_
      refine c_nilRow 9 1 ?_
      refine c_close ([] : List (List UInt8)) ((none, 0) : Option Addr × Nat) 0 [1, 2, 8, 10] (by exact ⟨rfl, rfl, rfl, rfl, rfl, rfl, rfl, rfl, rfl, rfl, rfl, trivial⟩) (by decide) rfl (by exact ⟨H74, trivial⟩) (Nat.lt_succ_self _)
  · rintro l p_8 gg H48 _
    replace H48 : Law_EditOthers_j1 a0 a1 a2 t30 t34 t40 t56 t63 l = some r := H48
    refine c_tidyF [(0, v0), (1, v1), (2, v2), (7, .int .i64 t30), (8, .slice p.1 t34.1.length p.2), (9, .int .i64 t34.2), (10, .slice p_2.1 t40.1.length p_2.2), (11, .int .i64 t40.2), (16, .slice p_7.1 t56.length p_7.2), (17, .int .i64 t63), (18, .slice p_8.1 l.length p_8.2)] [roV 5 (.slice p.1 t34.1.length p.2) t34.1.length (t34.1.map e_edit_Step), roV 1 (.slice p_2.1 t40.1.length p_2.2) t40.1.length (t40.1.map e_string), rowV 35 5 (.slice p_7.1 t56.length p_7.2) t56.length (t56.map e_edit_Step), rowV 9 1 (.slice p_8.1 l.length p_8.2) l.length (l.map e_string)] rfl rfl ?_
    refine c_seq ?_
    refine c_seq ?_
    refine c_region ?_
    refine l_val rfl rfl rfl (r_move (v := v1) rfl) ?_
    refine l_val rfl rfl rfl (r_move (v := v2) rfl) ?_
    obtain ⟨t71, h_t71, H49⟩ := bnd_some H48; clear H48
    refine l_callG (fun w hF hS => k16 (know_all w) (f1.mono (hw.now hF)) (f2.mono (hw.now hF)) h_t71) Tryd.call16 rfl rfl rfl ?_
    refine l_val rfl rfl rfl (r_move (v := v1) rfl) ?_
    refine l_val rfl rfl rfl (r_move (v := v2) rfl) ?_
    obtain ⟨t74, h_t74, H50⟩ := bnd_some H49; clear H49
    refine l_callG (fun w hF hS => k17 (know_all w) (f1.mono (hw.now hF)) (f2.mono (hw.now hF)) h_t74) Tryd.call17 rfl rfl rfl ?_
    refine l_val rfl rfl rfl (r_neq rfl rfl) ?_
    refine l_val rfl rfl rfl (r_move (v := .bool (decide (t71 ≠ t74))) rfl) ?_
    refine split (fun hb => ?_) (fun hb => ?_)
    · have H51 := cnd_t hb H50; clear H50
      refine l_passed rfl rfl rfl ?_
      refine l_passed rfl rfl rfl ?_
      refine l_passed rfl rfl rfl ?_
      refine l_passed rfl rfl rfl ?_
      refine l_passed rfl rfl rfl ?_
      refine l_passed rfl rfl rfl ?_
      refine l_val rfl rfl rfl (r_pickT (v := .bool true) rfl rfl) ?_
      refine l_val rfl rfl rfl (r_move (v := .bool true) rfl) ?_
      refine l_passed rfl rfl rfl ?_
      refine l_passed rfl rfl rfl ?_
      refine l_passed rfl rfl rfl ?_
      refine l_passed rfl rfl rfl ?_
      refine l_passed rfl rfl rfl ?_
      refine l_passed rfl rfl rfl ?_
      refine l_val rfl rfl rfl (r_pickT (v := .bool true) rfl rfl) ?_
      refine l_nil ?_
      refine c_true rfl ?_
      refine c_seq ?_
      refine c_region ?_
      refine l_val rfl rfl rfl (r_assign (v := .bool false) rfl) ?_
      refine l_nil ?_
      refine c_ret ?_
      obtain rfl := Option.some.inj H51
      refine ret1 (v := .bool false) rfl rfl (fin rfl)
    · have H52 := cnd_f hb H50; clear H50
      refine l_val rfl rfl rfl (r_move (v := .slice p.1 t34.1.length p.2) rfl) ?_
      refine l_val rfl rfl rfl (r_move (v := .int .i64 t34.2) rfl) ?_
      refine l_val rfl rfl rfl (r_move (v := .slice p_7.1 t56.length p_7.2) rfl) ?_
      refine l_val rfl rfl rfl (r_move (v := .int .i64 t63) rfl) ?_
      obtain ⟨t81, h_t81, H53⟩ := bnd_some H52; clear H52
      refine l_callG (fun w hF hS => k18 (know_all w) (frs_rd (i := 0) hS rfl) (frs_own (i := 2) rfl hS rfl) h_t81) Tryd.call18 rfl rfl rfl ?_
      refine l_val rfl rfl rfl (r_not rfl) ?_
      refine l_val rfl rfl rfl (r_pickF (v := .bool (!t81)) rfl rfl) ?_
      refine l_val rfl rfl rfl (r_move (v := .bool (!t81)) rfl) ?_
      refine split (fun hb => ?_) (fun hb => ?_)
      · have H54 := cnd_t hb H53; clear H53
        refine l_passed rfl rfl rfl ?_
        refine l_passed rfl rfl rfl ?_
        refine l_passed rfl rfl rfl ?_
        refine l_passed rfl rfl rfl ?_
        refine l_passed rfl rfl rfl ?_
        refine l_passed rfl rfl rfl ?_
        refine l_val rfl rfl rfl (r_pickT (v := .bool true) rfl rfl) ?_
        refine l_nil ?_
        refine c_true rfl ?_
        refine c_seq ?_
        refine c_region ?_
        refine l_val rfl rfl rfl (r_assign (v := .bool false) rfl) ?_
        refine l_nil ?_
        refine c_ret ?_
        obtain rfl := Option.some.inj H54
        refine ret1 (v := .bool false) rfl rfl (fin rfl)
      · have H55 := cnd_f hb H53; clear H53
        refine l_val rfl rfl rfl (r_move (v := .slice p_2.1 t40.1.length p_2.2) rfl) ?_
        refine l_val rfl rfl rfl (r_move (v := .int .i64 t40.2) rfl) ?_
        refine l_val rfl rfl rfl (r_move (v := .slice p_8.1 l.length p_8.2) rfl) ?_
        refine l_val rfl rfl rfl (r_move (v := .int .i64 t30) rfl) ?_
        obtain ⟨t89, h_t89, H56⟩ := bnd_some H55; clear H55
        refine l_callG (fun w hF hS => k19 (know_all w) (frs_rd (i := 1) hS rfl) (frs_own (i := 3) rfl hS rfl) h_t89) Tryd.call19 rfl rfl rfl ?_
        refine l_val rfl rfl rfl (r_not rfl) ?_
        refine l_val rfl rfl rfl (r_pickF (v := .bool (!t89)) rfl rfl) ?_
        refine l_nil ?_
        refine c_if (b := (!t89)) rfl (fun hb => ?_) (fun hb => ?_)
        · have H57 := cnd_t hb H56; clear H56
          refine c_seq ?_
          refine c_region ?_
          refine l_val rfl rfl rfl (r_assign (v := .bool false) rfl) ?_
          refine l_nil ?_
          refine c_ret ?_
          obtain rfl := Option.some.inj H57
          refine ret1 (v := .bool false) rfl rfl (fin rfl)
        · have H58 := cnd_f hb H56; clear H56
          refine c_skip ?_
          refine c_seq ?_
          refine c_region ?_
          refine l_val rfl rfl rfl (r_move (v := v0) rfl) ?_
          refine l_val rfl rfl rfl (r_move (v := v1) rfl) ?_
          refine l_val rfl rfl rfl (r_move (v := v2) rfl) ?_
          obtain ⟨t96, h_t96, H59⟩ := bnd_some H58; clear H58
          refine l_make (makes_call (rds := []) (G := fun x : (Option Addr × Nat) => .tuple #[.slice x.1 t96.1.length x.2, .bool t96.2.1, .int .i64 t96.2.2]) (C := fun x : (Option Addr × Nat) => roV 5 (.slice x.1 t96.1.length x.2) t96.1.length (t96.1.map e_edit_Step)) (fun w L' hF hS hi => k20 (know_all w) (f0.mono (hw.now hF)) (f1.mono (hw.now hF)) (f2.mono (hw.now hF)) h_t96) Tryd.call20 rfl) rfl rfl rfl (fun p_9 => ?_)
          refine l_val rfl rfl rfl (r_move (v := .tuple #[.slice p_9.1 t96.1.length p_9.2, .bool t96.2.1, .int .i64 t96.2.2]) rfl) ?_
          refine l_val rfl rfl rfl (r_extract (v := .slice p_9.1 t96.1.length p_9.2) rfl rfl) ?_
          refine l_val rfl rfl rfl (r_extract (v := .bool t96.2.1) rfl rfl) ?_
          refine l_val rfl rfl rfl (r_extract (v := .int .i64 t96.2.2) rfl rfl) ?_
          refine l_val rfl rfl rfl (r_assign (v := .slice p_9.1 t96.1.length p_9.2) rfl) ?_
          refine l_val rfl rfl rfl (r_assign (v := .bool t96.2.1) rfl) ?_
          refine l_val rfl rfl rfl (r_assign (v := .int .i64 t96.2.2) rfl) ?_
          refine l_nil ?_
          refine c_seq ?_
          refine c_region ?_
          refine l_val rfl rfl rfl (r_move (v := v0) rfl) ?_
          obtain ⟨t101, h_t101, H60⟩ := bnd_some H59; clear H59
          refine l_callG (fun w hF hS => k9 (know_all w) (f0.mono (hw.now hF)) h_t101) Tryd.call9 rfl rfl rfl ?_
          refine l_val rfl rfl rfl (r_move (v := .int .i64 t30) rfl) ?_
          refine l_buildSlice (vs := [.int .i64 t101, .int .i64 t30]) (cs := [.int .i64 t101, .int .i64 t30]) Tryd.underlying99 Tryd.sizeOf23 Tryd.zeroValue23 rfl rfl rfl rfl rfl rfl rfl (fun b7 => ?_)
          obtain ⟨t104, h_t104, H61⟩ := bnd_some H60; clear H60
          refine l_callG (fun w hF hS => k8 (know_all w) (frs_box (i := 5) (xs := ([t101, t30] : List Int)) (f := e_i64) hS rfl rfl rfl rfl rfl) h_t104) Tryd.call8 rfl rfl rfl ?_
          refine l_val rfl rfl rfl (r_assign (v := .int .i64 t104) rfl) ?_
          refine l_nil ?_
          refine c_seq ?_
          refine c_region ?_
          refine l_val rfl rfl rfl (r_assign (v := .slice none 0 0) rfl) ?_
          refine l_nil ?_
          refine c_seq ?_
          refine c_region ?_
          refine l_val rfl rfl rfl (r_assign (v := .bool false) rfl) ?_
          refine l_nil ?_
          refine c_meet (r := r) (σ := Int × Bool × (List T_edit_Step)) (τ := (Option Addr × Nat)) (fun s => Law_EditOthers_j2 t96 s.1 s.2.1 s.2.2) (fun s t => [(19, .slice p_9.1 t96.1.length p_9.2), (20, .bool t96.2.1), (21, .int .i64 t96.2.2), (22, .int .i64 s.1), (23, .slice t.1 s.2.2.length t.2), (24, .bool s.2.1)]) (fun s t => [roV 5 (.slice p_9.1 t96.1.length p_9.2) t96.1.length (t96.1.map e_edit_Step), roH h 5 (.slice t.1 s.2.2.length t.2) s.2.2.length (s.2.2.map e_edit_Step)]) (fun s t => True) ?_ ?_
          · refine c_seq ?_
            refine c_region ?_
            refine l_val rfl rfl rfl (r_move (v := .int .i64 t104) rfl) ?_
            refine l_val rfl rfl rfl (r_eql rfl rfl) ?_
            refine l_nil ?_
            refine c_if (b := (decide (t104 = 0))) rfl (fun hb => ?_) (fun hb => ?_)
            · have H66 := cnd_t hb H61; clear H61
              refine c_seq ?_
              refine c_region ?_
              refine l_val rfl rfl rfl (r_move (v := v0) rfl) ?_
              refine l_val rfl rfl rfl (r_move (v := v1) rfl) ?_
              refine l_val rfl rfl rfl (r_move (v := v2) rfl) ?_
              obtain ⟨t111, h_t111, H67⟩ := bnd_some H66; clear H66
              refine l_make (makes_call (rds := []) (G := fun x : (Option Addr × Nat) => .tuple #[.slice x.1 t111.1.length x.2, .bool t111.2]) (C := fun x : (Option Addr × Nat) => roH h 5 (.slice x.1 t111.1.length x.2) t111.1.length (t111.1.map e_edit_Step)) (fun w L' hF hS hi => k21 (h := h) (hw.at hF) f0 f1 f2 h_t111) Tryd.call21 rfl) rfl rfl rfl (fun p_11 => ?_)
              refine l_val rfl rfl rfl (r_move (v := .tuple #[.slice p_11.1 t111.1.length p_11.2, .bool t111.2]) rfl) ?_
              refine l_val rfl rfl rfl (r_extract (v := .slice p_11.1 t111.1.length p_11.2) rfl rfl) ?_
              refine l_val rfl rfl rfl (r_extract (v := .bool t111.2) rfl rfl) ?_
              refine l_val rfl rfl rfl (r_assign (v := .slice p_11.1 t111.1.length p_11.2) rfl) ?_
              refine l_val rfl rfl rfl (r_assign (v := .bool t111.2) rfl) ?_
              refine l_nil ?_
              refine c_seq ?_
              refine c_region ?_
              refine l_val rfl rfl rfl (r_move (v := .slice p_11.1 t111.1.length p_11.2) rfl) ?_
              refine l_val rfl rfl rfl (r_len Tryd.underlying22 rfl) ?_
              refine l_val rfl rfl rfl (r_leq rfl rfl) ?_
              obtain ⟨t117, h_t117, H68⟩ := bnd_some H67; clear H67
              refine l_call (k14 h_t117) Tryd.call14 rfl rfl rfl ?_
              refine l_val rfl rfl rfl (r_assign (v := .int .i64 t117) rfl) ?_
              refine l_nil ?_
              refine c_seq ?_
              refine c_region ?_
              refine l_val rfl rfl rfl (r_move (v := .int .i64 t117) rfl) ?_
              refine l_val rfl rfl rfl (r_neq rfl rfl) ?_
              refine l_nil ?_
              refine c_if (b := (decide (t117 ≠ 0))) rfl (fun hb => ?_) (fun hb => ?_)
              · have H69 := cnd_t hb H68; clear H68
                refine c_region ?_
                refine l_val rfl rfl rfl (r_assign (v := .bool false) rfl) ?_
                refine l_nil ?_
                refine c_close (t117, false, t111.1) p_11 0 [4, 6] (by exact ⟨rfl, rfl, rfl, rfl, rfl, rfl, trivial⟩) (by decide) rfl (by exact ⟨H69, trivial⟩) (Nat.lt_succ_self _)
              · have H70 := cnd_f hb H68; clear H68
                refine c_skip ?_
                refine c_close (t117, t111.2, t111.1) p_11 0 [4, 6] (by exact ⟨rfl, rfl, rfl, rfl, rfl, rfl, trivial⟩) (by decide) rfl (by exact ⟨H70, trivial⟩) (Nat.lt_succ_self _)
            · have H71 := cnd_f hb H61; clear H61
              refine c_skip ?_
              refine c_nilRow 35 5 ?_
              refine c_imp 6 rfl (imp_rowH h _ _ _ _ _) ?_
              refine c_close (t104, false, ([] : List T_edit_Step)) ((none, 0) : Option Addr × Nat) 0 [4, 6] (by exact ⟨rfl, rfl, rfl, rfl, rfl, rfl, trivial⟩) (by decide) rfl (by exact ⟨H71, trivial⟩) (Nat.lt_succ_self _)
          · rintro ⟨x22, x24, l_2⟩ p_10 gg H62 _
            replace H62 : Law_EditOthers_j2 t96 x22 x24 l_2 = some r := H62
            refine c_tidyF [(19, .slice p_9.1 t96.1.length p_9.2), (20, .bool t96.2.1), (21, .int .i64 t96.2.2), (22, .int .i64 x22), (23, .slice p_10.1 l_2.length p_10.2), (24, .bool x24)] [roV 5 (.slice p_9.1 t96.1.length p_9.2) t96.1.length (t96.1.map e_edit_Step), roH h 5 (.slice p_10.1 l_2.length p_10.2) l_2.length (l_2.map e_edit_Step)] rfl rfl ?_
            refine c_seq ?_
            refine c_region ?_
            refine l_val rfl rfl rfl (r_move (v := .slice p_9.1 t96.1.length p_9.2) rfl) ?_
            refine l_val rfl rfl rfl (r_move (v := .int .i64 t96.2.2) rfl) ?_
            refine l_val rfl rfl rfl (r_move (v := .slice p_10.1 l_2.length p_10.2) rfl) ?_
            refine l_val rfl rfl rfl (r_move (v := .int .i64 x22) rfl) ?_
            obtain ⟨t124, h_t124, H63⟩ := bnd_some H62; clear H62
            refine l_callG (fun w hF hS => k18 (know_all w) (frs_rd (i := 0) hS rfl) (frs_roh (i := 1) hS rfl (hw.now hF)) h_t124) Tryd.call18 rfl rfl rfl ?_
            refine l_val rfl rfl rfl (r_move (v := .bool t124) rfl) ?_
            refine split (fun hb => ?_) (fun hb => ?_)
            · have H64 := cnd_t hb H63; clear H63
              refine l_val rfl rfl rfl (r_move (v := .bool t96.2.1) rfl) ?_
              refine l_val rfl rfl rfl (r_move (v := .bool x24) rfl) ?_
              refine l_val rfl rfl rfl (r_eqlB Tryd.underlying4 rfl rfl) ?_
              refine l_val rfl rfl rfl (r_pickT (v := .bool (decide (t96.2.1 = x24))) rfl rfl) ?_
              refine l_val rfl rfl rfl (r_assign (v := .bool (decide (t96.2.1 = x24))) rfl) ?_
              refine l_nil ?_
              refine c_ret ?_
              obtain rfl := Option.some.inj H64
              refine ret1 (v := .bool (decide (t96.2.1 = x24))) rfl rfl (fin rfl)
            · have H65 := cnd_f hb H63; clear H63
              refine l_passed rfl rfl rfl ?_
              refine l_passed rfl rfl rfl ?_
              refine l_passed rfl rfl rfl ?_
              refine l_val rfl rfl rfl (r_pickF (v := .bool false) rfl rfl) ?_
              refine l_val rfl rfl rfl (r_assign (v := .bool false) rfl) ?_
              refine l_nil ?_
              refine c_ret ?_
              obtain rfl := Option.some.inj H65
              refine ret1 (v := .bool false) rfl rfl (fin rfl)
end Go.Proofs.YtilhbkglchppjaaDoor
