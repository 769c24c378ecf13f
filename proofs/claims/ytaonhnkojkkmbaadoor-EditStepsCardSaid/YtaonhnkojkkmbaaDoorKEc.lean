/- EditSteps, third part: the walks, printed by our generator; each follows its model. Conditions: the model yields a value. -/
import Derived.Test.YtaonhnkojkkmbaaDoorKEb
namespace Go.Proofs.YtaonhnkojkkmbaaDoor
open Go Go.Vc Go.Md Go.M Go.Lx
set_option maxRecDepth 100000
set_option maxHeartbeats 4000000
set_option linter.unusedVariables false

theorem k40 {a0 : Int} {a1 : Int} {a2 : Int} {r : Bool} (H : R_StepFault_1 a0 a1 a2 = some r) : Ret Tryd.prog 40 [.int .i64 a0, .int .i64 a1, .int .i64 a2] (.bool r) := by
  refine enterRet (n := 15) Tryd.func40 rfl rfl rfl (fun wd => ?_)
  refine c_seq ?_
  refine c_region ?_
  refine l_val rfl rfl rfl (r_assign (v := .bool false) rfl) ?_
  refine l_nil ?_
  refine c_seq ?_
  refine c_region ?_
  refine l_val rfl rfl rfl (r_move (v := .int .i64 a0) rfl) ?_
  refine l_val rfl rfl rfl (r_move (v := .int .i64 a1) rfl) ?_
  refine l_val rfl rfl rfl (r_lss rfl rfl) ?_
  refine l_val rfl rfl rfl (r_move (v := .bool (decide (a0 < a1))) rfl) ?_
  refine split (fun hb => ?_) (fun hb => ?_)
  · have H3 := cnd_t hb H; clear H
    refine l_passed rfl rfl rfl ?_
    refine l_passed rfl rfl rfl ?_
    refine l_passed rfl rfl rfl ?_
    refine l_val rfl rfl rfl (r_pickT (v := .bool true) rfl rfl) ?_
    refine l_val rfl rfl rfl (r_assign (v := .bool true) rfl) ?_
    refine l_nil ?_
    refine c_ret ?_
    obtain rfl := Option.some.inj H3
    refine ret1 (v := .bool true) rfl rfl (fin rfl)
  · have H4 := cnd_f hb H; clear H
    refine l_val rfl rfl rfl (r_move (v := .int .i64 a0) rfl) ?_
    refine l_val rfl rfl rfl (r_move (v := .int .i64 a2) rfl) ?_
    refine l_val rfl rfl rfl (r_gtr rfl rfl) ?_
    refine l_val rfl rfl rfl (r_pickF (v := .bool (decide (a2 < a0))) rfl rfl) ?_
    refine l_val rfl rfl rfl (r_assign (v := .bool (decide (a2 < a0))) rfl) ?_
    refine l_nil ?_
    refine c_ret ?_
    obtain rfl := Option.some.inj H4
    refine ret1 (v := .bool (decide (a2 < a0))) rfl rfl (fin rfl)
theorem k7 {a0 : T_edit_Step} {r : Int} (H : R_StepFault a0 = some r) : Ret Tryd.prog 7 [.agg #[.int .i64 a0.Kind, .int .i64 a0.A, .int .i64 a0.B, .int .i64 a0.C, .int .i64 a0.D]] (.int .i64 r) := by
  refine enterRet (n := 131) Tryd.func7 rfl rfl rfl (fun wd => ?_)
  refine c_seq ?_
  refine c_region ?_
  refine l_box (cs := [.int .i64 a0.Kind, .int .i64 a0.A, .int .i64 a0.B, .int .i64 a0.C, .int .i64 a0.D]) rfl rfl rfl rfl (fun b2 => ?_)
  refine l_val rfl rfl rfl (r_assign (v := .int .i64 0) rfl) ?_
  refine l_nil ?_
  refine c_seq ?_
  refine c_seq ?_
  refine c_region ?_
  refine l_val rfl rfl rfl (r_field Tryd.runUnderlying24 rfl Tryd.sizeOf3 rfl rfl) ?_
  refine l_load1 (i := 0) (v := .int .i64 a0.Kind) Tryd.isAgg3 rfl rfl rfl rfl rfl ?_
  refine l_val rfl rfl rfl (r_lss rfl rfl) ?_
  refine l_val rfl rfl rfl (r_move (v := .bool (decide (a0.Kind < 1))) rfl) ?_
  refine split (fun hb => ?_) (fun hb => ?_)
  · have H63 := cnd_t hb H; clear H
    refine l_passed rfl rfl rfl ?_
    refine l_passed rfl rfl rfl ?_
    refine l_passed rfl rfl rfl ?_
    refine l_val rfl rfl rfl (r_pickT (v := .bool true) rfl rfl) ?_
    refine l_nil ?_
    refine c_true rfl ?_
    refine c_seq ?_
    refine c_region ?_
    refine l_val rfl rfl rfl (r_assign (v := .int .i64 10) rfl) ?_
    refine l_nil ?_
    refine c_ret ?_
    obtain rfl := Option.some.inj H63
    refine ret1 (v := .int .i64 10) rfl rfl (fin rfl)
  · have H64 := cnd_f hb H; clear H
    refine l_val rfl rfl rfl (r_field Tryd.runUnderlying24 rfl Tryd.sizeOf3 rfl rfl) ?_
    refine l_load1 (i := 0) (v := .int .i64 a0.Kind) Tryd.isAgg3 rfl rfl rfl rfl rfl ?_
    refine l_val rfl rfl rfl (r_gtr rfl rfl) ?_
    refine l_val rfl rfl rfl (r_pickF (v := .bool (decide (9 < a0.Kind))) rfl rfl) ?_
    refine l_nil ?_
    refine c_if (b := (decide (9 < a0.Kind))) rfl (fun hb => ?_) (fun hb => ?_)
    · have H65 := cnd_t hb H64; clear H64
      refine c_seq ?_
      refine c_region ?_
      refine l_val rfl rfl rfl (r_assign (v := .int .i64 10) rfl) ?_
      refine l_nil ?_
      refine c_ret ?_
      obtain rfl := Option.some.inj H65
      refine ret1 (v := .int .i64 10) rfl rfl (fin rfl)
    · have H66 := cnd_f hb H64; clear H64
      refine c_skip ?_
      refine c_meet (r := r) (σ := Unit) (τ := Unit) (fun s => R_StepFault_j1 a0) (fun s t => [(1, .pointer (some ⟨b2, 0, none⟩))]) (fun s t => [cellsC b2 [.int .i64 a0.Kind, .int .i64 a0.A, .int .i64 a0.B, .int .i64 a0.C, .int .i64 a0.D] 24]) (fun s t => True) ?_ ?_
      · refine c_seq ?_
        refine c_region ?_
        refine l_val rfl rfl rfl (r_field Tryd.runUnderlying24 rfl Tryd.sizeOf3 rfl rfl) ?_
        refine l_load1 (i := 0) (v := .int .i64 a0.A) Tryd.isAgg3 rfl rfl rfl rfl rfl ?_
        refine l_val rfl rfl rfl (r_field Tryd.runUnderlying24 rfl Tryd.sizeOf3 rfl rfl) ?_
        refine l_load1 (i := 0) (v := .int .i64 a0.B) Tryd.isAgg3 rfl rfl rfl rfl rfl ?_
        refine l_val rfl rfl rfl (r_field Tryd.runUnderlying24 rfl Tryd.sizeOf3 rfl rfl) ?_
        refine l_load1 (i := 0) (v := .int .i64 a0.C) Tryd.isAgg3 rfl rfl rfl rfl rfl ?_
        refine l_val rfl rfl rfl (r_field Tryd.runUnderlying24 rfl Tryd.sizeOf3 rfl rfl) ?_
        refine l_load1 (i := 0) (v := .int .i64 a0.D) Tryd.isAgg3 rfl rfl rfl rfl rfl ?_
        refine l_buildSlice (vs := [.int .i64 a0.A, .int .i64 a0.B, .int .i64 a0.C, .int .i64 a0.D]) (cs := [.int .i64 a0.A, .int .i64 a0.B, .int .i64 a0.C, .int .i64 a0.D]) Tryd.underlying69 Tryd.sizeOf3 Tryd.zeroValue3 rfl rfl rfl rfl rfl rfl rfl (fun b3 => ?_)
        refine l_val rfl rfl rfl (r_len Tryd.underlying69 rfl) ?_
        refine l_val rfl rfl rfl (r_move (v := .int .i64 0) rfl) ?_
        refine l_nil ?_
        refine c_block ?_
        refine c_fix (σ := Int) (τ := Unit) (fun next3 s => R_StepFault_l3 a0 next3 s) (fun s t => [(1, .pointer (some ⟨b2, 0, none⟩)), (23, .slice (some ⟨b3, 0, none⟩) 4 4), (24, .int .i64 4), (25, .int .i64 s)]) (fun s t => [cellsC b2 [.int .i64 a0.Kind, .int .i64 a0.A, .int .i64 a0.B, .int .i64 a0.C, .int .i64 a0.D] 24, cellsC b3 [.int .i64 a0.A, .int .i64 a0.B, .int .i64 a0.C, .int .i64 a0.D] 3]) (fun s t => True) 0 () [0, 1] H66 (by exact trivial) (by exact ⟨rfl, rfl, rfl, rfl, trivial⟩) (by decide) rfl ?_
        rintro x25_2 _ m3 gg H114 _
        clear H66
        replace H114 : R_StepFault_l3 a0 (it (fun next3 s => R_StepFault_l3 a0 next3 s) m3) x25_2 = some r := H114
        generalize hn3 : it (fun next3 s => R_StepFault_l3 a0 next3 s) m3 = next3 at H114
        refine c_tidyF [(1, .pointer (some ⟨b2, 0, none⟩)), (23, .slice (some ⟨b3, 0, none⟩) 4 4), (24, .int .i64 4), (25, .int .i64 x25_2)] [cellsC b2 [.int .i64 a0.Kind, .int .i64 a0.A, .int .i64 a0.B, .int .i64 a0.C, .int .i64 a0.D] 24, cellsC b3 [.int .i64 a0.A, .int .i64 a0.B, .int .i64 a0.C, .int .i64 a0.D] 3] rfl rfl ?_
        refine c_seq ?_
        refine c_region ?_
        refine l_val rfl rfl rfl (r_lss rfl rfl) ?_
        refine l_nil ?_
        refine c_seq ?_
        refine c_if (b := (decide (x25_2 < 4))) rfl (fun hb => ?_) (fun hb => ?_)
        · have H115 := cnd_t hb H114; clear H114
          refine c_skip ?_
          refine c_meet (r := r) (σ := Unit) (τ := Unit) (fun s => R_StepFault_j4 x25_2 next3) (fun s t => [(1, .pointer (some ⟨b2, 0, none⟩)), (23, .slice (some ⟨b3, 0, none⟩) 4 4), (24, .int .i64 4), (25, .int .i64 x25_2)]) (fun s t => [cellsC b2 [.int .i64 a0.Kind, .int .i64 a0.A, .int .i64 a0.B, .int .i64 a0.C, .int .i64 a0.D] 24, cellsC b3 [.int .i64 a0.A, .int .i64 a0.B, .int .i64 a0.C, .int .i64 a0.D] 3]) (fun s t => True) ?_ ?_
          · refine c_block ?_
            refine c_seq ?_
            refine c_region ?_
            refine l_val rfl rfl rfl (r_move (v := .int .i64 x25_2) rfl) ?_
            obtain ⟨t28, h_t28, H118⟩ := bnd_some H115; clear H115
            refine l_val rfl rfl rfl (r_indexS Tryd.underlying69 Tryd.sizeOf3 rfl rfl h_t28 rfl) ?_
            refine l_read (fun w hF hS => run_loadG1 (f := e_i64) (i := x25_2) (sz := 1) (j := 0) (v := .int .i64 t28) Tryd.isAgg3 rfl rfl (row_box (sz := 1) (xs := ([a0.A, a0.B, a0.C, a0.D] : List Int).map e_i64) (i := 1) hS rfl rfl rfl) h_t28 rfl) rfl rfl rfl ?_
            refine l_val rfl rfl rfl (r_assign (v := .int .i64 x25_2) rfl) ?_
            refine l_val rfl rfl rfl (r_assign (v := .int .i64 t28) rfl) ?_
            refine l_nil ?_
            refine c_seq ?_
            refine c_region ?_
            refine l_val rfl rfl rfl (r_move (v := .int .i64 x25_2) rfl) ?_
            refine l_val rfl rfl rfl (r_field Tryd.runUnderlying24 rfl Tryd.sizeOf3 rfl rfl) ?_
            refine l_load1 (i := 0) (v := .int .i64 a0.Kind) Tryd.isAgg3 rfl rfl rfl rfl rfl ?_
            obtain ⟨t33, h_t33, H119⟩ := bnd_some H118; clear H118
            refine l_call (k39 h_t33) Tryd.call39 rfl rfl rfl ?_
            refine l_val rfl rfl rfl (r_geq rfl rfl) ?_
            refine l_val rfl rfl rfl (r_move (v := .bool (decide (t33 ≤ x25_2))) rfl) ?_
            refine split (fun hb => ?_) (fun hb => ?_)
            · have H120 := cnd_t hb H119; clear H119
              refine l_val rfl rfl rfl (r_move (v := .int .i64 t28) rfl) ?_
              refine l_val rfl rfl rfl (r_neq rfl rfl) ?_
              refine l_val rfl rfl rfl (r_pickT (v := .bool (decide (t28 ≠ 0))) rfl rfl) ?_
              refine l_nil ?_
              refine c_if (b := (decide (t28 ≠ 0))) rfl (fun hb => ?_) (fun hb => ?_)
              · have H121 := cnd_t hb H120; clear H120
                refine c_seq ?_
                refine c_region ?_
                refine l_val rfl rfl rfl (r_assign (v := .int .i64 1) rfl) ?_
                refine l_nil ?_
                refine c_ret ?_
                obtain rfl := Option.some.inj H121
                refine ret1 (v := .int .i64 1) rfl rfl (fin rfl)
              · have H122 := cnd_f hb H120; clear H120
                refine c_skip ?_
                refine c_close () () 0 [0, 1] (by exact ⟨rfl, rfl, rfl, rfl, trivial⟩) (by decide) rfl (by exact ⟨H122, trivial⟩) (Nat.lt_succ_self _)
            · have H123 := cnd_f hb H119; clear H119
              refine l_passed rfl rfl rfl ?_
              refine l_passed rfl rfl rfl ?_
              refine l_val rfl rfl rfl (r_pickF (v := .bool false) rfl rfl) ?_
              refine l_nil ?_
              refine c_false rfl ?_
              refine c_skip ?_
              refine c_close () () 0 [0, 1] (by exact ⟨rfl, rfl, rfl, rfl, trivial⟩) (by decide) rfl (by exact ⟨H123, trivial⟩) (Nat.lt_succ_self _)
          · rintro _ _ gg H116 _
            replace H116 : R_StepFault_j4 x25_2 next3 = some r := H116
            refine c_tidyF [(1, .pointer (some ⟨b2, 0, none⟩)), (23, .slice (some ⟨b3, 0, none⟩) 4 4), (24, .int .i64 4), (25, .int .i64 x25_2)] [cellsC b2 [.int .i64 a0.Kind, .int .i64 a0.A, .int .i64 a0.B, .int .i64 a0.C, .int .i64 a0.D] 24, cellsC b3 [.int .i64 a0.A, .int .i64 a0.B, .int .i64 a0.C, .int .i64 a0.D] 3] rfl rfl ?_
            refine c_region ?_
            obtain ⟨t39, h_t39, H117⟩ := bnd_some H116; clear H116
            refine l_val rfl rfl rfl (r_addG rfl rfl h_t39) ?_
            refine l_val rfl rfl rfl (r_move (v := .int .i64 t39) rfl) ?_
            refine l_nil ?_
            refine c_close t39 () m3 [0, 1] (by exact ⟨rfl, rfl, rfl, rfl, trivial⟩) (by decide) rfl (by exact ⟨(by subst hn3; exact H117), trivial⟩) (Nat.lt_succ_self _)
        · have H124 := cnd_f hb H114; clear H114
          refine c_exit ?_
          refine c_close () () 0 [0] (by exact ⟨rfl, trivial⟩) (by decide) rfl (by exact ⟨H124, trivial⟩) (Nat.lt_succ_self _)
      · rintro _ _ gg H67 _
        replace H67 : R_StepFault_j1 a0 = some r := H67
        refine c_tidyF [(1, .pointer (some ⟨b2, 0, none⟩))] [cellsC b2 [.int .i64 a0.Kind, .int .i64 a0.A, .int .i64 a0.B, .int .i64 a0.C, .int .i64 a0.D] 24] rfl rfl ?_
        refine c_seq ?_
        refine c_region ?_
        refine l_val rfl rfl rfl (r_assign (v := .func (.func 40) #[] #[]) rfl) ?_
        refine l_nil ?_
        refine c_seq ?_
        refine c_region ?_
        refine l_val rfl rfl rfl (r_assign (v := .bool false) rfl) ?_
        refine l_nil ?_
        refine c_meet (r := r) (σ := Bool) (τ := Unit) (fun s => R_StepFault_j2 a0 s) (fun s t => [(1, .pointer (some ⟨b2, 0, none⟩)), (6, .bool s)]) (fun s t => [cellsC b2 [.int .i64 a0.Kind, .int .i64 a0.A, .int .i64 a0.B, .int .i64 a0.C, .int .i64 a0.D] 24]) (fun s t => True) ?_ ?_
        · refine c_seq ?_
          refine c_region ?_
          refine l_val rfl rfl rfl (r_field Tryd.runUnderlying24 rfl Tryd.sizeOf3 rfl rfl) ?_
          refine l_load1 (i := 0) (v := .int .i64 a0.Kind) Tryd.isAgg3 rfl rfl rfl rfl rfl ?_
          refine l_nil ?_
          refine c_block ?_
          refine c_seq ?_
          refine c_region ?_
          refine l_val rfl rfl rfl (r_eql rfl rfl) ?_
          refine l_val rfl rfl rfl (r_assign (v := .bool (decide (a0.Kind = 1))) rfl) ?_
          refine l_nil ?_
          refine c_if (b := (decide (a0.Kind = 1))) rfl (fun hb => ?_) (fun hb => ?_)
          · have H75 := cnd_t hb H67; clear H67
            refine c_region ?_
            refine l_val rfl rfl rfl (r_move (v := .func (.func 40) #[] #[]) rfl) ?_
            refine l_val rfl rfl rfl (r_field Tryd.runUnderlying24 rfl Tryd.sizeOf3 rfl rfl) ?_
            refine l_load1 (i := 0) (v := .int .i64 a0.A) Tryd.isAgg3 rfl rfl rfl rfl rfl ?_
            obtain ⟨t47, h_t47, H76⟩ := bnd_some H75; clear H75
            refine l_callV (R := fnR_func_int_int_int_bool R_StepFault_1) (r := .bool t47) (v := .func (.func 40) #[] #[]) (fun w hF hS => ⟨(FnH.mk ⟨40, #[], #[], rfl, Tryd.call40, fun args2 post2 w2 hk2 hR2 => by obtain ⟨a0_, a1_, a2_, r_, rfl, H_, rfl⟩ := hR2; exact k40 H_ w2⟩), ⟨a0.A, 1, 8, _, rfl, h_t47, rfl⟩⟩) rfl rfl rfl rfl ?_
            refine l_val rfl rfl rfl (r_assign (v := .bool t47) rfl) ?_
            refine l_nil ?_
            refine c_close t47 () 0 [0] (by exact ⟨rfl, rfl, trivial⟩) (by decide) rfl (by exact ⟨H76, trivial⟩) (Nat.lt_succ_self _)
          · have H77 := cnd_f hb H67; clear H67
            refine c_seq ?_
            refine c_region ?_
            refine l_val rfl rfl rfl (r_eql rfl rfl) ?_
            refine l_val rfl rfl rfl (r_assign (v := .bool (decide (a0.Kind = 2))) rfl) ?_
            refine l_nil ?_
            refine c_if (b := (decide (a0.Kind = 2))) rfl (fun hb => ?_) (fun hb => ?_)
            · have H78 := cnd_t hb H77; clear H77
              refine c_region ?_
              refine l_val rfl rfl rfl (r_move (v := .func (.func 40) #[] #[]) rfl) ?_
              refine l_val rfl rfl rfl (r_field Tryd.runUnderlying24 rfl Tryd.sizeOf3 rfl rfl) ?_
              refine l_load1 (i := 0) (v := .int .i64 a0.A) Tryd.isAgg3 rfl rfl rfl rfl rfl ?_
              obtain ⟨t53, h_t53, H79⟩ := bnd_some H78; clear H78
              refine l_callV (R := fnR_func_int_int_int_bool R_StepFault_1) (r := .bool t53) (v := .func (.func 40) #[] #[]) (fun w hF hS => ⟨(FnH.mk ⟨40, #[], #[], rfl, Tryd.call40, fun args2 post2 w2 hk2 hR2 => by obtain ⟨a0_, a1_, a2_, r_, rfl, H_, rfl⟩ := hR2; exact k40 H_ w2⟩), ⟨a0.A, 0, 63, _, rfl, h_t53, rfl⟩⟩) rfl rfl rfl rfl ?_
              refine l_val rfl rfl rfl (r_move (v := .bool t53) rfl) ?_
              refine split (fun hb => ?_) (fun hb => ?_)
              · have H80 := cnd_t hb H79; clear H79
                refine l_passed rfl rfl rfl ?_
                refine l_passed rfl rfl rfl ?_
                refine l_passed rfl rfl rfl ?_
                refine l_passed rfl rfl rfl ?_
                refine l_val rfl rfl rfl (r_pickT (v := .bool true) rfl rfl) ?_
                refine l_val rfl rfl rfl (r_move (v := .bool true) rfl) ?_
                refine l_passed rfl rfl rfl ?_
                refine l_passed rfl rfl rfl ?_
                refine l_passed rfl rfl rfl ?_
                refine l_passed rfl rfl rfl ?_
                refine l_val rfl rfl rfl (r_pickT (v := .bool true) rfl rfl) ?_
                refine l_val rfl rfl rfl (r_move (v := .bool true) rfl) ?_
                refine l_passed rfl rfl rfl ?_
                refine l_passed rfl rfl rfl ?_
                refine l_passed rfl rfl rfl ?_
                refine l_passed rfl rfl rfl ?_
                refine l_val rfl rfl rfl (r_pickT (v := .bool true) rfl rfl) ?_
                refine l_val rfl rfl rfl (r_assign (v := .bool true) rfl) ?_
                refine l_nil ?_
                refine c_close true () 0 [0] (by exact ⟨rfl, rfl, trivial⟩) (by decide) rfl (by exact ⟨H80, trivial⟩) (Nat.lt_succ_self _)
              · have H81 := cnd_f hb H79; clear H79
                refine l_val rfl rfl rfl (r_move (v := .func (.func 40) #[] #[]) rfl) ?_
                refine l_val rfl rfl rfl (r_field Tryd.runUnderlying24 rfl Tryd.sizeOf3 rfl rfl) ?_
                refine l_load1 (i := 0) (v := .int .i64 a0.B) Tryd.isAgg3 rfl rfl rfl rfl rfl ?_
                obtain ⟨t58, h_t58, H82⟩ := bnd_some H81; clear H81
                refine l_callV (R := fnR_func_int_int_int_bool R_StepFault_1) (r := .bool t58) (v := .func (.func 40) #[] #[]) (fun w hF hS => ⟨(FnH.mk ⟨40, #[], #[], rfl, Tryd.call40, fun args2 post2 w2 hk2 hR2 => by obtain ⟨a0_, a1_, a2_, r_, rfl, H_, rfl⟩ := hR2; exact k40 H_ w2⟩), ⟨a0.B, 0, 63, _, rfl, h_t58, rfl⟩⟩) rfl rfl rfl rfl ?_
                refine l_val rfl rfl rfl (r_pickF (v := .bool t58) rfl rfl) ?_
                refine l_val rfl rfl rfl (r_move (v := .bool t58) rfl) ?_
                refine split (fun hb => ?_) (fun hb => ?_)
                · have H83 := cnd_t hb H82; clear H82
                  refine l_passed rfl rfl rfl ?_
                  refine l_passed rfl rfl rfl ?_
                  refine l_passed rfl rfl rfl ?_
                  refine l_passed rfl rfl rfl ?_
                  refine l_val rfl rfl rfl (r_pickT (v := .bool true) rfl rfl) ?_
                  refine l_val rfl rfl rfl (r_move (v := .bool true) rfl) ?_
                  refine l_passed rfl rfl rfl ?_
                  refine l_passed rfl rfl rfl ?_
                  refine l_passed rfl rfl rfl ?_
                  refine l_passed rfl rfl rfl ?_
                  refine l_val rfl rfl rfl (r_pickT (v := .bool true) rfl rfl) ?_
                  refine l_val rfl rfl rfl (r_assign (v := .bool true) rfl) ?_
                  refine l_nil ?_
                  refine c_close true () 0 [0] (by exact ⟨rfl, rfl, trivial⟩) (by decide) rfl (by exact ⟨H83, trivial⟩) (Nat.lt_succ_self _)
                · have H84 := cnd_f hb H82; clear H82
                  refine l_val rfl rfl rfl (r_move (v := .func (.func 40) #[] #[]) rfl) ?_
                  refine l_val rfl rfl rfl (r_field Tryd.runUnderlying24 rfl Tryd.sizeOf3 rfl rfl) ?_
                  refine l_load1 (i := 0) (v := .int .i64 a0.C) Tryd.isAgg3 rfl rfl rfl rfl rfl ?_
                  obtain ⟨t64, h_t64, H85⟩ := bnd_some H84; clear H84
                  refine l_callV (R := fnR_func_int_int_int_bool R_StepFault_1) (r := .bool t64) (v := .func (.func 40) #[] #[]) (fun w hF hS => ⟨(FnH.mk ⟨40, #[], #[], rfl, Tryd.call40, fun args2 post2 w2 hk2 hR2 => by obtain ⟨a0_, a1_, a2_, r_, rfl, H_, rfl⟩ := hR2; exact k40 H_ w2⟩), ⟨a0.C, 1, 64, _, rfl, h_t64, rfl⟩⟩) rfl rfl rfl rfl ?_
                  refine l_val rfl rfl rfl (r_pickF (v := .bool t64) rfl rfl) ?_
                  refine l_val rfl rfl rfl (r_move (v := .bool t64) rfl) ?_
                  refine split (fun hb => ?_) (fun hb => ?_)
                  · have H86 := cnd_t hb H85; clear H85
                    refine l_passed rfl rfl rfl ?_
                    refine l_passed rfl rfl rfl ?_
                    refine l_passed rfl rfl rfl ?_
                    refine l_passed rfl rfl rfl ?_
                    refine l_val rfl rfl rfl (r_pickT (v := .bool true) rfl rfl) ?_
                    refine l_val rfl rfl rfl (r_assign (v := .bool true) rfl) ?_
                    refine l_nil ?_
                    refine c_close true () 0 [0] (by exact ⟨rfl, rfl, trivial⟩) (by decide) rfl (by exact ⟨H86, trivial⟩) (Nat.lt_succ_self _)
                  · have H87 := cnd_f hb H85; clear H85
                    refine l_val rfl rfl rfl (r_move (v := .func (.func 40) #[] #[]) rfl) ?_
                    refine l_val rfl rfl rfl (r_field Tryd.runUnderlying24 rfl Tryd.sizeOf3 rfl rfl) ?_
                    refine l_load1 (i := 0) (v := .int .i64 a0.D) Tryd.isAgg3 rfl rfl rfl rfl rfl ?_
                    obtain ⟨t70, h_t70, H88⟩ := bnd_some H87; clear H87
                    refine l_callV (R := fnR_func_int_int_int_bool R_StepFault_1) (r := .bool t70) (v := .func (.func 40) #[] #[]) (fun w hF hS => ⟨(FnH.mk ⟨40, #[], #[], rfl, Tryd.call40, fun args2 post2 w2 hk2 hR2 => by obtain ⟨a0_, a1_, a2_, r_, rfl, H_, rfl⟩ := hR2; exact k40 H_ w2⟩), ⟨a0.D, 1, 64, _, rfl, h_t70, rfl⟩⟩) rfl rfl rfl rfl ?_
                    refine l_val rfl rfl rfl (r_pickF (v := .bool t70) rfl rfl) ?_
                    refine l_val rfl rfl rfl (r_assign (v := .bool t70) rfl) ?_
                    refine l_nil ?_
                    refine c_close t70 () 0 [0] (by exact ⟨rfl, rfl, trivial⟩) (by decide) rfl (by exact ⟨H88, trivial⟩) (Nat.lt_succ_self _)
            · have H89 := cnd_f hb H77; clear H77
              refine c_seq ?_
              refine c_region ?_
              refine l_val rfl rfl rfl (r_eql rfl rfl) ?_
              refine l_val rfl rfl rfl (r_assign (v := .bool (decide (a0.Kind = 3))) rfl) ?_
              refine l_nil ?_
              refine c_if (b := (decide (a0.Kind = 3))) rfl (fun hb => ?_) (fun hb => ?_)
              · have H90 := cnd_t hb H89; clear H89
                refine c_region ?_
                refine l_val rfl rfl rfl (r_move (v := .func (.func 40) #[] #[]) rfl) ?_
                refine l_val rfl rfl rfl (r_field Tryd.runUnderlying24 rfl Tryd.sizeOf3 rfl rfl) ?_
                refine l_load1 (i := 0) (v := .int .i64 a0.A) Tryd.isAgg3 rfl rfl rfl rfl rfl ?_
                obtain ⟨t77, h_t77, H91⟩ := bnd_some H90; clear H90
                refine l_callV (R := fnR_func_int_int_int_bool R_StepFault_1) (r := .bool t77) (v := .func (.func 40) #[] #[]) (fun w hF hS => ⟨(FnH.mk ⟨40, #[], #[], rfl, Tryd.call40, fun args2 post2 w2 hk2 hR2 => by obtain ⟨a0_, a1_, a2_, r_, rfl, H_, rfl⟩ := hR2; exact k40 H_ w2⟩), ⟨a0.A, 1, 64, _, rfl, h_t77, rfl⟩⟩) rfl rfl rfl rfl ?_
                refine l_val rfl rfl rfl (r_move (v := .bool t77) rfl) ?_
                refine split (fun hb => ?_) (fun hb => ?_)
                · have H92 := cnd_t hb H91; clear H91
                  refine l_passed rfl rfl rfl ?_
                  refine l_passed rfl rfl rfl ?_
                  refine l_passed rfl rfl rfl ?_
                  refine l_passed rfl rfl rfl ?_
                  refine l_val rfl rfl rfl (r_pickT (v := .bool true) rfl rfl) ?_
                  refine l_val rfl rfl rfl (r_assign (v := .bool true) rfl) ?_
                  refine l_nil ?_
                  refine c_close true () 0 [0] (by exact ⟨rfl, rfl, trivial⟩) (by decide) rfl (by exact ⟨H92, trivial⟩) (Nat.lt_succ_self _)
                · have H93 := cnd_f hb H91; clear H91
                  refine l_val rfl rfl rfl (r_move (v := .func (.func 40) #[] #[]) rfl) ?_
                  refine l_val rfl rfl rfl (r_field Tryd.runUnderlying24 rfl Tryd.sizeOf3 rfl rfl) ?_
                  refine l_load1 (i := 0) (v := .int .i64 a0.B) Tryd.isAgg3 rfl rfl rfl rfl rfl ?_
                  obtain ⟨t82, h_t82, H94⟩ := bnd_some H93; clear H93
                  refine l_callV (R := fnR_func_int_int_int_bool R_StepFault_1) (r := .bool t82) (v := .func (.func 40) #[] #[]) (fun w hF hS => ⟨(FnH.mk ⟨40, #[], #[], rfl, Tryd.call40, fun args2 post2 w2 hk2 hR2 => by obtain ⟨a0_, a1_, a2_, r_, rfl, H_, rfl⟩ := hR2; exact k40 H_ w2⟩), ⟨a0.B, 1, 64, _, rfl, h_t82, rfl⟩⟩) rfl rfl rfl rfl ?_
                  refine l_val rfl rfl rfl (r_pickF (v := .bool t82) rfl rfl) ?_
                  refine l_val rfl rfl rfl (r_assign (v := .bool t82) rfl) ?_
                  refine l_nil ?_
                  refine c_close t82 () 0 [0] (by exact ⟨rfl, rfl, trivial⟩) (by decide) rfl (by exact ⟨H94, trivial⟩) (Nat.lt_succ_self _)
              · have H95 := cnd_f hb H89; clear H89
                refine c_seq ?_
                refine c_region ?_
                refine l_val rfl rfl rfl (r_eql rfl rfl) ?_
                refine l_val rfl rfl rfl (r_assign (v := .bool (decide (a0.Kind = 4))) rfl) ?_
                refine l_nil ?_
                refine c_if (b := (decide (a0.Kind = 4))) rfl (fun hb => ?_) (fun hb => ?_)
                · have H96 := cnd_t hb H95; clear H95
                  refine c_region ?_
                  refine l_val rfl rfl rfl (r_move (v := .func (.func 40) #[] #[]) rfl) ?_
                  refine l_val rfl rfl rfl (r_field Tryd.runUnderlying24 rfl Tryd.sizeOf3 rfl rfl) ?_
                  refine l_load1 (i := 0) (v := .int .i64 a0.A) Tryd.isAgg3 rfl rfl rfl rfl rfl ?_
                  obtain ⟨t89, h_t89, H97⟩ := bnd_some H96; clear H96
                  refine l_callV (R := fnR_func_int_int_int_bool R_StepFault_1) (r := .bool t89) (v := .func (.func 40) #[] #[]) (fun w hF hS => ⟨(FnH.mk ⟨40, #[], #[], rfl, Tryd.call40, fun args2 post2 w2 hk2 hR2 => by obtain ⟨a0_, a1_, a2_, r_, rfl, H_, rfl⟩ := hR2; exact k40 H_ w2⟩), ⟨a0.A, (-255), 255, _, rfl, h_t89, rfl⟩⟩) rfl rfl rfl rfl ?_
                  refine l_val rfl rfl rfl (r_assign (v := .bool t89) rfl) ?_
                  refine l_nil ?_
                  refine c_close t89 () 0 [0] (by exact ⟨rfl, rfl, trivial⟩) (by decide) rfl (by exact ⟨H97, trivial⟩) (Nat.lt_succ_self _)
                · have H98 := cnd_f hb H95; clear H95
                  refine c_seq ?_
                  refine c_region ?_
                  refine l_val rfl rfl rfl (r_eql rfl rfl) ?_
                  refine l_val rfl rfl rfl (r_assign (v := .bool (decide (a0.Kind = 5))) rfl) ?_
                  refine l_nil ?_
                  refine c_if (b := (decide (a0.Kind = 5))) rfl (fun hb => ?_) (fun hb => ?_)
                  · have H99 := cnd_t hb H98; clear H98
                    refine c_region ?_
                    refine l_val rfl rfl rfl (r_move (v := .func (.func 40) #[] #[]) rfl) ?_
                    refine l_val rfl rfl rfl (r_field Tryd.runUnderlying24 rfl Tryd.sizeOf3 rfl rfl) ?_
                    refine l_load1 (i := 0) (v := .int .i64 a0.A) Tryd.isAgg3 rfl rfl rfl rfl rfl ?_
                    obtain ⟨t95, h_t95, H100⟩ := bnd_some H99; clear H99
                    refine l_callV (R := fnR_func_int_int_int_bool R_StepFault_1) (r := .bool t95) (v := .func (.func 40) #[] #[]) (fun w hF hS => ⟨(FnH.mk ⟨40, #[], #[], rfl, Tryd.call40, fun args2 post2 w2 hk2 hR2 => by obtain ⟨a0_, a1_, a2_, r_, rfl, H_, rfl⟩ := hR2; exact k40 H_ w2⟩), ⟨a0.A, 0, 400, _, rfl, h_t95, rfl⟩⟩) rfl rfl rfl rfl ?_
                    refine l_val rfl rfl rfl (r_assign (v := .bool t95) rfl) ?_
                    refine l_nil ?_
                    refine c_close t95 () 0 [0] (by exact ⟨rfl, rfl, trivial⟩) (by decide) rfl (by exact ⟨H100, trivial⟩) (Nat.lt_succ_self _)
                  · have H101 := cnd_f hb H98; clear H98
                    refine c_seq ?_
                    refine c_region ?_
                    refine l_val rfl rfl rfl (r_eql rfl rfl) ?_
                    refine l_val rfl rfl rfl (r_assign (v := .bool (decide (a0.Kind = 6))) rfl) ?_
                    refine l_nil ?_
                    refine c_if (b := (decide (a0.Kind = 6))) rfl (fun hb => ?_) (fun hb => ?_)
                    · have H102 := cnd_t hb H101; clear H101
                      refine c_region ?_
                      refine l_val rfl rfl rfl (r_move (v := .func (.func 40) #[] #[]) rfl) ?_
                      refine l_val rfl rfl rfl (r_field Tryd.runUnderlying24 rfl Tryd.sizeOf3 rfl rfl) ?_
                      refine l_load1 (i := 0) (v := .int .i64 a0.A) Tryd.isAgg3 rfl rfl rfl rfl rfl ?_
                      obtain ⟨t101, h_t101, H103⟩ := bnd_some H102; clear H102
                      refine l_callV (R := fnR_func_int_int_int_bool R_StepFault_1) (r := .bool t101) (v := .func (.func 40) #[] #[]) (fun w hF hS => ⟨(FnH.mk ⟨40, #[], #[], rfl, Tryd.call40, fun args2 post2 w2 hk2 hR2 => by obtain ⟨a0_, a1_, a2_, r_, rfl, H_, rfl⟩ := hR2; exact k40 H_ w2⟩), ⟨a0.A, 0, 255, _, rfl, h_t101, rfl⟩⟩) rfl rfl rfl rfl ?_
                      refine l_val rfl rfl rfl (r_move (v := .bool t101) rfl) ?_
                      refine split (fun hb => ?_) (fun hb => ?_)
                      · have H104 := cnd_t hb H103; clear H103
                        refine l_passed rfl rfl rfl ?_
                        refine l_passed rfl rfl rfl ?_
                        refine l_passed rfl rfl rfl ?_
                        refine l_passed rfl rfl rfl ?_
                        refine l_val rfl rfl rfl (r_pickT (v := .bool true) rfl rfl) ?_
                        refine l_val rfl rfl rfl (r_assign (v := .bool true) rfl) ?_
                        refine l_nil ?_
                        refine c_close true () 0 [0] (by exact ⟨rfl, rfl, trivial⟩) (by decide) rfl (by exact ⟨H104, trivial⟩) (Nat.lt_succ_self _)
                      · have H105 := cnd_f hb H103; clear H103
                        refine l_val rfl rfl rfl (r_move (v := .func (.func 40) #[] #[]) rfl) ?_
                        refine l_val rfl rfl rfl (r_field Tryd.runUnderlying24 rfl Tryd.sizeOf3 rfl rfl) ?_
                        refine l_load1 (i := 0) (v := .int .i64 a0.B) Tryd.isAgg3 rfl rfl rfl rfl rfl ?_
                        obtain ⟨t106, h_t106, H106⟩ := bnd_some H105; clear H105
                        refine l_callV (R := fnR_func_int_int_int_bool R_StepFault_1) (r := .bool t106) (v := .func (.func 40) #[] #[]) (fun w hF hS => ⟨(FnH.mk ⟨40, #[], #[], rfl, Tryd.call40, fun args2 post2 w2 hk2 hR2 => by obtain ⟨a0_, a1_, a2_, r_, rfl, H_, rfl⟩ := hR2; exact k40 H_ w2⟩), ⟨a0.B, 0, 255, _, rfl, h_t106, rfl⟩⟩) rfl rfl rfl rfl ?_
                        refine l_val rfl rfl rfl (r_pickF (v := .bool t106) rfl rfl) ?_
                        refine l_val rfl rfl rfl (r_assign (v := .bool t106) rfl) ?_
                        refine l_nil ?_
                        refine c_close t106 () 0 [0] (by exact ⟨rfl, rfl, trivial⟩) (by decide) rfl (by exact ⟨H106, trivial⟩) (Nat.lt_succ_self _)
                    · have H107 := cnd_f hb H101; clear H101
                      refine c_seq ?_
                      refine c_region ?_
                      refine l_val rfl rfl rfl (r_eql rfl rfl) ?_
                      refine l_val rfl rfl rfl (r_assign (v := .bool (decide (a0.Kind = 7))) rfl) ?_
                      refine l_nil ?_
                      refine c_if (b := (decide (a0.Kind = 7))) rfl (fun hb => ?_) (fun hb => ?_)
                      · have H108 := cnd_t hb H107; clear H107
                        refine c_region ?_
                        refine l_val rfl rfl rfl (r_move (v := .func (.func 40) #[] #[]) rfl) ?_
                        refine l_val rfl rfl rfl (r_field Tryd.runUnderlying24 rfl Tryd.sizeOf3 rfl rfl) ?_
                        refine l_load1 (i := 0) (v := .int .i64 a0.A) Tryd.isAgg3 rfl rfl rfl rfl rfl ?_
                        obtain ⟨t113, h_t113, H109⟩ := bnd_some H108; clear H108
                        refine l_callV (R := fnR_func_int_int_int_bool R_StepFault_1) (r := .bool t113) (v := .func (.func 40) #[] #[]) (fun w hF hS => ⟨(FnH.mk ⟨40, #[], #[], rfl, Tryd.call40, fun args2 post2 w2 hk2 hR2 => by obtain ⟨a0_, a1_, a2_, r_, rfl, H_, rfl⟩ := hR2; exact k40 H_ w2⟩), ⟨a0.A, (-100), 100, _, rfl, h_t113, rfl⟩⟩) rfl rfl rfl rfl ?_
                        refine l_val rfl rfl rfl (r_assign (v := .bool t113) rfl) ?_
                        refine l_nil ?_
                        refine c_close t113 () 0 [0] (by exact ⟨rfl, rfl, trivial⟩) (by decide) rfl (by exact ⟨H109, trivial⟩) (Nat.lt_succ_self _)
                      · have H110 := cnd_f hb H107; clear H107
                        refine c_seq ?_
                        refine c_region ?_
                        refine l_val rfl rfl rfl (r_eql rfl rfl) ?_
                        refine l_val rfl rfl rfl (r_assign (v := .bool (decide (a0.Kind = 8))) rfl) ?_
                        refine l_nil ?_
                        refine c_if (b := (decide (a0.Kind = 8))) rfl (fun hb => ?_) (fun hb => ?_)
                        · have H111 := cnd_t hb H110; clear H110
                          refine c_region ?_
                          refine l_val rfl rfl rfl (r_move (v := .func (.func 40) #[] #[]) rfl) ?_
                          refine l_val rfl rfl rfl (r_field Tryd.runUnderlying24 rfl Tryd.sizeOf3 rfl rfl) ?_
                          refine l_load1 (i := 0) (v := .int .i64 a0.A) Tryd.isAgg3 rfl rfl rfl rfl rfl ?_
                          obtain ⟨t119, h_t119, H112⟩ := bnd_some H111; clear H111
                          refine l_callV (R := fnR_func_int_int_int_bool R_StepFault_1) (r := .bool t119) (v := .func (.func 40) #[] #[]) (fun w hF hS => ⟨(FnH.mk ⟨40, #[], #[], rfl, Tryd.call40, fun args2 post2 w2 hk2 hR2 => by obtain ⟨a0_, a1_, a2_, r_, rfl, H_, rfl⟩ := hR2; exact k40 H_ w2⟩), ⟨a0.A, 0, 100, _, rfl, h_t119, rfl⟩⟩) rfl rfl rfl rfl ?_
                          refine l_val rfl rfl rfl (r_assign (v := .bool t119) rfl) ?_
                          refine l_nil ?_
                          refine c_close t119 () 0 [0] (by exact ⟨rfl, rfl, trivial⟩) (by decide) rfl (by exact ⟨H112, trivial⟩) (Nat.lt_succ_self _)
                        · have H113 := cnd_f hb H110; clear H110
                          refine c_skip ?_
                          refine c_close false () 0 [0] (by exact ⟨rfl, rfl, trivial⟩) (by decide) rfl (by exact ⟨H113, trivial⟩) (Nat.lt_succ_self _)
        · rintro x6 _ gg H68 _
          replace H68 : R_StepFault_j2 a0 x6 = some r := H68
          refine c_tidyF [(1, .pointer (some ⟨b2, 0, none⟩)), (6, .bool x6)] [cellsC b2 [.int .i64 a0.Kind, .int .i64 a0.A, .int .i64 a0.B, .int .i64 a0.C, .int .i64 a0.D] 24] rfl rfl ?_
          refine c_seq ?_
          refine c_seq ?_
          refine c_region ?_
          refine l_val rfl rfl rfl (r_move (v := .bool x6) rfl) ?_
          refine l_nil ?_
          refine c_if (b := x6) rfl (fun hb => ?_) (fun hb => ?_)
          · have H69 := cnd_t hb H68; clear H68
            refine c_seq ?_
            refine c_region ?_
            refine l_val rfl rfl rfl (r_assign (v := .int .i64 2) rfl) ?_
            refine l_nil ?_
            refine c_ret ?_
            obtain rfl := Option.some.inj H69
            refine ret1 (v := .int .i64 2) rfl rfl (fin rfl)
          · have H70 := cnd_f hb H68; clear H68
            refine c_skip ?_
            refine c_seq ?_
            refine c_seq ?_
            refine c_region ?_
            refine l_val rfl rfl rfl (r_field Tryd.runUnderlying24 rfl Tryd.sizeOf3 rfl rfl) ?_
            refine l_load1 (i := 0) (v := .int .i64 a0.Kind) Tryd.isAgg3 rfl rfl rfl rfl rfl ?_
            refine l_val rfl rfl rfl (r_eql rfl rfl) ?_
            refine l_val rfl rfl rfl (r_move (v := .bool (decide (a0.Kind = 6))) rfl) ?_
            refine split (fun hb => ?_) (fun hb => ?_)
            · have H71 := cnd_t hb H70; clear H70
              refine l_val rfl rfl rfl (r_field Tryd.runUnderlying24 rfl Tryd.sizeOf3 rfl rfl) ?_
              refine l_load1 (i := 0) (v := .int .i64 a0.B) Tryd.isAgg3 rfl rfl rfl rfl rfl ?_
              refine l_val rfl rfl rfl (r_field Tryd.runUnderlying24 rfl Tryd.sizeOf3 rfl rfl) ?_
              refine l_load1 (i := 0) (v := .int .i64 a0.A) Tryd.isAgg3 rfl rfl rfl rfl rfl ?_
              refine l_val rfl rfl rfl (r_leq rfl rfl) ?_
              refine l_val rfl rfl rfl (r_pickT (v := .bool (decide (a0.B ≤ a0.A))) rfl rfl) ?_
              refine l_nil ?_
              refine c_if (b := (decide (a0.B ≤ a0.A))) rfl (fun hb => ?_) (fun hb => ?_)
              · have H72 := cnd_t hb H71; clear H71
                refine c_seq ?_
                refine c_region ?_
                refine l_val rfl rfl rfl (r_assign (v := .int .i64 5) rfl) ?_
                refine l_nil ?_
                refine c_ret ?_
                obtain rfl := Option.some.inj H72
                refine ret1 (v := .int .i64 5) rfl rfl (fin rfl)
              · have H73 := cnd_f hb H71; clear H71
                refine c_skip ?_
                refine c_seq ?_
                refine c_region ?_
                refine l_val rfl rfl rfl (r_assign (v := .int .i64 0) rfl) ?_
                refine l_nil ?_
                refine c_ret ?_
                obtain rfl := Option.some.inj H73
                refine ret1 (v := .int .i64 0) rfl rfl (fin rfl)
            · have H74 := cnd_f hb H70; clear H70
              refine l_passed rfl rfl rfl ?_
              refine l_passed rfl rfl rfl ?_
              refine l_passed rfl rfl rfl ?_
              refine l_passed rfl rfl rfl ?_
              refine l_passed rfl rfl rfl ?_
              refine l_val rfl rfl rfl (r_pickF (v := .bool false) rfl rfl) ?_
              refine l_nil ?_
              refine c_false rfl ?_
              refine c_skip ?_
              refine c_seq ?_
              refine c_region ?_
              refine l_val rfl rfl rfl (r_assign (v := .int .i64 0) rfl) ?_
              refine l_nil ?_
              refine c_ret ?_
              obtain rfl := Option.some.inj H74
              refine ret1 (v := .int .i64 0) rfl rfl (fin rfl)
theorem k10 {a0 : (List T_edit_Step)} {v0 : Value} {r : Int} {w : World} {h : Heap} (hw : Know h w noS) (f0 : FrS h 5 v0 (a0.map e_edit_Step)) (H : R_StepsFault a0 = some r) : Does Tryd.prog 10 (List.toArray [v0]) w (fun v w' => v = (.int .i64 r) ∧ Grow w w') := by
  refine enter (n := 21) Tryd.func10 rfl rfl rfl noS [] (Sat.nil _ _) ?_
  refine c_seq ?_
  refine c_region ?_
  refine l_val rfl rfl rfl (r_assign (v := .int .i64 0) rfl) ?_
  refine l_nil ?_
  refine c_seq ?_
  refine c_seq ?_
  refine c_region ?_
  refine l_val rfl rfl rfl (r_move (v := v0) rfl) ?_
  refine l_val rfl rfl rfl (r_lenF Tryd.underlying22 rfl f0 rfl) ?_
  refine l_val rfl rfl rfl (r_gtr rfl rfl) ?_
  refine l_nil ?_
  refine c_if (b := (decide (50 < (a0.length : Int)))) rfl (fun hb => ?_) (fun hb => ?_)
  · have H11 := cnd_t hb H; clear H
    refine c_seq ?_
    refine c_region ?_
    refine l_val rfl rfl rfl (r_assign (v := .int .i64 4) rfl) ?_
    refine l_nil ?_
    refine c_ret ?_
    obtain rfl := Option.some.inj H11
    refine ret1 (v := .int .i64 4) rfl rfl (fin rfl)
  · have H12 := cnd_f hb H; clear H
    refine c_skip ?_
    refine c_seq ?_
    refine c_seq ?_
    refine c_region ?_
    refine l_val rfl rfl rfl (r_move (v := v0) rfl) ?_
    refine l_val rfl rfl rfl (r_lenF Tryd.underlying22 rfl f0 rfl) ?_
    refine l_val rfl rfl rfl (r_move (v := .int .i64 0) rfl) ?_
    refine l_nil ?_
    refine c_block ?_
    refine c_fix (σ := Int) (τ := Unit) (fun next1 s => R_StepsFault_l1 a0 next1 s) (fun s t => [(9, v0), (10, .int .i64 (a0.length : Int)), (11, .int .i64 s)]) (fun s t => []) (fun s t => True) 0 () [] H12 (by exact trivial) (by exact ⟨rfl, rfl, rfl, trivial⟩) (by decide) rfl ?_
    rintro x11_2 _ m1 gg H13 _
    clear H12
    replace H13 : R_StepsFault_l1 a0 (it (fun next1 s => R_StepsFault_l1 a0 next1 s) m1) x11_2 = some r := H13
    generalize hn1 : it (fun next1 s => R_StepsFault_l1 a0 next1 s) m1 = next1 at H13
    refine c_tidyF [(9, v0), (10, .int .i64 (a0.length : Int)), (11, .int .i64 x11_2)] [] rfl rfl ?_
    refine c_seq ?_
    refine c_region ?_
    refine l_val rfl rfl rfl (r_lss rfl rfl) ?_
    refine l_nil ?_
    refine c_seq ?_
    refine c_if (b := (decide (x11_2 < (a0.length : Int)))) rfl (fun hb => ?_) (fun hb => ?_)
    · have H14 := cnd_t hb H13; clear H13
      refine c_skip ?_
      refine c_seq ?_
      refine c_block ?_
      refine c_seq ?_
      refine c_region ?_
      obtain ⟨t13, h_t13, H15⟩ := bnd_some H14; clear H14
      refine l_val rfl rfl rfl (r_indexF Tryd.underlying22 Tryd.sizeOf24 rfl rfl f0 h_t13) ?_
      refine l_read (fun w hF hS => run_loadGN (f := e_edit_Step) (i := x11_2) (sz := 5) (j := 0) (vs := [.int .i64 t13.Kind, .int .i64 t13.A, .int .i64 t13.B, .int .i64 t13.C, .int .i64 t13.D]) Tryd.isAgg24 Tryd.sizeOf24 rfl rfl (f0.row (hw.now hF)) h_t13 rfl) rfl rfl rfl ?_
      refine l_alloc (cs := [.int .i64 0, .int .i64 0, .int .i64 0, .int .i64 0, .int .i64 0]) Tryd.zeroValue24 rfl rfl rfl (fun b1 => ?_)
      refine l_store (i := 0) (vs := [.int .i64 t13.Kind, .int .i64 t13.A, .int .i64 t13.B, .int .i64 t13.C, .int .i64 t13.D]) (cs' := [.int .i64 t13.Kind, .int .i64 t13.A, .int .i64 t13.B, .int .i64 t13.C, .int .i64 t13.D]) Tryd.sizeOf24 rfl rfl rfl rfl rfl rfl rfl rfl rfl ?_
      refine l_nil ?_
      refine c_seq ?_
      refine c_region ?_
      refine l_loadN (i := 0) (vs := [.int .i64 t13.Kind, .int .i64 t13.A, .int .i64 t13.B, .int .i64 t13.C, .int .i64 t13.D]) Tryd.isAgg24 Tryd.sizeOf24 rfl rfl rfl rfl rfl ?_
      obtain ⟨t16, h_t16, H16⟩ := bnd_some H15; clear H15
      refine l_call (k7 h_t16) Tryd.call7 rfl rfl rfl ?_
      refine l_val rfl rfl rfl (r_assign (v := .int .i64 t16) rfl) ?_
      refine l_nil ?_
      refine c_seq ?_
      refine c_region ?_
      refine l_val rfl rfl rfl (r_move (v := .int .i64 t16) rfl) ?_
      refine l_val rfl rfl rfl (r_neq rfl rfl) ?_
      refine l_nil ?_
      refine c_if (b := (decide (t16 ≠ 0))) rfl (fun hb => ?_) (fun hb => ?_)
      · have H17 := cnd_t hb H16; clear H16
        refine c_seq ?_
        refine c_region ?_
        refine l_val rfl rfl rfl (r_move (v := .int .i64 t16) rfl) ?_
        refine l_val rfl rfl rfl (r_assign (v := .int .i64 t16) rfl) ?_
        refine l_nil ?_
        refine c_ret ?_
        obtain rfl := Option.some.inj H17
        refine ret1 (v := .int .i64 t16) rfl rfl (fin rfl)
      · have H18 := cnd_f hb H16; clear H16
        refine c_skip ?_
        refine c_region ?_
        obtain ⟨t20, h_t20, H19⟩ := bnd_some H18; clear H18
        refine l_val rfl rfl rfl (r_addG rfl rfl h_t20) ?_
        refine l_val rfl rfl rfl (r_move (v := .int .i64 t20) rfl) ?_
        refine l_nil ?_
        refine c_close t20 () m1 [] (by exact ⟨rfl, rfl, rfl, trivial⟩) (by decide) rfl (by exact ⟨(by subst hn1; exact H19), trivial⟩) (Nat.lt_succ_self _)
    · have H20 := cnd_f hb H13; clear H13
      refine c_exit ?_
      refine c_seq ?_
      refine c_region ?_
      refine l_val rfl rfl rfl (r_assign (v := .int .i64 0) rfl) ?_
      refine l_nil ?_
      refine c_ret ?_
      obtain rfl := Option.some.inj H20
      refine ret1 (v := .int .i64 0) rfl rfl (fin rfl)
theorem k78 {a0 : (List UInt8)} {r : Int} (H : gAtoi a0 = some r) : Ret Tryd.prog 78 [str a0] (.tuple #[.int .i64 r, .nilIface]) :=
  atoi_ret (ρ := Go.Proofs.Tryd.lays172_ren) Go.Proofs.Tryd.lays172 H

theorem k75 {a0 : (List UInt8)} {r : Int × Bool} {w : World} {h : Heap} (hw : Know h w noS) (tb_pow10 : TabH Tryd.prog h "internal/strconv.uint64pow10" .u64 Lib.pow10Tab) (H : edit_number a0 = some r) : Does Tryd.prog 75 (List.toArray [str a0]) w (fun v w' => v = (.tuple #[.int .i64 r.1, .bool r.2]) ∧ Grow w w') := by
  refine enter (n := 35) Tryd.func75 rfl rfl rfl noS [] (Sat.nil _ _) ?_
  refine c_seq ?_
  refine c_region ?_
  refine l_val rfl rfl rfl (r_assign (v := .int .i64 0) rfl) ?_
  refine l_val rfl rfl rfl (r_assign (v := .bool false) rfl) ?_
  refine l_nil ?_
  refine c_seq ?_
  refine c_region ?_
  refine l_val rfl rfl rfl (r_move (v := str a0) rfl) ?_
  obtain ⟨t8, h_t8, H11⟩ := bnd_some H; clear H
  refine l_call (k77 h_t8) Tryd.call77 rfl rfl rfl ?_
  refine l_val rfl rfl rfl (r_assign (v := str t8) rfl) ?_
  refine l_nil ?_
  refine c_seq ?_
  refine c_seq ?_
  refine c_region ?_
  refine l_val rfl rfl rfl (r_move (v := str t8) rfl) ?_
  refine l_val rfl rfl rfl (r_eqlT rfl rfl) ?_
  refine l_val rfl rfl rfl (r_move (v := .bool (decide (t8 = []))) rfl) ?_
  refine split (fun hb => ?_) (fun hb => ?_)
  · have H12 := cnd_t hb H11; clear H11
    refine l_passed rfl rfl rfl ?_
    refine l_passed rfl rfl rfl ?_
    refine l_passed rfl rfl rfl ?_
    refine l_val rfl rfl rfl (r_pickT (v := .bool true) rfl rfl) ?_
    refine l_val rfl rfl rfl (r_move (v := .bool true) rfl) ?_
    refine l_passed rfl rfl rfl ?_
    refine l_passed rfl rfl rfl ?_
    refine l_passed rfl rfl rfl ?_
    refine l_val rfl rfl rfl (r_pickT (v := .bool true) rfl rfl) ?_
    refine l_nil ?_
    refine c_true rfl ?_
    refine c_seq ?_
    refine c_region ?_
    refine l_val rfl rfl rfl (r_assign (v := .int .i64 0) rfl) ?_
    refine l_val rfl rfl rfl (r_assign (v := .bool false) rfl) ?_
    refine l_nil ?_
    refine c_ret ?_
    obtain rfl := Option.some.inj H12
    refine ret2 (v1 := .int .i64 0) (v2 := .bool false) rfl rfl rfl (fin rfl)
  · have H13 := cnd_f hb H11; clear H11
    refine l_val rfl rfl rfl (r_move (v := str t8) rfl) ?_
    refine l_val rfl rfl rfl (r_lenT Tryd.underlying9 rfl) ?_
    refine l_val rfl rfl rfl (r_gtr rfl rfl) ?_
    refine l_val rfl rfl rfl (r_pickF (v := .bool (decide (4 < (t8.length : Int)))) rfl rfl) ?_
    refine l_val rfl rfl rfl (r_move (v := .bool (decide (4 < (t8.length : Int)))) rfl) ?_
    refine split (fun hb => ?_) (fun hb => ?_)
    · have H14 := cnd_t hb H13; clear H13
      refine l_passed rfl rfl rfl ?_
      refine l_passed rfl rfl rfl ?_
      refine l_passed rfl rfl rfl ?_
      refine l_val rfl rfl rfl (r_pickT (v := .bool true) rfl rfl) ?_
      refine l_nil ?_
      refine c_true rfl ?_
      refine c_seq ?_
      refine c_region ?_
      refine l_val rfl rfl rfl (r_assign (v := .int .i64 0) rfl) ?_
      refine l_val rfl rfl rfl (r_assign (v := .bool false) rfl) ?_
      refine l_nil ?_
      refine c_ret ?_
      obtain rfl := Option.some.inj H14
      refine ret2 (v1 := .int .i64 0) (v2 := .bool false) rfl rfl rfl (fin rfl)
    · have H15 := cnd_f hb H13; clear H13
      refine l_val rfl rfl rfl (r_move (v := str t8) rfl) ?_
      obtain ⟨t18, h_t18, H16⟩ := bnd_some H15; clear H15
      refine l_call (k67 h_t18) Tryd.call67 rfl rfl rfl ?_
      refine l_val rfl rfl rfl (r_neqT rfl rfl) ?_
      refine l_val rfl rfl rfl (r_pickF (v := .bool (decide (t18 ≠ []))) rfl rfl) ?_
      refine l_nil ?_
      refine c_if (b := (decide (t18 ≠ []))) rfl (fun hb => ?_) (fun hb => ?_)
      · have H17 := cnd_t hb H16; clear H16
        refine c_seq ?_
        refine c_region ?_
        refine l_val rfl rfl rfl (r_assign (v := .int .i64 0) rfl) ?_
        refine l_val rfl rfl rfl (r_assign (v := .bool false) rfl) ?_
        refine l_nil ?_
        refine c_ret ?_
        obtain rfl := Option.some.inj H17
        refine ret2 (v1 := .int .i64 0) (v2 := .bool false) rfl rfl rfl (fin rfl)
      · have H18 := cnd_f hb H16; clear H16
        refine c_skip ?_
        refine c_seq ?_
        refine c_region ?_
        refine l_val rfl rfl rfl (r_move (v := str a0) rfl) ?_
        obtain ⟨t23, h_t23, H19⟩ := bnd_some H18; clear H18
        refine l_call (k78 h_t23) Tryd.call78 rfl rfl rfl ?_
        refine l_val rfl rfl rfl (r_move (v := .tuple #[.int .i64 t23, .nilIface]) rfl) ?_
        refine l_val rfl rfl rfl (r_extract (v := .int .i64 t23) rfl rfl) ?_
        refine l_val rfl rfl rfl (r_extract (v := .nilIface) rfl rfl) ?_
        refine l_val rfl rfl rfl (r_assign (v := .int .i64 t23) rfl) ?_
        refine l_val rfl rfl rfl (r_assign (v := .nilIface) rfl) ?_
        refine l_nil ?_
        refine c_seq ?_
        refine c_region ?_
        refine l_val rfl rfl rfl (r_move (v := .int .i64 t23) rfl) ?_
        refine l_val rfl rfl rfl (r_move (v := .nilIface) rfl) ?_
        refine l_val rfl rfl rfl (r_eqlErr rfl (by intro w; kernel_rfl)) ?_
        refine l_val rfl rfl rfl (r_move (v := .bool true) rfl) ?_
        refine l_val rfl rfl rfl (r_move (v := .int .i64 t23) rfl) ?_
        obtain ⟨t31, h_t31, H20⟩ := bnd_some H19; clear H19
        refine l_callG (fun w hF hS => k72 (know_all w) (tb_pow10.mono (hw.now hF)) h_t31) Tryd.call72 rfl rfl rfl ?_
        refine l_val rfl rfl rfl (r_move (v := str a0) rfl) ?_
        refine l_val rfl rfl rfl (r_eqlT rfl rfl) ?_
        refine l_val rfl rfl rfl (r_pickT (v := .bool (decide (t31 = a0))) rfl rfl) ?_
        refine l_val rfl rfl rfl (r_assign (v := .int .i64 t23) rfl) ?_
        refine l_val rfl rfl rfl (r_assign (v := .bool (decide (t31 = a0))) rfl) ?_
        refine l_nil ?_
        refine c_ret ?_
        obtain rfl := Option.some.inj H20
        refine ret2 (v1 := .int .i64 t23) (v2 := .bool (decide (t31 = a0))) rfl rfl rfl (fin rfl)
theorem k46 {a0 : (List UInt8)} {r : T_edit_Step × Bool} {w : World} {h : Heap} (hw : Know h w noS) (tb_pow10 : TabH Tryd.prog h "internal/strconv.uint64pow10" .u64 Lib.pow10Tab) (H : edit_readStep a0 = some r) : Does Tryd.prog 46 (List.toArray [str a0]) w (fun v w' => v = (.tuple #[.agg #[.int .i64 r.1.Kind, .int .i64 r.1.A, .int .i64 r.1.B, .int .i64 r.1.C, .int .i64 r.1.D], .bool r.2]) ∧ Grow w w') := by
  refine enter (n := 69) Tryd.func46 rfl rfl rfl noS [] (Sat.nil _ _) ?_
  refine c_seq ?_
  refine c_region ?_
  refine l_alloc (cs := [.int .i64 0, .int .i64 0, .int .i64 0, .int .i64 0, .int .i64 0]) Tryd.zeroValue24 rfl rfl rfl (fun b3 => ?_)
  refine l_val rfl rfl rfl (r_assign (v := .bool false) rfl) ?_
  refine l_nil ?_
  refine c_seq ?_
  refine c_region ?_
  refine l_val rfl rfl rfl (r_move (v := str a0) rfl) ?_
  obtain ⟨t14, h_t14, H35⟩ := bnd_some H; clear H
  refine l_make (makes_call (rds := []) (G := fun x : (Option Addr × Nat) => .slice x.1 t14.length x.2) (C := fun x : (Option Addr × Nat) => rowV 9 1 (.slice x.1 t14.length x.2) t14.length (t14.map e_string)) (fun w L' hF hS hi => k48 (know_all w)  h_t14) Tryd.call48 rfl) rfl rfl rfl (fun p => ?_)
  refine l_val rfl rfl rfl (r_assign (v := .slice p.1 t14.length p.2) rfl) ?_
  refine l_nil ?_
  refine c_meet (r := r) (σ := Unit) (τ := Unit) (fun s => edit_readStep_j1) (fun s t => [(2, .pointer (some ⟨b3, 0, none⟩))]) (fun s t => [cellsC b3 [.int .i64 0, .int .i64 0, .int .i64 0, .int .i64 0, .int .i64 0] 24]) (fun s t => True) ?_ ?_
  · refine c_seq ?_
    refine c_region ?_
    refine l_val rfl rfl rfl (r_assign (v := .int .i64 1) rfl) ?_
    refine l_nil ?_
    refine c_block ?_
    refine c_fix (σ := Int) (τ := Unit) (fun next2 s => edit_readStep_l2 t14 next2 s) (fun s t => [(2, .pointer (some ⟨b3, 0, none⟩)), (4, .slice p.1 t14.length p.2), (5, .int .i64 s)]) (fun s t => [cellsC b3 [.int .i64 0, .int .i64 0, .int .i64 0, .int .i64 0, .int .i64 0] 24, rowV 9 1 (.slice p.1 t14.length p.2) t14.length (t14.map e_string)]) (fun s t => True) 1 () [0, 1] H35 (by exact trivial) (by exact ⟨rfl, rfl, rfl, trivial⟩) (by decide) rfl ?_
    rintro x5_2 _ m2 gg H37 _
    clear H35
    replace H37 : edit_readStep_l2 t14 (it (fun next2 s => edit_readStep_l2 t14 next2 s) m2) x5_2 = some r := H37
    generalize hn2 : it (fun next2 s => edit_readStep_l2 t14 next2 s) m2 = next2 at H37
    refine c_tidyF [(2, .pointer (some ⟨b3, 0, none⟩)), (4, .slice p.1 t14.length p.2), (5, .int .i64 x5_2)] [cellsC b3 [.int .i64 0, .int .i64 0, .int .i64 0, .int .i64 0, .int .i64 0] 24, rowV 9 1 (.slice p.1 t14.length p.2) t14.length (t14.map e_string)] rfl rfl ?_
    refine c_seq ?_
    refine c_seq ?_
    refine c_region ?_
    refine l_val rfl rfl rfl (r_move (v := .int .i64 x5_2) rfl) ?_
    refine l_val rfl rfl rfl (r_leq rfl rfl) ?_
    refine l_nil ?_
    refine c_if (b := (decide (x5_2 ≤ 9))) rfl (fun hb => ?_) (fun hb => ?_)
    · have H38 := cnd_t hb H37; clear H37
      refine c_skip ?_
      refine c_meet (r := r) (σ := Unit) (τ := Unit) (fun s => edit_readStep_j3 x5_2 next2) (fun s t => [(2, .pointer (some ⟨b3, 0, none⟩)), (4, .slice p.1 t14.length p.2), (5, .int .i64 x5_2)]) (fun s t => [cellsC b3 [.int .i64 0, .int .i64 0, .int .i64 0, .int .i64 0, .int .i64 0] 24, rowV 9 1 (.slice p.1 t14.length p.2) t14.length (t14.map e_string)]) (fun s t => True) ?_ ?_
      · refine c_block ?_
        refine c_seq ?_
        refine c_region ?_
        refine l_val rfl rfl rfl (r_move (v := .int .i64 x5_2) rfl) ?_
        obtain ⟨t21, h_t21, H41⟩ := bnd_some H38; clear H38
        refine l_call (k36 h_t21) Tryd.call36 rfl rfl rfl ?_
        refine l_val rfl rfl rfl (r_move (v := .tuple #[str t21.1, .int .i64 t21.2]) rfl) ?_
        refine l_val rfl rfl rfl (r_extract (v := str t21.1) rfl rfl) ?_
        refine l_val rfl rfl rfl (r_extract (v := .int .i64 t21.2) rfl rfl) ?_
        refine l_val rfl rfl rfl (r_assign (v := str t21.1) rfl) ?_
        refine l_val rfl rfl rfl (r_assign (v := .int .i64 t21.2) rfl) ?_
        refine l_nil ?_
        refine c_seq ?_
        refine c_seq ?_
        refine c_region ?_
        refine l_val rfl rfl rfl (r_move (v := .slice p.1 t14.length p.2) rfl) ?_
        obtain ⟨t25, h_t25, H42⟩ := bnd_some H41; clear H41
        refine l_read (fun w hF hS => run_indexO Tryd.underlying34 Tryd.sizeOf9 rfl rfl (rowOf (i := 1) hS rfl) rfl h_t25) rfl rfl rfl ?_
        refine l_read (fun w hF hS => run_loadG1 (f := e_string) (i := 0) (sz := 1) (j := 0) (v := str t25) Tryd.isAgg9 rfl rfl (rowOf (i := 1) hS rfl) h_t25 rfl) rfl rfl rfl ?_
        refine l_val rfl rfl rfl (r_move (v := str t21.1) rfl) ?_
        refine l_val rfl rfl rfl (r_neqT rfl rfl) ?_
        refine l_val rfl rfl rfl (r_move (v := .bool (decide (t25 ≠ t21.1))) rfl) ?_
        refine split (fun hb => ?_) (fun hb => ?_)
        · have H43 := cnd_t hb H42; clear H42
          refine l_passed rfl rfl rfl ?_
          refine l_passed rfl rfl rfl ?_
          refine l_passed rfl rfl rfl ?_
          refine l_passed rfl rfl rfl ?_
          refine l_passed rfl rfl rfl ?_
          refine l_val rfl rfl rfl (r_pickT (v := .bool true) rfl rfl) ?_
          refine l_nil ?_
          refine c_true rfl ?_
          refine c_exit ?_
          refine c_close () () 0 [0, 1] (by exact ⟨rfl, rfl, rfl, trivial⟩) (by decide) rfl (by exact ⟨H43, trivial⟩) (Nat.lt_succ_self _)
        · have H44 := cnd_f hb H42; clear H42
          refine l_val rfl rfl rfl (r_move (v := .slice p.1 t14.length p.2) rfl) ?_
          refine l_val rfl rfl rfl (r_len Tryd.underlying34 rfl) ?_
          refine l_val rfl rfl rfl (r_move (v := .int .i64 t21.2) rfl) ?_
          obtain ⟨t33, h_t33, H45⟩ := bnd_some H44; clear H44
          refine l_val rfl rfl rfl (r_addG rfl rfl h_t33) ?_
          refine l_val rfl rfl rfl (r_neq rfl rfl) ?_
          refine l_val rfl rfl rfl (r_pickF (v := .bool (decide ((t14.length : Int) ≠ t33))) rfl rfl) ?_
          refine l_nil ?_
          refine c_if (b := (decide ((t14.length : Int) ≠ t33))) rfl (fun hb => ?_) (fun hb => ?_)
          · have H46 := cnd_t hb H45; clear H45
            refine c_exit ?_
            refine c_close () () 0 [0, 1] (by exact ⟨rfl, rfl, rfl, trivial⟩) (by decide) rfl (by exact ⟨H46, trivial⟩) (Nat.lt_succ_self _)
          · have H47 := cnd_f hb H45; clear H45
            refine c_skip ?_
            refine c_seq ?_
            refine c_region ?_
            refine l_val rfl rfl rfl (r_move (v := .int .i64 x5_2) rfl) ?_
            refine l_val rfl rfl rfl (r_build (pl := #[(0, 1), (1, 1), (2, 1), (3, 1), (4, 1)]) (ps := [(0, .int .i64 x5_2)]) (cells := #[.int .i64 x5_2, .int .i64 0, .int .i64 0, .int .i64 0, .int .i64 0]) Tryd.zeroValue24 Tryd.runUnderlying24 (fun w => by kernel_rfl) rfl rfl) ?_
            refine l_alloc (cs := [.int .i64 0, .int .i64 0, .int .i64 0, .int .i64 0, .int .i64 0]) Tryd.zeroValue24 rfl rfl rfl (fun b4 => ?_)
            refine l_store (i := 2) (vs := [.int .i64 x5_2, .int .i64 0, .int .i64 0, .int .i64 0, .int .i64 0]) (cs' := [.int .i64 x5_2, .int .i64 0, .int .i64 0, .int .i64 0, .int .i64 0]) Tryd.sizeOf24 rfl rfl rfl rfl rfl rfl rfl rfl rfl ?_
            refine l_nil ?_
            refine c_meet (r := r) (σ := Int × Int × Int × Int) (τ := Unit) (fun s => edit_readStep_j4 x5_2 s.1 s.2.1 s.2.2.1 s.2.2.2) (fun s t => [(2, .pointer (some ⟨b3, 0, none⟩)), (4, .slice p.1 t14.length p.2), (5, .int .i64 x5_2), (8, .pointer (some ⟨b4, 0, none⟩)), (30, .slice p.1 t14.length p.2), (31, .int .i64 (t14.length : Int)), (32, .int .i64 t21.2), (33, .int .i64 t33), (34, .bool (decide ((t14.length : Int) ≠ t33)))]) (fun s t => [cellsC b3 [.int .i64 0, .int .i64 0, .int .i64 0, .int .i64 0, .int .i64 0] 24, rowV 9 1 (.slice p.1 t14.length p.2) t14.length (t14.map e_string), cellsC b4 [.int .i64 x5_2, .int .i64 s.1, .int .i64 s.2.1, .int .i64 s.2.2.1, .int .i64 s.2.2.2] 24]) (fun s t => True) ?_ ?_
            · refine c_seq ?_
              refine c_region ?_
              refine l_val rfl rfl rfl (r_field Tryd.runUnderlying24 rfl Tryd.sizeOf3 rfl rfl) ?_
              refine l_val rfl rfl rfl (r_field Tryd.runUnderlying24 rfl Tryd.sizeOf3 rfl rfl) ?_
              refine l_val rfl rfl rfl (r_field Tryd.runUnderlying24 rfl Tryd.sizeOf3 rfl rfl) ?_
              refine l_val rfl rfl rfl (r_field Tryd.runUnderlying24 rfl Tryd.sizeOf3 rfl rfl) ?_
              refine l_buildSlice (vs := [Value.pointer (some ⟨b4, 0 + 1, none⟩), Value.pointer (some ⟨b4, 1 + 1, none⟩), Value.pointer (some ⟨b4, 2 + 1, none⟩), Value.pointer (some ⟨b4, 3 + 1, none⟩)]) (cs := [Value.pointer (some ⟨b4, 0 + 1, none⟩), Value.pointer (some ⟨b4, 1 + 1, none⟩), Value.pointer (some ⟨b4, 2 + 1, none⟩), Value.pointer (some ⟨b4, 3 + 1, none⟩)]) Tryd.underlying121 Tryd.sizeOf122 Tryd.zeroValue122 rfl rfl rfl rfl rfl rfl rfl (fun b5 => ?_)
              refine l_val rfl rfl rfl (r_move (v := .int .i64 t21.2) rfl) ?_
              obtain ⟨t44, h_t44, H49⟩ := bnd_some H47; clear H47
              refine l_val (v := .slice (cutA ((some ⟨b5, 0, none⟩, 4) : Option Addr × Nat).1 (Int.toNat (0 : Int)) ((some ⟨b5, 0, none⟩, 4) : Option Addr × Nat).2 1) t44.length (((some ⟨b5, 0, none⟩, 4) : Option Addr × Nat).2 - Int.toNat (0 : Int))) rfl rfl rfl (fun w => run_sliceHO (w := w) (a := ((some ⟨b5, 0, none⟩, 4) : Option Addr × Nat).1) (m := 4) (c := ((some ⟨b5, 0, none⟩, 4) : Option Addr × Nat).2) (xs := ([0, 1, 2, 3] : List Nat)) Tryd.underlying121 Tryd.sizeOf122 rfl rfl rfl (Nat.le_refl _) h_t44) ?_
              refine c_imp 3 rfl (imp_box (m := 4) (E := 122) (sz := 1) (xs := (([0, 1, 2, 3] : List Nat)).map (fun k_ : Nat => [Value.pointer (some ⟨b4, k_ + 1, none⟩)])) rfl rfl rfl ⟨rfl, by decide⟩) ?_
              refine l_val rfl rfl rfl (r_len Tryd.underlying121 rfl) ?_
              refine l_val rfl rfl rfl (r_move (v := .int .i64 0) rfl) ?_
              refine l_nil ?_
              refine c_block ?_
              refine c_fix (σ := Int × Int × Int × Int × Int) (τ := Unit) (fun next5 s => edit_readStep_l5 t14 x5_2 t44 next5 s.1 s.2.1 s.2.2.1 s.2.2.2.1 s.2.2.2.2) (fun s t => [(2, .pointer (some ⟨b3, 0, none⟩)), (4, .slice p.1 t14.length p.2), (5, .int .i64 x5_2), (8, .pointer (some ⟨b4, 0, none⟩)), (30, .slice p.1 t14.length p.2), (31, .int .i64 (t14.length : Int)), (32, .int .i64 t21.2), (33, .int .i64 t33), (34, .bool (decide ((t14.length : Int) ≠ t33))), (44, .slice (cutA ((some ⟨b5, 0, none⟩, 4) : Option Addr × Nat).1 (Int.toNat (0 : Int)) ((some ⟨b5, 0, none⟩, 4) : Option Addr × Nat).2 1) t44.length (((some ⟨b5, 0, none⟩, 4) : Option Addr × Nat).2 - Int.toNat (0 : Int))), (45, .int .i64 (t44.length : Int)), (46, .int .i64 s.1)]) (fun s t => [cellsC b3 [.int .i64 0, .int .i64 0, .int .i64 0, .int .i64 0, .int .i64 0] 24, rowV 9 1 (.slice p.1 t14.length p.2) t14.length (t14.map e_string), cellsC b4 [.int .i64 x5_2, .int .i64 s.2.1, .int .i64 s.2.2.1, .int .i64 s.2.2.2.1, .int .i64 s.2.2.2.2] 24, rowV 122 1 (.slice ((some ⟨b5, 0, none⟩, 4) : Option Addr × Nat).1 4 ((some ⟨b5, 0, none⟩, 4) : Option Addr × Nat).2) 4 (([0, 1, 2, 3] : List Nat).map (fun k_ : Nat => [Value.pointer (some ⟨b4, k_ + 1, none⟩)]))]) (fun s t => True) (0, 0, 0, 0, 0) () [0, 1, 2, 3] H49 (by exact trivial) (by exact ⟨rfl, rfl, rfl, rfl, rfl, rfl, rfl, rfl, rfl, rfl, rfl, rfl, trivial⟩) (by decide) rfl ?_
              rintro ⟨x46_2, m_9, m_10, m_11, m_12⟩ _ m5 gg H50 _
              clear H49
              replace H50 : edit_readStep_l5 t14 x5_2 t44 (it (fun next5 s => edit_readStep_l5 t14 x5_2 t44 next5 s.1 s.2.1 s.2.2.1 s.2.2.2.1 s.2.2.2.2) m5) x46_2 m_9 m_10 m_11 m_12 = some r := H50
              generalize hn5 : it (fun next5 s => edit_readStep_l5 t14 x5_2 t44 next5 s.1 s.2.1 s.2.2.1 s.2.2.2.1 s.2.2.2.2) m5 = next5 at H50
              refine c_tidyF [(2, .pointer (some ⟨b3, 0, none⟩)), (4, .slice p.1 t14.length p.2), (5, .int .i64 x5_2), (8, .pointer (some ⟨b4, 0, none⟩)), (30, .slice p.1 t14.length p.2), (31, .int .i64 (t14.length : Int)), (32, .int .i64 t21.2), (33, .int .i64 t33), (34, .bool (decide ((t14.length : Int) ≠ t33))), (44, .slice (cutA ((some ⟨b5, 0, none⟩, 4) : Option Addr × Nat).1 (Int.toNat (0 : Int)) ((some ⟨b5, 0, none⟩, 4) : Option Addr × Nat).2 1) t44.length (((some ⟨b5, 0, none⟩, 4) : Option Addr × Nat).2 - Int.toNat (0 : Int))), (45, .int .i64 (t44.length : Int)), (46, .int .i64 x46_2)] [cellsC b3 [.int .i64 0, .int .i64 0, .int .i64 0, .int .i64 0, .int .i64 0] 24, rowV 9 1 (.slice p.1 t14.length p.2) t14.length (t14.map e_string), cellsC b4 [.int .i64 x5_2, .int .i64 m_9, .int .i64 m_10, .int .i64 m_11, .int .i64 m_12] 24, rowV 122 1 (.slice ((some ⟨b5, 0, none⟩, 4) : Option Addr × Nat).1 4 ((some ⟨b5, 0, none⟩, 4) : Option Addr × Nat).2) 4 (([0, 1, 2, 3] : List Nat).map (fun k_ : Nat => [Value.pointer (some ⟨b4, k_ + 1, none⟩)]))] rfl rfl ?_
              refine c_seq ?_
              refine c_region ?_
              refine l_val rfl rfl rfl (r_lss rfl rfl) ?_
              refine l_nil ?_
              refine c_seq ?_
              refine c_if (b := (decide (x46_2 < (t44.length : Int)))) rfl (fun hb => ?_) (fun hb => ?_)
              · have H51 := cnd_t hb H50; clear H50
                refine c_skip ?_
                refine c_meet (r := r) (σ := Int × Int × Int × Int) (τ := Unit) (fun s => edit_readStep_j6 x46_2 next5 s.1 s.2.1 s.2.2.1 s.2.2.2) (fun s t => [(2, .pointer (some ⟨b3, 0, none⟩)), (4, .slice p.1 t14.length p.2), (5, .int .i64 x5_2), (8, .pointer (some ⟨b4, 0, none⟩)), (30, .slice p.1 t14.length p.2), (31, .int .i64 (t14.length : Int)), (32, .int .i64 t21.2), (33, .int .i64 t33), (34, .bool (decide ((t14.length : Int) ≠ t33))), (44, .slice (cutA ((some ⟨b5, 0, none⟩, 4) : Option Addr × Nat).1 (Int.toNat (0 : Int)) ((some ⟨b5, 0, none⟩, 4) : Option Addr × Nat).2 1) t44.length (((some ⟨b5, 0, none⟩, 4) : Option Addr × Nat).2 - Int.toNat (0 : Int))), (45, .int .i64 (t44.length : Int)), (46, .int .i64 x46_2)]) (fun s t => [cellsC b3 [.int .i64 0, .int .i64 0, .int .i64 0, .int .i64 0, .int .i64 0] 24, rowV 9 1 (.slice p.1 t14.length p.2) t14.length (t14.map e_string), cellsC b4 [.int .i64 x5_2, .int .i64 s.1, .int .i64 s.2.1, .int .i64 s.2.2.1, .int .i64 s.2.2.2] 24, rowV 122 1 (.slice ((some ⟨b5, 0, none⟩, 4) : Option Addr × Nat).1 4 ((some ⟨b5, 0, none⟩, 4) : Option Addr × Nat).2) 4 (([0, 1, 2, 3] : List Nat).map (fun k_ : Nat => [Value.pointer (some ⟨b4, k_ + 1, none⟩)]))]) (fun s t => True) ?_ ?_
                · refine c_block ?_
                  refine c_seq ?_
                  refine c_region ?_
                  refine l_val rfl rfl rfl (r_move (v := .int .i64 x46_2) rfl) ?_
                  obtain ⟨t49, h_t49, H54⟩ := bnd_some H51; clear H51
                  refine l_read (fun w hF hS => run_indexO Tryd.underlying121 Tryd.sizeOf122 rfl rfl (Row.cutG (rowOf (i := 3) hS rfl) rfl (capOf (i := 3) hS rfl) h_t44) rfl h_t49) rfl rfl rfl ?_
                  refine l_read (fun w hF hS => run_loadG1 (f := (fun k_ : Nat => [Value.pointer (some ⟨b4, k_ + 1, none⟩)])) (i := x46_2) (sz := 1) (j := 0) (v := Value.pointer (some ⟨b4, t49 + 1, none⟩)) Tryd.isAgg122 rfl rfl (Row.cutG (rowOf (i := 3) hS rfl) rfl (capOf (i := 3) hS rfl) h_t44) h_t49 rfl) rfl rfl rfl ?_
                  refine l_val rfl rfl rfl (r_assign (v := .int .i64 x46_2) rfl) ?_
                  refine l_val rfl rfl rfl (r_assign (v := Value.pointer (some ⟨b4, t49 + 1, none⟩)) rfl) ?_
                  refine l_nil ?_
                  refine c_seq ?_
                  refine c_region ?_
                  refine l_val rfl rfl rfl (r_move (v := .slice p.1 t14.length p.2) rfl) ?_
                  refine l_val rfl rfl rfl (r_move (v := .int .i64 x46_2) rfl) ?_
                  obtain ⟨t54, h_t54, H55⟩ := bnd_some H54; clear H54
                  refine l_val rfl rfl rfl (r_addG rfl rfl h_t54) ?_
                  obtain ⟨t55, h_t55, H56⟩ := bnd_some H55; clear H55
                  refine l_read (fun w hF hS => run_indexO Tryd.underlying34 Tryd.sizeOf9 rfl rfl (rowOf (i := 1) hS rfl) rfl h_t55) rfl rfl rfl ?_
                  refine l_read (fun w hF hS => run_loadG1 (f := e_string) (i := t54) (sz := 1) (j := 0) (v := str t55) Tryd.isAgg9 rfl rfl (rowOf (i := 1) hS rfl) h_t55 rfl) rfl rfl rfl ?_
                  obtain ⟨t57, h_t57, H57⟩ := bnd_some H56; clear H56
                  refine l_callG (fun w hF hS => k75 (know_all w) (tb_pow10.mono (hw.now hF)) h_t57) Tryd.call75 rfl rfl rfl ?_
                  refine l_val rfl rfl rfl (r_move (v := .tuple #[.int .i64 t57.1, .bool t57.2]) rfl) ?_
                  refine l_val rfl rfl rfl (r_extract (v := .int .i64 t57.1) rfl rfl) ?_
                  refine l_val rfl rfl rfl (r_extract (v := .bool t57.2) rfl rfl) ?_
                  refine l_val rfl rfl rfl (r_assign (v := .int .i64 t57.1) rfl) ?_
                  refine l_val rfl rfl rfl (r_assign (v := .bool t57.2) rfl) ?_
                  refine l_nil ?_
                  refine c_seq ?_
                  refine c_seq ?_
                  refine c_region ?_
                  refine l_val rfl rfl rfl (r_move (v := .bool t57.2) rfl) ?_
                  refine l_val rfl rfl rfl (r_not rfl) ?_
                  refine l_nil ?_
                  refine c_if (b := (!t57.2)) rfl (fun hb => ?_) (fun hb => ?_)
                  · have H58 := cnd_t hb H57; clear H57
                    refine c_seq ?_
                    refine c_region ?_
                    refine l_val rfl rfl rfl (r_build (pl := #[(0, 1), (1, 1), (2, 1), (3, 1), (4, 1)]) (ps := []) (cells := #[.int .i64 0, .int .i64 0, .int .i64 0, .int .i64 0, .int .i64 0]) Tryd.zeroValue24 Tryd.runUnderlying24 (fun w => by kernel_rfl) rfl rfl) ?_
                    refine l_store (i := 0) (vs := [.int .i64 0, .int .i64 0, .int .i64 0, .int .i64 0, .int .i64 0]) (cs' := [.int .i64 0, .int .i64 0, .int .i64 0, .int .i64 0, .int .i64 0]) Tryd.sizeOf24 rfl rfl rfl rfl rfl rfl rfl rfl rfl ?_
                    refine l_val rfl rfl rfl (r_assign (v := .bool false) rfl) ?_
                    refine l_nil ?_
                    refine c_ret ?_
                    obtain rfl := Option.some.inj H58
                    refine retCt (i := 0) (vs := [.int .i64 0, .int .i64 0, .int .i64 0, .int .i64 0, .int .i64 0]) (v2 := .bool false) Tryd.isAgg24 Tryd.sizeOf24 rfl rfl rfl rfl rfl (fin rfl)
                  · have H59 := cnd_f hb H57; clear H57
                    refine c_skip ?_
                    refine c_region ?_
                    refine l_val rfl rfl rfl (r_move (v := Value.pointer (some ⟨b4, t49 + 1, none⟩)) rfl) ?_
                    refine l_val rfl rfl rfl (r_move (v := .int .i64 t57.1) rfl) ?_
                    refine l_val rfl rfl rfl (r_nilCheck rfl) ?_
                    obtain ⟨u, h_u, H60⟩ := bnd_some H59; clear H59
                    refine caseB (decide (t49 = 0)) (fun hb => ?_) (fun hb => ?_)
                    · have H61 := cnd_t hb H60; clear H60
                      have he_ : t49 = 0 := of_decide_eq_true hb
                      refine l_store (i := 2) (o := 1) (vs := [.int .i64 t57.1]) (cs' := [.int .i64 x5_2, .int .i64 t57.1, .int .i64 m_10, .int .i64 m_11, .int .i64 m_12]) Tryd.sizeOf3 rfl (show Value.pointer (some ⟨b4, t49 + 1, none⟩) = Value.pointer (some ⟨b4, 1, none⟩) from by rw [he_]) rfl rfl rfl rfl rfl rfl rfl ?_
                      refine l_nil ?_
                      refine c_close (t57.1, m_10, m_11, m_12) () 0 [0, 1, 2, 3] (by exact ⟨rfl, rfl, rfl, rfl, rfl, rfl, rfl, rfl, rfl, rfl, rfl, rfl, trivial⟩) (by decide) rfl (by exact ⟨H61, trivial⟩) (Nat.lt_succ_self _)
                    · have H62 := cnd_f hb H60; clear H60
                      have hne0 : ¬ t49 = 0 := of_decide_eq_false hb
                      refine caseB (decide (t49 = 1)) (fun hb => ?_) (fun hb => ?_)
                      · have H63 := cnd_t hb H62; clear H62
                        have he_ : t49 = 1 := of_decide_eq_true hb
                        refine l_store (i := 2) (o := 2) (vs := [.int .i64 t57.1]) (cs' := [.int .i64 x5_2, .int .i64 m_9, .int .i64 t57.1, .int .i64 m_11, .int .i64 m_12]) Tryd.sizeOf3 rfl (show Value.pointer (some ⟨b4, t49 + 1, none⟩) = Value.pointer (some ⟨b4, 2, none⟩) from by rw [he_]) rfl rfl rfl rfl rfl rfl rfl ?_
                        refine l_nil ?_
                        refine c_close (m_9, t57.1, m_11, m_12) () 0 [0, 1, 2, 3] (by exact ⟨rfl, rfl, rfl, rfl, rfl, rfl, rfl, rfl, rfl, rfl, rfl, rfl, trivial⟩) (by decide) rfl (by exact ⟨H63, trivial⟩) (Nat.lt_succ_self _)
                      · have H64 := cnd_f hb H62; clear H62
                        have hne1 : ¬ t49 = 1 := of_decide_eq_false hb
                        refine caseB (decide (t49 = 2)) (fun hb => ?_) (fun hb => ?_)
                        · have H65 := cnd_t hb H64; clear H64
                          have he_ : t49 = 2 := of_decide_eq_true hb
                          refine l_store (i := 2) (o := 3) (vs := [.int .i64 t57.1]) (cs' := [.int .i64 x5_2, .int .i64 m_9, .int .i64 m_10, .int .i64 t57.1, .int .i64 m_12]) Tryd.sizeOf3 rfl (show Value.pointer (some ⟨b4, t49 + 1, none⟩) = Value.pointer (some ⟨b4, 3, none⟩) from by rw [he_]) rfl rfl rfl rfl rfl rfl rfl ?_
                          refine l_nil ?_
                          refine c_close (m_9, m_10, t57.1, m_12) () 0 [0, 1, 2, 3] (by exact ⟨rfl, rfl, rfl, rfl, rfl, rfl, rfl, rfl, rfl, rfl, rfl, rfl, trivial⟩) (by decide) rfl (by exact ⟨H65, trivial⟩) (Nat.lt_succ_self _)
                        · have H66 := cnd_f hb H64; clear H64
                          have hne2 : ¬ t49 = 2 := of_decide_eq_false hb
                          have he_ : t49 = 3 := by have := gIf_some h_u; omega
                          refine l_store (i := 2) (o := 4) (vs := [.int .i64 t57.1]) (cs' := [.int .i64 x5_2, .int .i64 m_9, .int .i64 m_10, .int .i64 m_11, .int .i64 t57.1]) Tryd.sizeOf3 rfl (show Value.pointer (some ⟨b4, t49 + 1, none⟩) = Value.pointer (some ⟨b4, 4, none⟩) from by rw [he_]) rfl rfl rfl rfl rfl rfl rfl ?_
                          refine l_nil ?_
                          refine c_close (m_9, m_10, m_11, t57.1) () 0 [0, 1, 2, 3] (by exact ⟨rfl, rfl, rfl, rfl, rfl, rfl, rfl, rfl, rfl, rfl, rfl, rfl, trivial⟩) (by decide) rfl (by exact ⟨H66, trivial⟩) (Nat.lt_succ_self _)
                · rintro ⟨m_13, m_14, m_15, m_16⟩ _ gg H52 _
                  replace H52 : edit_readStep_j6 x46_2 next5 m_13 m_14 m_15 m_16 = some r := H52
                  refine c_tidyF [(2, .pointer (some ⟨b3, 0, none⟩)), (4, .slice p.1 t14.length p.2), (5, .int .i64 x5_2), (8, .pointer (some ⟨b4, 0, none⟩)), (30, .slice p.1 t14.length p.2), (31, .int .i64 (t14.length : Int)), (32, .int .i64 t21.2), (33, .int .i64 t33), (34, .bool (decide ((t14.length : Int) ≠ t33))), (44, .slice (cutA ((some ⟨b5, 0, none⟩, 4) : Option Addr × Nat).1 (Int.toNat (0 : Int)) ((some ⟨b5, 0, none⟩, 4) : Option Addr × Nat).2 1) t44.length (((some ⟨b5, 0, none⟩, 4) : Option Addr × Nat).2 - Int.toNat (0 : Int))), (45, .int .i64 (t44.length : Int)), (46, .int .i64 x46_2)] [cellsC b3 [.int .i64 0, .int .i64 0, .int .i64 0, .int .i64 0, .int .i64 0] 24, rowV 9 1 (.slice p.1 t14.length p.2) t14.length (t14.map e_string), cellsC b4 [.int .i64 x5_2, .int .i64 m_13, .int .i64 m_14, .int .i64 m_15, .int .i64 m_16] 24, rowV 122 1 (.slice ((some ⟨b5, 0, none⟩, 4) : Option Addr × Nat).1 4 ((some ⟨b5, 0, none⟩, 4) : Option Addr × Nat).2) 4 (([0, 1, 2, 3] : List Nat).map (fun k_ : Nat => [Value.pointer (some ⟨b4, k_ + 1, none⟩)]))] rfl rfl ?_
                  refine c_region ?_
                  obtain ⟨t66, h_t66, H53⟩ := bnd_some H52; clear H52
                  refine l_val rfl rfl rfl (r_addG rfl rfl h_t66) ?_
                  refine l_val rfl rfl rfl (r_move (v := .int .i64 t66) rfl) ?_
                  refine l_nil ?_
                  refine c_close (t66, m_13, m_14, m_15, m_16) () m5 [0, 1, 2, 3] (by exact ⟨rfl, rfl, rfl, rfl, rfl, rfl, rfl, rfl, rfl, rfl, rfl, rfl, trivial⟩) (by decide) rfl (by exact ⟨(by subst hn5; exact H53), trivial⟩) (Nat.lt_succ_self _)
              · have H67 := cnd_f hb H50; clear H50
                refine c_exit ?_
                refine c_close (m_9, m_10, m_11, m_12) () 0 [0, 1, 2] (by exact ⟨rfl, rfl, rfl, rfl, rfl, rfl, rfl, rfl, rfl, trivial⟩) (by decide) rfl (by exact ⟨H67, trivial⟩) (Nat.lt_succ_self _)
            · rintro ⟨m, m_2, m_3, m_4⟩ _ gg H48 _
              replace H48 : edit_readStep_j4 x5_2 m m_2 m_3 m_4 = some r := H48
              refine c_tidyF [(2, .pointer (some ⟨b3, 0, none⟩)), (4, .slice p.1 t14.length p.2), (5, .int .i64 x5_2), (8, .pointer (some ⟨b4, 0, none⟩)), (30, .slice p.1 t14.length p.2), (31, .int .i64 (t14.length : Int)), (32, .int .i64 t21.2), (33, .int .i64 t33), (34, .bool (decide ((t14.length : Int) ≠ t33)))] [cellsC b3 [.int .i64 0, .int .i64 0, .int .i64 0, .int .i64 0, .int .i64 0] 24, rowV 9 1 (.slice p.1 t14.length p.2) t14.length (t14.map e_string), cellsC b4 [.int .i64 x5_2, .int .i64 m, .int .i64 m_2, .int .i64 m_3, .int .i64 m_4] 24] rfl rfl ?_
              refine c_seq ?_
              refine c_region ?_
              refine l_loadN (i := 2) (vs := [.int .i64 x5_2, .int .i64 m, .int .i64 m_2, .int .i64 m_3, .int .i64 m_4]) Tryd.isAgg24 Tryd.sizeOf24 rfl rfl rfl rfl rfl ?_
              refine l_store (i := 0) (vs := [.int .i64 x5_2, .int .i64 m, .int .i64 m_2, .int .i64 m_3, .int .i64 m_4]) (cs' := [.int .i64 x5_2, .int .i64 m, .int .i64 m_2, .int .i64 m_3, .int .i64 m_4]) Tryd.sizeOf24 rfl rfl rfl rfl rfl rfl rfl rfl rfl ?_
              refine l_val rfl rfl rfl (r_assign (v := .bool true) rfl) ?_
              refine l_nil ?_
              refine c_ret ?_
              obtain rfl := Option.some.inj H48
              refine retCt (i := 0) (vs := [.int .i64 x5_2, .int .i64 m, .int .i64 m_2, .int .i64 m_3, .int .i64 m_4]) (v2 := .bool true) Tryd.isAgg24 Tryd.sizeOf24 rfl rfl rfl rfl rfl (fin rfl)
      · rintro _ _ gg H39 _
        replace H39 : edit_readStep_j3 x5_2 next2 = some r := H39
        refine c_tidyF [(2, .pointer (some ⟨b3, 0, none⟩)), (4, .slice p.1 t14.length p.2), (5, .int .i64 x5_2)] [cellsC b3 [.int .i64 0, .int .i64 0, .int .i64 0, .int .i64 0, .int .i64 0] 24, rowV 9 1 (.slice p.1 t14.length p.2) t14.length (t14.map e_string)] rfl rfl ?_
        refine c_region ?_
        refine l_val rfl rfl rfl (r_move (v := .int .i64 x5_2) rfl) ?_
        obtain ⟨t18, h_t18, H40⟩ := bnd_some H39; clear H39
        refine l_val rfl rfl rfl (r_addG rfl rfl h_t18) ?_
        refine l_val rfl rfl rfl (r_assign (v := .int .i64 t18) rfl) ?_
        refine l_nil ?_
        refine c_close t18 () m2 [0, 1] (by exact ⟨rfl, rfl, rfl, trivial⟩) (by decide) rfl (by exact ⟨(by subst hn2; exact H40), trivial⟩) (Nat.lt_succ_self _)
    · have H68 := cnd_f hb H37; clear H37
      refine c_exit ?_
      refine c_close () () 0 [0] (by exact ⟨rfl, trivial⟩) (by decide) rfl (by exact ⟨H68, trivial⟩) (Nat.lt_succ_self _)
  · rintro _ _ gg H36 _
    replace H36 : edit_readStep_j1 = some r := H36
    refine c_tidyF [(2, .pointer (some ⟨b3, 0, none⟩))] [cellsC b3 [.int .i64 0, .int .i64 0, .int .i64 0, .int .i64 0, .int .i64 0] 24] rfl rfl ?_
    refine c_seq ?_
    refine c_region ?_
    refine l_val rfl rfl rfl (r_build (pl := #[(0, 1), (1, 1), (2, 1), (3, 1), (4, 1)]) (ps := []) (cells := #[.int .i64 0, .int .i64 0, .int .i64 0, .int .i64 0, .int .i64 0]) Tryd.zeroValue24 Tryd.runUnderlying24 (fun w => by kernel_rfl) rfl rfl) ?_
    refine l_store (i := 0) (vs := [.int .i64 0, .int .i64 0, .int .i64 0, .int .i64 0, .int .i64 0]) (cs' := [.int .i64 0, .int .i64 0, .int .i64 0, .int .i64 0, .int .i64 0]) Tryd.sizeOf24 rfl rfl rfl rfl rfl rfl rfl rfl rfl ?_
    refine l_val rfl rfl rfl (r_assign (v := .bool false) rfl) ?_
    refine l_nil ?_
    refine c_ret ?_
    obtain rfl := Option.some.inj H36
    refine retCt (i := 0) (vs := [.int .i64 0, .int .i64 0, .int .i64 0, .int .i64 0, .int .i64 0]) (v2 := .bool false) Tryd.isAgg24 Tryd.sizeOf24 rfl rfl rfl rfl rfl (fin rfl)
theorem k47 {a : Option Addr} {n c : Nat} (hc : n ≤ c) : Ret Tryd.prog 47 [.slice a n c] (.slice (cutA a 0 n 5) n n) := by
  refine enterRet (n := 9) Tryd.func47 rfl rfl rfl (fun wd => ?_)
  refine c_seq ?_
  refine c_region ?_
  refine l_val rfl rfl rfl (r_assign (v := .slice none 0 0) rfl) ?_
  refine l_nil ?_
  refine c_seq ?_
  refine c_region ?_
  refine l_val rfl rfl rfl (r_move (v := .slice a n c) rfl) ?_
  refine l_val rfl rfl rfl (r_move (v := .slice a n c) rfl) ?_
  refine l_val rfl rfl rfl (r_len Tryd.underlying22 rfl) ?_
  refine l_val rfl rfl rfl (r_move (v := .slice a n c) rfl) ?_
  refine l_val rfl rfl rfl (r_len Tryd.underlying22 rfl) ?_
  refine l_val rfl rfl rfl (r_sliceHM (a := a) (m := n) (c := c) (h := (n : Int)) (q := (n : Int)) Tryd.underlying22 Tryd.sizeOf24 rfl rfl rfl (Int.natCast_nonneg n) (Int.le_refl _) (Int.ofNat_le.2 hc)) ?_
  refine l_val rfl rfl rfl (r_assign (v := .slice (cutA a 0 n 5) n n) rfl) ?_
  refine l_nil ?_
  refine c_ret ?_
  exact ret1 (v := .slice (cutA a 0 n 5) n n) rfl rfl (fin rfl)

theorem k17 {a0 : (List UInt8)} {r : (List T_edit_Step) × Int × Int} {w : World} {h : Heap} (hw : Know h w noS) (tb_pow10 : TabH Tryd.prog h "internal/strconv.uint64pow10" .u64 Lib.pow10Tab) (H : edit_Read a0 = some r) : Does Tryd.prog 17 (List.toArray [str a0]) w (fun v w' => ∃ x : (Option Addr × Nat), v = (.tuple #[.slice x.1 r.1.length x.2, .int .i64 r.2.1, .int .i64 r.2.2]) ∧ Turn w w' noS (roV 5 (.slice x.1 r.1.length x.2) r.1.length (r.1.map e_edit_Step))) := by
  refine enter (n := 50) Tryd.func17 rfl rfl rfl noS [] (Sat.nil _ _) ?_
  refine c_seq ?_
  refine c_region ?_
  refine l_val rfl rfl rfl (r_assign (v := .slice none 0 0) rfl) ?_
  refine l_val rfl rfl rfl (r_assign (v := .int .i64 0) rfl) ?_
  refine l_val rfl rfl rfl (r_assign (v := .int .i64 0) rfl) ?_
  refine l_nil ?_
  refine c_seq ?_
  refine c_seq ?_
  refine c_region ?_
  refine l_val rfl rfl rfl (r_move (v := str a0) rfl) ?_
  refine l_val rfl rfl rfl (r_lenT Tryd.underlying9 rfl) ?_
  refine l_val rfl rfl rfl (r_gtr rfl rfl) ?_
  refine l_nil ?_
  refine c_if (b := (decide (1000000 < (a0.length : Int)))) rfl (fun hb => ?_) (fun hb => ?_)
  · have H35 := cnd_t hb H; clear H
    refine c_seq ?_
    refine c_region ?_
    refine l_val rfl rfl rfl (r_assign (v := .slice none 0 0) rfl) ?_
    refine l_val rfl rfl rfl (r_assign (v := .int .i64 0) rfl) ?_
    refine l_val rfl rfl rfl (r_assign (v := .int .i64 4) rfl) ?_
    refine l_nil ?_
    refine c_ret ?_
    refine c_nilRow 24 5 ?_
    obtain rfl := Option.some.inj H35
    refine c_imp 0 rfl (row_ro _ _ _ _ _) ?_
    refine ret3 (v1 := .slice ((none, 0) : Option Addr × Nat).1 ([] : List T_edit_Step).length ((none, 0) : Option Addr × Nat).2) (v2 := .int .i64 0) (v3 := .int .i64 4) rfl rfl rfl rfl (finX ((none, 0) : Option Addr × Nat) (i := 0) rfl rfl (Imp.refl _))
  · have H36 := cnd_f hb H; clear H
    refine c_skip ?_
    refine c_seq ?_
    refine c_region ?_
    refine l_val rfl rfl rfl (r_assign (v := .slice none 0 0) rfl) ?_
    refine l_nil ?_
    refine c_meet (r := r) (σ := (List T_edit_Step)) (τ := (Option Addr × Nat)) (fun s => edit_Read_j1 s) (fun s t => [(5, .slice t.1 s.length t.2)]) (fun s t => [rowV 24 5 (.slice t.1 s.length t.2) s.length (s.map e_edit_Step)]) (fun s t => True) ?_ ?_
    · refine c_seq ?_
      refine c_region ?_
      refine l_val rfl rfl rfl (r_assign (v := .int .i64 1) rfl) ?_
      refine l_nil ?_
      refine c_block ?_
      refine c_nilRow 24 5 ?_
      refine c_fix (σ := (List UInt8) × Int × (List T_edit_Step)) (τ := (Option Addr × Nat)) (fun next2 s => edit_Read_l2 next2 s.1 s.2.1 s.2.2) (fun s t => [(0, str s.1), (5, .slice t.1 s.2.2.length t.2), (6, .int .i64 s.2.1)]) (fun s t => [rowV 24 5 (.slice t.1 s.2.2.length t.2) s.2.2.length (s.2.2.map e_edit_Step)]) (fun s t => True) (a0, 1, ([] : List T_edit_Step)) ((none, 0) : Option Addr × Nat) [0] H36 (by exact trivial) (by exact ⟨rfl, rfl, rfl, trivial⟩) (by decide) rfl ?_
      rintro ⟨x0_2, x6_2, l_3⟩ p_2 m2 gg H41 _
      clear H36
      replace H41 : edit_Read_l2 (it (fun next2 s => edit_Read_l2 next2 s.1 s.2.1 s.2.2) m2) x0_2 x6_2 l_3 = some r := H41
      generalize hn2 : it (fun next2 s => edit_Read_l2 next2 s.1 s.2.1 s.2.2) m2 = next2 at H41
      refine c_tidyF [(0, str x0_2), (5, .slice p_2.1 l_3.length p_2.2), (6, .int .i64 x6_2)] [rowV 24 5 (.slice p_2.1 l_3.length p_2.2) l_3.length (l_3.map e_edit_Step)] rfl rfl ?_
      refine c_seq ?_
      refine c_seq ?_
      refine c_region ?_
      refine l_val rfl rfl rfl (r_move (v := str x0_2) rfl) ?_
      refine l_val rfl rfl rfl (r_neqT rfl rfl) ?_
      refine l_nil ?_
      refine c_if (b := (decide (x0_2 ≠ []))) rfl (fun hb => ?_) (fun hb => ?_)
      · have H42 := cnd_t hb H41; clear H41
        refine c_skip ?_
        refine c_seq ?_
        refine c_block ?_
        refine c_seq ?_
        refine c_region ?_
        refine l_val rfl rfl rfl (r_move (v := str x0_2) rfl) ?_
        obtain ⟨t22, h_t22, H43⟩ := bnd_some H42; clear H42
        refine l_call (k45 h_t22) Tryd.call45 rfl rfl rfl ?_
        refine l_val rfl rfl rfl (r_move (v := .tuple #[str t22.1, str t22.2.1, .bool t22.2.2]) rfl) ?_
        refine l_val rfl rfl rfl (r_extract (v := str t22.1) rfl rfl) ?_
        refine l_val rfl rfl rfl (r_extract (v := str t22.2.1) rfl rfl) ?_
        refine l_val rfl rfl rfl (r_extract (v := .bool t22.2.2) rfl rfl) ?_
        refine l_val rfl rfl rfl (r_assign (v := str t22.1) rfl) ?_
        refine l_val rfl rfl rfl (r_assign (v := str t22.2.1) rfl) ?_
        refine l_val rfl rfl rfl (r_assign (v := .bool t22.2.2) rfl) ?_
        refine l_nil ?_
        refine c_seq ?_
        refine c_region ?_
        refine l_val rfl rfl rfl (r_move (v := str t22.1) rfl) ?_
        obtain ⟨t28, h_t28, H44⟩ := bnd_some H43; clear H43
        refine l_callG (fun w hF hS => k46 (know_all w) (tb_pow10.mono (hw.now hF)) h_t28) Tryd.call46 rfl rfl rfl ?_
        refine l_val rfl rfl rfl (r_move (v := .tuple #[.agg #[.int .i64 t28.1.Kind, .int .i64 t28.1.A, .int .i64 t28.1.B, .int .i64 t28.1.C, .int .i64 t28.1.D], .bool t28.2]) rfl) ?_
        refine l_val rfl rfl rfl (r_extract (v := .agg #[.int .i64 t28.1.Kind, .int .i64 t28.1.A, .int .i64 t28.1.B, .int .i64 t28.1.C, .int .i64 t28.1.D]) rfl rfl) ?_
        refine l_val rfl rfl rfl (r_extract (v := .bool t28.2) rfl rfl) ?_
        refine l_alloc (cs := [.int .i64 0, .int .i64 0, .int .i64 0, .int .i64 0, .int .i64 0]) Tryd.zeroValue24 rfl rfl rfl (fun b4 => ?_)
        refine l_store (i := 1) (vs := [.int .i64 t28.1.Kind, .int .i64 t28.1.A, .int .i64 t28.1.B, .int .i64 t28.1.C, .int .i64 t28.1.D]) (cs' := [.int .i64 t28.1.Kind, .int .i64 t28.1.A, .int .i64 t28.1.B, .int .i64 t28.1.C, .int .i64 t28.1.D]) Tryd.sizeOf24 rfl rfl rfl rfl rfl rfl rfl rfl rfl ?_
        refine l_val rfl rfl rfl (r_assign (v := .bool t28.2) rfl) ?_
        refine l_nil ?_
        refine c_seq ?_
        refine c_seq ?_
        refine c_region ?_
        refine l_val rfl rfl rfl (r_move (v := .bool t22.2.2) rfl) ?_
        refine l_val rfl rfl rfl (r_not rfl) ?_
        refine l_val rfl rfl rfl (r_move (v := .bool (!t22.2.2)) rfl) ?_
        refine split (fun hb => ?_) (fun hb => ?_)
        · have H45 := cnd_t hb H44; clear H44
          refine l_passed rfl rfl rfl ?_
          refine l_passed rfl rfl rfl ?_
          refine l_val rfl rfl rfl (r_pickT (v := .bool true) rfl rfl) ?_
          refine l_nil ?_
          refine c_true rfl ?_
          refine c_seq ?_
          refine c_region ?_
          refine l_val rfl rfl rfl (r_move (v := .int .i64 x6_2) rfl) ?_
          refine l_val rfl rfl rfl (r_assign (v := .slice none 0 0) rfl) ?_
          refine l_val rfl rfl rfl (r_assign (v := .int .i64 x6_2) rfl) ?_
          refine l_val rfl rfl rfl (r_assign (v := .int .i64 8) rfl) ?_
          refine l_nil ?_
          refine c_ret ?_
          refine c_nilRow 24 5 ?_
          obtain rfl := Option.some.inj H45
          refine c_imp 2 rfl (row_ro _ _ _ _ _) ?_
          refine ret3 (v1 := .slice ((none, 0) : Option Addr × Nat).1 ([] : List T_edit_Step).length ((none, 0) : Option Addr × Nat).2) (v2 := .int .i64 x6_2) (v3 := .int .i64 8) rfl rfl rfl rfl (finX ((none, 0) : Option Addr × Nat) (i := 2) rfl rfl (Imp.refl _))
        · have H46 := cnd_f hb H44; clear H44
          refine l_val rfl rfl rfl (r_move (v := .bool t28.2) rfl) ?_
          refine l_val rfl rfl rfl (r_not rfl) ?_
          refine l_val rfl rfl rfl (r_pickF (v := .bool (!t28.2)) rfl rfl) ?_
          refine l_nil ?_
          refine c_if (b := (!t28.2)) rfl (fun hb => ?_) (fun hb => ?_)
          · have H47 := cnd_t hb H46; clear H46
            refine c_seq ?_
            refine c_region ?_
            refine l_val rfl rfl rfl (r_move (v := .int .i64 x6_2) rfl) ?_
            refine l_val rfl rfl rfl (r_assign (v := .slice none 0 0) rfl) ?_
            refine l_val rfl rfl rfl (r_assign (v := .int .i64 x6_2) rfl) ?_
            refine l_val rfl rfl rfl (r_assign (v := .int .i64 8) rfl) ?_
            refine l_nil ?_
            refine c_ret ?_
            refine c_nilRow 24 5 ?_
            obtain rfl := Option.some.inj H47
            refine c_imp 2 rfl (row_ro _ _ _ _ _) ?_
            refine ret3 (v1 := .slice ((none, 0) : Option Addr × Nat).1 ([] : List T_edit_Step).length ((none, 0) : Option Addr × Nat).2) (v2 := .int .i64 x6_2) (v3 := .int .i64 8) rfl rfl rfl rfl (finX ((none, 0) : Option Addr × Nat) (i := 2) rfl rfl (Imp.refl _))
          · have H48 := cnd_f hb H46; clear H46
            refine c_skip ?_
            refine c_seq ?_
            refine c_region ?_
            refine l_val rfl rfl rfl (r_move (v := .slice p_2.1 l_3.length p_2.2) rfl) ?_
            refine l_loadN (i := 1) (vs := [.int .i64 t28.1.Kind, .int .i64 t28.1.A, .int .i64 t28.1.B, .int .i64 t28.1.C, .int .i64 t28.1.D]) Tryd.isAgg24 Tryd.sizeOf24 rfl rfl rfl rfl rfl ?_
            refine l_buildSlice (vs := [.agg #[.int .i64 t28.1.Kind, .int .i64 t28.1.A, .int .i64 t28.1.B, .int .i64 t28.1.C, .int .i64 t28.1.D]]) (cs := [.int .i64 t28.1.Kind, .int .i64 t28.1.A, .int .i64 t28.1.B, .int .i64 t28.1.C, .int .i64 t28.1.D]) Tryd.underlying22 Tryd.sizeOf24 Tryd.zeroValue24 rfl rfl rfl rfl rfl rfl rfl (fun b5 => ?_)
            obtain ⟨l41, h_l41, H49⟩ := bnd_some H48; clear H48
            refine l_turn (turns_appG (i := 0) (hn := rfl) (rds := [2]) (p := p_2) (sz := 5) (by_ := 40) (f := e_edit_Step) (ys := l_3) (ls := ([t28.1] : List T_edit_Step)) (V := .slice (some ⟨b5, 0, none⟩) 1 1) Tryd.underlying22 (info_of Tryd.typeInfo24) rfl rfl rfl rfl rfl rfl rfl rfl rfl rfl (fun w L' hF hS hi => row_box (i := 2) hS ((hi 2 (by simp)).trans rfl) rfl rfl) (fun _ => rfl) (fun _ => rfl) h_l41) rfl rfl rfl (fun p_3 => ?_)
            refine l_val rfl rfl rfl (r_assign (v := .slice p_3.1 l41.length p_3.2) rfl) ?_
            refine l_nil ?_
            refine c_region ?_
            refine l_val rfl rfl rfl (r_move (v := str t22.2.1) rfl) ?_
            refine l_val rfl rfl rfl (r_assign (v := str t22.2.1) rfl) ?_
            refine l_nil ?_
            refine c_region ?_
            refine l_val rfl rfl rfl (r_move (v := .int .i64 x6_2) rfl) ?_
            obtain ⟨t19, h_t19, H50⟩ := bnd_some H49; clear H49
            refine l_val rfl rfl rfl (r_addG rfl rfl h_t19) ?_
            refine l_val rfl rfl rfl (r_assign (v := .int .i64 t19) rfl) ?_
            refine l_nil ?_
            refine c_close (t22.2.1, t19, l41) p_3 m2 [0] (by exact ⟨rfl, rfl, rfl, trivial⟩) (by decide) rfl (by exact ⟨(by subst hn2; exact H50), trivial⟩) (Nat.lt_succ_self _)
      · have H51 := cnd_f hb H41; clear H41
        refine c_exit ?_
        refine c_close l_3 p_2 0 [0] (by exact ⟨rfl, trivial⟩) (by decide) rfl (by exact ⟨H51, trivial⟩) (Nat.lt_succ_self _)
    · rintro l p gg H37 _
      replace H37 : edit_Read_j1 l = some r := H37
      refine c_tidyF [(5, .slice p.1 l.length p.2)] [rowV 24 5 (.slice p.1 l.length p.2) l.length (l.map e_edit_Step)] rfl rfl ?_
      refine c_seq ?_
      refine c_seq ?_
      refine c_region ?_
      refine l_val rfl rfl rfl (r_move (v := .slice p.1 l.length p.2) rfl) ?_
      obtain ⟨t44, h_t44, H38⟩ := bnd_some H37; clear H37
      refine l_callG (fun w hF hS => k13 (know_all w) (frs_own (i := 0) rfl hS rfl) h_t44) Tryd.call13 rfl rfl rfl ?_
      refine l_val rfl rfl rfl (r_assign (v := .int .i64 t44) rfl) ?_
      refine l_nil ?_
      refine c_seq ?_
      refine c_region ?_
      refine l_val rfl rfl rfl (r_move (v := .int .i64 t44) rfl) ?_
      refine l_val rfl rfl rfl (r_neq rfl rfl) ?_
      refine l_nil ?_
      refine c_if (b := (decide (t44 ≠ 0))) rfl (fun hb => ?_) (fun hb => ?_)
      · have H39 := cnd_t hb H38; clear H38
        refine c_seq ?_
        refine c_region ?_
        refine l_val rfl rfl rfl (r_move (v := .int .i64 t44) rfl) ?_
        refine l_val rfl rfl rfl (r_assign (v := .slice none 0 0) rfl) ?_
        refine l_val rfl rfl rfl (r_assign (v := .int .i64 0) rfl) ?_
        refine l_val rfl rfl rfl (r_assign (v := .int .i64 t44) rfl) ?_
        refine l_nil ?_
        refine c_ret ?_
        refine c_nilRow 24 5 ?_
        obtain rfl := Option.some.inj H39
        refine c_imp 1 rfl (row_ro _ _ _ _ _) ?_
        refine ret3 (v1 := .slice ((none, 0) : Option Addr × Nat).1 ([] : List T_edit_Step).length ((none, 0) : Option Addr × Nat).2) (v2 := .int .i64 0) (v3 := .int .i64 t44) rfl rfl rfl rfl (finX ((none, 0) : Option Addr × Nat) (i := 1) rfl rfl (Imp.refl _))
      · have H40 := cnd_f hb H38; clear H38
        refine c_skip ?_
        refine c_seq ?_
        refine c_region ?_
        refine l_val rfl rfl rfl (r_move (v := .slice p.1 l.length p.2) rfl) ?_
        refine l_callG (fun w hF hS => k47 (capOf (i := 0) hS rfl) w) Tryd.call47 rfl rfl rfl ?_
        refine l_val rfl rfl rfl (r_assign (v := .slice (cutA p.1 0 l.length 5) l.length l.length) rfl) ?_
        refine l_val rfl rfl rfl (r_assign (v := .int .i64 0) rfl) ?_
        refine l_val rfl rfl rfl (r_assign (v := .int .i64 0) rfl) ?_
        refine l_nil ?_
        refine c_ret ?_
        obtain rfl := Option.some.inj H40
        refine c_imp 0 rfl (imp_clipO _ _ _ _ _ _) ?_
        refine ret3 (v1 := .slice (cutA p.1 0 l.length 5) l.length l.length) (v2 := .int .i64 0) (v3 := .int .i64 0) rfl rfl rfl rfl (finX (cutA p.1 0 l.length 5, l.length) (i := 0) rfl rfl (Imp.refl _))
theorem k49 {a0 : (List (List UInt8))} {v0 : Value} {a1 : (List UInt8)} {r : Int} {w : World} {h : Heap} (hw : Know h w noS) (f0 : FrS h 1 v0 (a0.map e_string)) (H : slices_Index_string a0 a1 = some r) : Does Tryd.prog 49 (List.toArray [v0, str a1]) w (fun v w' => v = (.int .i64 r) ∧ Grow w w') := by
  refine enter (n := 19) Tryd.func49 rfl rfl rfl noS [] (Sat.nil _ _) ?_
  refine c_seq ?_
  refine c_region ?_
  refine l_val rfl rfl rfl (r_assign (v := .int .i64 0) rfl) ?_
  refine l_nil ?_
  refine c_seq ?_
  refine c_seq ?_
  refine c_region ?_
  refine l_val rfl rfl rfl (r_move (v := v0) rfl) ?_
  refine l_val rfl rfl rfl (r_lenF Tryd.underlying34 rfl f0 rfl) ?_
  refine l_val rfl rfl rfl (r_move (v := .int .i64 0) rfl) ?_
  refine l_nil ?_
  refine c_block ?_
  refine c_fix (σ := Int) (τ := Unit) (fun next1 s => slices_Index_string_l1 a0 a1 next1 s) (fun s t => [(0, v0), (1, str a1), (7, .int .i64 (a0.length : Int)), (8, .int .i64 s)]) (fun s t => []) (fun s t => True) 0 () [] H (by exact trivial) (by exact ⟨rfl, rfl, rfl, rfl, trivial⟩) (by decide) rfl ?_
  rintro x8_2 _ m1 gg H8 _
  clear H
  replace H8 : slices_Index_string_l1 a0 a1 (it (fun next1 s => slices_Index_string_l1 a0 a1 next1 s) m1) x8_2 = some r := H8
  generalize hn1 : it (fun next1 s => slices_Index_string_l1 a0 a1 next1 s) m1 = next1 at H8
  refine c_tidyF [(0, v0), (1, str a1), (7, .int .i64 (a0.length : Int)), (8, .int .i64 x8_2)] [] rfl rfl ?_
  refine c_seq ?_
  refine c_region ?_
  refine l_val rfl rfl rfl (r_lss rfl rfl) ?_
  refine l_nil ?_
  refine c_seq ?_
  refine c_if (b := (decide (x8_2 < (a0.length : Int)))) rfl (fun hb => ?_) (fun hb => ?_)
  · have H9 := cnd_t hb H8; clear H8
    refine c_skip ?_
    refine c_seq ?_
    refine c_block ?_
    refine c_seq ?_
    refine c_region ?_
    refine l_val rfl rfl rfl (r_move (v := .int .i64 x8_2) rfl) ?_
    refine l_val rfl rfl rfl (r_assign (v := .int .i64 x8_2) rfl) ?_
    refine l_nil ?_
    refine c_seq ?_
    refine c_region ?_
    refine l_val rfl rfl rfl (r_move (v := str a1) rfl) ?_
    refine l_val rfl rfl rfl (r_move (v := v0) rfl) ?_
    refine l_val rfl rfl rfl (r_move (v := .int .i64 x8_2) rfl) ?_
    obtain ⟨t14, h_t14, H10⟩ := bnd_some H9; clear H9
    refine l_val rfl rfl rfl (r_indexF Tryd.underlying34 Tryd.sizeOf9 rfl rfl f0 h_t14) ?_
    refine l_read (fun w hF hS => run_loadG1 (f := e_string) (i := x8_2) (sz := 1) (j := 0) (v := str t14) Tryd.isAgg9 rfl rfl (f0.row (hw.now hF)) h_t14 rfl) rfl rfl rfl ?_
    refine l_val rfl rfl rfl (r_eqlT rfl rfl) ?_
    refine l_nil ?_
    refine c_if (b := (decide (a1 = t14))) rfl (fun hb => ?_) (fun hb => ?_)
    · have H11 := cnd_t hb H10; clear H10
      refine c_seq ?_
      refine c_region ?_
      refine l_val rfl rfl rfl (r_move (v := .int .i64 x8_2) rfl) ?_
      refine l_val rfl rfl rfl (r_assign (v := .int .i64 x8_2) rfl) ?_
      refine l_nil ?_
      refine c_ret ?_
      obtain rfl := Option.some.inj H11
      refine ret1 (v := .int .i64 x8_2) rfl rfl (fin rfl)
    · have H12 := cnd_f hb H10; clear H10
      refine c_skip ?_
      refine c_region ?_
      obtain ⟨t18, h_t18, H13⟩ := bnd_some H12; clear H12
      refine l_val rfl rfl rfl (r_addG rfl rfl h_t18) ?_
      refine l_val rfl rfl rfl (r_move (v := .int .i64 t18) rfl) ?_
      refine l_nil ?_
      refine c_close t18 () m1 [] (by exact ⟨rfl, rfl, rfl, rfl, trivial⟩) (by decide) rfl (by exact ⟨(by subst hn1; exact H13), trivial⟩) (Nat.lt_succ_self _)
  · have H14 := cnd_f hb H8; clear H8
    refine c_exit ?_
    refine c_seq ?_
    refine c_region ?_
    refine l_val rfl rfl rfl (r_assign (v := .int .i64 (-1)) rfl) ?_
    refine l_nil ?_
    refine c_ret ?_
    obtain rfl := Option.some.inj H14
    refine ret1 (v := .int .i64 (-1)) rfl rfl (fin rfl)
theorem k51 {a0 : (List UInt8)} {a1 : Int} {a2 : Bool} {r : Int × Bool} (H : R_Whole a0 a1 a2 = some r) : Ret Tryd.prog 51 [str a0, .int .i64 a1, .bool a2] (.tuple #[.int .i64 r.1, .bool r.2]) := by
  refine enterRet (n := 45) Tryd.func51 rfl rfl rfl (fun wd => ?_)
  refine c_seq ?_
  refine c_region ?_
  refine l_val rfl rfl rfl (r_assign (v := .int .i64 0) rfl) ?_
  refine l_val rfl rfl rfl (r_assign (v := .bool false) rfl) ?_
  refine l_nil ?_
  refine c_seq ?_
  refine c_region ?_
  refine l_val rfl rfl rfl (r_move (v := str a0) rfl) ?_
  refine l_val rfl rfl rfl (r_assign (v := str a0) rfl) ?_
  refine l_nil ?_
  refine c_meet (r := r) (σ := (List UInt8)) (τ := Unit) (fun s => R_Whole_j1 a0 a1 s) (fun s t => [(0, str a0), (1, .int .i64 a1), (8, str s)]) (fun s t => []) (fun s t => True) ?_ ?_
  · refine c_seq ?_
    refine c_region ?_
    refine l_val rfl rfl rfl (r_move (v := .bool a2) rfl) ?_
    refine l_nil ?_
    refine c_if (b := a2) rfl (fun hb => ?_) (fun hb => ?_)
    · have H34 := cnd_t hb H; clear H
      refine c_region ?_
      refine l_val rfl rfl rfl (r_move (v := str a0) rfl) ?_
      obtain ⟨t14, h_t14, H35⟩ := bnd_some H34; clear H34
      refine l_call (k77 h_t14) Tryd.call77 rfl rfl rfl ?_
      refine l_val rfl rfl rfl (r_assign (v := str t14) rfl) ?_
      refine l_nil ?_
      refine c_close t14 () 0 [] (by exact ⟨rfl, rfl, rfl, trivial⟩) (by decide) rfl (by exact ⟨H35, trivial⟩) (Nat.lt_succ_self _)
    · have H36 := cnd_f hb H; clear H
      refine c_skip ?_
      refine c_close a0 () 0 [] (by exact ⟨rfl, rfl, rfl, trivial⟩) (by decide) rfl (by exact ⟨H36, trivial⟩) (Nat.lt_succ_self _)
  · rintro x8 _ gg H19 _
    replace H19 : R_Whole_j1 a0 a1 x8 = some r := H19
    refine c_tidyF [(0, str a0), (1, .int .i64 a1), (8, str x8)] [] rfl rfl ?_
    refine c_meet (r := r) (σ := Unit) (τ := Unit) (fun s => R_Whole_j2 a0) (fun s t => [(0, str a0)]) (fun s t => []) (fun s t => True) ?_ ?_
    · refine c_seq ?_
      refine c_region ?_
      refine l_val rfl rfl rfl (r_move (v := str x8) rfl) ?_
      refine l_val rfl rfl rfl (r_eqlT rfl rfl) ?_
      refine l_val rfl rfl rfl (r_move (v := .bool (decide (x8 = []))) rfl) ?_
      refine split (fun hb => ?_) (fun hb => ?_)
      · have H22 := cnd_t hb H19; clear H19
        refine l_passed rfl rfl rfl ?_
        refine l_passed rfl rfl rfl ?_
        refine l_passed rfl rfl rfl ?_
        refine l_passed rfl rfl rfl ?_
        refine l_val rfl rfl rfl (r_pickT (v := .bool true) rfl rfl) ?_
        refine l_val rfl rfl rfl (r_move (v := .bool true) rfl) ?_
        refine l_passed rfl rfl rfl ?_
        refine l_passed rfl rfl rfl ?_
        refine l_passed rfl rfl rfl ?_
        refine l_val rfl rfl rfl (r_pickT (v := .bool true) rfl rfl) ?_
        refine l_val rfl rfl rfl (r_move (v := .bool true) rfl) ?_
        refine l_passed rfl rfl rfl ?_
        refine l_passed rfl rfl rfl ?_
        refine l_passed rfl rfl rfl ?_
        refine l_passed rfl rfl rfl ?_
        refine l_passed rfl rfl rfl ?_
        refine l_passed rfl rfl rfl ?_
        refine l_passed rfl rfl rfl ?_
        refine l_val rfl rfl rfl (r_pickT (v := .bool true) rfl rfl) ?_
        refine l_nil ?_
        refine c_true rfl ?_
        refine c_seq ?_
        refine c_region ?_
        refine l_val rfl rfl rfl (r_assign (v := .int .i64 0) rfl) ?_
        refine l_val rfl rfl rfl (r_assign (v := .bool false) rfl) ?_
        refine l_nil ?_
        refine c_ret ?_
        obtain rfl := Option.some.inj H22
        refine ret2 (v1 := .int .i64 0) (v2 := .bool false) rfl rfl rfl (fin rfl)
      · have H23 := cnd_f hb H19; clear H19
        refine l_val rfl rfl rfl (r_move (v := str x8) rfl) ?_
        refine l_val rfl rfl rfl (r_lenT Tryd.underlying9 rfl) ?_
        refine l_val rfl rfl rfl (r_move (v := .int .i64 a1) rfl) ?_
        refine l_val rfl rfl rfl (r_gtr rfl rfl) ?_
        refine l_val rfl rfl rfl (r_pickF (v := .bool (decide (a1 < (x8.length : Int)))) rfl rfl) ?_
        refine l_val rfl rfl rfl (r_move (v := .bool (decide (a1 < (x8.length : Int)))) rfl) ?_
        refine split (fun hb => ?_) (fun hb => ?_)
        · have H24 := cnd_t hb H23; clear H23
          refine l_passed rfl rfl rfl ?_
          refine l_passed rfl rfl rfl ?_
          refine l_passed rfl rfl rfl ?_
          refine l_val rfl rfl rfl (r_pickT (v := .bool true) rfl rfl) ?_
          refine l_val rfl rfl rfl (r_move (v := .bool true) rfl) ?_
          refine l_passed rfl rfl rfl ?_
          refine l_passed rfl rfl rfl ?_
          refine l_passed rfl rfl rfl ?_
          refine l_passed rfl rfl rfl ?_
          refine l_passed rfl rfl rfl ?_
          refine l_passed rfl rfl rfl ?_
          refine l_passed rfl rfl rfl ?_
          refine l_val rfl rfl rfl (r_pickT (v := .bool true) rfl rfl) ?_
          refine l_nil ?_
          refine c_true rfl ?_
          refine c_seq ?_
          refine c_region ?_
          refine l_val rfl rfl rfl (r_assign (v := .int .i64 0) rfl) ?_
          refine l_val rfl rfl rfl (r_assign (v := .bool false) rfl) ?_
          refine l_nil ?_
          refine c_ret ?_
          obtain rfl := Option.some.inj H24
          refine ret2 (v1 := .int .i64 0) (v2 := .bool false) rfl rfl rfl (fin rfl)
        · have H25 := cnd_f hb H23; clear H23
          refine l_val rfl rfl rfl (r_move (v := str x8) rfl) ?_
          obtain ⟨t25, h_t25, H26⟩ := bnd_some H25; clear H25
          refine l_call (k67 h_t25) Tryd.call67 rfl rfl rfl ?_
          refine l_val rfl rfl rfl (r_neqT rfl rfl) ?_
          refine l_val rfl rfl rfl (r_pickF (v := .bool (decide (t25 ≠ []))) rfl rfl) ?_
          refine l_val rfl rfl rfl (r_move (v := .bool (decide (t25 ≠ []))) rfl) ?_
          refine split (fun hb => ?_) (fun hb => ?_)
          · have H27 := cnd_t hb H26; clear H26
            refine l_passed rfl rfl rfl ?_
            refine l_passed rfl rfl rfl ?_
            refine l_passed rfl rfl rfl ?_
            refine l_passed rfl rfl rfl ?_
            refine l_passed rfl rfl rfl ?_
            refine l_passed rfl rfl rfl ?_
            refine l_passed rfl rfl rfl ?_
            refine l_val rfl rfl rfl (r_pickT (v := .bool true) rfl rfl) ?_
            refine l_nil ?_
            refine c_true rfl ?_
            refine c_seq ?_
            refine c_region ?_
            refine l_val rfl rfl rfl (r_assign (v := .int .i64 0) rfl) ?_
            refine l_val rfl rfl rfl (r_assign (v := .bool false) rfl) ?_
            refine l_nil ?_
            refine c_ret ?_
            obtain rfl := Option.some.inj H27
            refine ret2 (v1 := .int .i64 0) (v2 := .bool false) rfl rfl rfl (fin rfl)
          · have H28 := cnd_f hb H26; clear H26
            refine l_val rfl rfl rfl (r_move (v := str x8) rfl) ?_
            obtain ⟨t30, h_t30, H29⟩ := bnd_some H28; clear H28
            refine l_val rfl rfl rfl (r_octG Tryd.underlying9 rfl rfl h_t30) ?_
            refine l_val rfl rfl rfl (r_eql rfl rfl) ?_
            refine l_val rfl rfl rfl (r_move (v := .bool (decide (t30 = 48))) rfl) ?_
            refine split (fun hb => ?_) (fun hb => ?_)
            · have H30 := cnd_t hb H29; clear H29
              refine l_val rfl rfl rfl (r_move (v := str a0) rfl) ?_
              refine l_val rfl rfl rfl (r_neqT rfl rfl) ?_
              refine l_val rfl rfl rfl (r_pickT (v := .bool (decide (a0 ≠ [48]))) rfl rfl) ?_
              refine l_val rfl rfl rfl (r_pickF (v := .bool (decide (a0 ≠ [48]))) rfl rfl) ?_
              refine l_nil ?_
              refine c_if (b := (decide (a0 ≠ [48]))) rfl (fun hb => ?_) (fun hb => ?_)
              · have H31 := cnd_t hb H30; clear H30
                refine c_seq ?_
                refine c_region ?_
                refine l_val rfl rfl rfl (r_assign (v := .int .i64 0) rfl) ?_
                refine l_val rfl rfl rfl (r_assign (v := .bool false) rfl) ?_
                refine l_nil ?_
                refine c_ret ?_
                obtain rfl := Option.some.inj H31
                refine ret2 (v1 := .int .i64 0) (v2 := .bool false) rfl rfl rfl (fin rfl)
              · have H32 := cnd_f hb H30; clear H30
                refine c_skip ?_
                refine c_close () () 0 [] (by exact ⟨rfl, trivial⟩) (by decide) rfl (by exact ⟨H32, trivial⟩) (Nat.lt_succ_self _)
            · have H33 := cnd_f hb H29; clear H29
              refine l_passed rfl rfl rfl ?_
              refine l_passed rfl rfl rfl ?_
              refine l_val rfl rfl rfl (r_pickF (v := .bool false) rfl rfl) ?_
              refine l_val rfl rfl rfl (r_pickF (v := .bool false) rfl rfl) ?_
              refine l_nil ?_
              refine c_false rfl ?_
              refine c_skip ?_
              refine c_close () () 0 [] (by exact ⟨rfl, trivial⟩) (by decide) rfl (by exact ⟨H33, trivial⟩) (Nat.lt_succ_self _)
    · rintro _ _ gg H20 _
      replace H20 : R_Whole_j2 a0 = some r := H20
      refine c_tidyF [(0, str a0)] [] rfl rfl ?_
      refine c_seq ?_
      refine c_region ?_
      refine l_val rfl rfl rfl (r_move (v := str a0) rfl) ?_
      obtain ⟨t39, h_t39, H21⟩ := bnd_some H20; clear H20
      refine l_call (k78 h_t39) Tryd.call78 rfl rfl rfl ?_
      refine l_val rfl rfl rfl (r_move (v := .tuple #[.int .i64 t39, .nilIface]) rfl) ?_
      refine l_val rfl rfl rfl (r_extract (v := .int .i64 t39) rfl rfl) ?_
      refine l_val rfl rfl rfl (r_extract (v := .nilIface) rfl rfl) ?_
      refine l_val rfl rfl rfl (r_assign (v := .int .i64 t39) rfl) ?_
      refine l_val rfl rfl rfl (r_assign (v := .nilIface) rfl) ?_
      refine l_nil ?_
      refine c_seq ?_
      exact c_regionD (Kd.p :: Kd.p :: Kd.p :: Kd.p :: Kd.p :: []) 0 mixed (by
        refine d_val rfl rfl (r_move (v := .int .i64 t39) rfl) ?_
        refine d_val rfl rfl (r_move (v := .nilIface) rfl) ?_
        refine d_val rfl rfl (r_eqlErr rfl (by intro w; kernel_rfl)) ?_
        refine d_val rfl rfl (r_assign (v := .int .i64 t39) rfl) ?_
        refine d_val rfl rfl (r_assign (v := .bool true) rfl) ?_
        refine d_nil ?_
        refine c_ret ?_
        obtain rfl := Option.some.inj H21
        refine ret2 (v1 := .int .i64 t39) (v2 := .bool true) rfl rfl rfl (fin rfl)
        ) (by kernel_rfl)
theorem k18 {a0 : (List UInt8)} {r : (List T_edit_Step) × Int × Int} {w : World} {h : Heap} (hw : Know h w noS) (H : R_StepsRead a0 = some r) : Does Tryd.prog 18 (List.toArray [str a0]) w (fun v w' => ∃ x : (Option Addr × Nat), v = (.tuple #[.slice x.1 r.1.length x.2, .int .i64 r.2.1, .int .i64 r.2.2]) ∧ Turn w w' noS (rowV 24 5 (.slice x.1 r.1.length x.2) r.1.length (r.1.map e_edit_Step))) := by
  refine enter (n := 89) Tryd.func18 rfl rfl rfl noS [] (Sat.nil _ _) ?_
  refine c_seq ?_
  refine c_region ?_
  refine l_val rfl rfl rfl (r_assign (v := .slice none 0 0) rfl) ?_
  refine l_val rfl rfl rfl (r_assign (v := .int .i64 0) rfl) ?_
  refine l_val rfl rfl rfl (r_assign (v := .int .i64 0) rfl) ?_
  refine l_nil ?_
  refine c_seq ?_
  refine c_seq ?_
  refine c_region ?_
  refine l_val rfl rfl rfl (r_move (v := str a0) rfl) ?_
  refine l_val rfl rfl rfl (r_lenT Tryd.underlying9 rfl) ?_
  refine l_val rfl rfl rfl (r_gtr rfl rfl) ?_
  refine l_nil ?_
  refine c_if (b := (decide (1000000 < (a0.length : Int)))) rfl (fun hb => ?_) (fun hb => ?_)
  · have H37 := cnd_t hb H; clear H
    refine c_seq ?_
    refine c_region ?_
    refine l_val rfl rfl rfl (r_assign (v := .slice none 0 0) rfl) ?_
    refine l_val rfl rfl rfl (r_assign (v := .int .i64 0) rfl) ?_
    refine l_val rfl rfl rfl (r_assign (v := .int .i64 4) rfl) ?_
    refine l_nil ?_
    refine c_ret ?_
    refine c_nilRow 24 5 ?_
    obtain rfl := Option.some.inj H37
    refine ret3 (v1 := .slice ((none, 0) : Option Addr × Nat).1 ([] : List T_edit_Step).length ((none, 0) : Option Addr × Nat).2) (v2 := .int .i64 0) (v3 := .int .i64 4) rfl rfl rfl rfl (finX ((none, 0) : Option Addr × Nat) (i := 0) rfl rfl (Imp.refl _))
  · have H38 := cnd_f hb H; clear H
    refine c_skip ?_
    refine c_meet (r := r) (σ := (List T_edit_Step)) (τ := (Option Addr × Nat)) (fun s => R_StepsRead_j1 s) (fun s t => [(2, .slice t.1 s.length t.2)]) (fun s t => [rowV 24 5 (.slice t.1 s.length t.2) s.length (s.map e_edit_Step)]) (fun s t => True) ?_ ?_
    · refine c_seq ?_
      refine c_region ?_
      refine l_val rfl rfl rfl (r_assign (v := .int .i64 1) rfl) ?_
      refine l_nil ?_
      refine c_block ?_
      refine c_nilRow 24 5 ?_
      refine c_fix (σ := (List UInt8) × Int × (List T_edit_Step)) (τ := (Option Addr × Nat)) (fun next2 s => R_StepsRead_l2 next2 s.1 s.2.1 s.2.2) (fun s t => [(0, str s.1), (2, .slice t.1 s.2.2.length t.2), (3, .int .i64 s.2.1)]) (fun s t => [rowV 24 5 (.slice t.1 s.2.2.length t.2) s.2.2.length (s.2.2.map e_edit_Step)]) (fun s t => True) (a0, 1, ([] : List T_edit_Step)) ((none, 0) : Option Addr × Nat) [0] H38 (by exact trivial) (by exact ⟨rfl, rfl, rfl, trivial⟩) (by decide) rfl ?_
      rintro ⟨x0_2, x3_2, l_3⟩ p_2 m2 gg H43 _
      clear H38
      replace H43 : R_StepsRead_l2 (it (fun next2 s => R_StepsRead_l2 next2 s.1 s.2.1 s.2.2) m2) x0_2 x3_2 l_3 = some r := H43
      generalize hn2 : it (fun next2 s => R_StepsRead_l2 next2 s.1 s.2.1 s.2.2) m2 = next2 at H43
      refine c_tidyF [(0, str x0_2), (2, .slice p_2.1 l_3.length p_2.2), (3, .int .i64 x3_2)] [rowV 24 5 (.slice p_2.1 l_3.length p_2.2) l_3.length (l_3.map e_edit_Step)] rfl rfl ?_
      refine c_seq ?_
      refine c_seq ?_
      refine c_region ?_
      refine l_val rfl rfl rfl (r_move (v := str x0_2) rfl) ?_
      refine l_val rfl rfl rfl (r_neqT rfl rfl) ?_
      refine l_nil ?_
      refine c_if (b := (decide (x0_2 ≠ []))) rfl (fun hb => ?_) (fun hb => ?_)
      · have H44 := cnd_t hb H43; clear H43
        refine c_skip ?_
        refine c_meet (r := r) (σ := (List UInt8) × Int × Bool × Int × Int × Int × Int × Bool × (List T_edit_Step) × (List (List UInt8))) (τ := (Option Addr × Nat) × (Option Addr × Nat)) (fun s => R_StepsRead_j3 x3_2 next2 s.1 s.2.1 s.2.2.1 s.2.2.2.1 s.2.2.2.2.1 s.2.2.2.2.2.1 s.2.2.2.2.2.2.1 s.2.2.2.2.2.2.2.1 s.2.2.2.2.2.2.2.2.1 s.2.2.2.2.2.2.2.2.2) (fun s t => [(0, str s.1), (2, .slice t.1.1 s.2.2.2.2.2.2.2.2.1.length t.1.2), (3, .int .i64 x3_2), (39, .int .i64 s.2.1), (40, .bool s.2.2.1), (43, .slice t.2.1 s.2.2.2.2.2.2.2.2.2.length t.2.2), (44, .int .i64 s.2.2.2.1), (45, .int .i64 s.2.2.2.2.1), (46, .int .i64 s.2.2.2.2.2.1), (47, .int .i64 s.2.2.2.2.2.2.1), (48, .bool s.2.2.2.2.2.2.2.1)]) (fun s t => [rowV 24 5 (.slice t.1.1 s.2.2.2.2.2.2.2.2.1.length t.1.2) s.2.2.2.2.2.2.2.2.1.length (s.2.2.2.2.2.2.2.2.1.map e_edit_Step), rowV 9 1 (.slice t.2.1 s.2.2.2.2.2.2.2.2.2.length t.2.2) s.2.2.2.2.2.2.2.2.2.length (s.2.2.2.2.2.2.2.2.2.map e_string)]) (fun s t => True) ?_ ?_
        · refine c_block ?_
          refine c_seq ?_
          refine c_region ?_
          refine l_val rfl rfl rfl (r_move (v := str x0_2) rfl) ?_
          obtain ⟨t24, h_t24, H47⟩ := bnd_some H44; clear H44
          refine l_call (k45 h_t24) Tryd.call45 rfl rfl rfl ?_
          refine l_val rfl rfl rfl (r_move (v := .tuple #[str t24.1, str t24.2.1, .bool t24.2.2]) rfl) ?_
          refine l_val rfl rfl rfl (r_extract (v := str t24.1) rfl rfl) ?_
          refine l_val rfl rfl rfl (r_extract (v := str t24.2.1) rfl rfl) ?_
          refine l_val rfl rfl rfl (r_extract (v := .bool t24.2.2) rfl rfl) ?_
          refine l_val rfl rfl rfl (r_assign (v := str t24.1) rfl) ?_
          refine l_val rfl rfl rfl (r_assign (v := str t24.2.1) rfl) ?_
          refine l_val rfl rfl rfl (r_assign (v := .bool t24.2.2) rfl) ?_
          refine l_nil ?_
          refine c_seq ?_
          refine c_region ?_
          refine l_val rfl rfl rfl (r_move (v := str t24.2.1) rfl) ?_
          refine l_val rfl rfl rfl (r_assign (v := str t24.2.1) rfl) ?_
          refine l_nil ?_
          refine c_seq ?_
          refine c_region ?_
          refine l_val rfl rfl rfl (r_move (v := str t24.1) rfl) ?_
          obtain ⟨t30, h_t30, H48⟩ := bnd_some H47; clear H47
          refine l_make (makes_call (rds := []) (G := fun x : (Option Addr × Nat) => .slice x.1 t30.length x.2) (C := fun x : (Option Addr × Nat) => rowV 9 1 (.slice x.1 t30.length x.2) t30.length (t30.map e_string)) (fun w L' hF hS hi => k48 (know_all w)  h_t30) Tryd.call48 rfl) rfl rfl rfl (fun p_5 => ?_)
          refine l_val rfl rfl rfl (r_assign (v := .slice p_5.1 t30.length p_5.2) rfl) ?_
          refine l_nil ?_
          refine c_seq ?_
          exact c_regionD (Kd.t 2 [] _ _ :: Kd.p :: Kd.d [1] _ :: Kd.d [1] _ :: Kd.d [2] _ :: Kd.p :: []) 1 mixed (by
            have h_t31 := bnd_val H48
            have H49 := bnd_rest H48
            refine d_make (Cv := fun v => rowV 9 1 v (val R_stepWords).length ((val R_stepWords).map e_string)) (none, 0) (makes_call (G := fun x : (Option Addr × Nat) => .slice x.1 (val R_stepWords).length x.2) (C := fun x : (Option Addr × Nat) => rowV 9 1 (.slice x.1 (val R_stepWords).length x.2) (val R_stepWords).length ((val R_stepWords).map e_string)) (fun w L' hF hS hi => k50 (know_all w)  h_t31) Tryd.call50 rfl) (fun _ => rfl) rfl rfl rfl (fun p_6 => ?_)
            refine d_val rfl rfl (r_move (v := .slice p_5.1 t30.length p_5.2) rfl) ?_
            have h_t33 := bnd_val H49
            have H50 := bnd_rest H49
            refine d_readD (fun w L' hF hS hi => run_indexO Tryd.underlying34 Tryd.sizeOf9 rfl rfl (rowOf (i := 1) (E := 9) (sz := 1) (n := t30.length) (a := p_5.1) (c := p_5.2) hS ((hi 1 (by simp)).trans rfl)) rfl h_t33) rfl rfl ?_
            refine d_readD (fun w L' hF hS hi => run_loadG1 (f := e_string) (i := 0) (sz := 1) (j := 0) (v := str (val (gAt t30 0))) Tryd.isAgg9 rfl rfl (rowOf (i := 1) (E := 9) (sz := 1) (n := t30.length) (a := p_5.1) (c := p_5.2) hS ((hi 1 (by simp)).trans rfl)) h_t33 rfl) rfl rfl ?_
            have h_t35 := bnd_val H50
            have H51 := bnd_rest H50
            refine d_callD (fun w L' hF hS hi => k49 (know_all w) (frs_own (i := 2) rfl hS ((hi 2 (by simp)).trans rfl)) h_t35) Tryd.call49 rfl rfl ?_
            refine d_val rfl rfl (r_assign (v := .int .i64 (val (slices_Index_string (val R_stepWords) (val (gAt t30 0))))) rfl) ?_
            refine d_nil ?_
            refine c_seq ?_
            refine c_seq ?_
            refine c_region ?_
            refine l_val rfl rfl rfl (r_move (v := .bool t24.2.2) rfl) ?_
            refine l_val rfl rfl rfl (r_not rfl) ?_
            refine l_val rfl rfl rfl (r_move (v := .bool (!t24.2.2)) rfl) ?_
            refine split (fun hb => ?_) (fun hb => ?_)
            · have H52 := cnd_t hb H51; clear H51
              refine l_passed rfl rfl rfl ?_
              refine l_passed rfl rfl rfl ?_
              refine l_val rfl rfl rfl (r_pickT (v := .bool true) rfl rfl) ?_
              refine l_val rfl rfl rfl (r_move (v := .bool true) rfl) ?_
              refine l_passed rfl rfl rfl ?_
              refine l_passed rfl rfl rfl ?_
              refine l_passed rfl rfl rfl ?_
              refine l_passed rfl rfl rfl ?_
              refine l_passed rfl rfl rfl ?_
              refine l_passed rfl rfl rfl ?_
              refine l_val rfl rfl rfl (r_pickT (v := .bool true) rfl rfl) ?_
              refine l_nil ?_
              refine c_true rfl ?_
              refine c_seq ?_
              refine c_region ?_
              refine l_val rfl rfl rfl (r_move (v := .int .i64 x3_2) rfl) ?_
              refine l_val rfl rfl rfl (r_assign (v := .slice none 0 0) rfl) ?_
              refine l_val rfl rfl rfl (r_assign (v := .int .i64 x3_2) rfl) ?_
              refine l_val rfl rfl rfl (r_assign (v := .int .i64 8) rfl) ?_
              refine l_nil ?_
              refine c_ret ?_
              refine c_nilRow 24 5 ?_
              obtain rfl := Option.some.inj H52
              refine ret3 (v1 := .slice ((none, 0) : Option Addr × Nat).1 ([] : List T_edit_Step).length ((none, 0) : Option Addr × Nat).2) (v2 := .int .i64 x3_2) (v3 := .int .i64 8) rfl rfl rfl rfl (finX ((none, 0) : Option Addr × Nat) (i := 3) rfl rfl (Imp.refl _))
            · have H53 := cnd_f hb H51; clear H51
              refine l_val rfl rfl rfl (r_move (v := .int .i64 (val (slices_Index_string (val R_stepWords) (val (gAt t30 0))))) rfl) ?_
              refine l_val rfl rfl rfl (r_lss rfl rfl) ?_
              refine l_val rfl rfl rfl (r_pickF (v := .bool (decide ((val (slices_Index_string (val R_stepWords) (val (gAt t30 0)))) < 1))) rfl rfl) ?_
              refine l_val rfl rfl rfl (r_move (v := .bool (decide ((val (slices_Index_string (val R_stepWords) (val (gAt t30 0)))) < 1))) rfl) ?_
              refine split (fun hb => ?_) (fun hb => ?_)
              · have H54 := cnd_t hb H53; clear H53
                refine l_passed rfl rfl rfl ?_
                refine l_passed rfl rfl rfl ?_
                refine l_passed rfl rfl rfl ?_
                refine l_passed rfl rfl rfl ?_
                refine l_passed rfl rfl rfl ?_
                refine l_passed rfl rfl rfl ?_
                refine l_val rfl rfl rfl (r_pickT (v := .bool true) rfl rfl) ?_
                refine l_nil ?_
                refine c_true rfl ?_
                refine c_seq ?_
                refine c_region ?_
                refine l_val rfl rfl rfl (r_move (v := .int .i64 x3_2) rfl) ?_
                refine l_val rfl rfl rfl (r_assign (v := .slice none 0 0) rfl) ?_
                refine l_val rfl rfl rfl (r_assign (v := .int .i64 x3_2) rfl) ?_
                refine l_val rfl rfl rfl (r_assign (v := .int .i64 8) rfl) ?_
                refine l_nil ?_
                refine c_ret ?_
                refine c_nilRow 24 5 ?_
                obtain rfl := Option.some.inj H54
                refine ret3 (v1 := .slice ((none, 0) : Option Addr × Nat).1 ([] : List T_edit_Step).length ((none, 0) : Option Addr × Nat).2) (v2 := .int .i64 x3_2) (v3 := .int .i64 8) rfl rfl rfl rfl (finX ((none, 0) : Option Addr × Nat) (i := 3) rfl rfl (Imp.refl _))
              · have H55 := cnd_f hb H53; clear H53
                refine l_val rfl rfl rfl (r_move (v := .slice p_5.1 t30.length p_5.2) rfl) ?_
                refine l_val rfl rfl rfl (r_len Tryd.underlying34 rfl) ?_
                obtain ⟨t45, h_t45, H56⟩ := bnd_some H55; clear H55
                refine l_val rfl rfl rfl (r_subG rfl rfl h_t45) ?_
                refine l_val rfl rfl rfl (r_move (v := .int .i64 (val (slices_Index_string (val R_stepWords) (val (gAt t30 0))))) rfl) ?_
                obtain ⟨t47, h_t47, H57⟩ := bnd_some H56; clear H56
                refine l_call (k39 h_t47) Tryd.call39 rfl rfl rfl ?_
                refine l_val rfl rfl rfl (r_neq rfl rfl) ?_
                refine l_val rfl rfl rfl (r_pickF (v := .bool (decide (t45 ≠ t47))) rfl rfl) ?_
                refine l_nil ?_
                refine c_if (b := (decide (t45 ≠ t47))) rfl (fun hb => ?_) (fun hb => ?_)
                · have H58 := cnd_t hb H57; clear H57
                  refine c_seq ?_
                  refine c_region ?_
                  refine l_val rfl rfl rfl (r_move (v := .int .i64 x3_2) rfl) ?_
                  refine l_val rfl rfl rfl (r_assign (v := .slice none 0 0) rfl) ?_
                  refine l_val rfl rfl rfl (r_assign (v := .int .i64 x3_2) rfl) ?_
                  refine l_val rfl rfl rfl (r_assign (v := .int .i64 8) rfl) ?_
                  refine l_nil ?_
                  refine c_ret ?_
                  refine c_nilRow 24 5 ?_
                  obtain rfl := Option.some.inj H58
                  refine ret3 (v1 := .slice ((none, 0) : Option Addr × Nat).1 ([] : List T_edit_Step).length ((none, 0) : Option Addr × Nat).2) (v2 := .int .i64 x3_2) (v3 := .int .i64 8) rfl rfl rfl rfl (finX ((none, 0) : Option Addr × Nat) (i := 3) rfl rfl (Imp.refl _))
                · have H59 := cnd_f hb H57; clear H57
                  refine c_skip ?_
                  refine c_seq ?_
                  refine c_region ?_
                  refine l_alloc (cs := [.int .i64 0, .int .i64 0, .int .i64 0, .int .i64 0]) Tryd.zeroValue93 rfl rfl rfl (fun b2 => ?_)
                  refine l_nil ?_
                  refine c_meet (r := r) (σ := (Nat → Int)) (τ := Unit) (fun s => R_StepsRead_j4 x3_2 l_3 next2 t24 t30 (val (slices_Index_string (val R_stepWords) (val (gAt t30 0)))) t45 t47 s) (fun s t => [(0, str t24.2.1), (2, .slice p_2.1 l_3.length p_2.2), (3, .int .i64 x3_2), (9, .int .i64 (val (slices_Index_string (val R_stepWords) (val (gAt t30 0))))), (10, .pointer (some ⟨b2, 0, none⟩)), (39, .int .i64 (val (slices_Index_string (val R_stepWords) (val (gAt t30 0))))), (40, .bool (decide ((val (slices_Index_string (val R_stepWords) (val (gAt t30 0)))) < 1))), (43, .slice p_5.1 t30.length p_5.2), (44, .int .i64 (t30.length : Int)), (45, .int .i64 t45), (46, .int .i64 (val (slices_Index_string (val R_stepWords) (val (gAt t30 0))))), (47, .int .i64 t47), (48, .bool (decide (t45 ≠ t47)))]) (fun s t => [rowV 24 5 (.slice p_2.1 l_3.length p_2.2) l_3.length (l_3.map e_edit_Step), rowV 9 1 (.slice p_5.1 t30.length p_5.2) t30.length (t30.map e_string), cellsC b2 [.int .i64 (s 0), .int .i64 (s 1), .int .i64 (s 2), .int .i64 (s 3)] 93]) (fun s t => True) ?_ ?_
                  · refine c_seq ?_
                    refine c_region ?_
                    refine l_val rfl rfl rfl (r_move (v := .slice p_5.1 t30.length p_5.2) rfl) ?_
                    obtain ⟨t52, h_t52, H62⟩ := bnd_some H59; clear H59
                    refine l_read (v := .slice (cutA p_5.1 (Int.toNat 1) p_5.2 1) t52.length (p_5.2 - Int.toNat 1)) (fun w hF hS => run_sliceLO (xs := t30) Tryd.underlying34 Tryd.sizeOf9 rfl rfl rfl (capOf (i := 1) hS rfl) h_t52) rfl rfl rfl ?_
                    refine l_val rfl rfl rfl (r_len Tryd.underlying34 rfl) ?_
                    refine l_val rfl rfl rfl (r_move (v := .int .i64 0) rfl) ?_
                    refine l_nil ?_
                    refine c_block ?_
                    refine c_sel [0, 1, 3] [rowV 24 5 (.slice p_2.1 l_3.length p_2.2) l_3.length (l_3.map e_edit_Step), rowV 9 1 (.slice p_5.1 t30.length p_5.2) t30.length (t30.map e_string), cellsC b2 [.int .i64 0, .int .i64 0, .int .i64 0, .int .i64 0] 93] rfl (by decide) ?_
                    refine c_fix (σ := Int × (Nat → Int)) (τ := Unit) (fun next5 s => R_StepsRead_l5 x3_2 l_3 next2 t24 t30 (val (slices_Index_string (val R_stepWords) (val (gAt t30 0)))) t45 t47 t52 next5 s.1 s.2) (fun s t => [(0, str t24.2.1), (2, .slice p_2.1 l_3.length p_2.2), (3, .int .i64 x3_2), (9, .int .i64 (val (slices_Index_string (val R_stepWords) (val (gAt t30 0))))), (10, .pointer (some ⟨b2, 0, none⟩)), (39, .int .i64 (val (slices_Index_string (val R_stepWords) (val (gAt t30 0))))), (40, .bool (decide ((val (slices_Index_string (val R_stepWords) (val (gAt t30 0)))) < 1))), (43, .slice p_5.1 t30.length p_5.2), (44, .int .i64 (t30.length : Int)), (45, .int .i64 t45), (46, .int .i64 (val (slices_Index_string (val R_stepWords) (val (gAt t30 0))))), (47, .int .i64 t47), (48, .bool (decide (t45 ≠ t47))), (52, .slice (cutA p_5.1 (Int.toNat 1) p_5.2 1) t52.length (p_5.2 - Int.toNat 1)), (53, .int .i64 (t52.length : Int)), (54, .int .i64 s.1)]) (fun s t => [rowV 24 5 (.slice p_2.1 l_3.length p_2.2) l_3.length (l_3.map e_edit_Step), rowV 9 1 (.slice p_5.1 t30.length p_5.2) t30.length (t30.map e_string), cellsC b2 [.int .i64 (s.2 0), .int .i64 (s.2 1), .int .i64 (s.2 2), .int .i64 (s.2 3)] 93]) (fun s t => True) (0, (fun _ => 0)) () [0, 1, 2] H62 (by exact trivial) (by exact ⟨rfl, rfl, rfl, rfl, rfl, rfl, rfl, rfl, rfl, rfl, rfl, rfl, rfl, rfl, rfl, rfl, trivial⟩) (by decide) rfl ?_
                    rintro ⟨x54_2, m_3⟩ _ m5 gg H63 _
                    clear H62
                    replace H63 : R_StepsRead_l5 x3_2 l_3 next2 t24 t30 (val (slices_Index_string (val R_stepWords) (val (gAt t30 0)))) t45 t47 t52 (it (fun next5 s => R_StepsRead_l5 x3_2 l_3 next2 t24 t30 (val (slices_Index_string (val R_stepWords) (val (gAt t30 0)))) t45 t47 t52 next5 s.1 s.2) m5) x54_2 m_3 = some r := H63
                    generalize hn5 : it (fun next5 s => R_StepsRead_l5 x3_2 l_3 next2 t24 t30 (val (slices_Index_string (val R_stepWords) (val (gAt t30 0)))) t45 t47 t52 next5 s.1 s.2) m5 = next5 at H63
                    refine c_tidyF [(0, str t24.2.1), (2, .slice p_2.1 l_3.length p_2.2), (3, .int .i64 x3_2), (9, .int .i64 (val (slices_Index_string (val R_stepWords) (val (gAt t30 0))))), (10, .pointer (some ⟨b2, 0, none⟩)), (39, .int .i64 (val (slices_Index_string (val R_stepWords) (val (gAt t30 0))))), (40, .bool (decide ((val (slices_Index_string (val R_stepWords) (val (gAt t30 0)))) < 1))), (43, .slice p_5.1 t30.length p_5.2), (44, .int .i64 (t30.length : Int)), (45, .int .i64 t45), (46, .int .i64 (val (slices_Index_string (val R_stepWords) (val (gAt t30 0))))), (47, .int .i64 t47), (48, .bool (decide (t45 ≠ t47))), (52, .slice (cutA p_5.1 (Int.toNat 1) p_5.2 1) t52.length (p_5.2 - Int.toNat 1)), (53, .int .i64 (t52.length : Int)), (54, .int .i64 x54_2)] [rowV 24 5 (.slice p_2.1 l_3.length p_2.2) l_3.length (l_3.map e_edit_Step), rowV 9 1 (.slice p_5.1 t30.length p_5.2) t30.length (t30.map e_string), cellsC b2 [.int .i64 (m_3 0), .int .i64 (m_3 1), .int .i64 (m_3 2), .int .i64 (m_3 3)] 93] rfl rfl ?_
                    refine c_seq ?_
                    refine c_region ?_
                    refine l_val rfl rfl rfl (r_lss rfl rfl) ?_
                    refine l_nil ?_
                    refine c_seq ?_
                    refine c_if (b := (decide (x54_2 < (t52.length : Int)))) rfl (fun hb => ?_) (fun hb => ?_)
                    · have H64 := cnd_t hb H63; clear H63
                      refine c_skip ?_
                      refine c_seq ?_
                      refine c_block ?_
                      refine c_seq ?_
                      refine c_region ?_
                      refine l_val rfl rfl rfl (r_move (v := .int .i64 x54_2) rfl) ?_
                      obtain ⟨t57, h_t57, H65⟩ := bnd_some H64; clear H64
                      refine l_read (fun w hF hS => run_indexO Tryd.underlying34 Tryd.sizeOf9 rfl rfl (Row.cutG (rowOf (i := 1) hS rfl) rfl (capOf (i := 1) hS rfl) h_t52) rfl h_t57) rfl rfl rfl ?_
                      refine l_read (fun w hF hS => run_loadG1 (f := e_string) (i := x54_2) (sz := 1) (j := 0) (v := str t57) Tryd.isAgg9 rfl rfl (Row.cutG (rowOf (i := 1) hS rfl) rfl (capOf (i := 1) hS rfl) h_t52) h_t57 rfl) rfl rfl rfl ?_
                      refine l_val rfl rfl rfl (r_assign (v := .int .i64 x54_2) rfl) ?_
                      refine l_val rfl rfl rfl (r_assign (v := str t57) rfl) ?_
                      refine l_nil ?_
                      refine c_seq ?_
                      refine c_region ?_
                      refine l_val rfl rfl rfl (r_assign (v := .bool false) rfl) ?_
                      refine l_nil ?_
                      refine c_seq ?_
                      refine c_region ?_
                      refine l_val rfl rfl rfl (r_move (v := .int .i64 x54_2) rfl) ?_
                      refine l_val rfl rfl rfl (r_move (v := str t57) rfl) ?_
                      obtain ⟨t62, h_t62, H66⟩ := bnd_some H65; clear H65
                      refine l_call (k51 h_t62) Tryd.call51 rfl rfl rfl ?_
                      refine l_val rfl rfl rfl (r_move (v := .tuple #[.int .i64 t62.1, .bool t62.2]) rfl) ?_
                      refine l_val rfl rfl rfl (r_extract (v := .int .i64 t62.1) rfl rfl) ?_
                      refine l_val rfl rfl rfl (r_extract (v := .bool t62.2) rfl rfl) ?_
                      obtain ⟨k65, h_k65, H67⟩ := bnd_some H66; clear H66
                      refine l_val rfl rfl rfl (r_indexPG Tryd.runUnderlying93 Tryd.sizeOf3 rfl rfl h_k65) ?_
                      refine l_store (i := 2) (vs := [.int .i64 t62.1]) (cs' := [.int .i64 ((setA m_3 k65 t62.1) 0), .int .i64 ((setA m_3 k65 t62.1) 1), .int .i64 ((setA m_3 k65 t62.1) 2), .int .i64 ((setA m_3 k65 t62.1) 3)]) Tryd.sizeOf3 rfl rfl rfl rfl rfl rfl rfl rfl (wr_arr (pre := []) (post := []) (f := fun (j_ : Int) => [.int .i64 j_]) (n := 4) (sz := 1) (a := m_3) (x := t62.1) rfl rfl (fun _ => rfl) (gIx_lt h_k65) rfl rfl) ?_
                      refine l_val rfl rfl rfl (r_assign (v := .bool t62.2) rfl) ?_
                      refine l_nil ?_
                      refine c_seq ?_
                      refine c_region ?_
                      refine l_val rfl rfl rfl (r_move (v := .bool t62.2) rfl) ?_
                      refine l_val rfl rfl rfl (r_not rfl) ?_
                      refine l_nil ?_
                      refine c_if (b := (!t62.2)) rfl (fun hb => ?_) (fun hb => ?_)
                      · have H68 := cnd_t hb H67; clear H67
                        refine c_seq ?_
                        refine c_region ?_
                        refine l_val rfl rfl rfl (r_move (v := .int .i64 x3_2) rfl) ?_
                        refine l_val rfl rfl rfl (r_assign (v := .slice none 0 0) rfl) ?_
                        refine l_val rfl rfl rfl (r_assign (v := .int .i64 x3_2) rfl) ?_
                        refine l_val rfl rfl rfl (r_assign (v := .int .i64 8) rfl) ?_
                        refine l_nil ?_
                        refine c_ret ?_
                        refine c_nilRow 24 5 ?_
                        obtain rfl := Option.some.inj H68
                        refine ret3 (v1 := .slice ((none, 0) : Option Addr × Nat).1 ([] : List T_edit_Step).length ((none, 0) : Option Addr × Nat).2) (v2 := .int .i64 x3_2) (v3 := .int .i64 8) rfl rfl rfl rfl (finX ((none, 0) : Option Addr × Nat) (i := 3) rfl rfl (Imp.refl _))
                      · have H69 := cnd_f hb H67; clear H67
                        refine c_skip ?_
                        refine c_region ?_
                        obtain ⟨t69, h_t69, H70⟩ := bnd_some H69; clear H69
                        refine l_val rfl rfl rfl (r_addG rfl rfl h_t69) ?_
                        refine l_val rfl rfl rfl (r_move (v := .int .i64 t69) rfl) ?_
                        refine l_nil ?_
                        refine c_close (t69, (setA m_3 k65 t62.1)) () m5 [0, 1, 2] (by exact ⟨rfl, rfl, rfl, rfl, rfl, rfl, rfl, rfl, rfl, rfl, rfl, rfl, rfl, rfl, rfl, rfl, trivial⟩) (by decide) rfl (by exact ⟨(by subst hn5; exact H70), trivial⟩) (Nat.lt_succ_self _)
                    · have H71 := cnd_f hb H63; clear H63
                      refine c_exit ?_
                      refine c_close m_3 () 0 [0, 1, 2] (by exact ⟨rfl, rfl, rfl, rfl, rfl, rfl, rfl, rfl, rfl, rfl, rfl, rfl, rfl, trivial⟩) (by decide) rfl (by exact ⟨H71, trivial⟩) (Nat.lt_succ_self _)
                  · rintro m _ gg H60 _
                    replace H60 : R_StepsRead_j4 x3_2 l_3 next2 t24 t30 (val (slices_Index_string (val R_stepWords) (val (gAt t30 0)))) t45 t47 m = some r := H60
                    refine c_tidyF [(0, str t24.2.1), (2, .slice p_2.1 l_3.length p_2.2), (3, .int .i64 x3_2), (9, .int .i64 (val (slices_Index_string (val R_stepWords) (val (gAt t30 0))))), (10, .pointer (some ⟨b2, 0, none⟩)), (39, .int .i64 (val (slices_Index_string (val R_stepWords) (val (gAt t30 0))))), (40, .bool (decide ((val (slices_Index_string (val R_stepWords) (val (gAt t30 0)))) < 1))), (43, .slice p_5.1 t30.length p_5.2), (44, .int .i64 (t30.length : Int)), (45, .int .i64 t45), (46, .int .i64 (val (slices_Index_string (val R_stepWords) (val (gAt t30 0))))), (47, .int .i64 t47), (48, .bool (decide (t45 ≠ t47)))] [rowV 24 5 (.slice p_2.1 l_3.length p_2.2) l_3.length (l_3.map e_edit_Step), rowV 9 1 (.slice p_5.1 t30.length p_5.2) t30.length (t30.map e_string), cellsC b2 [.int .i64 (m 0), .int .i64 (m 1), .int .i64 (m 2), .int .i64 (m 3)] 93] rfl rfl ?_
                    refine c_region ?_
                    refine l_val rfl rfl rfl (r_move (v := .slice p_2.1 l_3.length p_2.2) rfl) ?_
                    refine l_val rfl rfl rfl (r_move (v := .int .i64 (val (slices_Index_string (val R_stepWords) (val (gAt t30 0))))) rfl) ?_
                    refine l_val rfl rfl rfl (r_indexPA Tryd.runUnderlying93 Tryd.sizeOf3 rfl rfl (by decide) (by decide)) ?_
                    refine l_load1 (i := 2) (v := .int .i64 (m 0)) Tryd.isAgg3 rfl rfl rfl rfl rfl ?_
                    refine l_val rfl rfl rfl (r_indexPA Tryd.runUnderlying93 Tryd.sizeOf3 rfl rfl (by decide) (by decide)) ?_
                    refine l_load1 (i := 2) (v := .int .i64 (m 1)) Tryd.isAgg3 rfl rfl rfl rfl rfl ?_
                    refine l_val rfl rfl rfl (r_indexPA Tryd.runUnderlying93 Tryd.sizeOf3 rfl rfl (by decide) (by decide)) ?_
                    refine l_load1 (i := 2) (v := .int .i64 (m 2)) Tryd.isAgg3 rfl rfl rfl rfl rfl ?_
                    refine l_val rfl rfl rfl (r_indexPA Tryd.runUnderlying93 Tryd.sizeOf3 rfl rfl (by decide) (by decide)) ?_
                    refine l_load1 (i := 2) (v := .int .i64 (m 3)) Tryd.isAgg3 rfl rfl rfl rfl rfl ?_
                    refine l_val rfl rfl rfl (r_build (pl := #[(0, 1), (1, 1), (2, 1), (3, 1), (4, 1)]) (ps := [(0, .int .i64 (val (slices_Index_string (val R_stepWords) (val (gAt t30 0))))), (1, .int .i64 (m 0)), (2, .int .i64 (m 1)), (3, .int .i64 (m 2)), (4, .int .i64 (m 3))]) (cells := #[.int .i64 (val (slices_Index_string (val R_stepWords) (val (gAt t30 0)))), .int .i64 (m 0), .int .i64 (m 1), .int .i64 (m 2), .int .i64 (m 3)]) Tryd.zeroValue24 Tryd.runUnderlying24 (fun w => by kernel_rfl) rfl rfl) ?_
                    refine l_buildSlice (vs := [.agg #[.int .i64 (val (slices_Index_string (val R_stepWords) (val (gAt t30 0)))), .int .i64 (m 0), .int .i64 (m 1), .int .i64 (m 2), .int .i64 (m 3)]]) (cs := [.int .i64 (val (slices_Index_string (val R_stepWords) (val (gAt t30 0)))), .int .i64 (m 0), .int .i64 (m 1), .int .i64 (m 2), .int .i64 (m 3)]) Tryd.underlying22 Tryd.sizeOf24 Tryd.zeroValue24 rfl rfl rfl rfl rfl rfl rfl (fun b3 => ?_)
                    obtain ⟨l82, h_l82, H61⟩ := bnd_some H60; clear H60
                    refine l_turn (turns_appG (i := 0) (hn := rfl) (rds := [3]) (p := p_2) (sz := 5) (by_ := 40) (f := e_edit_Step) (ys := l_3) (ls := ([(⟨(val (slices_Index_string (val R_stepWords) (val (gAt t30 0)))), (m 0), (m 1), (m 2), (m 3)⟩ : T_edit_Step)] : List T_edit_Step)) (V := .slice (some ⟨b3, 0, none⟩) 1 1) Tryd.underlying22 (info_of Tryd.typeInfo24) rfl rfl rfl rfl rfl rfl rfl rfl rfl rfl (fun w L' hF hS hi => row_box (i := 3) hS ((hi 3 (by simp)).trans rfl) rfl rfl) (fun _ => rfl) (fun _ => rfl) h_l82) rfl rfl rfl (fun p_7 => ?_)
                    refine l_val rfl rfl rfl (r_assign (v := .slice p_7.1 l82.length p_7.2) rfl) ?_
                    refine l_nil ?_
                    refine c_close (t24.2.1, (val (slices_Index_string (val R_stepWords) (val (gAt t30 0)))), (decide ((val (slices_Index_string (val R_stepWords) (val (gAt t30 0)))) < 1)), (t30.length : Int), t45, (val (slices_Index_string (val R_stepWords) (val (gAt t30 0)))), t47, (decide (t45 ≠ t47)), l82, t30) (p_7, p_5) 0 [0, 1] (by exact ⟨rfl, rfl, rfl, rfl, rfl, rfl, rfl, rfl, rfl, rfl, rfl, trivial⟩) (by decide) rfl (by exact ⟨H61, trivial⟩) (Nat.lt_succ_self _)
            ) (by kernel_rfl)
        · rintro ⟨x0_3, x39, x40, x44, x45, x46, x47, x48, l_4, l_5⟩ ⟨p_3, p_4⟩ gg H45 _
          replace H45 : R_StepsRead_j3 x3_2 next2 x0_3 x39 x40 x44 x45 x46 x47 x48 l_4 l_5 = some r := H45
          refine c_tidyF [(0, str x0_3), (2, .slice p_3.1 l_4.length p_3.2), (3, .int .i64 x3_2), (39, .int .i64 x39), (40, .bool x40), (43, .slice p_4.1 l_5.length p_4.2), (44, .int .i64 x44), (45, .int .i64 x45), (46, .int .i64 x46), (47, .int .i64 x47), (48, .bool x48)] [rowV 24 5 (.slice p_3.1 l_4.length p_3.2) l_4.length (l_4.map e_edit_Step), rowV 9 1 (.slice p_4.1 l_5.length p_4.2) l_5.length (l_5.map e_string)] rfl rfl ?_
          refine c_region ?_
          refine l_val rfl rfl rfl (r_move (v := .int .i64 x3_2) rfl) ?_
          obtain ⟨t21, h_t21, H46⟩ := bnd_some H45; clear H45
          refine l_val rfl rfl rfl (r_addG rfl rfl h_t21) ?_
          refine l_val rfl rfl rfl (r_assign (v := .int .i64 t21) rfl) ?_
          refine l_nil ?_
          refine c_close (x0_3, t21, l_4) p_3 m2 [0] (by exact ⟨rfl, rfl, rfl, trivial⟩) (by decide) rfl (by exact ⟨(by subst hn2; exact H46), trivial⟩) (Nat.lt_succ_self _)
      · have H72 := cnd_f hb H43; clear H43
        refine c_exit ?_
        refine c_close l_3 p_2 0 [0] (by exact ⟨rfl, trivial⟩) (by decide) rfl (by exact ⟨H72, trivial⟩) (Nat.lt_succ_self _)
    · rintro l p gg H39 _
      replace H39 : R_StepsRead_j1 l = some r := H39
      refine c_tidyF [(2, .slice p.1 l.length p.2)] [rowV 24 5 (.slice p.1 l.length p.2) l.length (l.map e_edit_Step)] rfl rfl ?_
      refine c_seq ?_
      refine c_seq ?_
      refine c_region ?_
      refine l_val rfl rfl rfl (r_move (v := .slice p.1 l.length p.2) rfl) ?_
      obtain ⟨t84, h_t84, H40⟩ := bnd_some H39; clear H39
      refine l_callG (fun w hF hS => k10 (know_all w) (frs_own (i := 0) rfl hS rfl) h_t84) Tryd.call10 rfl rfl rfl ?_
      refine l_val rfl rfl rfl (r_assign (v := .int .i64 t84) rfl) ?_
      refine l_nil ?_
      refine c_seq ?_
      refine c_region ?_
      refine l_val rfl rfl rfl (r_move (v := .int .i64 t84) rfl) ?_
      refine l_val rfl rfl rfl (r_neq rfl rfl) ?_
      refine l_nil ?_
      refine c_if (b := (decide (t84 ≠ 0))) rfl (fun hb => ?_) (fun hb => ?_)
      · have H41 := cnd_t hb H40; clear H40
        refine c_seq ?_
        refine c_region ?_
        refine l_val rfl rfl rfl (r_move (v := .int .i64 t84) rfl) ?_
        refine l_val rfl rfl rfl (r_assign (v := .slice none 0 0) rfl) ?_
        refine l_val rfl rfl rfl (r_assign (v := .int .i64 0) rfl) ?_
        refine l_val rfl rfl rfl (r_assign (v := .int .i64 t84) rfl) ?_
        refine l_nil ?_
        refine c_ret ?_
        refine c_nilRow 24 5 ?_
        obtain rfl := Option.some.inj H41
        refine ret3 (v1 := .slice ((none, 0) : Option Addr × Nat).1 ([] : List T_edit_Step).length ((none, 0) : Option Addr × Nat).2) (v2 := .int .i64 0) (v3 := .int .i64 t84) rfl rfl rfl rfl (finX ((none, 0) : Option Addr × Nat) (i := 1) rfl rfl (Imp.refl _))
      · have H42 := cnd_f hb H40; clear H40
        refine c_skip ?_
        refine c_seq ?_
        refine c_region ?_
        refine l_val rfl rfl rfl (r_move (v := .slice p.1 l.length p.2) rfl) ?_
        refine l_val rfl rfl rfl (r_assign (v := .slice p.1 l.length p.2) rfl) ?_
        refine l_val rfl rfl rfl (r_assign (v := .int .i64 0) rfl) ?_
        refine l_val rfl rfl rfl (r_assign (v := .int .i64 0) rfl) ?_
        refine l_nil ?_
        refine c_ret ?_
        obtain rfl := Option.some.inj H42
        refine ret3 (v1 := .slice p.1 l.length p.2) (v2 := .int .i64 0) (v3 := .int .i64 0) rfl rfl rfl rfl (finX p (i := 0) rfl rfl (Imp.refl _))
end Go.Proofs.YtaonhnkojkkmbaaDoor
