/- EditTidies: the walks, printed by our generator; each follows its model. Conditions: the model yields a value. -/
import Derived.Test.YtllnhnnpmmnomaaKDb
namespace Go.Proofs.Ytllnhnnpmmnomaa
open Go Go.Vc Go.Md Go.M Go.Lx
set_option maxRecDepth 100000
set_option maxHeartbeats 4000000
set_option linter.unusedVariables false

theorem k52 {a0 : Int} {r : Int} (H : R_numbersUsed a0 = some r) : Ret Try.prog 52 [.int .i64 a0] (.int .i64 r) := by
  refine enterRet (n := 7) Try.func52 rfl rfl rfl (fun wd => ?_)
  refine c_seq ?_
  refine c_region ?_
  refine l_val rfl rfl rfl (r_assign (v := .int .i64 0) rfl) ?_
  refine l_nil ?_
  refine c_seq ?_
  refine c_region ?_
  refine l_buildSlice (vs := [.int .i64 0, .int .i64 1, .int .i64 4, .int .i64 2, .int .i64 1, .int .i64 1, .int .i64 2, .int .i64 1, .int .i64 1, .int .i64 0]) (cs := [.int .i64 0, .int .i64 1, .int .i64 4, .int .i64 2, .int .i64 1, .int .i64 1, .int .i64 2, .int .i64 1, .int .i64 1, .int .i64 0]) Try.underlying66 Try.sizeOf3 Try.zeroValue3 rfl rfl rfl rfl rfl rfl rfl (fun b1 => ?_)
  refine l_val rfl rfl rfl (r_move (v := .int .i64 a0) rfl) ?_
  obtain ⟨t5, h_t5, H2⟩ := bnd_some H; clear H
  refine l_val rfl rfl rfl (r_indexS Try.underlying66 Try.sizeOf3 rfl rfl h_t5 rfl) ?_
  refine l_read (fun w hF hS => run_loadG1 (f := e_i64) (i := a0) (sz := 1) (j := 0) (v := .int .i64 t5) Try.isAgg3 rfl rfl (row_box (sz := 1) (xs := ([0, 1, 4, 2, 1, 1, 2, 1, 1, 0] : List Int).map e_i64) (i := 0) hS rfl rfl rfl) h_t5 rfl) rfl rfl rfl ?_
  refine l_val rfl rfl rfl (r_assign (v := .int .i64 t5) rfl) ?_
  refine l_nil ?_
  refine c_ret ?_
  obtain rfl := Option.some.inj H2
  refine ret1 (v := .int .i64 t5) rfl rfl (fin rfl)
theorem k53 {a0 : Int} {a1 : Int} {a2 : Int} {r : Bool} (H : R_StepFault_1 a0 a1 a2 = some r) : Ret Try.prog 53 [.int .i64 a0, .int .i64 a1, .int .i64 a2] (.bool r) := by
  refine enterRet (n := 15) Try.func53 rfl rfl rfl (fun wd => ?_)
  refine c_seq ?_
  refine c_region ?_
  refine l_val rfl rfl rfl (r_assign (v := .bool false) rfl) ?_
  refine l_nil ?_
  refine c_seq ?_
  refine c_region ?_
  refine l_val rfl rfl rfl (r_move (v := .int .i64 a0) rfl) ?_
  refine l_val rfl rfl rfl (r_move (v := .int .i64 a1) rfl) ?_
  refine l_val rfl rfl rfl (r_lss rfl rfl) ?_
  refine l_val rfl rfl rfl (r_move (v := .bool (decide (a0 < a1))) rfl) ?_
  refine split (fun hb => ?_) (fun hb => ?_)
  · have H3 := cnd_t hb H; clear H
    refine l_passed rfl rfl rfl ?_
    refine l_passed rfl rfl rfl ?_
    refine l_passed rfl rfl rfl ?_
    refine l_val rfl rfl rfl (r_pickT (v := .bool true) rfl rfl) ?_
    refine l_val rfl rfl rfl (r_assign (v := .bool true) rfl) ?_
    refine l_nil ?_
    refine c_ret ?_
    obtain rfl := Option.some.inj H3
    refine ret1 (v := .bool true) rfl rfl (fin rfl)
  · have H4 := cnd_f hb H; clear H
    refine l_val rfl rfl rfl (r_move (v := .int .i64 a0) rfl) ?_
    refine l_val rfl rfl rfl (r_move (v := .int .i64 a2) rfl) ?_
    refine l_val rfl rfl rfl (r_gtr rfl rfl) ?_
    refine l_val rfl rfl rfl (r_pickF (v := .bool (decide (a2 < a0))) rfl rfl) ?_
    refine l_val rfl rfl rfl (r_assign (v := .bool (decide (a2 < a0))) rfl) ?_
    refine l_nil ?_
    refine c_ret ?_
    obtain rfl := Option.some.inj H4
    refine ret1 (v := .bool (decide (a2 < a0))) rfl rfl (fin rfl)
theorem k12 {a0 : T_edit_Step} {r : Int} (H : R_StepFault a0 = some r) : Ret Try.prog 12 [.agg #[.int .i64 a0.Kind, .int .i64 a0.A, .int .i64 a0.B, .int .i64 a0.C, .int .i64 a0.D]] (.int .i64 r) := by
  refine enterRet (n := 131) Try.func12 rfl rfl rfl (fun wd => ?_)
  refine c_seq ?_
  refine c_region ?_
  refine l_box (cs := [.int .i64 a0.Kind, .int .i64 a0.A, .int .i64 a0.B, .int .i64 a0.C, .int .i64 a0.D]) rfl rfl rfl rfl (fun b2 => ?_)
  refine l_val rfl rfl rfl (r_assign (v := .int .i64 0) rfl) ?_
  refine l_nil ?_
  refine c_seq ?_
  refine c_seq ?_
  refine c_region ?_
  refine l_val rfl rfl rfl (r_field Try.runUnderlying31 rfl Try.sizeOf3 rfl rfl) ?_
  refine l_load1 (i := 0) (v := .int .i64 a0.Kind) Try.isAgg3 rfl rfl rfl rfl rfl ?_
  refine l_val rfl rfl rfl (r_lss rfl rfl) ?_
  refine l_val rfl rfl rfl (r_move (v := .bool (decide (a0.Kind < 1))) rfl) ?_
  refine split (fun hb => ?_) (fun hb => ?_)
  · have H63 := cnd_t hb H; clear H
    refine l_passed rfl rfl rfl ?_
    refine l_passed rfl rfl rfl ?_
    refine l_passed rfl rfl rfl ?_
    refine l_val rfl rfl rfl (r_pickT (v := .bool true) rfl rfl) ?_
    refine l_nil ?_
    refine c_true rfl ?_
    refine c_seq ?_
    refine c_region ?_
    refine l_val rfl rfl rfl (r_assign (v := .int .i64 10) rfl) ?_
    refine l_nil ?_
    refine c_ret ?_
    obtain rfl := Option.some.inj H63
    refine ret1 (v := .int .i64 10) rfl rfl (fin rfl)
  · have H64 := cnd_f hb H; clear H
    refine l_val rfl rfl rfl (r_field Try.runUnderlying31 rfl Try.sizeOf3 rfl rfl) ?_
    refine l_load1 (i := 0) (v := .int .i64 a0.Kind) Try.isAgg3 rfl rfl rfl rfl rfl ?_
    refine l_val rfl rfl rfl (r_gtr rfl rfl) ?_
    refine l_val rfl rfl rfl (r_pickF (v := .bool (decide (9 < a0.Kind))) rfl rfl) ?_
    refine l_nil ?_
    refine c_if (b := (decide (9 < a0.Kind))) rfl (fun hb => ?_) (fun hb => ?_)
    · have H65 := cnd_t hb H64; clear H64
      refine c_seq ?_
      refine c_region ?_
      refine l_val rfl rfl rfl (r_assign (v := .int .i64 10) rfl) ?_
      refine l_nil ?_
      refine c_ret ?_
      obtain rfl := Option.some.inj H65
      refine ret1 (v := .int .i64 10) rfl rfl (fin rfl)
    · have H66 := cnd_f hb H64; clear H64
      refine c_skip ?_
      refine c_meet (r := r) (σ := Unit) (τ := Unit) (fun s => R_StepFault_j1 a0) (fun s t => [(1, .pointer (some ⟨b2, 0, none⟩))]) (fun s t => [cellsC b2 [.int .i64 a0.Kind, .int .i64 a0.A, .int .i64 a0.B, .int .i64 a0.C, .int .i64 a0.D] 31]) (fun s t => True) ?_ ?_
      · refine c_seq ?_
        refine c_region ?_
        refine l_val rfl rfl rfl (r_field Try.runUnderlying31 rfl Try.sizeOf3 rfl rfl) ?_
        refine l_load1 (i := 0) (v := .int .i64 a0.A) Try.isAgg3 rfl rfl rfl rfl rfl ?_
        refine l_val rfl rfl rfl (r_field Try.runUnderlying31 rfl Try.sizeOf3 rfl rfl) ?_
        refine l_load1 (i := 0) (v := .int .i64 a0.B) Try.isAgg3 rfl rfl rfl rfl rfl ?_
        refine l_val rfl rfl rfl (r_field Try.runUnderlying31 rfl Try.sizeOf3 rfl rfl) ?_
        refine l_load1 (i := 0) (v := .int .i64 a0.C) Try.isAgg3 rfl rfl rfl rfl rfl ?_
        refine l_val rfl rfl rfl (r_field Try.runUnderlying31 rfl Try.sizeOf3 rfl rfl) ?_
        refine l_load1 (i := 0) (v := .int .i64 a0.D) Try.isAgg3 rfl rfl rfl rfl rfl ?_
        refine l_buildSlice (vs := [.int .i64 a0.A, .int .i64 a0.B, .int .i64 a0.C, .int .i64 a0.D]) (cs := [.int .i64 a0.A, .int .i64 a0.B, .int .i64 a0.C, .int .i64 a0.D]) Try.underlying66 Try.sizeOf3 Try.zeroValue3 rfl rfl rfl rfl rfl rfl rfl (fun b3 => ?_)
        refine l_val rfl rfl rfl (r_len Try.underlying66 rfl) ?_
        refine l_val rfl rfl rfl (r_move (v := .int .i64 0) rfl) ?_
        refine l_nil ?_
        refine c_block ?_
        refine c_fix (σ := Int) (τ := Unit) (fun next3 s => R_StepFault_l3 a0 next3 s) (fun s t => [(1, .pointer (some ⟨b2, 0, none⟩)), (23, .slice (some ⟨b3, 0, none⟩) 4 4), (24, .int .i64 4), (25, .int .i64 s)]) (fun s t => [cellsC b2 [.int .i64 a0.Kind, .int .i64 a0.A, .int .i64 a0.B, .int .i64 a0.C, .int .i64 a0.D] 31, cellsC b3 [.int .i64 a0.A, .int .i64 a0.B, .int .i64 a0.C, .int .i64 a0.D] 3]) (fun s t => True) 0 () [0, 1] H66 (by exact trivial) (by exact ⟨rfl, rfl, rfl, rfl, trivial⟩) (by decide) rfl ?_
        rintro x25_2 _ m3 gg H114 _
        clear H66
        replace H114 : R_StepFault_l3 a0 (it (fun next3 s => R_StepFault_l3 a0 next3 s) m3) x25_2 = some r := H114
        generalize hn3 : it (fun next3 s => R_StepFault_l3 a0 next3 s) m3 = next3 at H114
        refine c_tidyF [(1, .pointer (some ⟨b2, 0, none⟩)), (23, .slice (some ⟨b3, 0, none⟩) 4 4), (24, .int .i64 4), (25, .int .i64 x25_2)] [cellsC b2 [.int .i64 a0.Kind, .int .i64 a0.A, .int .i64 a0.B, .int .i64 a0.C, .int .i64 a0.D] 31, cellsC b3 [.int .i64 a0.A, .int .i64 a0.B, .int .i64 a0.C, .int .i64 a0.D] 3] rfl rfl ?_
        refine c_seq ?_
        refine c_region ?_
        refine l_val rfl rfl rfl (r_lss rfl rfl) ?_
        refine l_nil ?_
        refine c_seq ?_
        refine c_if (b := (decide (x25_2 < 4))) rfl (fun hb => ?_) (fun hb => ?_)
        · have H115 := cnd_t hb H114; clear H114
          refine c_skip ?_
          refine c_meet (r := r) (σ := Unit) (τ := Unit) (fun s => R_StepFault_j4 x25_2 next3) (fun s t => [(1, .pointer (some ⟨b2, 0, none⟩)), (23, .slice (some ⟨b3, 0, none⟩) 4 4), (24, .int .i64 4), (25, .int .i64 x25_2)]) (fun s t => [cellsC b2 [.int .i64 a0.Kind, .int .i64 a0.A, .int .i64 a0.B, .int .i64 a0.C, .int .i64 a0.D] 31, cellsC b3 [.int .i64 a0.A, .int .i64 a0.B, .int .i64 a0.C, .int .i64 a0.D] 3]) (fun s t => True) ?_ ?_
          · refine c_block ?_
            refine c_seq ?_
            refine c_region ?_
            refine l_val rfl rfl rfl (r_move (v := .int .i64 x25_2) rfl) ?_
            obtain ⟨t28, h_t28, H118⟩ := bnd_some H115; clear H115
            refine l_val rfl rfl rfl (r_indexS Try.underlying66 Try.sizeOf3 rfl rfl h_t28 rfl) ?_
            refine l_read (fun w hF hS => run_loadG1 (f := e_i64) (i := x25_2) (sz := 1) (j := 0) (v := .int .i64 t28) Try.isAgg3 rfl rfl (row_box (sz := 1) (xs := ([a0.A, a0.B, a0.C, a0.D] : List Int).map e_i64) (i := 1) hS rfl rfl rfl) h_t28 rfl) rfl rfl rfl ?_
            refine l_val rfl rfl rfl (r_assign (v := .int .i64 x25_2) rfl) ?_
            refine l_val rfl rfl rfl (r_assign (v := .int .i64 t28) rfl) ?_
            refine l_nil ?_
            refine c_seq ?_
            refine c_region ?_
            refine l_val rfl rfl rfl (r_move (v := .int .i64 x25_2) rfl) ?_
            refine l_val rfl rfl rfl (r_field Try.runUnderlying31 rfl Try.sizeOf3 rfl rfl) ?_
            refine l_load1 (i := 0) (v := .int .i64 a0.Kind) Try.isAgg3 rfl rfl rfl rfl rfl ?_
            obtain ⟨t33, h_t33, H119⟩ := bnd_some H118; clear H118
            refine l_call (k52 h_t33) Try.call52 rfl rfl rfl ?_
            refine l_val rfl rfl rfl (r_geq rfl rfl) ?_
            refine l_val rfl rfl rfl (r_move (v := .bool (decide (t33 ≤ x25_2))) rfl) ?_
            refine split (fun hb => ?_) (fun hb => ?_)
            · have H120 := cnd_t hb H119; clear H119
              refine l_val rfl rfl rfl (r_move (v := .int .i64 t28) rfl) ?_
              refine l_val rfl rfl rfl (r_neq rfl rfl) ?_
              refine l_val rfl rfl rfl (r_pickT (v := .bool (decide (t28 ≠ 0))) rfl rfl) ?_
              refine l_nil ?_
              refine c_if (b := (decide (t28 ≠ 0))) rfl (fun hb => ?_) (fun hb => ?_)
              · have H121 := cnd_t hb H120; clear H120
                refine c_seq ?_
                refine c_region ?_
                refine l_val rfl rfl rfl (r_assign (v := .int .i64 1) rfl) ?_
                refine l_nil ?_
                refine c_ret ?_
                obtain rfl := Option.some.inj H121
                refine ret1 (v := .int .i64 1) rfl rfl (fin rfl)
              · have H122 := cnd_f hb H120; clear H120
                refine c_skip ?_
                refine c_close () () 0 [0, 1] (by exact ⟨rfl, rfl, rfl, rfl, trivial⟩) (by decide) rfl (by exact ⟨H122, trivial⟩) (Nat.lt_succ_self _)
            · have H123 := cnd_f hb H119; clear H119
              refine l_passed rfl rfl rfl ?_
              refine l_passed rfl rfl rfl ?_
              refine l_val rfl rfl rfl (r_pickF (v := .bool false) rfl rfl) ?_
              refine l_nil ?_
              refine c_false rfl ?_
              refine c_skip ?_
              refine c_close () () 0 [0, 1] (by exact ⟨rfl, rfl, rfl, rfl, trivial⟩) (by decide) rfl (by exact ⟨H123, trivial⟩) (Nat.lt_succ_self _)
          · rintro _ _ gg H116 _
            replace H116 : R_StepFault_j4 x25_2 next3 = some r := H116
            refine c_tidyF [(1, .pointer (some ⟨b2, 0, none⟩)), (23, .slice (some ⟨b3, 0, none⟩) 4 4), (24, .int .i64 4), (25, .int .i64 x25_2)] [cellsC b2 [.int .i64 a0.Kind, .int .i64 a0.A, .int .i64 a0.B, .int .i64 a0.C, .int .i64 a0.D] 31, cellsC b3 [.int .i64 a0.A, .int .i64 a0.B, .int .i64 a0.C, .int .i64 a0.D] 3] rfl rfl ?_
            refine c_region ?_
            obtain ⟨t39, h_t39, H117⟩ := bnd_some H116; clear H116
            refine l_val rfl rfl rfl (r_addG rfl rfl h_t39) ?_
            refine l_val rfl rfl rfl (r_move (v := .int .i64 t39) rfl) ?_
            refine l_nil ?_
            refine c_close t39 () m3 [0, 1] (by exact ⟨rfl, rfl, rfl, rfl, trivial⟩) (by decide) rfl (by exact ⟨(by subst hn3; exact H117), trivial⟩) (Nat.lt_succ_self _)
        · have H124 := cnd_f hb H114; clear H114
          refine c_exit ?_
          refine c_close () () 0 [0] (by exact ⟨rfl, trivial⟩) (by decide) rfl (by exact ⟨H124, trivial⟩) (Nat.lt_succ_self _)
      · rintro _ _ gg H67 _
        replace H67 : R_StepFault_j1 a0 = some r := H67
        refine c_tidyF [(1, .pointer (some ⟨b2, 0, none⟩))] [cellsC b2 [.int .i64 a0.Kind, .int .i64 a0.A, .int .i64 a0.B, .int .i64 a0.C, .int .i64 a0.D] 31] rfl rfl ?_
        refine c_seq ?_
        refine c_region ?_
        refine l_val rfl rfl rfl (r_assign (v := .func (.func 53) #[] #[]) rfl) ?_
        refine l_nil ?_
        refine c_seq ?_
        refine c_region ?_
        refine l_val rfl rfl rfl (r_assign (v := .bool false) rfl) ?_
        refine l_nil ?_
        refine c_meet (r := r) (σ := Bool) (τ := Unit) (fun s => R_StepFault_j2 a0 s) (fun s t => [(1, .pointer (some ⟨b2, 0, none⟩)), (6, .bool s)]) (fun s t => [cellsC b2 [.int .i64 a0.Kind, .int .i64 a0.A, .int .i64 a0.B, .int .i64 a0.C, .int .i64 a0.D] 31]) (fun s t => True) ?_ ?_
        · refine c_seq ?_
          refine c_region ?_
          refine l_val rfl rfl rfl (r_field Try.runUnderlying31 rfl Try.sizeOf3 rfl rfl) ?_
          refine l_load1 (i := 0) (v := .int .i64 a0.Kind) Try.isAgg3 rfl rfl rfl rfl rfl ?_
          refine l_nil ?_
          refine c_block ?_
          refine c_seq ?_
          refine c_region ?_
          refine l_val rfl rfl rfl (r_eql rfl rfl) ?_
          refine l_val rfl rfl rfl (r_assign (v := .bool (decide (a0.Kind = 1))) rfl) ?_
          refine l_nil ?_
          refine c_if (b := (decide (a0.Kind = 1))) rfl (fun hb => ?_) (fun hb => ?_)
          · have H75 := cnd_t hb H67; clear H67
            refine c_region ?_
            refine l_val rfl rfl rfl (r_move (v := .func (.func 53) #[] #[]) rfl) ?_
            refine l_val rfl rfl rfl (r_field Try.runUnderlying31 rfl Try.sizeOf3 rfl rfl) ?_
            refine l_load1 (i := 0) (v := .int .i64 a0.A) Try.isAgg3 rfl rfl rfl rfl rfl ?_
            obtain ⟨t47, h_t47, H76⟩ := bnd_some H75; clear H75
            refine l_callV (R := fnR_func_int_int_int_bool R_StepFault_1) (r := .bool t47) (v := .func (.func 53) #[] #[]) (fun w hF hS => ⟨(FnH.mk ⟨53, #[], #[], rfl, Try.call53, fun args2 post2 w2 hk2 hR2 => by obtain ⟨a0_, a1_, a2_, r_, rfl, H_, rfl⟩ := hR2; exact k53 H_ w2⟩), ⟨a0.A, 1, 8, _, rfl, h_t47, rfl⟩⟩) rfl rfl rfl rfl ?_
            refine l_val rfl rfl rfl (r_assign (v := .bool t47) rfl) ?_
            refine l_nil ?_
            refine c_close t47 () 0 [0] (by exact ⟨rfl, rfl, trivial⟩) (by decide) rfl (by exact ⟨H76, trivial⟩) (Nat.lt_succ_self _)
          · have H77 := cnd_f hb H67; clear H67
            refine c_seq ?_
            refine c_region ?_
            refine l_val rfl rfl rfl (r_eql rfl rfl) ?_
            refine l_val rfl rfl rfl (r_assign (v := .bool (decide (a0.Kind = 2))) rfl) ?_
            refine l_nil ?_
            refine c_if (b := (decide (a0.Kind = 2))) rfl (fun hb => ?_) (fun hb => ?_)
            · have H78 := cnd_t hb H77; clear H77
              refine c_region ?_
              refine l_val rfl rfl rfl (r_move (v := .func (.func 53) #[] #[]) rfl) ?_
              refine l_val rfl rfl rfl (r_field Try.runUnderlying31 rfl Try.sizeOf3 rfl rfl) ?_
              refine l_load1 (i := 0) (v := .int .i64 a0.A) Try.isAgg3 rfl rfl rfl rfl rfl ?_
              obtain ⟨t53, h_t53, H79⟩ := bnd_some H78; clear H78
              refine l_callV (R := fnR_func_int_int_int_bool R_StepFault_1) (r := .bool t53) (v := .func (.func 53) #[] #[]) (fun w hF hS => ⟨(FnH.mk ⟨53, #[], #[], rfl, Try.call53, fun args2 post2 w2 hk2 hR2 => by obtain ⟨a0_, a1_, a2_, r_, rfl, H_, rfl⟩ := hR2; exact k53 H_ w2⟩), ⟨a0.A, 0, 63, _, rfl, h_t53, rfl⟩⟩) rfl rfl rfl rfl ?_
              refine l_val rfl rfl rfl (r_move (v := .bool t53) rfl) ?_
              refine split (fun hb => ?_) (fun hb => ?_)
              · have H80 := cnd_t hb H79; clear H79
                refine l_passed rfl rfl rfl ?_
                refine l_passed rfl rfl rfl ?_
                refine l_passed rfl rfl rfl ?_
                refine l_passed rfl rfl rfl ?_
                refine l_val rfl rfl rfl (r_pickT (v := .bool true) rfl rfl) ?_
                refine l_val rfl rfl rfl (r_move (v := .bool true) rfl) ?_
                refine l_passed rfl rfl rfl ?_
                refine l_passed rfl rfl rfl ?_
                refine l_passed rfl rfl rfl ?_
                refine l_passed rfl rfl rfl ?_
                refine l_val rfl rfl rfl (r_pickT (v := .bool true) rfl rfl) ?_
                refine l_val rfl rfl rfl (r_move (v := .bool true) rfl) ?_
                refine l_passed rfl rfl rfl ?_
                refine l_passed rfl rfl rfl ?_
                refine l_passed rfl rfl rfl ?_
                refine l_passed rfl rfl rfl ?_
                refine l_val rfl rfl rfl (r_pickT (v := .bool true) rfl rfl) ?_
                refine l_val rfl rfl rfl (r_assign (v := .bool true) rfl) ?_
                refine l_nil ?_
                refine c_close true () 0 [0] (by exact ⟨rfl, rfl, trivial⟩) (by decide) rfl (by exact ⟨H80, trivial⟩) (Nat.lt_succ_self _)
              · have H81 := cnd_f hb H79; clear H79
                refine l_val rfl rfl rfl (r_move (v := .func (.func 53) #[] #[]) rfl) ?_
                refine l_val rfl rfl rfl (r_field Try.runUnderlying31 rfl Try.sizeOf3 rfl rfl) ?_
                refine l_load1 (i := 0) (v := .int .i64 a0.B) Try.isAgg3 rfl rfl rfl rfl rfl ?_
                obtain ⟨t58, h_t58, H82⟩ := bnd_some H81; clear H81
                refine l_callV (R := fnR_func_int_int_int_bool R_StepFault_1) (r := .bool t58) (v := .func (.func 53) #[] #[]) (fun w hF hS => ⟨(FnH.mk ⟨53, #[], #[], rfl, Try.call53, fun args2 post2 w2 hk2 hR2 => by obtain ⟨a0_, a1_, a2_, r_, rfl, H_, rfl⟩ := hR2; exact k53 H_ w2⟩), ⟨a0.B, 0, 63, _, rfl, h_t58, rfl⟩⟩) rfl rfl rfl rfl ?_
                refine l_val rfl rfl rfl (r_pickF (v := .bool t58) rfl rfl) ?_
                refine l_val rfl rfl rfl (r_move (v := .bool t58) rfl) ?_
                refine split (fun hb => ?_) (fun hb => ?_)
                · have H83 := cnd_t hb H82; clear H82
                  refine l_passed rfl rfl rfl ?_
                  refine l_passed rfl rfl rfl ?_
                  refine l_passed rfl rfl rfl ?_
                  refine l_passed rfl rfl rfl ?_
                  refine l_val rfl rfl rfl (r_pickT (v := .bool true) rfl rfl) ?_
                  refine l_val rfl rfl rfl (r_move (v := .bool true) rfl) ?_
                  refine l_passed rfl rfl rfl ?_
                  refine l_passed rfl rfl rfl ?_
                  refine l_passed rfl rfl rfl ?_
                  refine l_passed rfl rfl rfl ?_
                  refine l_val rfl rfl rfl (r_pickT (v := .bool true) rfl rfl) ?_
                  refine l_val rfl rfl rfl (r_assign (v := .bool true) rfl) ?_
                  refine l_nil ?_
                  refine c_close true () 0 [0] (by exact ⟨rfl, rfl, trivial⟩) (by decide) rfl (by exact ⟨H83, trivial⟩) (Nat.lt_succ_self _)
                · have H84 := cnd_f hb H82; clear H82
                  refine l_val rfl rfl rfl (r_move (v := .func (.func 53) #[] #[]) rfl) ?_
                  refine l_val rfl rfl rfl (r_field Try.runUnderlying31 rfl Try.sizeOf3 rfl rfl) ?_
                  refine l_load1 (i := 0) (v := .int .i64 a0.C) Try.isAgg3 rfl rfl rfl rfl rfl ?_
                  obtain ⟨t64, h_t64, H85⟩ := bnd_some H84; clear H84
                  refine l_callV (R := fnR_func_int_int_int_bool R_StepFault_1) (r := .bool t64) (v := .func (.func 53) #[] #[]) (fun w hF hS => ⟨(FnH.mk ⟨53, #[], #[], rfl, Try.call53, fun args2 post2 w2 hk2 hR2 => by obtain ⟨a0_, a1_, a2_, r_, rfl, H_, rfl⟩ := hR2; exact k53 H_ w2⟩), ⟨a0.C, 1, 64, _, rfl, h_t64, rfl⟩⟩) rfl rfl rfl rfl ?_
                  refine l_val rfl rfl rfl (r_pickF (v := .bool t64) rfl rfl) ?_
                  refine l_val rfl rfl rfl (r_move (v := .bool t64) rfl) ?_
                  refine split (fun hb => ?_) (fun hb => ?_)
                  · have H86 := cnd_t hb H85; clear H85
                    refine l_passed rfl rfl rfl ?_
                    refine l_passed rfl rfl rfl ?_
                    refine l_passed rfl rfl rfl ?_
                    refine l_passed rfl rfl rfl ?_
                    refine l_val rfl rfl rfl (r_pickT (v := .bool true) rfl rfl) ?_
                    refine l_val rfl rfl rfl (r_assign (v := .bool true) rfl) ?_
                    refine l_nil ?_
                    refine c_close true () 0 [0] (by exact ⟨rfl, rfl, trivial⟩) (by decide) rfl (by exact ⟨H86, trivial⟩) (Nat.lt_succ_self _)
                  · have H87 := cnd_f hb H85; clear H85
                    refine l_val rfl rfl rfl (r_move (v := .func (.func 53) #[] #[]) rfl) ?_
                    refine l_val rfl rfl rfl (r_field Try.runUnderlying31 rfl Try.sizeOf3 rfl rfl) ?_
                    refine l_load1 (i := 0) (v := .int .i64 a0.D) Try.isAgg3 rfl rfl rfl rfl rfl ?_
                    obtain ⟨t70, h_t70, H88⟩ := bnd_some H87; clear H87
                    refine l_callV (R := fnR_func_int_int_int_bool R_StepFault_1) (r := .bool t70) (v := .func (.func 53) #[] #[]) (fun w hF hS => ⟨(FnH.mk ⟨53, #[], #[], rfl, Try.call53, fun args2 post2 w2 hk2 hR2 => by obtain ⟨a0_, a1_, a2_, r_, rfl, H_, rfl⟩ := hR2; exact k53 H_ w2⟩), ⟨a0.D, 1, 64, _, rfl, h_t70, rfl⟩⟩) rfl rfl rfl rfl ?_
                    refine l_val rfl rfl rfl (r_pickF (v := .bool t70) rfl rfl) ?_
                    refine l_val rfl rfl rfl (r_assign (v := .bool t70) rfl) ?_
                    refine l_nil ?_
                    refine c_close t70 () 0 [0] (by exact ⟨rfl, rfl, trivial⟩) (by decide) rfl (by exact ⟨H88, trivial⟩) (Nat.lt_succ_self _)
            · have H89 := cnd_f hb H77; clear H77
              refine c_seq ?_
              refine c_region ?_
              refine l_val rfl rfl rfl (r_eql rfl rfl) ?_
              refine l_val rfl rfl rfl (r_assign (v := .bool (decide (a0.Kind = 3))) rfl) ?_
              refine l_nil ?_
              refine c_if (b := (decide (a0.Kind = 3))) rfl (fun hb => ?_) (fun hb => ?_)
              · have H90 := cnd_t hb H89; clear H89
                refine c_region ?_
                refine l_val rfl rfl rfl (r_move (v := .func (.func 53) #[] #[]) rfl) ?_
                refine l_val rfl rfl rfl (r_field Try.runUnderlying31 rfl Try.sizeOf3 rfl rfl) ?_
                refine l_load1 (i := 0) (v := .int .i64 a0.A) Try.isAgg3 rfl rfl rfl rfl rfl ?_
                obtain ⟨t77, h_t77, H91⟩ := bnd_some H90; clear H90
                refine l_callV (R := fnR_func_int_int_int_bool R_StepFault_1) (r := .bool t77) (v := .func (.func 53) #[] #[]) (fun w hF hS => ⟨(FnH.mk ⟨53, #[], #[], rfl, Try.call53, fun args2 post2 w2 hk2 hR2 => by obtain ⟨a0_, a1_, a2_, r_, rfl, H_, rfl⟩ := hR2; exact k53 H_ w2⟩), ⟨a0.A, 1, 64, _, rfl, h_t77, rfl⟩⟩) rfl rfl rfl rfl ?_
                refine l_val rfl rfl rfl (r_move (v := .bool t77) rfl) ?_
                refine split (fun hb => ?_) (fun hb => ?_)
                · have H92 := cnd_t hb H91; clear H91
                  refine l_passed rfl rfl rfl ?_
                  refine l_passed rfl rfl rfl ?_
                  refine l_passed rfl rfl rfl ?_
                  refine l_passed rfl rfl rfl ?_
                  refine l_val rfl rfl rfl (r_pickT (v := .bool true) rfl rfl) ?_
                  refine l_val rfl rfl rfl (r_assign (v := .bool true) rfl) ?_
                  refine l_nil ?_
                  refine c_close true () 0 [0] (by exact ⟨rfl, rfl, trivial⟩) (by decide) rfl (by exact ⟨H92, trivial⟩) (Nat.lt_succ_self _)
                · have H93 := cnd_f hb H91; clear H91
                  refine l_val rfl rfl rfl (r_move (v := .func (.func 53) #[] #[]) rfl) ?_
                  refine l_val rfl rfl rfl (r_field Try.runUnderlying31 rfl Try.sizeOf3 rfl rfl) ?_
                  refine l_load1 (i := 0) (v := .int .i64 a0.B) Try.isAgg3 rfl rfl rfl rfl rfl ?_
                  obtain ⟨t82, h_t82, H94⟩ := bnd_some H93; clear H93
                  refine l_callV (R := fnR_func_int_int_int_bool R_StepFault_1) (r := .bool t82) (v := .func (.func 53) #[] #[]) (fun w hF hS => ⟨(FnH.mk ⟨53, #[], #[], rfl, Try.call53, fun args2 post2 w2 hk2 hR2 => by obtain ⟨a0_, a1_, a2_, r_, rfl, H_, rfl⟩ := hR2; exact k53 H_ w2⟩), ⟨a0.B, 1, 64, _, rfl, h_t82, rfl⟩⟩) rfl rfl rfl rfl ?_
                  refine l_val rfl rfl rfl (r_pickF (v := .bool t82) rfl rfl) ?_
                  refine l_val rfl rfl rfl (r_assign (v := .bool t82) rfl) ?_
                  refine l_nil ?_
                  refine c_close t82 () 0 [0] (by exact ⟨rfl, rfl, trivial⟩) (by decide) rfl (by exact ⟨H94, trivial⟩) (Nat.lt_succ_self _)
              · have H95 := cnd_f hb H89; clear H89
                refine c_seq ?_
                refine c_region ?_
                refine l_val rfl rfl rfl (r_eql rfl rfl) ?_
                refine l_val rfl rfl rfl (r_assign (v := .bool (decide (a0.Kind = 4))) rfl) ?_
                refine l_nil ?_
                refine c_if (b := (decide (a0.Kind = 4))) rfl (fun hb => ?_) (fun hb => ?_)
                · have H96 := cnd_t hb H95; clear H95
                  refine c_region ?_
                  refine l_val rfl rfl rfl (r_move (v := .func (.func 53) #[] #[]) rfl) ?_
                  refine l_val rfl rfl rfl (r_field Try.runUnderlying31 rfl Try.sizeOf3 rfl rfl) ?_
                  refine l_load1 (i := 0) (v := .int .i64 a0.A) Try.isAgg3 rfl rfl rfl rfl rfl ?_
                  obtain ⟨t89, h_t89, H97⟩ := bnd_some H96; clear H96
                  refine l_callV (R := fnR_func_int_int_int_bool R_StepFault_1) (r := .bool t89) (v := .func (.func 53) #[] #[]) (fun w hF hS => ⟨(FnH.mk ⟨53, #[], #[], rfl, Try.call53, fun args2 post2 w2 hk2 hR2 => by obtain ⟨a0_, a1_, a2_, r_, rfl, H_, rfl⟩ := hR2; exact k53 H_ w2⟩), ⟨a0.A, (-255), 255, _, rfl, h_t89, rfl⟩⟩) rfl rfl rfl rfl ?_
                  refine l_val rfl rfl rfl (r_assign (v := .bool t89) rfl) ?_
                  refine l_nil ?_
                  refine c_close t89 () 0 [0] (by exact ⟨rfl, rfl, trivial⟩) (by decide) rfl (by exact ⟨H97, trivial⟩) (Nat.lt_succ_self _)
                · have H98 := cnd_f hb H95; clear H95
                  refine c_seq ?_
                  refine c_region ?_
                  refine l_val rfl rfl rfl (r_eql rfl rfl) ?_
                  refine l_val rfl rfl rfl (r_assign (v := .bool (decide (a0.Kind = 5))) rfl) ?_
                  refine l_nil ?_
                  refine c_if (b := (decide (a0.Kind = 5))) rfl (fun hb => ?_) (fun hb => ?_)
                  · have H99 := cnd_t hb H98; clear H98
                    refine c_region ?_
                    refine l_val rfl rfl rfl (r_move (v := .func (.func 53) #[] #[]) rfl) ?_
                    refine l_val rfl rfl rfl (r_field Try.runUnderlying31 rfl Try.sizeOf3 rfl rfl) ?_
                    refine l_load1 (i := 0) (v := .int .i64 a0.A) Try.isAgg3 rfl rfl rfl rfl rfl ?_
                    obtain ⟨t95, h_t95, H100⟩ := bnd_some H99; clear H99
                    refine l_callV (R := fnR_func_int_int_int_bool R_StepFault_1) (r := .bool t95) (v := .func (.func 53) #[] #[]) (fun w hF hS => ⟨(FnH.mk ⟨53, #[], #[], rfl, Try.call53, fun args2 post2 w2 hk2 hR2 => by obtain ⟨a0_, a1_, a2_, r_, rfl, H_, rfl⟩ := hR2; exact k53 H_ w2⟩), ⟨a0.A, 0, 400, _, rfl, h_t95, rfl⟩⟩) rfl rfl rfl rfl ?_
                    refine l_val rfl rfl rfl (r_assign (v := .bool t95) rfl) ?_
                    refine l_nil ?_
                    refine c_close t95 () 0 [0] (by exact ⟨rfl, rfl, trivial⟩) (by decide) rfl (by exact ⟨H100, trivial⟩) (Nat.lt_succ_self _)
                  · have H101 := cnd_f hb H98; clear H98
                    refine c_seq ?_
                    refine c_region ?_
                    refine l_val rfl rfl rfl (r_eql rfl rfl) ?_
                    refine l_val rfl rfl rfl (r_assign (v := .bool (decide (a0.Kind = 6))) rfl) ?_
                    refine l_nil ?_
                    refine c_if (b := (decide (a0.Kind = 6))) rfl (fun hb => ?_) (fun hb => ?_)
                    · have H102 := cnd_t hb H101; clear H101
                      refine c_region ?_
                      refine l_val rfl rfl rfl (r_move (v := .func (.func 53) #[] #[]) rfl) ?_
                      refine l_val rfl rfl rfl (r_field Try.runUnderlying31 rfl Try.sizeOf3 rfl rfl) ?_
                      refine l_load1 (i := 0) (v := .int .i64 a0.A) Try.isAgg3 rfl rfl rfl rfl rfl ?_
                      obtain ⟨t101, h_t101, H103⟩ := bnd_some H102; clear H102
                      refine l_callV (R := fnR_func_int_int_int_bool R_StepFault_1) (r := .bool t101) (v := .func (.func 53) #[] #[]) (fun w hF hS => ⟨(FnH.mk ⟨53, #[], #[], rfl, Try.call53, fun args2 post2 w2 hk2 hR2 => by obtain ⟨a0_, a1_, a2_, r_, rfl, H_, rfl⟩ := hR2; exact k53 H_ w2⟩), ⟨a0.A, 0, 255, _, rfl, h_t101, rfl⟩⟩) rfl rfl rfl rfl ?_
                      refine l_val rfl rfl rfl (r_move (v := .bool t101) rfl) ?_
                      refine split (fun hb => ?_) (fun hb => ?_)
                      · have H104 := cnd_t hb H103; clear H103
                        refine l_passed rfl rfl rfl ?_
                        refine l_passed rfl rfl rfl ?_
                        refine l_passed rfl rfl rfl ?_
                        refine l_passed rfl rfl rfl ?_
                        refine l_val rfl rfl rfl (r_pickT (v := .bool true) rfl rfl) ?_
                        refine l_val rfl rfl rfl (r_assign (v := .bool true) rfl) ?_
                        refine l_nil ?_
                        refine c_close true () 0 [0] (by exact ⟨rfl, rfl, trivial⟩) (by decide) rfl (by exact ⟨H104, trivial⟩) (Nat.lt_succ_self _)
                      · have H105 := cnd_f hb H103; clear H103
                        refine l_val rfl rfl rfl (r_move (v := .func (.func 53) #[] #[]) rfl) ?_
                        refine l_val rfl rfl rfl (r_field Try.runUnderlying31 rfl Try.sizeOf3 rfl rfl) ?_
                        refine l_load1 (i := 0) (v := .int .i64 a0.B) Try.isAgg3 rfl rfl rfl rfl rfl ?_
                        obtain ⟨t106, h_t106, H106⟩ := bnd_some H105; clear H105
                        refine l_callV (R := fnR_func_int_int_int_bool R_StepFault_1) (r := .bool t106) (v := .func (.func 53) #[] #[]) (fun w hF hS => ⟨(FnH.mk ⟨53, #[], #[], rfl, Try.call53, fun args2 post2 w2 hk2 hR2 => by obtain ⟨a0_, a1_, a2_, r_, rfl, H_, rfl⟩ := hR2; exact k53 H_ w2⟩), ⟨a0.B, 0, 255, _, rfl, h_t106, rfl⟩⟩) rfl rfl rfl rfl ?_
                        refine l_val rfl rfl rfl (r_pickF (v := .bool t106) rfl rfl) ?_
                        refine l_val rfl rfl rfl (r_assign (v := .bool t106) rfl) ?_
                        refine l_nil ?_
                        refine c_close t106 () 0 [0] (by exact ⟨rfl, rfl, trivial⟩) (by decide) rfl (by exact ⟨H106, trivial⟩) (Nat.lt_succ_self _)
                    · have H107 := cnd_f hb H101; clear H101
                      refine c_seq ?_
                      refine c_region ?_
                      refine l_val rfl rfl rfl (r_eql rfl rfl) ?_
                      refine l_val rfl rfl rfl (r_assign (v := .bool (decide (a0.Kind = 7))) rfl) ?_
                      refine l_nil ?_
                      refine c_if (b := (decide (a0.Kind = 7))) rfl (fun hb => ?_) (fun hb => ?_)
                      · have H108 := cnd_t hb H107; clear H107
                        refine c_region ?_
                        refine l_val rfl rfl rfl (r_move (v := .func (.func 53) #[] #[]) rfl) ?_
                        refine l_val rfl rfl rfl (r_field Try.runUnderlying31 rfl Try.sizeOf3 rfl rfl) ?_
                        refine l_load1 (i := 0) (v := .int .i64 a0.A) Try.isAgg3 rfl rfl rfl rfl rfl ?_
                        obtain ⟨t113, h_t113, H109⟩ := bnd_some H108; clear H108
                        refine l_callV (R := fnR_func_int_int_int_bool R_StepFault_1) (r := .bool t113) (v := .func (.func 53) #[] #[]) (fun w hF hS => ⟨(FnH.mk ⟨53, #[], #[], rfl, Try.call53, fun args2 post2 w2 hk2 hR2 => by obtain ⟨a0_, a1_, a2_, r_, rfl, H_, rfl⟩ := hR2; exact k53 H_ w2⟩), ⟨a0.A, (-100), 100, _, rfl, h_t113, rfl⟩⟩) rfl rfl rfl rfl ?_
                        refine l_val rfl rfl rfl (r_assign (v := .bool t113) rfl) ?_
                        refine l_nil ?_
                        refine c_close t113 () 0 [0] (by exact ⟨rfl, rfl, trivial⟩) (by decide) rfl (by exact ⟨H109, trivial⟩) (Nat.lt_succ_self _)
                      · have H110 := cnd_f hb H107; clear H107
                        refine c_seq ?_
                        refine c_region ?_
                        refine l_val rfl rfl rfl (r_eql rfl rfl) ?_
                        refine l_val rfl rfl rfl (r_assign (v := .bool (decide (a0.Kind = 8))) rfl) ?_
                        refine l_nil ?_
                        refine c_if (b := (decide (a0.Kind = 8))) rfl (fun hb => ?_) (fun hb => ?_)
                        · have H111 := cnd_t hb H110; clear H110
                          refine c_region ?_
                          refine l_val rfl rfl rfl (r_move (v := .func (.func 53) #[] #[]) rfl) ?_
                          refine l_val rfl rfl rfl (r_field Try.runUnderlying31 rfl Try.sizeOf3 rfl rfl) ?_
                          refine l_load1 (i := 0) (v := .int .i64 a0.A) Try.isAgg3 rfl rfl rfl rfl rfl ?_
                          obtain ⟨t119, h_t119, H112⟩ := bnd_some H111; clear H111
                          refine l_callV (R := fnR_func_int_int_int_bool R_StepFault_1) (r := .bool t119) (v := .func (.func 53) #[] #[]) (fun w hF hS => ⟨(FnH.mk ⟨53, #[], #[], rfl, Try.call53, fun args2 post2 w2 hk2 hR2 => by obtain ⟨a0_, a1_, a2_, r_, rfl, H_, rfl⟩ := hR2; exact k53 H_ w2⟩), ⟨a0.A, 0, 100, _, rfl, h_t119, rfl⟩⟩) rfl rfl rfl rfl ?_
                          refine l_val rfl rfl rfl (r_assign (v := .bool t119) rfl) ?_
                          refine l_nil ?_
                          refine c_close t119 () 0 [0] (by exact ⟨rfl, rfl, trivial⟩) (by decide) rfl (by exact ⟨H112, trivial⟩) (Nat.lt_succ_self _)
                        · have H113 := cnd_f hb H110; clear H110
                          refine c_skip ?_
                          refine c_close false () 0 [0] (by exact ⟨rfl, rfl, trivial⟩) (by decide) rfl (by exact ⟨H113, trivial⟩) (Nat.lt_succ_self _)
        · rintro x6 _ gg H68 _
          replace H68 : R_StepFault_j2 a0 x6 = some r := H68
          refine c_tidyF [(1, .pointer (some ⟨b2, 0, none⟩)), (6, .bool x6)] [cellsC b2 [.int .i64 a0.Kind, .int .i64 a0.A, .int .i64 a0.B, .int .i64 a0.C, .int .i64 a0.D] 31] rfl rfl ?_
          refine c_seq ?_
          refine c_seq ?_
          refine c_region ?_
          refine l_val rfl rfl rfl (r_move (v := .bool x6) rfl) ?_
          refine l_nil ?_
          refine c_if (b := x6) rfl (fun hb => ?_) (fun hb => ?_)
          · have H69 := cnd_t hb H68; clear H68
            refine c_seq ?_
            refine c_region ?_
            refine l_val rfl rfl rfl (r_assign (v := .int .i64 2) rfl) ?_
            refine l_nil ?_
            refine c_ret ?_
            obtain rfl := Option.some.inj H69
            refine ret1 (v := .int .i64 2) rfl rfl (fin rfl)
          · have H70 := cnd_f hb H68; clear H68
            refine c_skip ?_
            refine c_seq ?_
            refine c_seq ?_
            refine c_region ?_
            refine l_val rfl rfl rfl (r_field Try.runUnderlying31 rfl Try.sizeOf3 rfl rfl) ?_
            refine l_load1 (i := 0) (v := .int .i64 a0.Kind) Try.isAgg3 rfl rfl rfl rfl rfl ?_
            refine l_val rfl rfl rfl (r_eql rfl rfl) ?_
            refine l_val rfl rfl rfl (r_move (v := .bool (decide (a0.Kind = 6))) rfl) ?_
            refine split (fun hb => ?_) (fun hb => ?_)
            · have H71 := cnd_t hb H70; clear H70
              refine l_val rfl rfl rfl (r_field Try.runUnderlying31 rfl Try.sizeOf3 rfl rfl) ?_
              refine l_load1 (i := 0) (v := .int .i64 a0.B) Try.isAgg3 rfl rfl rfl rfl rfl ?_
              refine l_val rfl rfl rfl (r_field Try.runUnderlying31 rfl Try.sizeOf3 rfl rfl) ?_
              refine l_load1 (i := 0) (v := .int .i64 a0.A) Try.isAgg3 rfl rfl rfl rfl rfl ?_
              refine l_val rfl rfl rfl (r_leq rfl rfl) ?_
              refine l_val rfl rfl rfl (r_pickT (v := .bool (decide (a0.B ≤ a0.A))) rfl rfl) ?_
              refine l_nil ?_
              refine c_if (b := (decide (a0.B ≤ a0.A))) rfl (fun hb => ?_) (fun hb => ?_)
              · have H72 := cnd_t hb H71; clear H71
                refine c_seq ?_
                refine c_region ?_
                refine l_val rfl rfl rfl (r_assign (v := .int .i64 5) rfl) ?_
                refine l_nil ?_
                refine c_ret ?_
                obtain rfl := Option.some.inj H72
                refine ret1 (v := .int .i64 5) rfl rfl (fin rfl)
              · have H73 := cnd_f hb H71; clear H71
                refine c_skip ?_
                refine c_seq ?_
                refine c_region ?_
                refine l_val rfl rfl rfl (r_assign (v := .int .i64 0) rfl) ?_
                refine l_nil ?_
                refine c_ret ?_
                obtain rfl := Option.some.inj H73
                refine ret1 (v := .int .i64 0) rfl rfl (fin rfl)
            · have H74 := cnd_f hb H70; clear H70
              refine l_passed rfl rfl rfl ?_
              refine l_passed rfl rfl rfl ?_
              refine l_passed rfl rfl rfl ?_
              refine l_passed rfl rfl rfl ?_
              refine l_passed rfl rfl rfl ?_
              refine l_val rfl rfl rfl (r_pickF (v := .bool false) rfl rfl) ?_
              refine l_nil ?_
              refine c_false rfl ?_
              refine c_skip ?_
              refine c_seq ?_
              refine c_region ?_
              refine l_val rfl rfl rfl (r_assign (v := .int .i64 0) rfl) ?_
              refine l_nil ?_
              refine c_ret ?_
              obtain rfl := Option.some.inj H74
              refine ret1 (v := .int .i64 0) rfl rfl (fin rfl)
theorem k9 {a0 : (List T_edit_Step)} {v0 : Value} {r : Int} {w : World} {h : Heap} (hw : Know h w noS) (f0 : FrS h 5 v0 (a0.map e_edit_Step)) (H : R_StepsFault a0 = some r) : Does Try.prog 9 (List.toArray [v0]) w (fun v w' => v = (.int .i64 r) ∧ Grow w w') := by
  refine enter (n := 21) Try.func9 rfl rfl rfl noS [] (Sat.nil _ _) ?_
  refine c_seq ?_
  refine c_region ?_
  refine l_val rfl rfl rfl (r_assign (v := .int .i64 0) rfl) ?_
  refine l_nil ?_
  refine c_seq ?_
  refine c_seq ?_
  refine c_region ?_
  refine l_val rfl rfl rfl (r_move (v := v0) rfl) ?_
  refine l_val rfl rfl rfl (r_lenF Try.underlying22 rfl f0 rfl) ?_
  refine l_val rfl rfl rfl (r_gtr rfl rfl) ?_
  refine l_nil ?_
  refine c_if (b := (decide (50 < (a0.length : Int)))) rfl (fun hb => ?_) (fun hb => ?_)
  · have H11 := cnd_t hb H; clear H
    refine c_seq ?_
    refine c_region ?_
    refine l_val rfl rfl rfl (r_assign (v := .int .i64 4) rfl) ?_
    refine l_nil ?_
    refine c_ret ?_
    obtain rfl := Option.some.inj H11
    refine ret1 (v := .int .i64 4) rfl rfl (fin rfl)
  · have H12 := cnd_f hb H; clear H
    refine c_skip ?_
    refine c_seq ?_
    refine c_seq ?_
    refine c_region ?_
    refine l_val rfl rfl rfl (r_move (v := v0) rfl) ?_
    refine l_val rfl rfl rfl (r_lenF Try.underlying22 rfl f0 rfl) ?_
    refine l_val rfl rfl rfl (r_move (v := .int .i64 0) rfl) ?_
    refine l_nil ?_
    refine c_block ?_
    refine c_fix (σ := Int) (τ := Unit) (fun next1 s => R_StepsFault_l1 a0 next1 s) (fun s t => [(9, v0), (10, .int .i64 (a0.length : Int)), (11, .int .i64 s)]) (fun s t => []) (fun s t => True) 0 () [] H12 (by exact trivial) (by exact ⟨rfl, rfl, rfl, trivial⟩) (by decide) rfl ?_
    rintro x11_2 _ m1 gg H13 _
    clear H12
    replace H13 : R_StepsFault_l1 a0 (it (fun next1 s => R_StepsFault_l1 a0 next1 s) m1) x11_2 = some r := H13
    generalize hn1 : it (fun next1 s => R_StepsFault_l1 a0 next1 s) m1 = next1 at H13
    refine c_tidyF [(9, v0), (10, .int .i64 (a0.length : Int)), (11, .int .i64 x11_2)] [] rfl rfl ?_
    refine c_seq ?_
    refine c_region ?_
    refine l_val rfl rfl rfl (r_lss rfl rfl) ?_
    refine l_nil ?_
    refine c_seq ?_
    refine c_if (b := (decide (x11_2 < (a0.length : Int)))) rfl (fun hb => ?_) (fun hb => ?_)
    · have H14 := cnd_t hb H13; clear H13
      refine c_skip ?_
      refine c_seq ?_
      refine c_block ?_
      refine c_seq ?_
      refine c_region ?_
      obtain ⟨t13, h_t13, H15⟩ := bnd_some H14; clear H14
      refine l_val rfl rfl rfl (r_indexF Try.underlying22 Try.sizeOf31 rfl rfl f0 h_t13) ?_
      refine l_read (fun w hF hS => run_loadGN (f := e_edit_Step) (i := x11_2) (sz := 5) (j := 0) (vs := [.int .i64 t13.Kind, .int .i64 t13.A, .int .i64 t13.B, .int .i64 t13.C, .int .i64 t13.D]) Try.isAgg31 Try.sizeOf31 rfl rfl (f0.row (hw.now hF)) h_t13 rfl) rfl rfl rfl ?_
      refine l_alloc (cs := [.int .i64 0, .int .i64 0, .int .i64 0, .int .i64 0, .int .i64 0]) Try.zeroValue31 rfl rfl rfl (fun b1 => ?_)
      refine l_store (i := 0) (vs := [.int .i64 t13.Kind, .int .i64 t13.A, .int .i64 t13.B, .int .i64 t13.C, .int .i64 t13.D]) (cs' := [.int .i64 t13.Kind, .int .i64 t13.A, .int .i64 t13.B, .int .i64 t13.C, .int .i64 t13.D]) Try.sizeOf31 rfl rfl rfl rfl rfl rfl rfl rfl rfl ?_
      refine l_nil ?_
      refine c_seq ?_
      refine c_region ?_
      refine l_loadN (i := 0) (vs := [.int .i64 t13.Kind, .int .i64 t13.A, .int .i64 t13.B, .int .i64 t13.C, .int .i64 t13.D]) Try.isAgg31 Try.sizeOf31 rfl rfl rfl rfl rfl ?_
      obtain ⟨t16, h_t16, H16⟩ := bnd_some H15; clear H15
      refine l_call (k12 h_t16) Try.call12 rfl rfl rfl ?_
      refine l_val rfl rfl rfl (r_assign (v := .int .i64 t16) rfl) ?_
      refine l_nil ?_
      refine c_seq ?_
      refine c_region ?_
      refine l_val rfl rfl rfl (r_move (v := .int .i64 t16) rfl) ?_
      refine l_val rfl rfl rfl (r_neq rfl rfl) ?_
      refine l_nil ?_
      refine c_if (b := (decide (t16 ≠ 0))) rfl (fun hb => ?_) (fun hb => ?_)
      · have H17 := cnd_t hb H16; clear H16
        refine c_seq ?_
        refine c_region ?_
        refine l_val rfl rfl rfl (r_move (v := .int .i64 t16) rfl) ?_
        refine l_val rfl rfl rfl (r_assign (v := .int .i64 t16) rfl) ?_
        refine l_nil ?_
        refine c_ret ?_
        obtain rfl := Option.some.inj H17
        refine ret1 (v := .int .i64 t16) rfl rfl (fin rfl)
      · have H18 := cnd_f hb H16; clear H16
        refine c_skip ?_
        refine c_region ?_
        obtain ⟨t20, h_t20, H19⟩ := bnd_some H18; clear H18
        refine l_val rfl rfl rfl (r_addG rfl rfl h_t20) ?_
        refine l_val rfl rfl rfl (r_move (v := .int .i64 t20) rfl) ?_
        refine l_nil ?_
        refine c_close t20 () m1 [] (by exact ⟨rfl, rfl, rfl, trivial⟩) (by decide) rfl (by exact ⟨(by subst hn1; exact H19), trivial⟩) (Nat.lt_succ_self _)
    · have H20 := cnd_f hb H13; clear H13
      refine c_exit ?_
      refine c_seq ?_
      refine c_region ?_
      refine l_val rfl rfl rfl (r_assign (v := .int .i64 0) rfl) ?_
      refine l_nil ?_
      refine c_ret ?_
      obtain rfl := Option.some.inj H20
      refine ret1 (v := .int .i64 0) rfl rfl (fin rfl)
theorem k107 {a0 : Int} {r : (List UInt8) × Int} (H : edit_word a0 = some r) : Ret Try.prog 107 [.int .i64 a0] (.tuple #[str r.1, .int .i64 r.2]) := by
  refine enterRet (n := 21) Try.func107 rfl rfl rfl (fun wd => ?_)
  refine c_seq ?_
  refine c_region ?_
  refine l_val rfl rfl rfl (r_assign (v := str []) rfl) ?_
  refine l_val rfl rfl rfl (r_assign (v := .int .i64 0) rfl) ?_
  refine l_nil ?_
  refine c_seq ?_
  refine c_seq ?_
  refine c_region ?_
  refine l_val rfl rfl rfl (r_move (v := .int .i64 a0) rfl) ?_
  refine l_nil ?_
  refine c_block ?_
  refine c_seq ?_
  refine c_region ?_
  refine l_val rfl rfl rfl (r_eql rfl rfl) ?_
  refine l_val rfl rfl rfl (r_assign (v := .bool (decide (a0 = 1))) rfl) ?_
  refine l_nil ?_
  refine c_if (b := (decide (a0 = 1))) rfl (fun hb => ?_) (fun hb => ?_)
  · have H17 := cnd_t hb H; clear H
    refine c_seq ?_
    refine c_region ?_
    refine l_val rfl rfl rfl (r_assign (v := str [116, 117, 114, 110]) rfl) ?_
    refine l_val rfl rfl rfl (r_assign (v := .int .i64 1) rfl) ?_
    refine l_nil ?_
    refine c_ret ?_
    obtain rfl := Option.some.inj H17
    refine ret2 (v1 := str [116, 117, 114, 110]) (v2 := .int .i64 1) rfl rfl rfl (fin rfl)
  · have H18 := cnd_f hb H; clear H
    refine c_seq ?_
    refine c_region ?_
    refine l_val rfl rfl rfl (r_eql rfl rfl) ?_
    refine l_val rfl rfl rfl (r_assign (v := .bool (decide (a0 = 2))) rfl) ?_
    refine l_nil ?_
    refine c_if (b := (decide (a0 = 2))) rfl (fun hb => ?_) (fun hb => ?_)
    · have H19 := cnd_t hb H18; clear H18
      refine c_seq ?_
      refine c_region ?_
      refine l_val rfl rfl rfl (r_assign (v := str [99, 114, 111, 112]) rfl) ?_
      refine l_val rfl rfl rfl (r_assign (v := .int .i64 4) rfl) ?_
      refine l_nil ?_
      refine c_ret ?_
      obtain rfl := Option.some.inj H19
      refine ret2 (v1 := str [99, 114, 111, 112]) (v2 := .int .i64 4) rfl rfl rfl (fin rfl)
    · have H20 := cnd_f hb H18; clear H18
      refine c_seq ?_
      refine c_region ?_
      refine l_val rfl rfl rfl (r_eql rfl rfl) ?_
      refine l_val rfl rfl rfl (r_assign (v := .bool (decide (a0 = 3))) rfl) ?_
      refine l_nil ?_
      refine c_if (b := (decide (a0 = 3))) rfl (fun hb => ?_) (fun hb => ?_)
      · have H21 := cnd_t hb H20; clear H20
        refine c_seq ?_
        refine c_region ?_
        refine l_val rfl rfl rfl (r_assign (v := str [115, 99, 97, 108, 101]) rfl) ?_
        refine l_val rfl rfl rfl (r_assign (v := .int .i64 2) rfl) ?_
        refine l_nil ?_
        refine c_ret ?_
        obtain rfl := Option.some.inj H21
        refine ret2 (v1 := str [115, 99, 97, 108, 101]) (v2 := .int .i64 2) rfl rfl rfl (fin rfl)
      · have H22 := cnd_f hb H20; clear H20
        refine c_seq ?_
        refine c_region ?_
        refine l_val rfl rfl rfl (r_eql rfl rfl) ?_
        refine l_val rfl rfl rfl (r_assign (v := .bool (decide (a0 = 4))) rfl) ?_
        refine l_nil ?_
        refine c_if (b := (decide (a0 = 4))) rfl (fun hb => ?_) (fun hb => ?_)
        · have H23 := cnd_t hb H22; clear H22
          refine c_seq ?_
          refine c_region ?_
          refine l_val rfl rfl rfl (r_assign (v := str [108, 105, 103, 104, 116]) rfl) ?_
          refine l_val rfl rfl rfl (r_assign (v := .int .i64 1) rfl) ?_
          refine l_nil ?_
          refine c_ret ?_
          obtain rfl := Option.some.inj H23
          refine ret2 (v1 := str [108, 105, 103, 104, 116]) (v2 := .int .i64 1) rfl rfl rfl (fin rfl)
        · have H24 := cnd_f hb H22; clear H22
          refine c_seq ?_
          refine c_region ?_
          refine l_val rfl rfl rfl (r_eql rfl rfl) ?_
          refine l_val rfl rfl rfl (r_assign (v := .bool (decide (a0 = 5))) rfl) ?_
          refine l_nil ?_
          refine c_if (b := (decide (a0 = 5))) rfl (fun hb => ?_) (fun hb => ?_)
          · have H25 := cnd_t hb H24; clear H24
            refine c_seq ?_
            refine c_region ?_
            refine l_val rfl rfl rfl (r_assign (v := str [115, 112, 114, 101, 97, 100]) rfl) ?_
            refine l_val rfl rfl rfl (r_assign (v := .int .i64 1) rfl) ?_
            refine l_nil ?_
            refine c_ret ?_
            obtain rfl := Option.some.inj H25
            refine ret2 (v1 := str [115, 112, 114, 101, 97, 100]) (v2 := .int .i64 1) rfl rfl rfl (fin rfl)
          · have H26 := cnd_f hb H24; clear H24
            refine c_seq ?_
            refine c_region ?_
            refine l_val rfl rfl rfl (r_eql rfl rfl) ?_
            refine l_val rfl rfl rfl (r_assign (v := .bool (decide (a0 = 6))) rfl) ?_
            refine l_nil ?_
            refine c_if (b := (decide (a0 = 6))) rfl (fun hb => ?_) (fun hb => ?_)
            · have H27 := cnd_t hb H26; clear H26
              refine c_seq ?_
              refine c_region ?_
              refine l_val rfl rfl rfl (r_assign (v := str [108, 101, 118, 101, 108, 115]) rfl) ?_
              refine l_val rfl rfl rfl (r_assign (v := .int .i64 2) rfl) ?_
              refine l_nil ?_
              refine c_ret ?_
              obtain rfl := Option.some.inj H27
              refine ret2 (v1 := str [108, 101, 118, 101, 108, 115]) (v2 := .int .i64 2) rfl rfl rfl (fin rfl)
            · have H28 := cnd_f hb H26; clear H26
              refine c_seq ?_
              refine c_region ?_
              refine l_val rfl rfl rfl (r_eql rfl rfl) ?_
              refine l_val rfl rfl rfl (r_assign (v := .bool (decide (a0 = 7))) rfl) ?_
              refine l_nil ?_
              refine c_if (b := (decide (a0 = 7))) rfl (fun hb => ?_) (fun hb => ?_)
              · have H29 := cnd_t hb H28; clear H28
                refine c_seq ?_
                refine c_region ?_
                refine l_val rfl rfl rfl (r_assign (v := str [119, 97, 114, 109]) rfl) ?_
                refine l_val rfl rfl rfl (r_assign (v := .int .i64 1) rfl) ?_
                refine l_nil ?_
                refine c_ret ?_
                obtain rfl := Option.some.inj H29
                refine ret2 (v1 := str [119, 97, 114, 109]) (v2 := .int .i64 1) rfl rfl rfl (fin rfl)
              · have H30 := cnd_f hb H28; clear H28
                refine c_seq ?_
                refine c_region ?_
                refine l_val rfl rfl rfl (r_eql rfl rfl) ?_
                refine l_val rfl rfl rfl (r_assign (v := .bool (decide (a0 = 8))) rfl) ?_
                refine l_nil ?_
                refine c_if (b := (decide (a0 = 8))) rfl (fun hb => ?_) (fun hb => ?_)
                · have H31 := cnd_t hb H30; clear H30
                  refine c_seq ?_
                  refine c_region ?_
                  refine l_val rfl rfl rfl (r_assign (v := str [109, 117, 116, 101]) rfl) ?_
                  refine l_val rfl rfl rfl (r_assign (v := .int .i64 1) rfl) ?_
                  refine l_nil ?_
                  refine c_ret ?_
                  obtain rfl := Option.some.inj H31
                  refine ret2 (v1 := str [109, 117, 116, 101]) (v2 := .int .i64 1) rfl rfl rfl (fin rfl)
                · have H32 := cnd_f hb H30; clear H30
                  refine c_skip ?_
                  refine c_seq ?_
                  refine c_region ?_
                  refine l_val rfl rfl rfl (r_assign (v := str [105, 110, 118, 101, 114, 116]) rfl) ?_
                  refine l_val rfl rfl rfl (r_assign (v := .int .i64 0) rfl) ?_
                  refine l_nil ?_
                  refine c_ret ?_
                  obtain rfl := Option.some.inj H32
                  refine ret2 (v1 := str [105, 110, 118, 101, 114, 116]) (v2 := .int .i64 0) rfl rfl rfl (fin rfl)
theorem k108 {a0 : T_edit_Step} {r : (List Int)} {w : World} {h : Heap} (hw : Know h w noS) (H : edit_Step_numbers a0 = some r) : Does Try.prog 108 (List.toArray [.agg #[.int .i64 a0.Kind, .int .i64 a0.A, .int .i64 a0.B, .int .i64 a0.C, .int .i64 a0.D]]) w (fun v w' => ∃ x : (Option Addr × Nat), v = (.slice x.1 r.length x.2) ∧ Turn w w' noS (rowV 3 1 (.slice x.1 r.length x.2) r.length (r.map e_i64))) := by
  refine enter (n := 12) Try.func108 rfl rfl rfl noS [] (Sat.nil _ _) ?_
  refine c_seq ?_
  refine c_region ?_
  refine l_box (cs := [.int .i64 a0.Kind, .int .i64 a0.A, .int .i64 a0.B, .int .i64 a0.C, .int .i64 a0.D]) rfl rfl rfl rfl (fun b2 => ?_)
  refine l_val rfl rfl rfl (r_assign (v := .slice none 0 0) rfl) ?_
  refine l_nil ?_
  refine c_seq ?_
  refine c_region ?_
  refine l_val rfl rfl rfl (r_field Try.runUnderlying31 rfl Try.sizeOf3 rfl rfl) ?_
  refine l_load1 (i := 0) (v := .int .i64 a0.A) Try.isAgg3 rfl rfl rfl rfl rfl ?_
  refine l_val rfl rfl rfl (r_field Try.runUnderlying31 rfl Try.sizeOf3 rfl rfl) ?_
  refine l_load1 (i := 0) (v := .int .i64 a0.B) Try.isAgg3 rfl rfl rfl rfl rfl ?_
  refine l_val rfl rfl rfl (r_field Try.runUnderlying31 rfl Try.sizeOf3 rfl rfl) ?_
  refine l_load1 (i := 0) (v := .int .i64 a0.C) Try.isAgg3 rfl rfl rfl rfl rfl ?_
  refine l_val rfl rfl rfl (r_field Try.runUnderlying31 rfl Try.sizeOf3 rfl rfl) ?_
  refine l_load1 (i := 0) (v := .int .i64 a0.D) Try.isAgg3 rfl rfl rfl rfl rfl ?_
  refine l_buildSlice (vs := [.int .i64 a0.A, .int .i64 a0.B, .int .i64 a0.C, .int .i64 a0.D]) (cs := [.int .i64 a0.A, .int .i64 a0.B, .int .i64 a0.C, .int .i64 a0.D]) Try.underlying66 Try.sizeOf3 Try.zeroValue3 rfl rfl rfl rfl rfl rfl rfl (fun b3 => ?_)
  refine l_val rfl rfl rfl (r_assign (v := .slice (some ⟨b3, 0, none⟩) 4 4) rfl) ?_
  refine l_nil ?_
  refine c_ret ?_
  refine c_imp 1 rfl (imp_box (m := 4) (E := 3) (sz := 1) (xs := (([a0.A, a0.B, a0.C, a0.D] : List Int)).map e_i64) rfl rfl rfl ⟨rfl, by decide⟩) ?_
  obtain rfl := Option.some.inj H
  refine ret1 (v := .slice ((some ⟨b3, 0, none⟩, 4) : Option Addr × Nat).1 4 ((some ⟨b3, 0, none⟩, 4) : Option Addr × Nat).2) rfl rfl (finX ((some ⟨b3, 0, none⟩, 4) : Option Addr × Nat) (i := 1) rfl rfl (Imp.refl _))
theorem k109 {a0 : Int} {r : (Nat → (Nat → Int))} (H : edit_bounds a0 = some r) : Ret Try.prog 109 [.int .i64 a0] (.agg #[.int .i64 ((r 0) 0), .int .i64 ((r 0) 1), .int .i64 ((r 1) 0), .int .i64 ((r 1) 1), .int .i64 ((r 2) 0), .int .i64 ((r 2) 1), .int .i64 ((r 3) 0), .int .i64 ((r 3) 1)]) := by
  refine enterRet (n := 42) Try.func109 rfl rfl rfl (fun wd => ?_)
  refine c_seq ?_
  refine c_region ?_
  refine l_alloc (cs := [.int .i64 0, .int .i64 0, .int .i64 0, .int .i64 0, .int .i64 0, .int .i64 0, .int .i64 0, .int .i64 0]) Try.zeroValue163 rfl rfl rfl (fun b1 => ?_)
  refine l_nil ?_
  refine c_seq ?_
  refine c_seq ?_
  refine c_region ?_
  refine l_val rfl rfl rfl (r_move (v := .int .i64 a0) rfl) ?_
  refine l_nil ?_
  refine c_block ?_
  refine c_seq ?_
  refine c_region ?_
  refine l_val rfl rfl rfl (r_eql rfl rfl) ?_
  refine l_val rfl rfl rfl (r_assign (v := .bool (decide (a0 = 1))) rfl) ?_
  refine l_nil ?_
  refine c_if (b := (decide (a0 = 1))) rfl (fun hb => ?_) (fun hb => ?_)
  · have H17 := cnd_t hb H; clear H
    refine c_seq ?_
    refine c_region ?_
    refine l_val rfl rfl rfl (r_buildA (ps := [(0, .int .i64 1), (1, .int .i64 8)]) (cells := #[.int .i64 1, .int .i64 8]) Try.zeroValue72 Try.runUnderlying72 Try.sizeOf3 rfl rfl) ?_
    refine l_val rfl rfl rfl (r_buildA (ps := [(0, .agg #[.int .i64 1, .int .i64 8])]) (cells := #[.int .i64 1, .int .i64 8, .int .i64 0, .int .i64 0, .int .i64 0, .int .i64 0, .int .i64 0, .int .i64 0]) Try.zeroValue163 Try.runUnderlying163 Try.sizeOf72 rfl rfl) ?_
    refine l_store (i := 0) (vs := [.int .i64 1, .int .i64 8, .int .i64 0, .int .i64 0, .int .i64 0, .int .i64 0, .int .i64 0, .int .i64 0]) (cs' := [.int .i64 1, .int .i64 8, .int .i64 0, .int .i64 0, .int .i64 0, .int .i64 0, .int .i64 0, .int .i64 0]) Try.sizeOf163 rfl rfl rfl rfl rfl rfl rfl rfl rfl ?_
    refine l_nil ?_
    refine c_ret ?_
    obtain rfl := Option.some.inj H17
    refine retC (i := 0) (vs := [.int .i64 1, .int .i64 8, .int .i64 0, .int .i64 0, .int .i64 0, .int .i64 0, .int .i64 0, .int .i64 0]) Try.isAgg163 Try.sizeOf163 rfl rfl rfl rfl (fin rfl)
  · have H18 := cnd_f hb H; clear H
    refine c_seq ?_
    refine c_region ?_
    refine l_val rfl rfl rfl (r_eql rfl rfl) ?_
    refine l_val rfl rfl rfl (r_assign (v := .bool (decide (a0 = 2))) rfl) ?_
    refine l_nil ?_
    refine c_if (b := (decide (a0 = 2))) rfl (fun hb => ?_) (fun hb => ?_)
    · have H19 := cnd_t hb H18; clear H18
      refine c_seq ?_
      refine c_region ?_
      refine l_val rfl rfl rfl (r_buildA (ps := [(0, .int .i64 0), (1, .int .i64 63)]) (cells := #[.int .i64 0, .int .i64 63]) Try.zeroValue72 Try.runUnderlying72 Try.sizeOf3 rfl rfl) ?_
      refine l_val rfl rfl rfl (r_buildA (ps := [(0, .int .i64 0), (1, .int .i64 63)]) (cells := #[.int .i64 0, .int .i64 63]) Try.zeroValue72 Try.runUnderlying72 Try.sizeOf3 rfl rfl) ?_
      refine l_val rfl rfl rfl (r_buildA (ps := [(0, .int .i64 1), (1, .int .i64 64)]) (cells := #[.int .i64 1, .int .i64 64]) Try.zeroValue72 Try.runUnderlying72 Try.sizeOf3 rfl rfl) ?_
      refine l_val rfl rfl rfl (r_buildA (ps := [(0, .int .i64 1), (1, .int .i64 64)]) (cells := #[.int .i64 1, .int .i64 64]) Try.zeroValue72 Try.runUnderlying72 Try.sizeOf3 rfl rfl) ?_
      refine l_val rfl rfl rfl (r_buildA (ps := [(0, .agg #[.int .i64 0, .int .i64 63]), (1, .agg #[.int .i64 0, .int .i64 63]), (2, .agg #[.int .i64 1, .int .i64 64]), (3, .agg #[.int .i64 1, .int .i64 64])]) (cells := #[.int .i64 0, .int .i64 63, .int .i64 0, .int .i64 63, .int .i64 1, .int .i64 64, .int .i64 1, .int .i64 64]) Try.zeroValue163 Try.runUnderlying163 Try.sizeOf72 rfl rfl) ?_
      refine l_store (i := 0) (vs := [.int .i64 0, .int .i64 63, .int .i64 0, .int .i64 63, .int .i64 1, .int .i64 64, .int .i64 1, .int .i64 64]) (cs' := [.int .i64 0, .int .i64 63, .int .i64 0, .int .i64 63, .int .i64 1, .int .i64 64, .int .i64 1, .int .i64 64]) Try.sizeOf163 rfl rfl rfl rfl rfl rfl rfl rfl rfl ?_
      refine l_nil ?_
      refine c_ret ?_
      obtain rfl := Option.some.inj H19
      refine retC (i := 0) (vs := [.int .i64 0, .int .i64 63, .int .i64 0, .int .i64 63, .int .i64 1, .int .i64 64, .int .i64 1, .int .i64 64]) Try.isAgg163 Try.sizeOf163 rfl rfl rfl rfl (fin rfl)
    · have H20 := cnd_f hb H18; clear H18
      refine c_seq ?_
      refine c_region ?_
      refine l_val rfl rfl rfl (r_eql rfl rfl) ?_
      refine l_val rfl rfl rfl (r_assign (v := .bool (decide (a0 = 3))) rfl) ?_
      refine l_nil ?_
      refine c_if (b := (decide (a0 = 3))) rfl (fun hb => ?_) (fun hb => ?_)
      · have H21 := cnd_t hb H20; clear H20
        refine c_seq ?_
        refine c_region ?_
        refine l_val rfl rfl rfl (r_buildA (ps := [(0, .int .i64 1), (1, .int .i64 64)]) (cells := #[.int .i64 1, .int .i64 64]) Try.zeroValue72 Try.runUnderlying72 Try.sizeOf3 rfl rfl) ?_
        refine l_val rfl rfl rfl (r_buildA (ps := [(0, .int .i64 1), (1, .int .i64 64)]) (cells := #[.int .i64 1, .int .i64 64]) Try.zeroValue72 Try.runUnderlying72 Try.sizeOf3 rfl rfl) ?_
        refine l_val rfl rfl rfl (r_buildA (ps := [(0, .agg #[.int .i64 1, .int .i64 64]), (1, .agg #[.int .i64 1, .int .i64 64])]) (cells := #[.int .i64 1, .int .i64 64, .int .i64 1, .int .i64 64, .int .i64 0, .int .i64 0, .int .i64 0, .int .i64 0]) Try.zeroValue163 Try.runUnderlying163 Try.sizeOf72 rfl rfl) ?_
        refine l_store (i := 0) (vs := [.int .i64 1, .int .i64 64, .int .i64 1, .int .i64 64, .int .i64 0, .int .i64 0, .int .i64 0, .int .i64 0]) (cs' := [.int .i64 1, .int .i64 64, .int .i64 1, .int .i64 64, .int .i64 0, .int .i64 0, .int .i64 0, .int .i64 0]) Try.sizeOf163 rfl rfl rfl rfl rfl rfl rfl rfl rfl ?_
        refine l_nil ?_
        refine c_ret ?_
        obtain rfl := Option.some.inj H21
        refine retC (i := 0) (vs := [.int .i64 1, .int .i64 64, .int .i64 1, .int .i64 64, .int .i64 0, .int .i64 0, .int .i64 0, .int .i64 0]) Try.isAgg163 Try.sizeOf163 rfl rfl rfl rfl (fin rfl)
      · have H22 := cnd_f hb H20; clear H20
        refine c_seq ?_
        refine c_region ?_
        refine l_val rfl rfl rfl (r_eql rfl rfl) ?_
        refine l_val rfl rfl rfl (r_assign (v := .bool (decide (a0 = 4))) rfl) ?_
        refine l_nil ?_
        refine c_if (b := (decide (a0 = 4))) rfl (fun hb => ?_) (fun hb => ?_)
        · have H23 := cnd_t hb H22; clear H22
          refine c_seq ?_
          refine c_region ?_
          refine l_val rfl rfl rfl (r_buildA (ps := [(0, .int .i64 (-255)), (1, .int .i64 255)]) (cells := #[.int .i64 (-255), .int .i64 255]) Try.zeroValue72 Try.runUnderlying72 Try.sizeOf3 rfl rfl) ?_
          refine l_val rfl rfl rfl (r_buildA (ps := [(0, .agg #[.int .i64 (-255), .int .i64 255])]) (cells := #[.int .i64 (-255), .int .i64 255, .int .i64 0, .int .i64 0, .int .i64 0, .int .i64 0, .int .i64 0, .int .i64 0]) Try.zeroValue163 Try.runUnderlying163 Try.sizeOf72 rfl rfl) ?_
          refine l_store (i := 0) (vs := [.int .i64 (-255), .int .i64 255, .int .i64 0, .int .i64 0, .int .i64 0, .int .i64 0, .int .i64 0, .int .i64 0]) (cs' := [.int .i64 (-255), .int .i64 255, .int .i64 0, .int .i64 0, .int .i64 0, .int .i64 0, .int .i64 0, .int .i64 0]) Try.sizeOf163 rfl rfl rfl rfl rfl rfl rfl rfl rfl ?_
          refine l_nil ?_
          refine c_ret ?_
          obtain rfl := Option.some.inj H23
          refine retC (i := 0) (vs := [.int .i64 (-255), .int .i64 255, .int .i64 0, .int .i64 0, .int .i64 0, .int .i64 0, .int .i64 0, .int .i64 0]) Try.isAgg163 Try.sizeOf163 rfl rfl rfl rfl (fin rfl)
        · have H24 := cnd_f hb H22; clear H22
          refine c_seq ?_
          refine c_region ?_
          refine l_val rfl rfl rfl (r_eql rfl rfl) ?_
          refine l_val rfl rfl rfl (r_assign (v := .bool (decide (a0 = 5))) rfl) ?_
          refine l_nil ?_
          refine c_if (b := (decide (a0 = 5))) rfl (fun hb => ?_) (fun hb => ?_)
          · have H25 := cnd_t hb H24; clear H24
            refine c_seq ?_
            refine c_region ?_
            refine l_val rfl rfl rfl (r_buildA (ps := [(0, .int .i64 0), (1, .int .i64 400)]) (cells := #[.int .i64 0, .int .i64 400]) Try.zeroValue72 Try.runUnderlying72 Try.sizeOf3 rfl rfl) ?_
            refine l_val rfl rfl rfl (r_buildA (ps := [(0, .agg #[.int .i64 0, .int .i64 400])]) (cells := #[.int .i64 0, .int .i64 400, .int .i64 0, .int .i64 0, .int .i64 0, .int .i64 0, .int .i64 0, .int .i64 0]) Try.zeroValue163 Try.runUnderlying163 Try.sizeOf72 rfl rfl) ?_
            refine l_store (i := 0) (vs := [.int .i64 0, .int .i64 400, .int .i64 0, .int .i64 0, .int .i64 0, .int .i64 0, .int .i64 0, .int .i64 0]) (cs' := [.int .i64 0, .int .i64 400, .int .i64 0, .int .i64 0, .int .i64 0, .int .i64 0, .int .i64 0, .int .i64 0]) Try.sizeOf163 rfl rfl rfl rfl rfl rfl rfl rfl rfl ?_
            refine l_nil ?_
            refine c_ret ?_
            obtain rfl := Option.some.inj H25
            refine retC (i := 0) (vs := [.int .i64 0, .int .i64 400, .int .i64 0, .int .i64 0, .int .i64 0, .int .i64 0, .int .i64 0, .int .i64 0]) Try.isAgg163 Try.sizeOf163 rfl rfl rfl rfl (fin rfl)
          · have H26 := cnd_f hb H24; clear H24
            refine c_seq ?_
            refine c_region ?_
            refine l_val rfl rfl rfl (r_eql rfl rfl) ?_
            refine l_val rfl rfl rfl (r_assign (v := .bool (decide (a0 = 6))) rfl) ?_
            refine l_nil ?_
            refine c_if (b := (decide (a0 = 6))) rfl (fun hb => ?_) (fun hb => ?_)
            · have H27 := cnd_t hb H26; clear H26
              refine c_seq ?_
              refine c_region ?_
              refine l_val rfl rfl rfl (r_buildA (ps := [(0, .int .i64 0), (1, .int .i64 255)]) (cells := #[.int .i64 0, .int .i64 255]) Try.zeroValue72 Try.runUnderlying72 Try.sizeOf3 rfl rfl) ?_
              refine l_val rfl rfl rfl (r_buildA (ps := [(0, .int .i64 0), (1, .int .i64 255)]) (cells := #[.int .i64 0, .int .i64 255]) Try.zeroValue72 Try.runUnderlying72 Try.sizeOf3 rfl rfl) ?_
              refine l_val rfl rfl rfl (r_buildA (ps := [(0, .agg #[.int .i64 0, .int .i64 255]), (1, .agg #[.int .i64 0, .int .i64 255])]) (cells := #[.int .i64 0, .int .i64 255, .int .i64 0, .int .i64 255, .int .i64 0, .int .i64 0, .int .i64 0, .int .i64 0]) Try.zeroValue163 Try.runUnderlying163 Try.sizeOf72 rfl rfl) ?_
              refine l_store (i := 0) (vs := [.int .i64 0, .int .i64 255, .int .i64 0, .int .i64 255, .int .i64 0, .int .i64 0, .int .i64 0, .int .i64 0]) (cs' := [.int .i64 0, .int .i64 255, .int .i64 0, .int .i64 255, .int .i64 0, .int .i64 0, .int .i64 0, .int .i64 0]) Try.sizeOf163 rfl rfl rfl rfl rfl rfl rfl rfl rfl ?_
              refine l_nil ?_
              refine c_ret ?_
              obtain rfl := Option.some.inj H27
              refine retC (i := 0) (vs := [.int .i64 0, .int .i64 255, .int .i64 0, .int .i64 255, .int .i64 0, .int .i64 0, .int .i64 0, .int .i64 0]) Try.isAgg163 Try.sizeOf163 rfl rfl rfl rfl (fin rfl)
            · have H28 := cnd_f hb H26; clear H26
              refine c_seq ?_
              refine c_region ?_
              refine l_val rfl rfl rfl (r_eql rfl rfl) ?_
              refine l_val rfl rfl rfl (r_assign (v := .bool (decide (a0 = 7))) rfl) ?_
              refine l_nil ?_
              refine c_if (b := (decide (a0 = 7))) rfl (fun hb => ?_) (fun hb => ?_)
              · have H29 := cnd_t hb H28; clear H28
                refine c_seq ?_
                refine c_region ?_
                refine l_val rfl rfl rfl (r_buildA (ps := [(0, .int .i64 (-100)), (1, .int .i64 100)]) (cells := #[.int .i64 (-100), .int .i64 100]) Try.zeroValue72 Try.runUnderlying72 Try.sizeOf3 rfl rfl) ?_
                refine l_val rfl rfl rfl (r_buildA (ps := [(0, .agg #[.int .i64 (-100), .int .i64 100])]) (cells := #[.int .i64 (-100), .int .i64 100, .int .i64 0, .int .i64 0, .int .i64 0, .int .i64 0, .int .i64 0, .int .i64 0]) Try.zeroValue163 Try.runUnderlying163 Try.sizeOf72 rfl rfl) ?_
                refine l_store (i := 0) (vs := [.int .i64 (-100), .int .i64 100, .int .i64 0, .int .i64 0, .int .i64 0, .int .i64 0, .int .i64 0, .int .i64 0]) (cs' := [.int .i64 (-100), .int .i64 100, .int .i64 0, .int .i64 0, .int .i64 0, .int .i64 0, .int .i64 0, .int .i64 0]) Try.sizeOf163 rfl rfl rfl rfl rfl rfl rfl rfl rfl ?_
                refine l_nil ?_
                refine c_ret ?_
                obtain rfl := Option.some.inj H29
                refine retC (i := 0) (vs := [.int .i64 (-100), .int .i64 100, .int .i64 0, .int .i64 0, .int .i64 0, .int .i64 0, .int .i64 0, .int .i64 0]) Try.isAgg163 Try.sizeOf163 rfl rfl rfl rfl (fin rfl)
              · have H30 := cnd_f hb H28; clear H28
                refine c_seq ?_
                refine c_region ?_
                refine l_val rfl rfl rfl (r_eql rfl rfl) ?_
                refine l_val rfl rfl rfl (r_assign (v := .bool (decide (a0 = 8))) rfl) ?_
                refine l_nil ?_
                refine c_if (b := (decide (a0 = 8))) rfl (fun hb => ?_) (fun hb => ?_)
                · have H31 := cnd_t hb H30; clear H30
                  refine c_seq ?_
                  refine c_region ?_
                  refine l_val rfl rfl rfl (r_buildA (ps := [(0, .int .i64 0), (1, .int .i64 100)]) (cells := #[.int .i64 0, .int .i64 100]) Try.zeroValue72 Try.runUnderlying72 Try.sizeOf3 rfl rfl) ?_
                  refine l_val rfl rfl rfl (r_buildA (ps := [(0, .agg #[.int .i64 0, .int .i64 100])]) (cells := #[.int .i64 0, .int .i64 100, .int .i64 0, .int .i64 0, .int .i64 0, .int .i64 0, .int .i64 0, .int .i64 0]) Try.zeroValue163 Try.runUnderlying163 Try.sizeOf72 rfl rfl) ?_
                  refine l_store (i := 0) (vs := [.int .i64 0, .int .i64 100, .int .i64 0, .int .i64 0, .int .i64 0, .int .i64 0, .int .i64 0, .int .i64 0]) (cs' := [.int .i64 0, .int .i64 100, .int .i64 0, .int .i64 0, .int .i64 0, .int .i64 0, .int .i64 0, .int .i64 0]) Try.sizeOf163 rfl rfl rfl rfl rfl rfl rfl rfl rfl ?_
                  refine l_nil ?_
                  refine c_ret ?_
                  obtain rfl := Option.some.inj H31
                  refine retC (i := 0) (vs := [.int .i64 0, .int .i64 100, .int .i64 0, .int .i64 0, .int .i64 0, .int .i64 0, .int .i64 0, .int .i64 0]) Try.isAgg163 Try.sizeOf163 rfl rfl rfl rfl (fin rfl)
                · have H32 := cnd_f hb H30; clear H30
                  refine c_skip ?_
                  refine c_seq ?_
                  refine c_region ?_
                  refine l_val rfl rfl rfl (r_buildA (ps := []) (cells := #[.int .i64 0, .int .i64 0, .int .i64 0, .int .i64 0, .int .i64 0, .int .i64 0, .int .i64 0, .int .i64 0]) Try.zeroValue163 Try.runUnderlying163 Try.sizeOf72 rfl rfl) ?_
                  refine l_store (i := 0) (vs := [.int .i64 0, .int .i64 0, .int .i64 0, .int .i64 0, .int .i64 0, .int .i64 0, .int .i64 0, .int .i64 0]) (cs' := [.int .i64 0, .int .i64 0, .int .i64 0, .int .i64 0, .int .i64 0, .int .i64 0, .int .i64 0, .int .i64 0]) Try.sizeOf163 rfl rfl rfl rfl rfl rfl rfl rfl rfl ?_
                  refine l_nil ?_
                  refine c_ret ?_
                  obtain rfl := Option.some.inj H32
                  refine retC (i := 0) (vs := [.int .i64 0, .int .i64 0, .int .i64 0, .int .i64 0, .int .i64 0, .int .i64 0, .int .i64 0, .int .i64 0]) Try.isAgg163 Try.sizeOf163 rfl rfl rfl rfl (fin rfl)
theorem k54 {a0 : T_edit_Step} {r : Int} (H : edit_CheckStep a0 = some r) : Ret Try.prog 54 [.agg #[.int .i64 a0.Kind, .int .i64 a0.A, .int .i64 a0.B, .int .i64 a0.C, .int .i64 a0.D]] (.int .i64 r) := by
  refine enterRet (n := 66) Try.func54 rfl rfl rfl (fun wd => ?_)
  refine c_seq ?_
  refine c_region ?_
  refine l_box (cs := [.int .i64 a0.Kind, .int .i64 a0.A, .int .i64 a0.B, .int .i64 a0.C, .int .i64 a0.D]) rfl rfl rfl rfl (fun b2 => ?_)
  refine l_val rfl rfl rfl (r_assign (v := .int .i64 0) rfl) ?_
  refine l_nil ?_
  refine c_seq ?_
  refine c_seq ?_
  refine c_region ?_
  refine l_val rfl rfl rfl (r_field Try.runUnderlying31 rfl Try.sizeOf3 rfl rfl) ?_
  refine l_load1 (i := 0) (v := .int .i64 a0.Kind) Try.isAgg3 rfl rfl rfl rfl rfl ?_
  obtain ⟨t13, h_t13, H32⟩ := bnd_some H; clear H
  refine l_call (k57 h_t13) Try.call57 rfl rfl rfl ?_
  refine l_nil ?_
  refine c_if (b := t13) rfl (fun hb => ?_) (fun hb => ?_)
  · have H33 := cnd_t hb H32; clear H32
    refine c_seq ?_
    refine c_region ?_
    refine l_val rfl rfl rfl (r_assign (v := .int .i64 10) rfl) ?_
    refine l_nil ?_
    refine c_ret ?_
    obtain rfl := Option.some.inj H33
    refine ret1 (v := .int .i64 10) rfl rfl (fin rfl)
  · have H34 := cnd_f hb H32; clear H32
    refine c_skip ?_
    refine c_seq ?_
    refine c_region ?_
    refine l_val rfl rfl rfl (r_field Try.runUnderlying31 rfl Try.sizeOf3 rfl rfl) ?_
    refine l_load1 (i := 0) (v := .int .i64 a0.Kind) Try.isAgg3 rfl rfl rfl rfl rfl ?_
    obtain ⟨t17, h_t17, H35⟩ := bnd_some H34; clear H34
    refine l_call (k107 h_t17) Try.call107 rfl rfl rfl ?_
    refine l_val rfl rfl rfl (r_move (v := .tuple #[str t17.1, .int .i64 t17.2]) rfl) ?_
    refine l_val rfl rfl rfl (r_extract (v := str t17.1) rfl rfl) ?_
    refine l_val rfl rfl rfl (r_extract (v := .int .i64 t17.2) rfl rfl) ?_
    refine l_val rfl rfl rfl (r_assign (v := str t17.1) rfl) ?_
    refine l_val rfl rfl rfl (r_assign (v := .int .i64 t17.2) rfl) ?_
    refine l_nil ?_
    refine c_seq ?_
    refine c_region ?_
    refine l_loadN (i := 0) (vs := [.int .i64 a0.Kind, .int .i64 a0.A, .int .i64 a0.B, .int .i64 a0.C, .int .i64 a0.D]) Try.isAgg31 Try.sizeOf31 rfl rfl rfl rfl rfl ?_
    obtain ⟨t21, h_t21, H36⟩ := bnd_some H35; clear H35
    refine l_make (makes_call (rds := []) (G := fun x : (Option Addr × Nat) => .slice x.1 t21.length x.2) (C := fun x : (Option Addr × Nat) => rowV 3 1 (.slice x.1 t21.length x.2) t21.length (t21.map e_i64)) (fun w L' hF hS hi => k108 (know_all w)  h_t21) Try.call108 rfl) rfl rfl rfl (fun p => ?_)
    refine l_val rfl rfl rfl (r_assign (v := .slice p.1 t21.length p.2) rfl) ?_
    refine l_nil ?_
    refine c_meet (r := r) (σ := Unit) (τ := Unit) (fun s => edit_CheckStep_j1 a0 t17 t21) (fun s t => [(1, .pointer (some ⟨b2, 0, none⟩)), (4, .int .i64 t17.2), (5, .slice p.1 t21.length p.2)]) (fun s t => [cellsC b2 [.int .i64 a0.Kind, .int .i64 a0.A, .int .i64 a0.B, .int .i64 a0.C, .int .i64 a0.D] 31, rowV 3 1 (.slice p.1 t21.length p.2) t21.length (t21.map e_i64)]) (fun s t => True) ?_ ?_
    · refine c_seq ?_
      refine c_region ?_
      refine l_val rfl rfl rfl (r_move (v := .slice p.1 t21.length p.2) rfl) ?_
      refine l_val rfl rfl rfl (r_move (v := .int .i64 t17.2) rfl) ?_
      obtain ⟨t24, h_t24, H55⟩ := bnd_some H36; clear H36
      refine l_read (v := .slice (cutA p.1 (Int.toNat t17.2) p.2 1) t24.length (p.2 - Int.toNat t17.2)) (fun w hF hS => run_sliceLO (xs := t21) Try.underlying66 Try.sizeOf3 rfl rfl rfl (capOf (i := 1) hS rfl) h_t24) rfl rfl rfl ?_
      refine l_val rfl rfl rfl (r_len Try.underlying66 rfl) ?_
      refine l_val rfl rfl rfl (r_move (v := .int .i64 0) rfl) ?_
      refine l_nil ?_
      refine c_block ?_
      refine c_fix (σ := Int) (τ := Unit) (fun next4 s => edit_CheckStep_l4 a0 t17 t21 t24 next4 s) (fun s t => [(1, .pointer (some ⟨b2, 0, none⟩)), (4, .int .i64 t17.2), (5, .slice p.1 t21.length p.2), (24, .slice (cutA p.1 (Int.toNat t17.2) p.2 1) t24.length (p.2 - Int.toNat t17.2)), (25, .int .i64 (t24.length : Int)), (26, .int .i64 s)]) (fun s t => [cellsC b2 [.int .i64 a0.Kind, .int .i64 a0.A, .int .i64 a0.B, .int .i64 a0.C, .int .i64 a0.D] 31, rowV 3 1 (.slice p.1 t21.length p.2) t21.length (t21.map e_i64)]) (fun s t => True) 0 () [0, 1] H55 (by exact trivial) (by exact ⟨rfl, rfl, rfl, rfl, rfl, rfl, trivial⟩) (by decide) rfl ?_
      rintro x26_2 _ m4 gg H56 _
      clear H55
      replace H56 : edit_CheckStep_l4 a0 t17 t21 t24 (it (fun next4 s => edit_CheckStep_l4 a0 t17 t21 t24 next4 s) m4) x26_2 = some r := H56
      generalize hn4 : it (fun next4 s => edit_CheckStep_l4 a0 t17 t21 t24 next4 s) m4 = next4 at H56
      refine c_tidyF [(1, .pointer (some ⟨b2, 0, none⟩)), (4, .int .i64 t17.2), (5, .slice p.1 t21.length p.2), (24, .slice (cutA p.1 (Int.toNat t17.2) p.2 1) t24.length (p.2 - Int.toNat t17.2)), (25, .int .i64 (t24.length : Int)), (26, .int .i64 x26_2)] [cellsC b2 [.int .i64 a0.Kind, .int .i64 a0.A, .int .i64 a0.B, .int .i64 a0.C, .int .i64 a0.D] 31, rowV 3 1 (.slice p.1 t21.length p.2) t21.length (t21.map e_i64)] rfl rfl ?_
      refine c_seq ?_
      refine c_region ?_
      refine l_val rfl rfl rfl (r_lss rfl rfl) ?_
      refine l_nil ?_
      refine c_seq ?_
      refine c_if (b := (decide (x26_2 < (t24.length : Int)))) rfl (fun hb => ?_) (fun hb => ?_)
      · have H57 := cnd_t hb H56; clear H56
        refine c_skip ?_
        refine c_seq ?_
        refine c_block ?_
        refine c_seq ?_
        refine c_region ?_
        obtain ⟨t28, h_t28, H58⟩ := bnd_some H57; clear H57
        refine l_read (fun w hF hS => run_indexO Try.underlying66 Try.sizeOf3 rfl rfl (Row.cutG (rowOf (i := 1) hS rfl) rfl (capOf (i := 1) hS rfl) h_t24) rfl h_t28) rfl rfl rfl ?_
        refine l_read (fun w hF hS => run_loadG1 (f := e_i64) (i := x26_2) (sz := 1) (j := 0) (v := .int .i64 t28) Try.isAgg3 rfl rfl (Row.cutG (rowOf (i := 1) hS rfl) rfl (capOf (i := 1) hS rfl) h_t24) h_t28 rfl) rfl rfl rfl ?_
        refine l_val rfl rfl rfl (r_assign (v := .int .i64 t28) rfl) ?_
        refine l_nil ?_
        refine c_seq ?_
        refine c_region ?_
        refine l_val rfl rfl rfl (r_move (v := .int .i64 t28) rfl) ?_
        refine l_val rfl rfl rfl (r_neq rfl rfl) ?_
        refine l_nil ?_
        refine c_if (b := (decide (t28 ≠ 0))) rfl (fun hb => ?_) (fun hb => ?_)
        · have H59 := cnd_t hb H58; clear H58
          refine c_seq ?_
          refine c_region ?_
          refine l_val rfl rfl rfl (r_assign (v := .int .i64 1) rfl) ?_
          refine l_nil ?_
          refine c_ret ?_
          obtain rfl := Option.some.inj H59
          refine ret1 (v := .int .i64 1) rfl rfl (fin rfl)
        · have H60 := cnd_f hb H58; clear H58
          refine c_skip ?_
          refine c_region ?_
          obtain ⟨t32, h_t32, H61⟩ := bnd_some H60; clear H60
          refine l_val rfl rfl rfl (r_addG rfl rfl h_t32) ?_
          refine l_val rfl rfl rfl (r_move (v := .int .i64 t32) rfl) ?_
          refine l_nil ?_
          refine c_close t32 () m4 [0, 1] (by exact ⟨rfl, rfl, rfl, rfl, rfl, rfl, trivial⟩) (by decide) rfl (by exact ⟨(by subst hn4; exact H61), trivial⟩) (Nat.lt_succ_self _)
      · have H62 := cnd_f hb H56; clear H56
        refine c_exit ?_
        refine c_close () () 0 [0, 1] (by exact ⟨rfl, rfl, rfl, trivial⟩) (by decide) rfl (by exact ⟨H62, trivial⟩) (Nat.lt_succ_self _)
    · rintro _ _ gg H37 _
      replace H37 : edit_CheckStep_j1 a0 t17 t21 = some r := H37
      refine c_tidyF [(1, .pointer (some ⟨b2, 0, none⟩)), (4, .int .i64 t17.2), (5, .slice p.1 t21.length p.2)] [cellsC b2 [.int .i64 a0.Kind, .int .i64 a0.A, .int .i64 a0.B, .int .i64 a0.C, .int .i64 a0.D] 31, rowV 3 1 (.slice p.1 t21.length p.2) t21.length (t21.map e_i64)] rfl rfl ?_
      refine c_seq ?_
      refine c_region ?_
      refine l_val rfl rfl rfl (r_field Try.runUnderlying31 rfl Try.sizeOf3 rfl rfl) ?_
      refine l_load1 (i := 0) (v := .int .i64 a0.Kind) Try.isAgg3 rfl rfl rfl rfl rfl ?_
      obtain ⟨t35, h_t35, H38⟩ := bnd_some H37; clear H37
      refine l_call (k109 h_t35) Try.call109 rfl rfl rfl ?_
      refine l_alloc (cs := [.int .i64 0, .int .i64 0, .int .i64 0, .int .i64 0, .int .i64 0, .int .i64 0, .int .i64 0, .int .i64 0]) Try.zeroValue163 rfl rfl rfl (fun b3 => ?_)
      refine l_store (i := 2) (vs := [.int .i64 ((t35 0) 0), .int .i64 ((t35 0) 1), .int .i64 ((t35 1) 0), .int .i64 ((t35 1) 1), .int .i64 ((t35 2) 0), .int .i64 ((t35 2) 1), .int .i64 ((t35 3) 0), .int .i64 ((t35 3) 1)]) (cs' := [.int .i64 ((t35 0) 0), .int .i64 ((t35 0) 1), .int .i64 ((t35 1) 0), .int .i64 ((t35 1) 1), .int .i64 ((t35 2) 0), .int .i64 ((t35 2) 1), .int .i64 ((t35 3) 0), .int .i64 ((t35 3) 1)]) Try.sizeOf163 rfl rfl rfl rfl rfl rfl rfl rfl rfl ?_
      refine l_nil ?_
      refine c_meet (r := r) (σ := Unit) (τ := Unit) (fun s => edit_CheckStep_j2 a0) (fun s t => [(1, .pointer (some ⟨b2, 0, none⟩))]) (fun s t => [cellsC b2 [.int .i64 a0.Kind, .int .i64 a0.A, .int .i64 a0.B, .int .i64 a0.C, .int .i64 a0.D] 31]) (fun s t => True) ?_ ?_
      · refine c_seq ?_
        refine c_region ?_
        refine l_val rfl rfl rfl (r_move (v := .slice p.1 t21.length p.2) rfl) ?_
        refine l_val rfl rfl rfl (r_move (v := .int .i64 t17.2) rfl) ?_
        obtain ⟨t38, h_t38, H44⟩ := bnd_some H38; clear H38
        refine l_read (v := .slice p.1 t38.length p.2) (fun w hF hS => run_sliceHO0 (xs := t21) Try.underlying66 Try.sizeOf3 rfl rfl rfl (capOf (i := 1) hS rfl) h_t38) rfl rfl rfl ?_
        refine l_val rfl rfl rfl (r_len Try.underlying66 rfl) ?_
        refine l_val rfl rfl rfl (r_move (v := .int .i64 0) rfl) ?_
        refine l_nil ?_
        refine c_block ?_
        refine c_fix (σ := Int) (τ := Unit) (fun next3 s => edit_CheckStep_l3 a0 t35 t38 next3 s) (fun s t => [(1, .pointer (some ⟨b2, 0, none⟩)), (8, .pointer (some ⟨b3, 0, none⟩)), (38, .slice p.1 t38.length p.2), (39, .int .i64 (t38.length : Int)), (40, .int .i64 s)]) (fun s t => [cellsC b2 [.int .i64 a0.Kind, .int .i64 a0.A, .int .i64 a0.B, .int .i64 a0.C, .int .i64 a0.D] 31, rowV 3 1 (.slice p.1 t21.length p.2) t21.length (t21.map e_i64), cellsC b3 [.int .i64 ((t35 0) 0), .int .i64 ((t35 0) 1), .int .i64 ((t35 1) 0), .int .i64 ((t35 1) 1), .int .i64 ((t35 2) 0), .int .i64 ((t35 2) 1), .int .i64 ((t35 3) 0), .int .i64 ((t35 3) 1)] 163]) (fun s t => True) 0 () [0, 1, 2] H44 (by exact trivial) (by exact ⟨rfl, rfl, rfl, rfl, rfl, trivial⟩) (by decide) rfl ?_
        rintro x40_2 _ m3 gg H45 _
        clear H44
        replace H45 : edit_CheckStep_l3 a0 t35 t38 (it (fun next3 s => edit_CheckStep_l3 a0 t35 t38 next3 s) m3) x40_2 = some r := H45
        generalize hn3 : it (fun next3 s => edit_CheckStep_l3 a0 t35 t38 next3 s) m3 = next3 at H45
        refine c_tidyF [(1, .pointer (some ⟨b2, 0, none⟩)), (8, .pointer (some ⟨b3, 0, none⟩)), (38, .slice p.1 t38.length p.2), (39, .int .i64 (t38.length : Int)), (40, .int .i64 x40_2)] [cellsC b2 [.int .i64 a0.Kind, .int .i64 a0.A, .int .i64 a0.B, .int .i64 a0.C, .int .i64 a0.D] 31, rowV 3 1 (.slice p.1 t21.length p.2) t21.length (t21.map e_i64), cellsC b3 [.int .i64 ((t35 0) 0), .int .i64 ((t35 0) 1), .int .i64 ((t35 1) 0), .int .i64 ((t35 1) 1), .int .i64 ((t35 2) 0), .int .i64 ((t35 2) 1), .int .i64 ((t35 3) 0), .int .i64 ((t35 3) 1)] 163] rfl rfl ?_
        refine c_seq ?_
        refine c_region ?_
        refine l_val rfl rfl rfl (r_lss rfl rfl) ?_
        refine l_nil ?_
        refine c_seq ?_
        refine c_if (b := (decide (x40_2 < (t38.length : Int)))) rfl (fun hb => ?_) (fun hb => ?_)
        · have H46 := cnd_t hb H45; clear H45
          refine c_skip ?_
          refine c_seq ?_
          refine c_block ?_
          refine c_seq ?_
          refine c_region ?_
          refine l_val rfl rfl rfl (r_move (v := .int .i64 x40_2) rfl) ?_
          obtain ⟨t43, h_t43, H47⟩ := bnd_some H46; clear H46
          refine l_read (fun w hF hS => run_indexO Try.underlying66 Try.sizeOf3 rfl rfl (Row.cut0G (rowOf (i := 1) hS rfl) rfl (capOf (i := 1) hS rfl) h_t38) rfl h_t43) rfl rfl rfl ?_
          refine l_read (fun w hF hS => run_loadG1 (f := e_i64) (i := x40_2) (sz := 1) (j := 0) (v := .int .i64 t43) Try.isAgg3 rfl rfl (Row.cut0G (rowOf (i := 1) hS rfl) rfl (capOf (i := 1) hS rfl) h_t38) h_t43 rfl) rfl rfl rfl ?_
          refine l_val rfl rfl rfl (r_assign (v := .int .i64 x40_2) rfl) ?_
          refine l_val rfl rfl rfl (r_assign (v := .int .i64 t43) rfl) ?_
          refine l_nil ?_
          refine c_seq ?_
          exact c_regionD (Kd.p :: Kd.p :: Kd.p :: Kd.p :: Kd.d [2] _ :: Kd.p :: Kd.p :: Kd.p :: Kd.d [2] _ :: Kd.d [] _ :: []) 0 mixed (by
            refine d_val rfl rfl (r_move (v := .int .i64 t43) rfl) ?_
            refine d_val rfl rfl (r_move (v := .int .i64 x40_2) rfl) ?_
            have h_k47 := bnd_val H47
            have H48 := bnd_rest H47
            refine d_val rfl rfl (r_indexPG Try.runUnderlying163 Try.sizeOf72 rfl rfl h_k47) ?_
            refine d_val rfl rfl (r_indexPA0 Try.runUnderlying72 Try.sizeOf3 rfl rfl (by decide)) ?_
            refine d_load1 (i := 2) (v := .int .i64 ((t35 (val (gIx 4 x40_2))) 0)) Try.isAgg3 rfl rfl rfl (rg_arr (pre := []) (post := []) (f := fun j_ => [.int .i64 ((t35 j_) 0), .int .i64 ((t35 j_) 1)]) (n := 4) (sz := 2) (q := 0) rfl rfl (fun _ => rfl) (gIx_lt h_k47) rfl) ?_
            refine d_val rfl rfl (r_move (v := .int .i64 x40_2) rfl) ?_
            have h_k51 := bnd_val H48
            have H49 := bnd_rest H48
            refine d_val rfl rfl (r_indexPG Try.runUnderlying163 Try.sizeOf72 rfl rfl h_k51) ?_
            refine d_val rfl rfl (r_indexPA Try.runUnderlying72 Try.sizeOf3 rfl rfl (by decide) (by decide)) ?_
            refine d_load1 (i := 2) (v := .int .i64 ((t35 (val (gIx 4 x40_2))) 1)) Try.isAgg3 rfl rfl rfl (rg_arr (pre := []) (post := []) (f := fun j_ => [.int .i64 ((t35 j_) 0), .int .i64 ((t35 j_) 1)]) (n := 4) (sz := 2) (q := 1) rfl rfl (fun _ => rfl) (gIx_lt h_k51) rfl) ?_
            have h_t54 := bnd_val H49
            have H50 := bnd_rest H49
            refine d_call (k57 h_t54) Try.call57 rfl rfl ?_
            refine d_nil ?_
            refine c_if (b := (val (edit_outside t43 ((t35 (val (gIx 4 x40_2))) 0) ((t35 (val (gIx 4 x40_2))) 1)))) rfl (fun hb => ?_) (fun hb => ?_)
            · have H51 := cnd_t hb H50; clear H50
              refine c_seq ?_
              refine c_region ?_
              refine l_val rfl rfl rfl (r_assign (v := .int .i64 2) rfl) ?_
              refine l_nil ?_
              refine c_ret ?_
              obtain rfl := Option.some.inj H51
              refine ret1 (v := .int .i64 2) rfl rfl (fin rfl)
            · have H52 := cnd_f hb H50; clear H50
              refine c_skip ?_
              refine c_region ?_
              obtain ⟨t55, h_t55, H53⟩ := bnd_some H52; clear H52
              refine l_val rfl rfl rfl (r_addG rfl rfl h_t55) ?_
              refine l_val rfl rfl rfl (r_move (v := .int .i64 t55) rfl) ?_
              refine l_nil ?_
              refine c_close t55 () m3 [0, 1, 2] (by exact ⟨rfl, rfl, rfl, rfl, rfl, trivial⟩) (by decide) rfl (by exact ⟨(by subst hn3; exact H53), trivial⟩) (Nat.lt_succ_self _)
            ) (by kernel_rfl)
        · have H54 := cnd_f hb H45; clear H45
          refine c_exit ?_
          refine c_close () () 0 [0] (by exact ⟨rfl, trivial⟩) (by decide) rfl (by exact ⟨H54, trivial⟩) (Nat.lt_succ_self _)
      · rintro _ _ gg H39 _
        replace H39 : edit_CheckStep_j2 a0 = some r := H39
        refine c_tidyF [(1, .pointer (some ⟨b2, 0, none⟩))] [cellsC b2 [.int .i64 a0.Kind, .int .i64 a0.A, .int .i64 a0.B, .int .i64 a0.C, .int .i64 a0.D] 31] rfl rfl ?_
        refine c_seq ?_
        refine c_seq ?_
        refine c_region ?_
        refine l_val rfl rfl rfl (r_field Try.runUnderlying31 rfl Try.sizeOf3 rfl rfl) ?_
        refine l_load1 (i := 0) (v := .int .i64 a0.Kind) Try.isAgg3 rfl rfl rfl rfl rfl ?_
        refine l_val rfl rfl rfl (r_eql rfl rfl) ?_
        refine l_val rfl rfl rfl (r_move (v := .bool (decide (a0.Kind = 6))) rfl) ?_
        refine split (fun hb => ?_) (fun hb => ?_)
        · have H40 := cnd_t hb H39; clear H39
          refine l_val rfl rfl rfl (r_field Try.runUnderlying31 rfl Try.sizeOf3 rfl rfl) ?_
          refine l_load1 (i := 0) (v := .int .i64 a0.B) Try.isAgg3 rfl rfl rfl rfl rfl ?_
          refine l_val rfl rfl rfl (r_field Try.runUnderlying31 rfl Try.sizeOf3 rfl rfl) ?_
          refine l_load1 (i := 0) (v := .int .i64 a0.A) Try.isAgg3 rfl rfl rfl rfl rfl ?_
          refine l_val rfl rfl rfl (r_leq rfl rfl) ?_
          refine l_val rfl rfl rfl (r_pickT (v := .bool (decide (a0.B ≤ a0.A))) rfl rfl) ?_
          refine l_nil ?_
          refine c_if (b := (decide (a0.B ≤ a0.A))) rfl (fun hb => ?_) (fun hb => ?_)
          · have H41 := cnd_t hb H40; clear H40
            refine c_seq ?_
            refine c_region ?_
            refine l_val rfl rfl rfl (r_assign (v := .int .i64 5) rfl) ?_
            refine l_nil ?_
            refine c_ret ?_
            obtain rfl := Option.some.inj H41
            refine ret1 (v := .int .i64 5) rfl rfl (fin rfl)
          · have H42 := cnd_f hb H40; clear H40
            refine c_skip ?_
            refine c_seq ?_
            refine c_region ?_
            refine l_val rfl rfl rfl (r_assign (v := .int .i64 0) rfl) ?_
            refine l_nil ?_
            refine c_ret ?_
            obtain rfl := Option.some.inj H42
            refine ret1 (v := .int .i64 0) rfl rfl (fin rfl)
        · have H43 := cnd_f hb H39; clear H39
          refine l_passed rfl rfl rfl ?_
          refine l_passed rfl rfl rfl ?_
          refine l_passed rfl rfl rfl ?_
          refine l_passed rfl rfl rfl ?_
          refine l_passed rfl rfl rfl ?_
          refine l_val rfl rfl rfl (r_pickF (v := .bool false) rfl rfl) ?_
          refine l_nil ?_
          refine c_false rfl ?_
          refine c_skip ?_
          refine c_seq ?_
          refine c_region ?_
          refine l_val rfl rfl rfl (r_assign (v := .int .i64 0) rfl) ?_
          refine l_nil ?_
          refine c_ret ?_
          obtain rfl := Option.some.inj H43
          refine ret1 (v := .int .i64 0) rfl rfl (fin rfl)
theorem k22 {a0 : T_edit_Step} {a1 : Int} {a2 : Int} {r : Bool × Int} (H : edit_Neutral a0 a1 a2 = some r) : Ret Try.prog 22 [.agg #[.int .i64 a0.Kind, .int .i64 a0.A, .int .i64 a0.B, .int .i64 a0.C, .int .i64 a0.D], .int .i64 a1, .int .i64 a2] (.tuple #[.bool r.1, .int .i64 r.2]) := by
  refine enterRet (n := 33) Try.func22 rfl rfl rfl (fun wd => ?_)
  refine c_seq ?_
  refine c_region ?_
  refine l_box (cs := [.int .i64 a0.Kind, .int .i64 a0.A, .int .i64 a0.B, .int .i64 a0.C, .int .i64 a0.D]) rfl rfl rfl rfl (fun b2 => ?_)
  refine l_val rfl rfl rfl (r_assign (v := .bool false) rfl) ?_
  refine l_val rfl rfl rfl (r_assign (v := .int .i64 0) rfl) ?_
  refine l_nil ?_
  refine c_seq ?_
  refine c_seq ?_
  refine c_region ?_
  refine l_loadN (i := 0) (vs := [.int .i64 a0.Kind, .int .i64 a0.A, .int .i64 a0.B, .int .i64 a0.C, .int .i64 a0.D]) Try.isAgg31 Try.sizeOf31 rfl rfl rfl rfl rfl ?_
  obtain ⟨t13, h_t13, H8⟩ := bnd_some H; clear H
  refine l_call (k54 h_t13) Try.call54 rfl rfl rfl ?_
  refine l_val rfl rfl rfl (r_assign (v := .int .i64 t13) rfl) ?_
  refine l_nil ?_
  refine c_seq ?_
  refine c_region ?_
  refine l_val rfl rfl rfl (r_move (v := .int .i64 t13) rfl) ?_
  refine l_val rfl rfl rfl (r_neq rfl rfl) ?_
  refine l_nil ?_
  refine c_if (b := (decide (t13 ≠ 0))) rfl (fun hb => ?_) (fun hb => ?_)
  · have H9 := cnd_t hb H8; clear H8
    refine c_seq ?_
    refine c_region ?_
    refine l_val rfl rfl rfl (r_move (v := .int .i64 t13) rfl) ?_
    refine l_val rfl rfl rfl (r_assign (v := .bool false) rfl) ?_
    refine l_val rfl rfl rfl (r_assign (v := .int .i64 t13) rfl) ?_
    refine l_nil ?_
    refine c_ret ?_
    obtain rfl := Option.some.inj H9
    refine ret2 (v1 := .bool false) (v2 := .int .i64 t13) rfl rfl rfl (fin rfl)
  · have H10 := cnd_f hb H8; clear H8
    refine c_skip ?_
    refine c_seq ?_
    refine c_seq ?_
    refine c_region ?_
    refine l_loadN (i := 0) (vs := [.int .i64 a0.Kind, .int .i64 a0.A, .int .i64 a0.B, .int .i64 a0.C, .int .i64 a0.D]) Try.isAgg31 Try.sizeOf31 rfl rfl rfl rfl rfl ?_
    refine l_buildSlice (vs := [.agg #[.int .i64 a0.Kind, .int .i64 a0.A, .int .i64 a0.B, .int .i64 a0.C, .int .i64 a0.D]]) (cs := [.int .i64 a0.Kind, .int .i64 a0.A, .int .i64 a0.B, .int .i64 a0.C, .int .i64 a0.D]) Try.underlying22 Try.sizeOf31 Try.zeroValue31 rfl rfl rfl rfl rfl rfl rfl (fun b3 => ?_)
    refine l_val rfl rfl rfl (r_move (v := .int .i64 a1) rfl) ?_
    refine l_val rfl rfl rfl (r_move (v := .int .i64 a2) rfl) ?_
    obtain ⟨t22, h_t22, H11⟩ := bnd_some H10; clear H10
    refine l_callG (fun w hF hS => k59 (know_all w) (frs_box (i := 1) (xs := ([a0] : List T_edit_Step)) (f := e_edit_Step) hS rfl rfl rfl rfl rfl) h_t22) Try.call59 rfl rfl rfl ?_
    refine l_val rfl rfl rfl (r_move (v := .tuple #[.int .i64 t22.1, .int .i64 t22.2.1, .int .i64 t22.2.2]) rfl) ?_
    refine l_val rfl rfl rfl (r_extract (v := .int .i64 t22.1) rfl rfl) ?_
    refine l_val rfl rfl rfl (r_extract (v := .int .i64 t22.2.1) rfl rfl) ?_
    refine l_val rfl rfl rfl (r_extract (v := .int .i64 t22.2.2) rfl rfl) ?_
    refine l_val rfl rfl rfl (r_assign (v := .int .i64 t22.1) rfl) ?_
    refine l_val rfl rfl rfl (r_assign (v := .int .i64 t22.2.1) rfl) ?_
    refine l_val rfl rfl rfl (r_assign (v := .int .i64 t22.2.2) rfl) ?_
    refine l_nil ?_
    refine c_seq ?_
    refine c_region ?_
    refine l_val rfl rfl rfl (r_move (v := .int .i64 t22.2.2) rfl) ?_
    refine l_val rfl rfl rfl (r_neq rfl rfl) ?_
    refine l_nil ?_
    refine c_if (b := (decide (t22.2.2 ≠ 0))) rfl (fun hb => ?_) (fun hb => ?_)
    · have H12 := cnd_t hb H11; clear H11
      refine c_seq ?_
      refine c_region ?_
      refine l_val rfl rfl rfl (r_move (v := .int .i64 t22.2.2) rfl) ?_
      refine l_val rfl rfl rfl (r_assign (v := .bool false) rfl) ?_
      refine l_val rfl rfl rfl (r_assign (v := .int .i64 t22.2.2) rfl) ?_
      refine l_nil ?_
      refine c_ret ?_
      obtain rfl := Option.some.inj H12
      refine ret2 (v1 := .bool false) (v2 := .int .i64 t22.2.2) rfl rfl rfl (fin rfl)
    · have H13 := cnd_f hb H11; clear H11
      refine c_skip ?_
      refine c_seq ?_
      refine c_region ?_
      refine l_loadN (i := 0) (vs := [.int .i64 a0.Kind, .int .i64 a0.A, .int .i64 a0.B, .int .i64 a0.C, .int .i64 a0.D]) Try.isAgg31 Try.sizeOf31 rfl rfl rfl rfl rfl ?_
      refine l_val rfl rfl rfl (r_move (v := .int .i64 a1) rfl) ?_
      refine l_val rfl rfl rfl (r_move (v := .int .i64 a2) rfl) ?_
      obtain ⟨t32, h_t32, H14⟩ := bnd_some H13; clear H13
      refine l_call (k60 h_t32) Try.call60 rfl rfl rfl ?_
      refine l_val rfl rfl rfl (r_assign (v := .bool t32) rfl) ?_
      refine l_val rfl rfl rfl (r_assign (v := .int .i64 0) rfl) ?_
      refine l_nil ?_
      refine c_ret ?_
      obtain rfl := Option.some.inj H14
      refine ret2 (v1 := .bool t32) (v2 := .int .i64 0) rfl rfl rfl (fin rfl)
theorem k24 {a0 : Bool} {a1 : Int} {a2 : Bool} {a3 : Int} {r : Bool} (H : Law_told_bool a0 a1 a2 a3 = some r) : Ret Try.prog 24 [.bool a0, .int .i64 a1, .bool a2, .int .i64 a3] (.bool r) := by
  refine enterRet (n := 21) Try.func24 rfl rfl rfl (fun wd => ?_)
  refine c_seq ?_
  refine c_region ?_
  refine l_val rfl rfl rfl (r_assign (v := .bool false) rfl) ?_
  refine l_nil ?_
  refine c_seq ?_
  refine c_region ?_
  refine l_val rfl rfl rfl (r_assign (v := .bool false) rfl) ?_
  refine l_nil ?_
  refine c_meet (r := r) (σ := Bool) (τ := Unit) (fun s => Law_told_bool_j1 a0 a1 a3 s) (fun s t => [(0, .bool a0), (1, .int .i64 a1), (2, .bool s), (3, .int .i64 a3)]) (fun s t => []) (fun s t => True) ?_ ?_
  · refine c_seq ?_
    refine c_region ?_
    refine l_val rfl rfl rfl (r_move (v := .int .i64 a3) rfl) ?_
    refine l_val rfl rfl rfl (r_neq rfl rfl) ?_
    refine l_nil ?_
    refine c_if (b := (decide (a3 ≠ 0))) rfl (fun hb => ?_) (fun hb => ?_)
    · have H9 := cnd_t hb H; clear H
      refine c_region ?_
      refine l_val rfl rfl rfl (r_move (v := .bool false) rfl) ?_
      refine l_val rfl rfl rfl (r_assign (v := .bool false) rfl) ?_
      refine l_nil ?_
      refine c_close false () 0 [] (by exact ⟨rfl, rfl, rfl, rfl, trivial⟩) (by decide) rfl (by exact ⟨H9, trivial⟩) (Nat.lt_succ_self _)
    · have H10 := cnd_f hb H; clear H
      refine c_skip ?_
      refine c_close a2 () 0 [] (by exact ⟨rfl, rfl, rfl, rfl, trivial⟩) (by decide) rfl (by exact ⟨H10, trivial⟩) (Nat.lt_succ_self _)
  · rintro x2 _ gg H6 _
    replace H6 : Law_told_bool_j1 a0 a1 a3 x2 = some r := H6
    refine c_tidyF [(0, .bool a0), (1, .int .i64 a1), (2, .bool x2), (3, .int .i64 a3)] [] rfl rfl ?_
    refine c_seq ?_
    refine c_region ?_
    refine l_val rfl rfl rfl (r_move (v := .bool a0) rfl) ?_
    refine l_val rfl rfl rfl (r_move (v := .bool x2) rfl) ?_
    refine l_val rfl rfl rfl (r_eqlB Try.underlying4 rfl rfl) ?_
    refine l_val rfl rfl rfl (r_move (v := .bool (decide (a0 = x2))) rfl) ?_
    refine split (fun hb => ?_) (fun hb => ?_)
    · have H7 := cnd_t hb H6; clear H6
      refine l_val rfl rfl rfl (r_move (v := .int .i64 a1) rfl) ?_
      refine l_val rfl rfl rfl (r_move (v := .int .i64 a3) rfl) ?_
      refine l_val rfl rfl rfl (r_eql rfl rfl) ?_
      refine l_val rfl rfl rfl (r_pickT (v := .bool (decide (a1 = a3))) rfl rfl) ?_
      refine l_val rfl rfl rfl (r_assign (v := .bool (decide (a1 = a3))) rfl) ?_
      refine l_nil ?_
      refine c_ret ?_
      obtain rfl := Option.some.inj H7
      refine ret1 (v := .bool (decide (a1 = a3))) rfl rfl (fin rfl)
    · have H8 := cnd_f hb H6; clear H6
      refine l_passed rfl rfl rfl ?_
      refine l_passed rfl rfl rfl ?_
      refine l_passed rfl rfl rfl ?_
      refine l_val rfl rfl rfl (r_pickF (v := .bool false) rfl rfl) ?_
      refine l_val rfl rfl rfl (r_assign (v := .bool false) rfl) ?_
      refine l_nil ?_
      refine c_ret ?_
      obtain rfl := Option.some.inj H8
      refine ret1 (v := .bool false) rfl rfl (fin rfl)
theorem k51 {a0 : (List T_edit_Step)} {v0 : Value} {r : Int} {w : World} {h : Heap} (hw : Know h w noS) (f0 : FrS h 5 v0 (a0.map e_edit_Step)) (H : edit_Check a0 = some r) : Does Try.prog 51 (List.toArray [v0]) w (fun v w' => v = (.int .i64 r) ∧ Grow w w') := by
  refine enter (n := 21) Try.func51 rfl rfl rfl noS [] (Sat.nil _ _) ?_
  refine c_seq ?_
  refine c_region ?_
  refine l_val rfl rfl rfl (r_assign (v := .int .i64 0) rfl) ?_
  refine l_nil ?_
  refine c_seq ?_
  refine c_seq ?_
  refine c_region ?_
  refine l_val rfl rfl rfl (r_move (v := v0) rfl) ?_
  refine l_val rfl rfl rfl (r_lenF Try.underlying22 rfl f0 rfl) ?_
  refine l_val rfl rfl rfl (r_gtr rfl rfl) ?_
  refine l_nil ?_
  refine c_if (b := (decide (50 < (a0.length : Int)))) rfl (fun hb => ?_) (fun hb => ?_)
  · have H11 := cnd_t hb H; clear H
    refine c_seq ?_
    refine c_region ?_
    refine l_val rfl rfl rfl (r_assign (v := .int .i64 4) rfl) ?_
    refine l_nil ?_
    refine c_ret ?_
    obtain rfl := Option.some.inj H11
    refine ret1 (v := .int .i64 4) rfl rfl (fin rfl)
  · have H12 := cnd_f hb H; clear H
    refine c_skip ?_
    refine c_seq ?_
    refine c_seq ?_
    refine c_region ?_
    refine l_val rfl rfl rfl (r_move (v := v0) rfl) ?_
    refine l_val rfl rfl rfl (r_lenF Try.underlying22 rfl f0 rfl) ?_
    refine l_val rfl rfl rfl (r_move (v := .int .i64 0) rfl) ?_
    refine l_nil ?_
    refine c_block ?_
    refine c_fix (σ := Int) (τ := Unit) (fun next1 s => edit_Check_l1 a0 next1 s) (fun s t => [(9, v0), (10, .int .i64 (a0.length : Int)), (11, .int .i64 s)]) (fun s t => []) (fun s t => True) 0 () [] H12 (by exact trivial) (by exact ⟨rfl, rfl, rfl, trivial⟩) (by decide) rfl ?_
    rintro x11_2 _ m1 gg H13 _
    clear H12
    replace H13 : edit_Check_l1 a0 (it (fun next1 s => edit_Check_l1 a0 next1 s) m1) x11_2 = some r := H13
    generalize hn1 : it (fun next1 s => edit_Check_l1 a0 next1 s) m1 = next1 at H13
    refine c_tidyF [(9, v0), (10, .int .i64 (a0.length : Int)), (11, .int .i64 x11_2)] [] rfl rfl ?_
    refine c_seq ?_
    refine c_region ?_
    refine l_val rfl rfl rfl (r_lss rfl rfl) ?_
    refine l_nil ?_
    refine c_seq ?_
    refine c_if (b := (decide (x11_2 < (a0.length : Int)))) rfl (fun hb => ?_) (fun hb => ?_)
    · have H14 := cnd_t hb H13; clear H13
      refine c_skip ?_
      refine c_seq ?_
      refine c_block ?_
      refine c_seq ?_
      refine c_region ?_
      obtain ⟨t13, h_t13, H15⟩ := bnd_some H14; clear H14
      refine l_val rfl rfl rfl (r_indexF Try.underlying22 Try.sizeOf31 rfl rfl f0 h_t13) ?_
      refine l_read (fun w hF hS => run_loadGN (f := e_edit_Step) (i := x11_2) (sz := 5) (j := 0) (vs := [.int .i64 t13.Kind, .int .i64 t13.A, .int .i64 t13.B, .int .i64 t13.C, .int .i64 t13.D]) Try.isAgg31 Try.sizeOf31 rfl rfl (f0.row (hw.now hF)) h_t13 rfl) rfl rfl rfl ?_
      refine l_alloc (cs := [.int .i64 0, .int .i64 0, .int .i64 0, .int .i64 0, .int .i64 0]) Try.zeroValue31 rfl rfl rfl (fun b1 => ?_)
      refine l_store (i := 0) (vs := [.int .i64 t13.Kind, .int .i64 t13.A, .int .i64 t13.B, .int .i64 t13.C, .int .i64 t13.D]) (cs' := [.int .i64 t13.Kind, .int .i64 t13.A, .int .i64 t13.B, .int .i64 t13.C, .int .i64 t13.D]) Try.sizeOf31 rfl rfl rfl rfl rfl rfl rfl rfl rfl ?_
      refine l_nil ?_
      refine c_seq ?_
      refine c_region ?_
      refine l_loadN (i := 0) (vs := [.int .i64 t13.Kind, .int .i64 t13.A, .int .i64 t13.B, .int .i64 t13.C, .int .i64 t13.D]) Try.isAgg31 Try.sizeOf31 rfl rfl rfl rfl rfl ?_
      obtain ⟨t16, h_t16, H16⟩ := bnd_some H15; clear H15
      refine l_call (k54 h_t16) Try.call54 rfl rfl rfl ?_
      refine l_val rfl rfl rfl (r_assign (v := .int .i64 t16) rfl) ?_
      refine l_nil ?_
      refine c_seq ?_
      refine c_region ?_
      refine l_val rfl rfl rfl (r_move (v := .int .i64 t16) rfl) ?_
      refine l_val rfl rfl rfl (r_neq rfl rfl) ?_
      refine l_nil ?_
      refine c_if (b := (decide (t16 ≠ 0))) rfl (fun hb => ?_) (fun hb => ?_)
      · have H17 := cnd_t hb H16; clear H16
        refine c_seq ?_
        refine c_region ?_
        refine l_val rfl rfl rfl (r_move (v := .int .i64 t16) rfl) ?_
        refine l_val rfl rfl rfl (r_assign (v := .int .i64 t16) rfl) ?_
        refine l_nil ?_
        refine c_ret ?_
        obtain rfl := Option.some.inj H17
        refine ret1 (v := .int .i64 t16) rfl rfl (fin rfl)
      · have H18 := cnd_f hb H16; clear H16
        refine c_skip ?_
        refine c_region ?_
        obtain ⟨t20, h_t20, H19⟩ := bnd_some H18; clear H18
        refine l_val rfl rfl rfl (r_addG rfl rfl h_t20) ?_
        refine l_val rfl rfl rfl (r_move (v := .int .i64 t20) rfl) ?_
        refine l_nil ?_
        refine c_close t20 () m1 [] (by exact ⟨rfl, rfl, rfl, trivial⟩) (by decide) rfl (by exact ⟨(by subst hn1; exact H19), trivial⟩) (Nat.lt_succ_self _)
    · have H20 := cnd_f hb H13; clear H13
      refine c_exit ?_
      refine c_seq ?_
      refine c_region ?_
      refine l_val rfl rfl rfl (r_assign (v := .int .i64 0) rfl) ?_
      refine l_nil ?_
      refine c_ret ?_
      obtain rfl := Option.some.inj H20
      refine ret1 (v := .int .i64 0) rfl rfl (fin rfl)
theorem k65 {a : Option Addr} {n c : Nat} (hc : n ≤ c) : Ret Try.prog 65 [.slice a n c] (.slice (cutA a 0 n 5) n n) := by
  refine enterRet (n := 9) Try.func65 rfl rfl rfl (fun wd => ?_)
  refine c_seq ?_
  refine c_region ?_
  refine l_val rfl rfl rfl (r_assign (v := .slice none 0 0) rfl) ?_
  refine l_nil ?_
  refine c_seq ?_
  refine c_region ?_
  refine l_val rfl rfl rfl (r_move (v := .slice a n c) rfl) ?_
  refine l_val rfl rfl rfl (r_move (v := .slice a n c) rfl) ?_
  refine l_val rfl rfl rfl (r_len Try.underlying22 rfl) ?_
  refine l_val rfl rfl rfl (r_move (v := .slice a n c) rfl) ?_
  refine l_val rfl rfl rfl (r_len Try.underlying22 rfl) ?_
  refine l_val rfl rfl rfl (r_sliceHM (a := a) (m := n) (c := c) (h := (n : Int)) (q := (n : Int)) Try.underlying22 Try.sizeOf31 rfl rfl rfl (Int.natCast_nonneg n) (Int.le_refl _) (Int.ofNat_le.2 hc)) ?_
  refine l_val rfl rfl rfl (r_assign (v := .slice (cutA a 0 n 5) n n) rfl) ?_
  refine l_nil ?_
  refine c_ret ?_
  exact ret1 (v := .slice (cutA a 0 n 5) n n) rfl rfl (fin rfl)

theorem k61 {a0 : (List T_edit_Step)} {v0 : Value} {r : (List T_edit_Step) × (List T_edit_Step)} {w : World} {h : Heap} (hw : Know h w noS) (f0 : FrS h 5 v0 (a0.map e_edit_Step)) (H : edit_apart a0 = some r) : Does Try.prog 61 (List.toArray [v0]) w (fun v w' => ∃ x : (Option Addr × Nat) × (Option Addr × Nat), v = (.tuple #[.slice x.1.1 r.1.length x.1.2, .slice x.2.1 r.2.length x.2.2]) ∧ Turn w w' noS (bothC (roV 5 (.slice x.1.1 r.1.length x.1.2) r.1.length (r.1.map e_edit_Step)) (roV 5 (.slice x.2.1 r.2.length x.2.2) r.2.length (r.2.map e_edit_Step)))) := by
  refine enter (n := 27) Try.func61 rfl rfl rfl noS [] (Sat.nil _ _) ?_
  refine c_seq ?_
  refine c_region ?_
  refine l_val rfl rfl rfl (r_assign (v := .slice none 0 0) rfl) ?_
  refine l_val rfl rfl rfl (r_assign (v := .slice none 0 0) rfl) ?_
  refine l_nil ?_
  refine c_meet (r := r) (σ := (List T_edit_Step) × (List T_edit_Step)) (τ := (Option Addr × Nat) × (Option Addr × Nat)) (fun s => edit_apart_j1 s.1 s.2) (fun s t => [(2, .slice t.1.1 s.1.length t.1.2), (3, .slice t.2.1 s.2.length t.2.2)]) (fun s t => [rowV 31 5 (.slice t.1.1 s.1.length t.1.2) s.1.length (s.1.map e_edit_Step), rowV 31 5 (.slice t.2.1 s.2.length t.2.2) s.2.length (s.2.map e_edit_Step)]) (fun s t => True) ?_ ?_
  · refine c_seq ?_
    refine c_region ?_
    refine l_val rfl rfl rfl (r_move (v := v0) rfl) ?_
    refine l_val rfl rfl rfl (r_lenF Try.underlying22 rfl f0 rfl) ?_
    refine l_val rfl rfl rfl (r_move (v := .int .i64 0) rfl) ?_
    refine l_nil ?_
    refine c_block ?_
    refine c_nilRow 31 5 ?_
    refine c_nilRow 31 5 ?_
    refine c_fix (σ := Int × (List T_edit_Step) × (List T_edit_Step)) (τ := (Option Addr × Nat) × (Option Addr × Nat)) (fun next2 s => edit_apart_l2 a0 next2 s.1 s.2.1 s.2.2) (fun s t => [(2, .slice t.1.1 s.2.1.length t.1.2), (3, .slice t.2.1 s.2.2.length t.2.2), (6, v0), (7, .int .i64 (a0.length : Int)), (8, .int .i64 s.1)]) (fun s t => [rowV 31 5 (.slice t.1.1 s.2.1.length t.1.2) s.2.1.length (s.2.1.map e_edit_Step), rowV 31 5 (.slice t.2.1 s.2.2.length t.2.2) s.2.2.length (s.2.2.map e_edit_Step)]) (fun s t => True) (0, ([] : List T_edit_Step), ([] : List T_edit_Step)) (((none, 0) : Option Addr × Nat), ((none, 0) : Option Addr × Nat)) [0, 1] H (by exact trivial) (by exact ⟨rfl, rfl, rfl, rfl, rfl, trivial⟩) (by decide) rfl ?_
    rintro ⟨x8_2, l_5, l_6⟩ ⟨p_3, p_4⟩ m2 gg H26 _
    clear H
    replace H26 : edit_apart_l2 a0 (it (fun next2 s => edit_apart_l2 a0 next2 s.1 s.2.1 s.2.2) m2) x8_2 l_5 l_6 = some r := H26
    generalize hn2 : it (fun next2 s => edit_apart_l2 a0 next2 s.1 s.2.1 s.2.2) m2 = next2 at H26
    refine c_tidyF [(2, .slice p_3.1 l_5.length p_3.2), (3, .slice p_4.1 l_6.length p_4.2), (6, v0), (7, .int .i64 (a0.length : Int)), (8, .int .i64 x8_2)] [rowV 31 5 (.slice p_3.1 l_5.length p_3.2) l_5.length (l_5.map e_edit_Step), rowV 31 5 (.slice p_4.1 l_6.length p_4.2) l_6.length (l_6.map e_edit_Step)] rfl rfl ?_
    refine c_seq ?_
    refine c_region ?_
    refine l_val rfl rfl rfl (r_lss rfl rfl) ?_
    refine l_nil ?_
    refine c_seq ?_
    refine c_if (b := (decide (x8_2 < (a0.length : Int)))) rfl (fun hb => ?_) (fun hb => ?_)
    · have H27 := cnd_t hb H26; clear H26
      refine c_skip ?_
      refine c_meet (r := r) (σ := (List T_edit_Step) × (List T_edit_Step)) (τ := (Option Addr × Nat) × (Option Addr × Nat)) (fun s => edit_apart_j3 x8_2 next2 s.1 s.2) (fun s t => [(2, .slice t.1.1 s.1.length t.1.2), (3, .slice t.2.1 s.2.length t.2.2), (6, v0), (7, .int .i64 (a0.length : Int)), (8, .int .i64 x8_2)]) (fun s t => [rowV 31 5 (.slice t.1.1 s.1.length t.1.2) s.1.length (s.1.map e_edit_Step), rowV 31 5 (.slice t.2.1 s.2.length t.2.2) s.2.length (s.2.map e_edit_Step)]) (fun s t => True) ?_ ?_
      · refine c_block ?_
        refine c_seq ?_
        refine c_region ?_
        obtain ⟨t10, h_t10, H30⟩ := bnd_some H27; clear H27
        refine l_val rfl rfl rfl (r_indexF Try.underlying22 Try.sizeOf31 rfl rfl f0 h_t10) ?_
        refine l_read (fun w hF hS => run_loadGN (f := e_edit_Step) (i := x8_2) (sz := 5) (j := 0) (vs := [.int .i64 t10.Kind, .int .i64 t10.A, .int .i64 t10.B, .int .i64 t10.C, .int .i64 t10.D]) Try.isAgg31 Try.sizeOf31 rfl rfl (f0.row (hw.now hF)) h_t10 rfl) rfl rfl rfl ?_
        refine l_alloc (cs := [.int .i64 0, .int .i64 0, .int .i64 0, .int .i64 0, .int .i64 0]) Try.zeroValue31 rfl rfl rfl (fun b6 => ?_)
        refine l_store (i := 2) (vs := [.int .i64 t10.Kind, .int .i64 t10.A, .int .i64 t10.B, .int .i64 t10.C, .int .i64 t10.D]) (cs' := [.int .i64 t10.Kind, .int .i64 t10.A, .int .i64 t10.B, .int .i64 t10.C, .int .i64 t10.D]) Try.sizeOf31 rfl rfl rfl rfl rfl rfl rfl rfl rfl ?_
        refine l_nil ?_
        refine c_seq ?_
        refine c_region ?_
        refine l_loadN (i := 2) (vs := [.int .i64 t10.Kind, .int .i64 t10.A, .int .i64 t10.B, .int .i64 t10.C, .int .i64 t10.D]) Try.isAgg31 Try.sizeOf31 rfl rfl rfl rfl rfl ?_
        obtain ⟨t13, h_t13, H31⟩ := bnd_some H30; clear H30
        refine l_call (k114 h_t13) Try.call114 rfl rfl rfl ?_
        refine l_nil ?_
        refine c_if (b := t13) rfl (fun hb => ?_) (fun hb => ?_)
        · have H32 := cnd_t hb H31; clear H31
          refine c_region ?_
          refine l_val rfl rfl rfl (r_move (v := .slice p_3.1 l_5.length p_3.2) rfl) ?_
          refine l_loadN (i := 2) (vs := [.int .i64 t10.Kind, .int .i64 t10.A, .int .i64 t10.B, .int .i64 t10.C, .int .i64 t10.D]) Try.isAgg31 Try.sizeOf31 rfl rfl rfl rfl rfl ?_
          refine l_buildSlice (vs := [.agg #[.int .i64 t10.Kind, .int .i64 t10.A, .int .i64 t10.B, .int .i64 t10.C, .int .i64 t10.D]]) (cs := [.int .i64 t10.Kind, .int .i64 t10.A, .int .i64 t10.B, .int .i64 t10.C, .int .i64 t10.D]) Try.underlying22 Try.sizeOf31 Try.zeroValue31 rfl rfl rfl rfl rfl rfl rfl (fun b7 => ?_)
          obtain ⟨l17, h_l17, H33⟩ := bnd_some H32; clear H32
          refine l_turn (turns_appG (i := 0) (hn := rfl) (rds := [3]) (p := p_3) (sz := 5) (by_ := 40) (f := e_edit_Step) (ys := l_5) (ls := ([t10] : List T_edit_Step)) (V := .slice (some ⟨b7, 0, none⟩) 1 1) Try.underlying22 (info_of Try.typeInfo31) rfl rfl rfl rfl rfl rfl rfl rfl rfl rfl (fun w L' hF hS hi => row_box (i := 3) hS ((hi 3 (by simp)).trans rfl) rfl rfl) (fun _ => rfl) (fun _ => rfl) h_l17) rfl rfl rfl (fun p_7 => ?_)
          refine l_val rfl rfl rfl (r_assign (v := .slice p_7.1 l17.length p_7.2) rfl) ?_
          refine l_nil ?_
          refine c_close (l17, l_6) (p_7, p_4) 0 [0, 1] (by exact ⟨rfl, rfl, rfl, rfl, rfl, trivial⟩) (by decide) rfl (by exact ⟨H33, trivial⟩) (Nat.lt_succ_self _)
        · have H34 := cnd_f hb H31; clear H31
          refine c_region ?_
          refine l_val rfl rfl rfl (r_move (v := .slice p_4.1 l_6.length p_4.2) rfl) ?_
          refine l_loadN (i := 2) (vs := [.int .i64 t10.Kind, .int .i64 t10.A, .int .i64 t10.B, .int .i64 t10.C, .int .i64 t10.D]) Try.isAgg31 Try.sizeOf31 rfl rfl rfl rfl rfl ?_
          refine l_buildSlice (vs := [.agg #[.int .i64 t10.Kind, .int .i64 t10.A, .int .i64 t10.B, .int .i64 t10.C, .int .i64 t10.D]]) (cs := [.int .i64 t10.Kind, .int .i64 t10.A, .int .i64 t10.B, .int .i64 t10.C, .int .i64 t10.D]) Try.underlying22 Try.sizeOf31 Try.zeroValue31 rfl rfl rfl rfl rfl rfl rfl (fun b8 => ?_)
          obtain ⟨l21, h_l21, H35⟩ := bnd_some H34; clear H34
          refine l_turn (turns_appG (i := 1) (hn := rfl) (rds := [3]) (p := p_4) (sz := 5) (by_ := 40) (f := e_edit_Step) (ys := l_6) (ls := ([t10] : List T_edit_Step)) (V := .slice (some ⟨b8, 0, none⟩) 1 1) Try.underlying22 (info_of Try.typeInfo31) rfl rfl rfl rfl rfl rfl rfl rfl rfl rfl (fun w L' hF hS hi => row_box (i := 3) hS ((hi 3 (by simp)).trans rfl) rfl rfl) (fun _ => rfl) (fun _ => rfl) h_l21) rfl rfl rfl (fun p_8 => ?_)
          refine l_val rfl rfl rfl (r_assign (v := .slice p_8.1 l21.length p_8.2) rfl) ?_
          refine l_nil ?_
          refine c_close (l_5, l21) (p_3, p_8) 0 [0, 1] (by exact ⟨rfl, rfl, rfl, rfl, rfl, trivial⟩) (by decide) rfl (by exact ⟨H35, trivial⟩) (Nat.lt_succ_self _)
      · rintro ⟨l_7, l_8⟩ ⟨p_5, p_6⟩ gg H28 _
        replace H28 : edit_apart_j3 x8_2 next2 l_7 l_8 = some r := H28
        refine c_tidyF [(2, .slice p_5.1 l_7.length p_5.2), (3, .slice p_6.1 l_8.length p_6.2), (6, v0), (7, .int .i64 (a0.length : Int)), (8, .int .i64 x8_2)] [rowV 31 5 (.slice p_5.1 l_7.length p_5.2) l_7.length (l_7.map e_edit_Step), rowV 31 5 (.slice p_6.1 l_8.length p_6.2) l_8.length (l_8.map e_edit_Step)] rfl rfl ?_
        refine c_region ?_
        obtain ⟨t22, h_t22, H29⟩ := bnd_some H28; clear H28
        refine l_val rfl rfl rfl (r_addG rfl rfl h_t22) ?_
        refine l_val rfl rfl rfl (r_move (v := .int .i64 t22) rfl) ?_
        refine l_nil ?_
        refine c_close (t22, l_7, l_8) (p_5, p_6) m2 [0, 1] (by exact ⟨rfl, rfl, rfl, rfl, rfl, trivial⟩) (by decide) rfl (by exact ⟨(by subst hn2; exact H29), trivial⟩) (Nat.lt_succ_self _)
    · have H36 := cnd_f hb H26; clear H26
      refine c_exit ?_
      refine c_close (l_5, l_6) (p_3, p_4) 0 [0, 1] (by exact ⟨rfl, rfl, trivial⟩) (by decide) rfl (by exact ⟨H36, trivial⟩) (Nat.lt_succ_self _)
  · rintro ⟨l, l_2⟩ ⟨p, p_2⟩ gg H25 _
    replace H25 : edit_apart_j1 l l_2 = some r := H25
    refine c_tidyF [(2, .slice p.1 l.length p.2), (3, .slice p_2.1 l_2.length p_2.2)] [rowV 31 5 (.slice p.1 l.length p.2) l.length (l.map e_edit_Step), rowV 31 5 (.slice p_2.1 l_2.length p_2.2) l_2.length (l_2.map e_edit_Step)] rfl rfl ?_
    refine c_seq ?_
    refine c_region ?_
    refine l_val rfl rfl rfl (r_move (v := .slice p.1 l.length p.2) rfl) ?_
    refine l_callG (fun w hF hS => k65 (capOf (i := 0) hS rfl) w) Try.call65 rfl rfl rfl ?_
    refine l_val rfl rfl rfl (r_move (v := .slice p_2.1 l_2.length p_2.2) rfl) ?_
    refine l_callG (fun w hF hS => k65 (capOf (i := 1) hS rfl) w) Try.call65 rfl rfl rfl ?_
    refine l_val rfl rfl rfl (r_assign (v := .slice (cutA p.1 0 l.length 5) l.length l.length) rfl) ?_
    refine l_val rfl rfl rfl (r_assign (v := .slice (cutA p_2.1 0 l_2.length 5) l_2.length l_2.length) rfl) ?_
    refine l_nil ?_
    refine c_ret ?_
    obtain rfl := Option.some.inj H25
    refine c_imp 0 rfl (imp_clipO _ _ _ _ _ _) ?_
    refine c_imp 1 rfl (imp_clipO _ _ _ _ _ _) ?_
    refine c_both 0 1 rfl rfl (by decide) ?_
    refine ret2 (v1 := .slice (cutA p.1 0 l.length 5) l.length l.length) (v2 := .slice (cutA p_2.1 0 l_2.length 5) l_2.length l_2.length) rfl rfl rfl (finX ((cutA p.1 0 l.length 5, l.length), (cutA p_2.1 0 l_2.length 5, l_2.length)) (i := 0) rfl rfl (Imp.refl _))
theorem k26 {a0 : (List T_edit_Step)} {v0 : Value} {r : (List T_edit_Step) × (List T_edit_Step) × Int} {w : World} {h : Heap} (hw : Know h w noS) (f0 : FrS h 5 v0 (a0.map e_edit_Step)) (H : edit_Apart a0 = some r) : Does Try.prog 26 (List.toArray [v0]) w (fun v w' => ∃ x : (Option Addr × Nat) × (Option Addr × Nat), v = (.tuple #[.slice x.1.1 r.1.length x.1.2, .slice x.2.1 r.2.1.length x.2.2, .int .i64 r.2.2]) ∧ Turn w w' noS (bothC (roV 5 (.slice x.1.1 r.1.length x.1.2) r.1.length (r.1.map e_edit_Step)) (roV 5 (.slice x.2.1 r.2.1.length x.2.2) r.2.1.length (r.2.1.map e_edit_Step)))) := by
  refine enter (n := 18) Try.func26 rfl rfl rfl noS [] (Sat.nil _ _) ?_
  refine c_seq ?_
  refine c_region ?_
  refine l_val rfl rfl rfl (r_assign (v := .slice none 0 0) rfl) ?_
  refine l_val rfl rfl rfl (r_assign (v := .slice none 0 0) rfl) ?_
  refine l_val rfl rfl rfl (r_assign (v := .int .i64 0) rfl) ?_
  refine l_nil ?_
  refine c_seq ?_
  refine c_seq ?_
  refine c_region ?_
  refine l_val rfl rfl rfl (r_move (v := v0) rfl) ?_
  obtain ⟨t7, h_t7, H9⟩ := bnd_some H; clear H
  refine l_callG (fun w hF hS => k51 (know_all w) (f0.mono (hw.now hF)) h_t7) Try.call51 rfl rfl rfl ?_
  refine l_val rfl rfl rfl (r_assign (v := .int .i64 t7) rfl) ?_
  refine l_nil ?_
  refine c_seq ?_
  refine c_region ?_
  refine l_val rfl rfl rfl (r_move (v := .int .i64 t7) rfl) ?_
  refine l_val rfl rfl rfl (r_neq rfl rfl) ?_
  refine l_nil ?_
  refine c_if (b := (decide (t7 ≠ 0))) rfl (fun hb => ?_) (fun hb => ?_)
  · have H10 := cnd_t hb H9; clear H9
    refine c_seq ?_
    refine c_region ?_
    refine l_val rfl rfl rfl (r_move (v := .int .i64 t7) rfl) ?_
    refine l_val rfl rfl rfl (r_assign (v := .slice none 0 0) rfl) ?_
    refine l_val rfl rfl rfl (r_assign (v := .slice none 0 0) rfl) ?_
    refine l_val rfl rfl rfl (r_assign (v := .int .i64 t7) rfl) ?_
    refine l_nil ?_
    refine c_ret ?_
    refine c_nilRow 31 5 ?_
    refine c_nilRow 31 5 ?_
    obtain rfl := Option.some.inj H10
    refine c_imp 0 rfl (row_ro _ _ _ _ _) ?_
    refine c_imp 1 rfl (row_ro _ _ _ _ _) ?_
    refine c_both 0 1 rfl rfl (by decide) ?_
    refine ret3 (v1 := .slice ((none, 0) : Option Addr × Nat).1 ([] : List T_edit_Step).length ((none, 0) : Option Addr × Nat).2) (v2 := .slice ((none, 0) : Option Addr × Nat).1 ([] : List T_edit_Step).length ((none, 0) : Option Addr × Nat).2) (v3 := .int .i64 t7) rfl rfl rfl rfl (finX (((none, 0) : Option Addr × Nat), ((none, 0) : Option Addr × Nat)) (i := 0) rfl rfl (Imp.refl _))
  · have H11 := cnd_f hb H9; clear H9
    refine c_skip ?_
    refine c_seq ?_
    refine c_region ?_
    refine l_val rfl rfl rfl (r_move (v := v0) rfl) ?_
    obtain ⟨t13, h_t13, H12⟩ := bnd_some H11; clear H11
    refine l_make (makes_call (rds := []) (G := fun x : (Option Addr × Nat) × (Option Addr × Nat) => .tuple #[.slice x.1.1 t13.1.length x.1.2, .slice x.2.1 t13.2.length x.2.2]) (C := fun x : (Option Addr × Nat) × (Option Addr × Nat) => bothC (roV 5 (.slice x.1.1 t13.1.length x.1.2) t13.1.length (t13.1.map e_edit_Step)) (roV 5 (.slice x.2.1 t13.2.length x.2.2) t13.2.length (t13.2.map e_edit_Step))) (fun w L' hF hS hi => k61 (know_all w) (f0.mono (hw.now hF)) h_t13) Try.call61 rfl) rfl rfl rfl (fun ⟨p, p_2⟩ => ?_)
    refine c_split 0 rfl ?_
    refine l_val rfl rfl rfl (r_move (v := .tuple #[.slice p.1 t13.1.length p.2, .slice p_2.1 t13.2.length p_2.2]) rfl) ?_
    refine l_val rfl rfl rfl (r_extract (v := .slice p.1 t13.1.length p.2) rfl rfl) ?_
    refine l_val rfl rfl rfl (r_extract (v := .slice p_2.1 t13.2.length p_2.2) rfl rfl) ?_
    refine l_val rfl rfl rfl (r_assign (v := .slice p.1 t13.1.length p.2) rfl) ?_
    refine l_val rfl rfl rfl (r_assign (v := .slice p_2.1 t13.2.length p_2.2) rfl) ?_
    refine l_nil ?_
    refine c_seq ?_
    refine c_region ?_
    refine l_val rfl rfl rfl (r_move (v := .slice p.1 t13.1.length p.2) rfl) ?_
    refine l_val rfl rfl rfl (r_move (v := .slice p_2.1 t13.2.length p_2.2) rfl) ?_
    refine l_val rfl rfl rfl (r_assign (v := .slice p.1 t13.1.length p.2) rfl) ?_
    refine l_val rfl rfl rfl (r_assign (v := .slice p_2.1 t13.2.length p_2.2) rfl) ?_
    refine l_val rfl rfl rfl (r_assign (v := .int .i64 0) rfl) ?_
    refine l_nil ?_
    refine c_ret ?_
    obtain rfl := Option.some.inj H12
    refine c_both 0 1 rfl rfl (by decide) ?_
    refine ret3 (v1 := .slice p.1 t13.1.length p.2) (v2 := .slice p_2.1 t13.2.length p_2.2) (v3 := .int .i64 0) rfl rfl rfl rfl (finX (p, p_2) (i := 0) rfl rfl (Imp.refl _))
theorem k27 {a0 : (List T_edit_Step)} {v0 : Value} {r : (List T_edit_Step) × (List T_edit_Step)} {w : World} {h : Heap} (hw : Know h w noS) (f0 : FrS h 5 v0 (a0.map e_edit_Step)) (H : R_Parted a0 = some r) : Does Try.prog 27 (List.toArray [v0]) w (fun v w' => ∃ x : (Option Addr × Nat) × (Option Addr × Nat), v = (.tuple #[.slice x.1.1 r.1.length x.1.2, .slice x.2.1 r.2.length x.2.2]) ∧ Turn w w' noS (bothC (rowV 31 5 (.slice x.1.1 r.1.length x.1.2) r.1.length (r.1.map e_edit_Step)) (rowV 31 5 (.slice x.2.1 r.2.length x.2.2) r.2.length (r.2.map e_edit_Step)))) := by
  refine enter (n := 25) Try.func27 rfl rfl rfl noS [] (Sat.nil _ _) ?_
  refine c_seq ?_
  refine c_region ?_
  refine l_val rfl rfl rfl (r_assign (v := .slice none 0 0) rfl) ?_
  refine l_val rfl rfl rfl (r_assign (v := .slice none 0 0) rfl) ?_
  refine l_nil ?_
  refine c_meet (r := r) (σ := (List T_edit_Step) × (List T_edit_Step)) (τ := (Option Addr × Nat) × (Option Addr × Nat)) (fun s => R_Parted_j1 s.1 s.2) (fun s t => [(2, .slice t.1.1 s.1.length t.1.2), (3, .slice t.2.1 s.2.length t.2.2)]) (fun s t => [rowV 31 5 (.slice t.1.1 s.1.length t.1.2) s.1.length (s.1.map e_edit_Step), rowV 31 5 (.slice t.2.1 s.2.length t.2.2) s.2.length (s.2.map e_edit_Step)]) (fun s t => True) ?_ ?_
  · refine c_seq ?_
    refine c_region ?_
    refine l_val rfl rfl rfl (r_move (v := v0) rfl) ?_
    refine l_val rfl rfl rfl (r_lenF Try.underlying22 rfl f0 rfl) ?_
    refine l_val rfl rfl rfl (r_move (v := .int .i64 0) rfl) ?_
    refine l_nil ?_
    refine c_block ?_
    refine c_nilRow 31 5 ?_
    refine c_nilRow 31 5 ?_
    refine c_fix (σ := Int × (List T_edit_Step) × (List T_edit_Step)) (τ := (Option Addr × Nat) × (Option Addr × Nat)) (fun next2 s => R_Parted_l2 a0 next2 s.1 s.2.1 s.2.2) (fun s t => [(2, .slice t.1.1 s.2.1.length t.1.2), (3, .slice t.2.1 s.2.2.length t.2.2), (6, v0), (7, .int .i64 (a0.length : Int)), (8, .int .i64 s.1)]) (fun s t => [rowV 31 5 (.slice t.1.1 s.2.1.length t.1.2) s.2.1.length (s.2.1.map e_edit_Step), rowV 31 5 (.slice t.2.1 s.2.2.length t.2.2) s.2.2.length (s.2.2.map e_edit_Step)]) (fun s t => True) (0, ([] : List T_edit_Step), ([] : List T_edit_Step)) (((none, 0) : Option Addr × Nat), ((none, 0) : Option Addr × Nat)) [0, 1] H (by exact trivial) (by exact ⟨rfl, rfl, rfl, rfl, rfl, trivial⟩) (by decide) rfl ?_
    rintro ⟨x8_2, l_5, l_6⟩ ⟨p_3, p_4⟩ m2 gg H14 _
    clear H
    replace H14 : R_Parted_l2 a0 (it (fun next2 s => R_Parted_l2 a0 next2 s.1 s.2.1 s.2.2) m2) x8_2 l_5 l_6 = some r := H14
    generalize hn2 : it (fun next2 s => R_Parted_l2 a0 next2 s.1 s.2.1 s.2.2) m2 = next2 at H14
    refine c_tidyF [(2, .slice p_3.1 l_5.length p_3.2), (3, .slice p_4.1 l_6.length p_4.2), (6, v0), (7, .int .i64 (a0.length : Int)), (8, .int .i64 x8_2)] [rowV 31 5 (.slice p_3.1 l_5.length p_3.2) l_5.length (l_5.map e_edit_Step), rowV 31 5 (.slice p_4.1 l_6.length p_4.2) l_6.length (l_6.map e_edit_Step)] rfl rfl ?_
    refine c_seq ?_
    refine c_region ?_
    refine l_val rfl rfl rfl (r_lss rfl rfl) ?_
    refine l_nil ?_
    refine c_seq ?_
    refine c_if (b := (decide (x8_2 < (a0.length : Int)))) rfl (fun hb => ?_) (fun hb => ?_)
    · have H15 := cnd_t hb H14; clear H14
      refine c_skip ?_
      refine c_meet (r := r) (σ := (List T_edit_Step) × (List T_edit_Step)) (τ := (Option Addr × Nat) × (Option Addr × Nat)) (fun s => R_Parted_j3 x8_2 next2 s.1 s.2) (fun s t => [(2, .slice t.1.1 s.1.length t.1.2), (3, .slice t.2.1 s.2.length t.2.2), (6, v0), (7, .int .i64 (a0.length : Int)), (8, .int .i64 x8_2)]) (fun s t => [rowV 31 5 (.slice t.1.1 s.1.length t.1.2) s.1.length (s.1.map e_edit_Step), rowV 31 5 (.slice t.2.1 s.2.length t.2.2) s.2.length (s.2.map e_edit_Step)]) (fun s t => True) ?_ ?_
      · refine c_block ?_
        refine c_seq ?_
        refine c_region ?_
        obtain ⟨t10, h_t10, H18⟩ := bnd_some H15; clear H15
        refine l_val rfl rfl rfl (r_indexF Try.underlying22 Try.sizeOf31 rfl rfl f0 h_t10) ?_
        refine l_read (fun w hF hS => run_loadGN (f := e_edit_Step) (i := x8_2) (sz := 5) (j := 0) (vs := [.int .i64 t10.Kind, .int .i64 t10.A, .int .i64 t10.B, .int .i64 t10.C, .int .i64 t10.D]) Try.isAgg31 Try.sizeOf31 rfl rfl (f0.row (hw.now hF)) h_t10 rfl) rfl rfl rfl ?_
        refine l_alloc (cs := [.int .i64 0, .int .i64 0, .int .i64 0, .int .i64 0, .int .i64 0]) Try.zeroValue31 rfl rfl rfl (fun b3 => ?_)
        refine l_store (i := 2) (vs := [.int .i64 t10.Kind, .int .i64 t10.A, .int .i64 t10.B, .int .i64 t10.C, .int .i64 t10.D]) (cs' := [.int .i64 t10.Kind, .int .i64 t10.A, .int .i64 t10.B, .int .i64 t10.C, .int .i64 t10.D]) Try.sizeOf31 rfl rfl rfl rfl rfl rfl rfl rfl rfl ?_
        refine l_nil ?_
        refine c_seq ?_
        refine c_region ?_
        refine l_loadN (i := 2) (vs := [.int .i64 t10.Kind, .int .i64 t10.A, .int .i64 t10.B, .int .i64 t10.C, .int .i64 t10.D]) Try.isAgg31 Try.sizeOf31 rfl rfl rfl rfl rfl ?_
        obtain ⟨t13, h_t13, H19⟩ := bnd_some H18; clear H18
        refine l_call (k62 h_t13) Try.call62 rfl rfl rfl ?_
        refine l_nil ?_
        refine c_if (b := t13) rfl (fun hb => ?_) (fun hb => ?_)
        · have H20 := cnd_t hb H19; clear H19
          refine c_region ?_
          refine l_val rfl rfl rfl (r_move (v := .slice p_3.1 l_5.length p_3.2) rfl) ?_
          refine l_loadN (i := 2) (vs := [.int .i64 t10.Kind, .int .i64 t10.A, .int .i64 t10.B, .int .i64 t10.C, .int .i64 t10.D]) Try.isAgg31 Try.sizeOf31 rfl rfl rfl rfl rfl ?_
          refine l_buildSlice (vs := [.agg #[.int .i64 t10.Kind, .int .i64 t10.A, .int .i64 t10.B, .int .i64 t10.C, .int .i64 t10.D]]) (cs := [.int .i64 t10.Kind, .int .i64 t10.A, .int .i64 t10.B, .int .i64 t10.C, .int .i64 t10.D]) Try.underlying22 Try.sizeOf31 Try.zeroValue31 rfl rfl rfl rfl rfl rfl rfl (fun b4 => ?_)
          obtain ⟨l17, h_l17, H21⟩ := bnd_some H20; clear H20
          refine l_turn (turns_appG (i := 0) (hn := rfl) (rds := [3]) (p := p_3) (sz := 5) (by_ := 40) (f := e_edit_Step) (ys := l_5) (ls := ([t10] : List T_edit_Step)) (V := .slice (some ⟨b4, 0, none⟩) 1 1) Try.underlying22 (info_of Try.typeInfo31) rfl rfl rfl rfl rfl rfl rfl rfl rfl rfl (fun w L' hF hS hi => row_box (i := 3) hS ((hi 3 (by simp)).trans rfl) rfl rfl) (fun _ => rfl) (fun _ => rfl) h_l17) rfl rfl rfl (fun p_7 => ?_)
          refine l_val rfl rfl rfl (r_assign (v := .slice p_7.1 l17.length p_7.2) rfl) ?_
          refine l_nil ?_
          refine c_close (l17, l_6) (p_7, p_4) 0 [0, 1] (by exact ⟨rfl, rfl, rfl, rfl, rfl, trivial⟩) (by decide) rfl (by exact ⟨H21, trivial⟩) (Nat.lt_succ_self _)
        · have H22 := cnd_f hb H19; clear H19
          refine c_region ?_
          refine l_val rfl rfl rfl (r_move (v := .slice p_4.1 l_6.length p_4.2) rfl) ?_
          refine l_loadN (i := 2) (vs := [.int .i64 t10.Kind, .int .i64 t10.A, .int .i64 t10.B, .int .i64 t10.C, .int .i64 t10.D]) Try.isAgg31 Try.sizeOf31 rfl rfl rfl rfl rfl ?_
          refine l_buildSlice (vs := [.agg #[.int .i64 t10.Kind, .int .i64 t10.A, .int .i64 t10.B, .int .i64 t10.C, .int .i64 t10.D]]) (cs := [.int .i64 t10.Kind, .int .i64 t10.A, .int .i64 t10.B, .int .i64 t10.C, .int .i64 t10.D]) Try.underlying22 Try.sizeOf31 Try.zeroValue31 rfl rfl rfl rfl rfl rfl rfl (fun b5 => ?_)
          obtain ⟨l21, h_l21, H23⟩ := bnd_some H22; clear H22
          refine l_turn (turns_appG (i := 1) (hn := rfl) (rds := [3]) (p := p_4) (sz := 5) (by_ := 40) (f := e_edit_Step) (ys := l_6) (ls := ([t10] : List T_edit_Step)) (V := .slice (some ⟨b5, 0, none⟩) 1 1) Try.underlying22 (info_of Try.typeInfo31) rfl rfl rfl rfl rfl rfl rfl rfl rfl rfl (fun w L' hF hS hi => row_box (i := 3) hS ((hi 3 (by simp)).trans rfl) rfl rfl) (fun _ => rfl) (fun _ => rfl) h_l21) rfl rfl rfl (fun p_8 => ?_)
          refine l_val rfl rfl rfl (r_assign (v := .slice p_8.1 l21.length p_8.2) rfl) ?_
          refine l_nil ?_
          refine c_close (l_5, l21) (p_3, p_8) 0 [0, 1] (by exact ⟨rfl, rfl, rfl, rfl, rfl, trivial⟩) (by decide) rfl (by exact ⟨H23, trivial⟩) (Nat.lt_succ_self _)
      · rintro ⟨l_7, l_8⟩ ⟨p_5, p_6⟩ gg H16 _
        replace H16 : R_Parted_j3 x8_2 next2 l_7 l_8 = some r := H16
        refine c_tidyF [(2, .slice p_5.1 l_7.length p_5.2), (3, .slice p_6.1 l_8.length p_6.2), (6, v0), (7, .int .i64 (a0.length : Int)), (8, .int .i64 x8_2)] [rowV 31 5 (.slice p_5.1 l_7.length p_5.2) l_7.length (l_7.map e_edit_Step), rowV 31 5 (.slice p_6.1 l_8.length p_6.2) l_8.length (l_8.map e_edit_Step)] rfl rfl ?_
        refine c_region ?_
        obtain ⟨t22, h_t22, H17⟩ := bnd_some H16; clear H16
        refine l_val rfl rfl rfl (r_addG rfl rfl h_t22) ?_
        refine l_val rfl rfl rfl (r_move (v := .int .i64 t22) rfl) ?_
        refine l_nil ?_
        refine c_close (t22, l_7, l_8) (p_5, p_6) m2 [0, 1] (by exact ⟨rfl, rfl, rfl, rfl, rfl, trivial⟩) (by decide) rfl (by exact ⟨(by subst hn2; exact H17), trivial⟩) (Nat.lt_succ_self _)
    · have H24 := cnd_f hb H14; clear H14
      refine c_exit ?_
      refine c_close (l_5, l_6) (p_3, p_4) 0 [0, 1] (by exact ⟨rfl, rfl, trivial⟩) (by decide) rfl (by exact ⟨H24, trivial⟩) (Nat.lt_succ_self _)
  · rintro ⟨l, l_2⟩ ⟨p, p_2⟩ gg H13 _
    replace H13 : R_Parted_j1 l l_2 = some r := H13
    refine c_tidyF [(2, .slice p.1 l.length p.2), (3, .slice p_2.1 l_2.length p_2.2)] [rowV 31 5 (.slice p.1 l.length p.2) l.length (l.map e_edit_Step), rowV 31 5 (.slice p_2.1 l_2.length p_2.2) l_2.length (l_2.map e_edit_Step)] rfl rfl ?_
    refine c_seq ?_
    refine c_region ?_
    refine l_val rfl rfl rfl (r_move (v := .slice p.1 l.length p.2) rfl) ?_
    refine l_val rfl rfl rfl (r_move (v := .slice p_2.1 l_2.length p_2.2) rfl) ?_
    refine l_val rfl rfl rfl (r_assign (v := .slice p.1 l.length p.2) rfl) ?_
    refine l_val rfl rfl rfl (r_assign (v := .slice p_2.1 l_2.length p_2.2) rfl) ?_
    refine l_nil ?_
    refine c_ret ?_
    obtain rfl := Option.some.inj H13
    refine c_both 0 1 rfl rfl (by decide) ?_
    refine ret2 (v1 := .slice p.1 l.length p.2) (v2 := .slice p_2.1 l_2.length p_2.2) rfl rfl rfl (finX (p, p_2) (i := 0) rfl rfl (Imp.refl _))
theorem k15 {a0 : (List T_edit_Step)} {v0 : Value} {a1 : (List T_edit_Step)} {v1 : Value} {r : Bool} {w : World} {h : Heap} (hw : Know h w noS) (f0 : FrS h 5 v0 (a0.map e_edit_Step)) (f1 : FrS h 5 v1 (a1.map e_edit_Step)) (H : slices_Equal_edit_Step a0 a1 = some r) : Does Try.prog 15 (List.toArray [v0, v1]) w (fun v w' => v = (.bool r) ∧ Grow w w') := by
  refine enter (n := 26) Try.func15 rfl rfl rfl noS [] (Sat.nil _ _) ?_
  refine c_seq ?_
  refine c_region ?_
  refine l_val rfl rfl rfl (r_assign (v := .bool false) rfl) ?_
  refine l_nil ?_
  refine c_seq ?_
  refine c_seq ?_
  refine c_region ?_
  refine l_val rfl rfl rfl (r_move (v := v0) rfl) ?_
  refine l_val rfl rfl rfl (r_lenF Try.underlying22 rfl f0 rfl) ?_
  refine l_val rfl rfl rfl (r_move (v := v1) rfl) ?_
  refine l_val rfl rfl rfl (r_lenF Try.underlying22 rfl f1 rfl) ?_
  refine l_val rfl rfl rfl (r_neq rfl rfl) ?_
  refine l_nil ?_
  refine c_if (b := (decide ((a0.length : Int) ≠ (a1.length : Int)))) rfl (fun hb => ?_) (fun hb => ?_)
  · have H11 := cnd_t hb H; clear H
    refine c_seq ?_
    refine c_region ?_
    refine l_val rfl rfl rfl (r_assign (v := .bool false) rfl) ?_
    refine l_nil ?_
    refine c_ret ?_
    obtain rfl := Option.some.inj H11
    refine ret1 (v := .bool false) rfl rfl (fin rfl)
  · have H12 := cnd_f hb H; clear H
    refine c_skip ?_
    refine c_seq ?_
    refine c_seq ?_
    refine c_region ?_
    refine l_val rfl rfl rfl (r_move (v := v0) rfl) ?_
    refine l_val rfl rfl rfl (r_lenF Try.underlying22 rfl f0 rfl) ?_
    refine l_val rfl rfl rfl (r_move (v := .int .i64 0) rfl) ?_
    refine l_nil ?_
    refine c_block ?_
    refine c_fix (σ := Int) (τ := Unit) (fun next1 s => slices_Equal_edit_Step_l1 a0 a1 next1 s) (fun s t => [(0, v0), (1, v1), (12, .int .i64 (a0.length : Int)), (13, .int .i64 s)]) (fun s t => []) (fun s t => True) 0 () [] H12 (by exact trivial) (by exact ⟨rfl, rfl, rfl, rfl, trivial⟩) (by decide) rfl ?_
    rintro x13_2 _ m1 gg H13 _
    clear H12
    replace H13 : slices_Equal_edit_Step_l1 a0 a1 (it (fun next1 s => slices_Equal_edit_Step_l1 a0 a1 next1 s) m1) x13_2 = some r := H13
    generalize hn1 : it (fun next1 s => slices_Equal_edit_Step_l1 a0 a1 next1 s) m1 = next1 at H13
    refine c_tidyF [(0, v0), (1, v1), (12, .int .i64 (a0.length : Int)), (13, .int .i64 x13_2)] [] rfl rfl ?_
    refine c_seq ?_
    refine c_region ?_
    refine l_val rfl rfl rfl (r_lss rfl rfl) ?_
    refine l_nil ?_
    refine c_seq ?_
    refine c_if (b := (decide (x13_2 < (a0.length : Int)))) rfl (fun hb => ?_) (fun hb => ?_)
    · have H14 := cnd_t hb H13; clear H13
      refine c_skip ?_
      refine c_seq ?_
      refine c_block ?_
      refine c_seq ?_
      refine c_region ?_
      refine l_val rfl rfl rfl (r_move (v := .int .i64 x13_2) rfl) ?_
      refine l_val rfl rfl rfl (r_assign (v := .int .i64 x13_2) rfl) ?_
      refine l_nil ?_
      refine c_seq ?_
      exact c_regionD (Kd.p :: Kd.p :: Kd.p :: Kd.d [] _ :: Kd.p :: Kd.p :: Kd.p :: Kd.d [] _ :: Kd.p :: []) 0 mixed (by
        refine d_val rfl rfl (r_move (v := v0) rfl) ?_
        refine d_val rfl rfl (r_move (v := .int .i64 x13_2) rfl) ?_
        have h_t18 := bnd_val H14
        have H15 := bnd_rest H14
        refine d_val rfl rfl (r_indexF Try.underlying22 Try.sizeOf31 rfl rfl f0 h_t18) ?_
        refine d_read (fun w hF => run_loadGN (f := e_edit_Step) (i := x13_2) (sz := 5) (j := 0) (vs := [.int .i64 (val (gAt a0 x13_2)).Kind, .int .i64 (val (gAt a0 x13_2)).A, .int .i64 (val (gAt a0 x13_2)).B, .int .i64 (val (gAt a0 x13_2)).C, .int .i64 (val (gAt a0 x13_2)).D]) Try.isAgg31 Try.sizeOf31 rfl rfl (f0.row (hw.now hF)) h_t18 rfl) rfl rfl ?_
        refine d_val rfl rfl (r_move (v := v1) rfl) ?_
        refine d_val rfl rfl (r_move (v := .int .i64 x13_2) rfl) ?_
        have h_t22 := bnd_val H15
        have H16 := bnd_rest H15
        refine d_val rfl rfl (r_indexF Try.underlying22 Try.sizeOf31 rfl rfl f1 h_t22) ?_
        refine d_read (fun w hF => run_loadGN (f := e_edit_Step) (i := x13_2) (sz := 5) (j := 0) (vs := [.int .i64 (val (gAt a1 x13_2)).Kind, .int .i64 (val (gAt a1 x13_2)).A, .int .i64 (val (gAt a1 x13_2)).B, .int .i64 (val (gAt a1 x13_2)).C, .int .i64 (val (gAt a1 x13_2)).D]) Try.isAgg31 Try.sizeOf31 rfl rfl (f1.row (hw.now hF)) h_t22 rfl) rfl rfl ?_
        refine d_val rfl rfl (r_neqA (xs := #[.int .i64 (val (gAt a0 x13_2)).Kind, .int .i64 (val (gAt a0 x13_2)).A, .int .i64 (val (gAt a0 x13_2)).B, .int .i64 (val (gAt a0 x13_2)).C, .int .i64 (val (gAt a0 x13_2)).D]) (ys := #[.int .i64 (val (gAt a1 x13_2)).Kind, .int .i64 (val (gAt a1 x13_2)).A, .int .i64 (val (gAt a1 x13_2)).B, .int .i64 (val (gAt a1 x13_2)).C, .int .i64 (val (gAt a1 x13_2)).D]) Try.eqGuardType31 (fun w => run_eq_edit_Step w (val (gAt a0 x13_2)) (val (gAt a1 x13_2))) rfl rfl) ?_
        refine d_nil ?_
        refine c_if (b := (!(eq_edit_Step (val (gAt a0 x13_2)) (val (gAt a1 x13_2))))) rfl (fun hb => ?_) (fun hb => ?_)
        · have H17 := cnd_t hb H16; clear H16
          refine c_seq ?_
          refine c_region ?_
          refine l_val rfl rfl rfl (r_assign (v := .bool false) rfl) ?_
          refine l_nil ?_
          refine c_ret ?_
          obtain rfl := Option.some.inj H17
          refine ret1 (v := .bool false) rfl rfl (fin rfl)
        · have H18 := cnd_f hb H16; clear H16
          refine c_skip ?_
          refine c_region ?_
          obtain ⟨t25, h_t25, H19⟩ := bnd_some H18; clear H18
          refine l_val rfl rfl rfl (r_addG rfl rfl h_t25) ?_
          refine l_val rfl rfl rfl (r_move (v := .int .i64 t25) rfl) ?_
          refine l_nil ?_
          refine c_close t25 () m1 [] (by exact ⟨rfl, rfl, rfl, rfl, trivial⟩) (by decide) rfl (by exact ⟨(by subst hn1; exact H19), trivial⟩) (Nat.lt_succ_self _)
        ) (by kernel_rfl)
    · have H20 := cnd_f hb H13; clear H13
      refine c_exit ?_
      refine c_seq ?_
      refine c_region ?_
      refine l_val rfl rfl rfl (r_assign (v := .bool true) rfl) ?_
      refine l_nil ?_
      refine c_ret ?_
      obtain rfl := Option.some.inj H20
      refine ret1 (v := .bool true) rfl rfl (fin rfl)
theorem k28 {a0 : (List T_edit_Step)} {v0 : Value} {a1 : Int} {a2 : (List T_edit_Step)} {v2 : Value} {a3 : Int} {r : Bool} {w : World} {h : Heap} (hw : Know h w noS) (f0 : FrS h 5 v0 (a0.map e_edit_Step)) (f2 : FrS h 5 v2 (a2.map e_edit_Step)) (H : Law_listed_edit_Step a0 a1 a2 a3 = some r) : Does Try.prog 28 (List.toArray [v0, .int .i64 a1, v2, .int .i64 a3]) w (fun v w' => v = (.bool r) ∧ Grow w w') := by
  refine enter (n := 19) Try.func28 rfl rfl rfl noS [] (Sat.nil _ _) ?_
  refine c_seq ?_
  refine c_region ?_
  refine l_val rfl rfl rfl (r_assign (v := .bool false) rfl) ?_
  refine l_nil ?_
  refine c_meet (r := r) (σ := (List T_edit_Step)) (τ := Value) (fun s => Law_listed_edit_Step_j1 a0 a1 a3 s) (fun s t => [(0, v0), (1, .int .i64 a1), (2, t), (3, .int .i64 a3)]) (fun s t => []) (fun s t => FrS h 5 t (s.map e_edit_Step)) ?_ ?_
  · refine c_seq ?_
    refine c_region ?_
    refine l_val rfl rfl rfl (r_move (v := .int .i64 a3) rfl) ?_
    refine l_val rfl rfl rfl (r_neq rfl rfl) ?_
    refine l_nil ?_
    refine c_if (b := (decide (a3 ≠ 0))) rfl (fun hb => ?_) (fun hb => ?_)
    · have H11 := cnd_t hb H; clear H
      refine c_region ?_
      refine l_val rfl rfl rfl (r_assign (v := .slice none 0 0) rfl) ?_
      refine l_nil ?_
      refine c_close ([] : (List T_edit_Step)) (.slice none 0 0) 0 [] (by exact ⟨rfl, rfl, rfl, rfl, trivial⟩) (by decide) rfl (by exact ⟨H11, (FrS.nil _ _)⟩) (Nat.lt_succ_self _)
    · have H12 := cnd_f hb H; clear H
      refine c_skip ?_
      refine c_close a2 v2 0 [] (by exact ⟨rfl, rfl, rfl, rfl, trivial⟩) (by decide) rfl (by exact ⟨H12, f2⟩) (Nat.lt_succ_self _)
  · rintro x2 gv gg H7 gf
    replace H7 : Law_listed_edit_Step_j1 a0 a1 a3 x2 = some r := H7
    refine c_tidyF [(0, v0), (1, .int .i64 a1), (2, gv), (3, .int .i64 a3)] [] rfl rfl ?_
    refine c_seq ?_
    refine c_region ?_
    refine l_val rfl rfl rfl (r_move (v := v0) rfl) ?_
    refine l_val rfl rfl rfl (r_move (v := gv) rfl) ?_
    obtain ⟨t13, h_t13, H8⟩ := bnd_some H7; clear H7
    refine l_callG (fun w hF hS => k15 (know_all w) (f0.mono (hw.now hF)) (gf.mono (hw.now hF)) h_t13) Try.call15 rfl rfl rfl ?_
    refine l_val rfl rfl rfl (r_move (v := .bool t13) rfl) ?_
    refine split (fun hb => ?_) (fun hb => ?_)
    · have H9 := cnd_t hb H8; clear H8
      refine l_val rfl rfl rfl (r_move (v := .int .i64 a1) rfl) ?_
      refine l_val rfl rfl rfl (r_move (v := .int .i64 a3) rfl) ?_
      refine l_val rfl rfl rfl (r_eql rfl rfl) ?_
      refine l_val rfl rfl rfl (r_pickT (v := .bool (decide (a1 = a3))) rfl rfl) ?_
      refine l_val rfl rfl rfl (r_assign (v := .bool (decide (a1 = a3))) rfl) ?_
      refine l_nil ?_
      refine c_ret ?_
      obtain rfl := Option.some.inj H9
      refine ret1 (v := .bool (decide (a1 = a3))) rfl rfl (fin rfl)
    · have H10 := cnd_f hb H8; clear H8
      refine l_passed rfl rfl rfl ?_
      refine l_passed rfl rfl rfl ?_
      refine l_passed rfl rfl rfl ?_
      refine l_val rfl rfl rfl (r_pickF (v := .bool false) rfl rfl) ?_
      refine l_val rfl rfl rfl (r_assign (v := .bool false) rfl) ?_
      refine l_nil ?_
      refine c_ret ?_
      obtain rfl := Option.some.inj H10
      refine ret1 (v := .bool false) rfl rfl (fin rfl)
theorem k10 {a0 : (List T_edit_Step)} {v0 : Value} {r : (List T_edit_Step)} {w : World} {h : Heap} (hw : Know h w noS) (f0 : FrS h 5 v0 (a0.map e_edit_Step)) (H : slices_Clone_edit_Step a0 = some r) : Does Try.prog 10 (List.toArray [v0]) w (fun v w' => ∃ x : (Option Addr × Nat), v = (.slice x.1 r.length x.2) ∧ Turn w w' noS (rowV 31 5 (.slice x.1 r.length x.2) r.length (r.map e_edit_Step))) := by
  refine enter (n := 8) Try.func10 rfl rfl rfl noS [] (Sat.nil _ _) ?_
  refine c_seq ?_
  refine c_region ?_
  refine l_val rfl rfl rfl (r_assign (v := .slice none 0 0) rfl) ?_
  refine l_nil ?_
  refine c_seq ?_
  refine c_seq ?_
  refine c_region ?_
  refine l_val rfl rfl rfl (r_move (v := v0) rfl) ?_
  refine l_val rfl rfl rfl (r_eqlNilS Try.underlying22 f0 rfl rfl) ?_
  refine l_nil ?_
  refine c_if (b := isNilV v0) rfl (fun hb => ?_) (fun hb => ?_)
  · have hn_ : a0 = [] := f0.nilV hb
    have H3 : some ([] : List T_edit_Step) = some r := by have h_ := H; rw [hn_] at h_; exact h_
    refine c_seq ?_
    refine c_region ?_
    refine l_val rfl rfl rfl (r_assign (v := .slice none 0 0) rfl) ?_
    refine l_nil ?_
    refine c_ret ?_
    refine c_nilRow 31 5 ?_
    obtain rfl := Option.some.inj H3
    refine ret1 (v := .slice ((none, 0) : Option Addr × Nat).1 ([] : List T_edit_Step).length ((none, 0) : Option Addr × Nat).2) rfl rfl (finX ((none, 0) : Option Addr × Nat) (i := 0) rfl rfl (Imp.refl _))
  · skip
    refine c_skip ?_
    refine c_seq ?_
    refine c_region ?_
    refine l_buildSlice (vs := []) (cs := []) Try.underlying22 Try.sizeOf31 Try.zeroValue31 rfl rfl rfl rfl rfl rfl rfl (fun b1 => ?_)
    refine l_val rfl rfl rfl (r_move (v := v0) rfl) ?_
    refine c_imp 0 rfl (imp_box (m := 0) (E := 31) (sz := 5) (xs := (([] : List T_edit_Step)).map e_edit_Step) rfl rfl rfl ⟨rfl, by decide⟩) ?_
    obtain ⟨l7, h_l7, H4⟩ := bnd_some H; clear H
    refine l_turn (turns_appG (i := 0) (hn := rfl) (rds := []) (p := ((some ⟨b1, 0, none⟩, 0) : Option Addr × Nat)) (sz := 5) (by_ := 40) (f := e_edit_Step) (ys := ([] : List T_edit_Step)) (ls := a0) (V := v0) Try.underlying22 (info_of Try.typeInfo31) rfl rfl rfl rfl rfl rfl rfl rfl f0.eq (List.length_map _) (fun w L' hF hS hi => (f0).row (hw.now hF)) (fun _ => rfl) (fun _ => rfl) h_l7) rfl rfl rfl (fun p => ?_)
    refine l_val rfl rfl rfl (r_assign (v := .slice p.1 l7.length p.2) rfl) ?_
    refine l_nil ?_
    refine c_ret ?_
    obtain rfl := Option.some.inj H4
    refine ret1 (v := .slice p.1 l7.length p.2) rfl rfl (finX p (i := 0) rfl rfl (Imp.refl _))
theorem k29 {a0 : (List T_edit_Step)} {v0 : Value} {a1 : Int} {a2 : Int} {r : (List T_edit_Step)} {w : World} {h : Heap} (hw : Know h w noS) (f0 : FrS h 5 v0 (a0.map e_edit_Step)) (H : R_Tidied a0 a1 a2 = some r) : Does Try.prog 29 (List.toArray [v0, .int .i64 a1, .int .i64 a2]) w (fun v w' => ∃ x : (Option Addr × Nat), v = (.slice x.1 r.length x.2) ∧ Turn w w' noS (rowV 31 5 (.slice x.1 r.length x.2) r.length (r.map e_edit_Step))) := by
  refine enter (n := 29) Try.func29 rfl rfl rfl noS [] (Sat.nil _ _) ?_
  refine c_seq ?_
  refine c_region ?_
  refine l_val rfl rfl rfl (r_assign (v := .slice none 0 0) rfl) ?_
  refine l_nil ?_
  refine c_seq ?_
  refine c_region ?_
  refine l_val rfl rfl rfl (r_move (v := v0) rfl) ?_
  obtain ⟨t10, h_t10, H12⟩ := bnd_some H; clear H
  refine l_make (makes_call (rds := []) (G := fun x : (Option Addr × Nat) => .slice x.1 t10.length x.2) (C := fun x : (Option Addr × Nat) => rowV 31 5 (.slice x.1 t10.length x.2) t10.length (t10.map e_edit_Step)) (fun w L' hF hS hi => k10 (know_all w) (f0.mono (hw.now hF)) h_t10) Try.call10 rfl) rfl rfl rfl (fun p => ?_)
  refine l_val rfl rfl rfl (r_assign (v := .slice p.1 t10.length p.2) rfl) ?_
  refine l_nil ?_
  refine c_seq ?_
  refine c_seq ?_
  refine c_region ?_
  refine l_val rfl rfl rfl (r_assign (v := .bool true) rfl) ?_
  refine l_nil ?_
  refine c_block ?_
  refine c_fix (σ := Bool × (List T_edit_Step)) (τ := (Option Addr × Nat)) (fun next1 s => R_Tidied_l1 a1 a2 next1 s.1 s.2) (fun s t => [(0, .slice t.1 s.2.length t.2), (1, .int .i64 a1), (2, .int .i64 a2), (7, .bool s.1)]) (fun s t => [rowV 31 5 (.slice t.1 s.2.length t.2) s.2.length (s.2.map e_edit_Step)]) (fun s t => True) (true, t10) p [0] H12 (by exact trivial) (by exact ⟨rfl, rfl, rfl, rfl, trivial⟩) (by decide) rfl ?_
  rintro ⟨x7_2, l_2⟩ p_2 m1 gg H13 _
  clear H12
  replace H13 : R_Tidied_l1 a1 a2 (it (fun next1 s => R_Tidied_l1 a1 a2 next1 s.1 s.2) m1) x7_2 l_2 = some r := H13
  generalize hn1 : it (fun next1 s => R_Tidied_l1 a1 a2 next1 s.1 s.2) m1 = next1 at H13
  refine c_tidyF [(0, .slice p_2.1 l_2.length p_2.2), (1, .int .i64 a1), (2, .int .i64 a2), (7, .bool x7_2)] [rowV 31 5 (.slice p_2.1 l_2.length p_2.2) l_2.length (l_2.map e_edit_Step)] rfl rfl ?_
  refine c_seq ?_
  refine c_seq ?_
  refine c_region ?_
  refine l_val rfl rfl rfl (r_move (v := .bool x7_2) rfl) ?_
  refine l_nil ?_
  refine c_if (b := x7_2) rfl (fun hb => ?_) (fun hb => ?_)
  · have H14 := cnd_t hb H13; clear H13
    refine c_skip ?_
    refine c_block ?_
    refine c_seq ?_
    refine c_region ?_
    refine l_val rfl rfl rfl (r_assign (v := .bool false) rfl) ?_
    refine l_nil ?_
    refine c_seq ?_
    refine c_region ?_
    refine l_val rfl rfl rfl (r_assign (v := .int .i64 1) rfl) ?_
    refine l_nil ?_
    refine c_block ?_
    refine c_fix (σ := Bool × Int × (List T_edit_Step)) (τ := (Option Addr × Nat)) (fun next2 s => R_Tidied_l2 a1 a2 next1 next2 s.1 s.2.1 s.2.2) (fun s t => [(0, .slice t.1 s.2.2.length t.2), (1, .int .i64 a1), (2, .int .i64 a2), (7, .bool s.1), (8, .int .i64 s.2.1)]) (fun s t => [rowV 31 5 (.slice t.1 s.2.2.length t.2) s.2.2.length (s.2.2.map e_edit_Step)]) (fun s t => True) (false, 1, l_2) p_2 [0] H14 (by exact trivial) (by exact ⟨rfl, rfl, rfl, rfl, rfl, trivial⟩) (by decide) rfl ?_
    rintro ⟨x7_4, x8_2, l_4⟩ p_3 m2 gg H15 _
    clear H14
    replace H15 : R_Tidied_l2 a1 a2 next1 (it (fun next2 s => R_Tidied_l2 a1 a2 next1 next2 s.1 s.2.1 s.2.2) m2) x7_4 x8_2 l_4 = some r := H15
    generalize hn2 : it (fun next2 s => R_Tidied_l2 a1 a2 next1 next2 s.1 s.2.1 s.2.2) m2 = next2 at H15
    refine c_tidyF [(0, .slice p_3.1 l_4.length p_3.2), (1, .int .i64 a1), (2, .int .i64 a2), (7, .bool x7_4), (8, .int .i64 x8_2)] [rowV 31 5 (.slice p_3.1 l_4.length p_3.2) l_4.length (l_4.map e_edit_Step)] rfl rfl ?_
    refine c_seq ?_
    refine c_seq ?_
    refine c_region ?_
    refine l_val rfl rfl rfl (r_move (v := .int .i64 x8_2) rfl) ?_
    refine l_val rfl rfl rfl (r_leq rfl rfl) ?_
    refine l_val rfl rfl rfl (r_move (v := .bool (decide (x8_2 ≤ 6))) rfl) ?_
    refine split (fun hb => ?_) (fun hb => ?_)
    · have H16 := cnd_t hb H15; clear H15
      refine l_val rfl rfl rfl (r_move (v := .bool x7_4) rfl) ?_
      refine l_val rfl rfl rfl (r_not rfl) ?_
      refine l_val rfl rfl rfl (r_pickT (v := .bool (!x7_4)) rfl rfl) ?_
      refine l_nil ?_
      refine c_if (b := (!x7_4)) rfl (fun hb => ?_) (fun hb => ?_)
      · have H17 := cnd_t hb H16; clear H16
        refine c_skip ?_
        refine c_seq ?_
        refine c_block ?_
        refine c_region ?_
        refine l_val rfl rfl rfl (r_move (v := .slice p_3.1 l_4.length p_3.2) rfl) ?_
        refine l_val rfl rfl rfl (r_move (v := .int .i64 x8_2) rfl) ?_
        refine l_val rfl rfl rfl (r_move (v := .int .i64 a1) rfl) ?_
        refine l_val rfl rfl rfl (r_move (v := .int .i64 a2) rfl) ?_
        obtain ⟨t25, h_t25, H18⟩ := bnd_some H17; clear H17
        refine l_turn (turns_callB (i := 0) (rds := []) (G := fun x : (Option Addr × Nat) => .tuple #[.slice x.1 t25.1.length x.2, .bool t25.2]) (C := fun x : (Option Addr × Nat) => rowV 31 5 (.slice x.1 t25.1.length x.2) t25.1.length (t25.1.map e_edit_Step)) rfl (fun w L' S hF hS hi hp hlt ho hA => k63 hp hlt (know_but w S) rfl h_t25) Try.call63 rfl) rfl rfl rfl (fun p_4 => ?_)
        refine l_val rfl rfl rfl (r_move (v := .tuple #[.slice p_4.1 t25.1.length p_4.2, .bool t25.2]) rfl) ?_
        refine l_val rfl rfl rfl (r_extract (v := .slice p_4.1 t25.1.length p_4.2) rfl rfl) ?_
        refine l_val rfl rfl rfl (r_extract (v := .bool t25.2) rfl rfl) ?_
        refine l_val rfl rfl rfl (r_assign (v := .slice p_4.1 t25.1.length p_4.2) rfl) ?_
        refine l_val rfl rfl rfl (r_assign (v := .bool t25.2) rfl) ?_
        refine l_nil ?_
        refine c_region ?_
        refine l_val rfl rfl rfl (r_move (v := .int .i64 x8_2) rfl) ?_
        obtain ⟨t19, h_t19, H19⟩ := bnd_some H18; clear H18
        refine l_val rfl rfl rfl (r_addG rfl rfl h_t19) ?_
        refine l_val rfl rfl rfl (r_assign (v := .int .i64 t19) rfl) ?_
        refine l_nil ?_
        refine c_close (t25.2, t19, t25.1) p_4 m2 [0] (by exact ⟨rfl, rfl, rfl, rfl, rfl, trivial⟩) (by decide) rfl (by exact ⟨(by subst hn2; exact H19), trivial⟩) (Nat.lt_succ_self _)
      · have H20 := cnd_f hb H16; clear H16
        refine c_exit ?_
        refine c_close (x7_4, l_4) p_3 m1 [0] (by exact ⟨rfl, rfl, rfl, rfl, trivial⟩) (by decide) rfl (by exact ⟨(by subst hn1; exact H20), trivial⟩) (Nat.lt_succ_self _)
    · have H21 := cnd_f hb H15; clear H15
      refine l_passed rfl rfl rfl ?_
      refine l_passed rfl rfl rfl ?_
      refine l_val rfl rfl rfl (r_pickF (v := .bool false) rfl rfl) ?_
      refine l_nil ?_
      refine c_false rfl ?_
      refine c_exit ?_
      refine c_close (x7_4, l_4) p_3 m1 [0] (by exact ⟨rfl, rfl, rfl, rfl, trivial⟩) (by decide) rfl (by exact ⟨(by subst hn1; exact H21), trivial⟩) (Nat.lt_succ_self _)
  · have H22 := cnd_f hb H13; clear H13
    refine c_exit ?_
    refine c_seq ?_
    refine c_region ?_
    refine l_val rfl rfl rfl (r_move (v := .slice p_2.1 l_2.length p_2.2) rfl) ?_
    refine l_val rfl rfl rfl (r_assign (v := .slice p_2.1 l_2.length p_2.2) rfl) ?_
    refine l_nil ?_
    refine c_ret ?_
    obtain rfl := Option.some.inj H22
    refine ret1 (v := .slice p_2.1 l_2.length p_2.2) rfl rfl (finX p_2 (i := 0) rfl rfl (Imp.refl _))
theorem k30 {a0 : (List T_edit_Step)} {v0 : Value} {a1 : Int} {a2 : Int} {r : (List T_edit_Step) × Int} {w : World} {h : Heap} (hw : Know h w noS) (f0 : FrS h 5 v0 (a0.map e_edit_Step)) (H : edit_Tidy a0 a1 a2 = some r) : Does Try.prog 30 (List.toArray [v0, .int .i64 a1, .int .i64 a2]) w (fun v w' => ∃ x : (Option Addr × Nat), v = (.tuple #[.slice x.1 r.1.length x.2, .int .i64 r.2]) ∧ Turn w w' noS (roV 5 (.slice x.1 r.1.length x.2) r.1.length (r.1.map e_edit_Step))) := by
  refine enter (n := 41) Try.func30 rfl rfl rfl noS [] (Sat.nil _ _) ?_
  refine c_seq ?_
  refine c_region ?_
  refine l_val rfl rfl rfl (r_assign (v := .slice none 0 0) rfl) ?_
  refine l_val rfl rfl rfl (r_assign (v := .int .i64 0) rfl) ?_
  refine l_nil ?_
  refine c_seq ?_
  refine c_seq ?_
  refine c_region ?_
  refine l_val rfl rfl rfl (r_move (v := v0) rfl) ?_
  obtain ⟨t14, h_t14, H25⟩ := bnd_some H; clear H
  refine l_callG (fun w hF hS => k51 (know_all w) (f0.mono (hw.now hF)) h_t14) Try.call51 rfl rfl rfl ?_
  refine l_val rfl rfl rfl (r_assign (v := .int .i64 t14) rfl) ?_
  refine l_nil ?_
  refine c_seq ?_
  refine c_region ?_
  refine l_val rfl rfl rfl (r_move (v := .int .i64 t14) rfl) ?_
  refine l_val rfl rfl rfl (r_neq rfl rfl) ?_
  refine l_nil ?_
  refine c_if (b := (decide (t14 ≠ 0))) rfl (fun hb => ?_) (fun hb => ?_)
  · have H26 := cnd_t hb H25; clear H25
    refine c_seq ?_
    refine c_region ?_
    refine l_val rfl rfl rfl (r_move (v := .int .i64 t14) rfl) ?_
    refine l_val rfl rfl rfl (r_assign (v := .slice none 0 0) rfl) ?_
    refine l_val rfl rfl rfl (r_assign (v := .int .i64 t14) rfl) ?_
    refine l_nil ?_
    refine c_ret ?_
    refine c_nilRow 31 5 ?_
    obtain rfl := Option.some.inj H26
    refine c_imp 0 rfl (row_ro _ _ _ _ _) ?_
    refine ret2 (v1 := .slice ((none, 0) : Option Addr × Nat).1 ([] : List T_edit_Step).length ((none, 0) : Option Addr × Nat).2) (v2 := .int .i64 t14) rfl rfl rfl (finX ((none, 0) : Option Addr × Nat) (i := 0) rfl rfl (Imp.refl _))
  · have H27 := cnd_f hb H25; clear H25
    refine c_skip ?_
    refine c_seq ?_
    refine c_seq ?_
    refine c_region ?_
    refine l_val rfl rfl rfl (r_move (v := v0) rfl) ?_
    refine l_val rfl rfl rfl (r_move (v := .int .i64 a1) rfl) ?_
    refine l_val rfl rfl rfl (r_move (v := .int .i64 a2) rfl) ?_
    obtain ⟨t22, h_t22, H28⟩ := bnd_some H27; clear H27
    refine l_callG (fun w hF hS => k59 (know_all w) (f0.mono (hw.now hF)) h_t22) Try.call59 rfl rfl rfl ?_
    refine l_val rfl rfl rfl (r_move (v := .tuple #[.int .i64 t22.1, .int .i64 t22.2.1, .int .i64 t22.2.2]) rfl) ?_
    refine l_val rfl rfl rfl (r_extract (v := .int .i64 t22.1) rfl rfl) ?_
    refine l_val rfl rfl rfl (r_extract (v := .int .i64 t22.2.1) rfl rfl) ?_
    refine l_val rfl rfl rfl (r_extract (v := .int .i64 t22.2.2) rfl rfl) ?_
    refine l_val rfl rfl rfl (r_assign (v := .int .i64 t22.1) rfl) ?_
    refine l_val rfl rfl rfl (r_assign (v := .int .i64 t22.2.1) rfl) ?_
    refine l_val rfl rfl rfl (r_assign (v := .int .i64 t22.2.2) rfl) ?_
    refine l_nil ?_
    refine c_seq ?_
    refine c_region ?_
    refine l_val rfl rfl rfl (r_move (v := .int .i64 t22.2.2) rfl) ?_
    refine l_val rfl rfl rfl (r_neq rfl rfl) ?_
    refine l_nil ?_
    refine c_if (b := (decide (t22.2.2 ≠ 0))) rfl (fun hb => ?_) (fun hb => ?_)
    · have H29 := cnd_t hb H28; clear H28
      refine c_seq ?_
      refine c_region ?_
      refine l_val rfl rfl rfl (r_move (v := .int .i64 t22.2.2) rfl) ?_
      refine l_val rfl rfl rfl (r_assign (v := .slice none 0 0) rfl) ?_
      refine l_val rfl rfl rfl (r_assign (v := .int .i64 t22.2.2) rfl) ?_
      refine l_nil ?_
      refine c_ret ?_
      refine c_nilRow 31 5 ?_
      obtain rfl := Option.some.inj H29
      refine c_imp 0 rfl (row_ro _ _ _ _ _) ?_
      refine ret2 (v1 := .slice ((none, 0) : Option Addr × Nat).1 ([] : List T_edit_Step).length ((none, 0) : Option Addr × Nat).2) (v2 := .int .i64 t22.2.2) rfl rfl rfl (finX ((none, 0) : Option Addr × Nat) (i := 0) rfl rfl (Imp.refl _))
    · have H30 := cnd_f hb H28; clear H28
      refine c_skip ?_
      refine c_seq ?_
      refine c_region ?_
      refine l_val rfl rfl rfl (r_move (v := v0) rfl) ?_
      obtain ⟨t30, h_t30, H31⟩ := bnd_some H30; clear H30
      refine l_make (makes_call (rds := []) (G := fun x : (Option Addr × Nat) => .slice x.1 t30.length x.2) (C := fun x : (Option Addr × Nat) => rowV 31 5 (.slice x.1 t30.length x.2) t30.length (t30.map e_edit_Step)) (fun w L' hF hS hi => k10 (know_all w) (f0.mono (hw.now hF)) h_t30) Try.call10 rfl) rfl rfl rfl (fun p => ?_)
      refine l_val rfl rfl rfl (r_assign (v := .slice p.1 t30.length p.2) rfl) ?_
      refine l_nil ?_
      refine c_meet (r := r) (σ := (List T_edit_Step)) (τ := (Option Addr × Nat)) (fun s => edit_Tidy_j1 s) (fun s t => [(0, .slice t.1 s.length t.2)]) (fun s t => [rowV 31 5 (.slice t.1 s.length t.2) s.length (s.map e_edit_Step)]) (fun s t => True) ?_ ?_
      · refine c_seq ?_
        refine c_region ?_
        refine l_val rfl rfl rfl (r_assign (v := .bool true) rfl) ?_
        refine l_nil ?_
        refine c_block ?_
        refine c_fix (σ := Bool × (List T_edit_Step)) (τ := (Option Addr × Nat)) (fun next2 s => edit_Tidy_l2 a1 a2 next2 s.1 s.2) (fun s t => [(0, .slice t.1 s.2.length t.2), (1, .int .i64 a1), (2, .int .i64 a2), (12, .bool s.1)]) (fun s t => [rowV 31 5 (.slice t.1 s.2.length t.2) s.2.length (s.2.map e_edit_Step)]) (fun s t => True) (true, t30) p [0] H31 (by exact trivial) (by exact ⟨rfl, rfl, rfl, rfl, trivial⟩) (by decide) rfl ?_
        rintro ⟨x12_2, l_3⟩ p_3 m2 gg H33 _
        clear H31
        replace H33 : edit_Tidy_l2 a1 a2 (it (fun next2 s => edit_Tidy_l2 a1 a2 next2 s.1 s.2) m2) x12_2 l_3 = some r := H33
        generalize hn2 : it (fun next2 s => edit_Tidy_l2 a1 a2 next2 s.1 s.2) m2 = next2 at H33
        refine c_tidyF [(0, .slice p_3.1 l_3.length p_3.2), (1, .int .i64 a1), (2, .int .i64 a2), (12, .bool x12_2)] [rowV 31 5 (.slice p_3.1 l_3.length p_3.2) l_3.length (l_3.map e_edit_Step)] rfl rfl ?_
        refine c_seq ?_
        refine c_seq ?_
        refine c_region ?_
        refine l_val rfl rfl rfl (r_move (v := .bool x12_2) rfl) ?_
        refine l_nil ?_
        refine c_if (b := x12_2) rfl (fun hb => ?_) (fun hb => ?_)
        · have H34 := cnd_t hb H33; clear H33
          refine c_skip ?_
          refine c_block ?_
          refine c_region ?_
          refine l_val rfl rfl rfl (r_move (v := .slice p_3.1 l_3.length p_3.2) rfl) ?_
          refine l_val rfl rfl rfl (r_move (v := .int .i64 a1) rfl) ?_
          refine l_val rfl rfl rfl (r_move (v := .int .i64 a2) rfl) ?_
          obtain ⟨t36, h_t36, H35⟩ := bnd_some H34; clear H34
          refine l_turn (turns_callB (i := 0) (rds := []) (G := fun x : (Option Addr × Nat) => .tuple #[.slice x.1 t36.1.length x.2, .bool t36.2]) (C := fun x : (Option Addr × Nat) => rowV 31 5 (.slice x.1 t36.1.length x.2) t36.1.length (t36.1.map e_edit_Step)) rfl (fun w L' S hF hS hi hp hlt ho hA => k64 hp hlt (know_but w S) rfl h_t36) Try.call64 rfl) rfl rfl rfl (fun p_4 => ?_)
          refine l_val rfl rfl rfl (r_move (v := .tuple #[.slice p_4.1 t36.1.length p_4.2, .bool t36.2]) rfl) ?_
          refine l_val rfl rfl rfl (r_extract (v := .slice p_4.1 t36.1.length p_4.2) rfl rfl) ?_
          refine l_val rfl rfl rfl (r_extract (v := .bool t36.2) rfl rfl) ?_
          refine l_val rfl rfl rfl (r_assign (v := .slice p_4.1 t36.1.length p_4.2) rfl) ?_
          refine l_val rfl rfl rfl (r_assign (v := .bool t36.2) rfl) ?_
          refine l_nil ?_
          refine c_close (t36.2, t36.1) p_4 m2 [0] (by exact ⟨rfl, rfl, rfl, rfl, trivial⟩) (by decide) rfl (by exact ⟨(by subst hn2; exact H35), trivial⟩) (Nat.lt_succ_self _)
        · have H36 := cnd_f hb H33; clear H33
          refine c_exit ?_
          refine c_close l_3 p_3 0 [0] (by exact ⟨rfl, trivial⟩) (by decide) rfl (by exact ⟨H36, trivial⟩) (Nat.lt_succ_self _)
      · rintro l p_2 gg H32 _
        replace H32 : edit_Tidy_j1 l = some r := H32
        refine c_tidyF [(0, .slice p_2.1 l.length p_2.2)] [rowV 31 5 (.slice p_2.1 l.length p_2.2) l.length (l.map e_edit_Step)] rfl rfl ?_
        refine c_seq ?_
        refine c_region ?_
        refine l_val rfl rfl rfl (r_move (v := .slice p_2.1 l.length p_2.2) rfl) ?_
        refine l_callG (fun w hF hS => k65 (capOf (i := 0) hS rfl) w) Try.call65 rfl rfl rfl ?_
        refine l_val rfl rfl rfl (r_assign (v := .slice (cutA p_2.1 0 l.length 5) l.length l.length) rfl) ?_
        refine l_val rfl rfl rfl (r_assign (v := .int .i64 0) rfl) ?_
        refine l_nil ?_
        refine c_ret ?_
        obtain rfl := Option.some.inj H32
        refine c_imp 0 rfl (imp_clipO _ _ _ _ _ _) ?_
        refine ret2 (v1 := .slice (cutA p_2.1 0 l.length 5) l.length l.length) (v2 := .int .i64 0) rfl rfl rfl (finX (cutA p_2.1 0 l.length 5, l.length) (i := 0) rfl rfl (Imp.refl _))
theorem k4 {a0 : (List T_edit_Step)} {v0 : Value} {a1 : Int} {a2 : Int} {r : Bool} {w : World} {h : Heap} (hw : Know h w noS) (f0 : FrS h 5 v0 (a0.map e_edit_Step)) (H : Law_EditTidies a0 a1 a2 = some r) : Does Try.prog 4 (List.toArray [v0, .int .i64 a1, .int .i64 a2]) w (fun v w' => v = (.bool r) ∧ Grow w w') := by
  refine enter (n := 115) Try.func4 rfl rfl rfl noS [] (Sat.nil _ _) ?_
  refine c_seq ?_
  refine c_region ?_
  refine l_val rfl rfl rfl (r_assign (v := .bool false) rfl) ?_
  refine l_nil ?_
  refine c_meet (r := r) (σ := Unit) (τ := Unit) (fun s => Law_EditTidies_j1 a0 a1 a2) (fun s t => [(0, v0), (1, .int .i64 a1), (2, .int .i64 a2)]) (fun s t => []) (fun s t => True) ?_ ?_
  · refine c_seq ?_
    refine c_region ?_
    refine l_val rfl rfl rfl (r_move (v := v0) rfl) ?_
    refine l_val rfl rfl rfl (r_lenF Try.underlying22 rfl f0 rfl) ?_
    refine l_val rfl rfl rfl (r_move (v := .int .i64 0) rfl) ?_
    refine l_nil ?_
    refine c_block ?_
    refine c_fix (σ := Int) (τ := Unit) (fun next4 s => Law_EditTidies_l4 a0 a1 a2 next4 s) (fun s t => [(0, v0), (1, .int .i64 a1), (2, .int .i64 a2), (20, v0), (21, .int .i64 (a0.length : Int)), (22, .int .i64 s)]) (fun s t => []) (fun s t => True) 0 () [] H (by exact trivial) (by exact ⟨rfl, rfl, rfl, rfl, rfl, rfl, trivial⟩) (by decide) rfl ?_
    rintro x22_2 _ m4 gg H62 _
    clear H
    replace H62 : Law_EditTidies_l4 a0 a1 a2 (it (fun next4 s => Law_EditTidies_l4 a0 a1 a2 next4 s) m4) x22_2 = some r := H62
    generalize hn4 : it (fun next4 s => Law_EditTidies_l4 a0 a1 a2 next4 s) m4 = next4 at H62
    refine c_tidyF [(0, v0), (1, .int .i64 a1), (2, .int .i64 a2), (20, v0), (21, .int .i64 (a0.length : Int)), (22, .int .i64 x22_2)] [] rfl rfl ?_
    refine c_seq ?_
    refine c_region ?_
    refine l_val rfl rfl rfl (r_lss rfl rfl) ?_
    refine l_nil ?_
    refine c_seq ?_
    refine c_if (b := (decide (x22_2 < (a0.length : Int)))) rfl (fun hb => ?_) (fun hb => ?_)
    · have H63 := cnd_t hb H62; clear H62
      refine c_skip ?_
      refine c_meet (r := r) (σ := Unit) (τ := Unit) (fun s => Law_EditTidies_j5 x22_2 next4) (fun s t => [(0, v0), (1, .int .i64 a1), (2, .int .i64 a2), (20, v0), (21, .int .i64 (a0.length : Int)), (22, .int .i64 x22_2)]) (fun s t => []) (fun s t => True) ?_ ?_
      · refine c_block ?_
        refine c_seq ?_
        refine c_region ?_
        obtain ⟨t24, h_t24, H66⟩ := bnd_some H63; clear H63
        refine l_val rfl rfl rfl (r_indexF Try.underlying22 Try.sizeOf31 rfl rfl f0 h_t24) ?_
        refine l_read (fun w hF hS => run_loadGN (f := e_edit_Step) (i := x22_2) (sz := 5) (j := 0) (vs := [.int .i64 t24.Kind, .int .i64 t24.A, .int .i64 t24.B, .int .i64 t24.C, .int .i64 t24.D]) Try.isAgg31 Try.sizeOf31 rfl rfl (f0.row (hw.now hF)) h_t24 rfl) rfl rfl rfl ?_
        refine l_alloc (cs := [.int .i64 0, .int .i64 0, .int .i64 0, .int .i64 0, .int .i64 0]) Try.zeroValue31 rfl rfl rfl (fun b2 => ?_)
        refine l_store (i := 0) (vs := [.int .i64 t24.Kind, .int .i64 t24.A, .int .i64 t24.B, .int .i64 t24.C, .int .i64 t24.D]) (cs' := [.int .i64 t24.Kind, .int .i64 t24.A, .int .i64 t24.B, .int .i64 t24.C, .int .i64 t24.D]) Try.sizeOf31 rfl rfl rfl rfl rfl rfl rfl rfl rfl ?_
        refine l_nil ?_
        refine c_seq ?_
        refine c_region ?_
        refine l_loadN (i := 0) (vs := [.int .i64 t24.Kind, .int .i64 t24.A, .int .i64 t24.B, .int .i64 t24.C, .int .i64 t24.D]) Try.isAgg31 Try.sizeOf31 rfl rfl rfl rfl rfl ?_
        refine l_val rfl rfl rfl (r_move (v := .int .i64 a1) rfl) ?_
        refine l_val rfl rfl rfl (r_move (v := .int .i64 a2) rfl) ?_
        obtain ⟨t30, h_t30, H67⟩ := bnd_some H66; clear H66
        refine l_call (k22 h_t30) Try.call22 rfl rfl rfl ?_
        refine l_val rfl rfl rfl (r_move (v := .tuple #[.bool t30.1, .int .i64 t30.2]) rfl) ?_
        refine l_val rfl rfl rfl (r_extract (v := .bool t30.1) rfl rfl) ?_
        refine l_val rfl rfl rfl (r_extract (v := .int .i64 t30.2) rfl rfl) ?_
        refine l_val rfl rfl rfl (r_assign (v := .bool t30.1) rfl) ?_
        refine l_val rfl rfl rfl (r_assign (v := .int .i64 t30.2) rfl) ?_
        refine l_nil ?_
        refine c_seq ?_
        refine c_region ?_
        refine l_loadN (i := 0) (vs := [.int .i64 t24.Kind, .int .i64 t24.A, .int .i64 t24.B, .int .i64 t24.C, .int .i64 t24.D]) Try.isAgg31 Try.sizeOf31 rfl rfl rfl rfl rfl ?_
        obtain ⟨t34, h_t34, H68⟩ := bnd_some H67; clear H67
        refine l_call (k12 h_t34) Try.call12 rfl rfl rfl ?_
        refine l_val rfl rfl rfl (r_assign (v := .int .i64 t34) rfl) ?_
        refine l_nil ?_
        refine c_meet (r := r) (σ := Int) (τ := Unit) (fun s => Law_EditTidies_j6 a1 a2 x22_2 next4 t24 t30 s) (fun s t => [(0, v0), (1, .int .i64 a1), (2, .int .i64 a2), (8, .pointer (some ⟨b2, 0, none⟩)), (9, .bool t30.1), (10, .int .i64 t30.2), (11, .int .i64 s), (20, v0), (21, .int .i64 (a0.length : Int)), (22, .int .i64 x22_2)]) (fun s t => [cellsC b2 [.int .i64 t24.Kind, .int .i64 t24.A, .int .i64 t24.B, .int .i64 t24.C, .int .i64 t24.D] 31]) (fun s t => True) ?_ ?_
        · refine c_seq ?_
          refine c_region ?_
          refine l_val rfl rfl rfl (r_move (v := .int .i64 t34) rfl) ?_
          refine l_val rfl rfl rfl (r_eql rfl rfl) ?_
          refine l_nil ?_
          refine c_if (b := (decide (t34 = 0))) rfl (fun hb => ?_) (fun hb => ?_)
          · have H79 := cnd_t hb H68; clear H68
            refine c_region ?_
            refine l_loadN (i := 0) (vs := [.int .i64 t24.Kind, .int .i64 t24.A, .int .i64 t24.B, .int .i64 t24.C, .int .i64 t24.D]) Try.isAgg31 Try.sizeOf31 rfl rfl rfl rfl rfl ?_
            refine l_buildSlice (vs := [.agg #[.int .i64 t24.Kind, .int .i64 t24.A, .int .i64 t24.B, .int .i64 t24.C, .int .i64 t24.D]]) (cs := [.int .i64 t24.Kind, .int .i64 t24.A, .int .i64 t24.B, .int .i64 t24.C, .int .i64 t24.D]) Try.underlying22 Try.sizeOf31 Try.zeroValue31 rfl rfl rfl rfl rfl rfl rfl (fun b3 => ?_)
            refine l_val rfl rfl rfl (r_move (v := .int .i64 a1) rfl) ?_
            refine l_val rfl rfl rfl (r_move (v := .int .i64 a2) rfl) ?_
            obtain ⟨t42, h_t42, H80⟩ := bnd_some H79; clear H79
            refine l_callG (fun w hF hS => k23 (know_all w) (frs_box (i := 1) (xs := ([t24] : List T_edit_Step)) (f := e_edit_Step) hS rfl rfl rfl rfl rfl) h_t42) Try.call23 rfl rfl rfl ?_
            refine l_val rfl rfl rfl (r_move (v := .tuple #[.int .i64 t42.1, .int .i64 t42.2.1, .int .i64 t42.2.2]) rfl) ?_
            refine l_val rfl rfl rfl (r_extract (v := .int .i64 t42.1) rfl rfl) ?_
            refine l_val rfl rfl rfl (r_extract (v := .int .i64 t42.2.1) rfl rfl) ?_
            refine l_val rfl rfl rfl (r_extract (v := .int .i64 t42.2.2) rfl rfl) ?_
            refine l_val rfl rfl rfl (r_assign (v := .int .i64 t42.2.2) rfl) ?_
            refine l_nil ?_
            refine c_close t42.2.2 () 0 [0] (by exact ⟨rfl, rfl, rfl, rfl, rfl, rfl, rfl, rfl, rfl, rfl, trivial⟩) (by decide) rfl (by exact ⟨H80, trivial⟩) (Nat.lt_succ_self _)
          · have H81 := cnd_f hb H68; clear H68
            refine c_skip ?_
            refine c_close t34 () 0 [0] (by exact ⟨rfl, rfl, rfl, rfl, rfl, rfl, rfl, rfl, rfl, rfl, trivial⟩) (by decide) rfl (by exact ⟨H81, trivial⟩) (Nat.lt_succ_self _)
        · rintro x11 _ gg H69 _
          replace H69 : Law_EditTidies_j6 a1 a2 x22_2 next4 t24 t30 x11 = some r := H69
          refine c_tidyF [(0, v0), (1, .int .i64 a1), (2, .int .i64 a2), (8, .pointer (some ⟨b2, 0, none⟩)), (9, .bool t30.1), (10, .int .i64 t30.2), (11, .int .i64 x11), (20, v0), (21, .int .i64 (a0.length : Int)), (22, .int .i64 x22_2)] [cellsC b2 [.int .i64 t24.Kind, .int .i64 t24.A, .int .i64 t24.B, .int .i64 t24.C, .int .i64 t24.D] 31] rfl rfl ?_
          refine c_seq ?_
          refine c_region ?_
          refine l_val rfl rfl rfl (r_move (v := .bool t30.1) rfl) ?_
          refine l_val rfl rfl rfl (r_move (v := .int .i64 t30.2) rfl) ?_
          refine l_val rfl rfl rfl (r_move (v := .int .i64 x11) rfl) ?_
          refine l_val rfl rfl rfl (r_eql rfl rfl) ?_
          refine l_val rfl rfl rfl (r_move (v := .bool (decide (x11 = 0))) rfl) ?_
          refine split (fun hb => ?_) (fun hb => ?_)
          · have H70 := cnd_t hb H69; clear H69
            refine l_loadN (i := 0) (vs := [.int .i64 t24.Kind, .int .i64 t24.A, .int .i64 t24.B, .int .i64 t24.C, .int .i64 t24.D]) Try.isAgg31 Try.sizeOf31 rfl rfl rfl rfl rfl ?_
            refine l_val rfl rfl rfl (r_move (v := .int .i64 a1) rfl) ?_
            refine l_val rfl rfl rfl (r_move (v := .int .i64 a2) rfl) ?_
            obtain ⟨t54, h_t54, H71⟩ := bnd_some H70; clear H70
            refine l_call (k25 h_t54) Try.call25 rfl rfl rfl ?_
            refine l_val rfl rfl rfl (r_pickT (v := .bool t54) rfl rfl) ?_
            refine l_val rfl rfl rfl (r_move (v := .int .i64 x11) rfl) ?_
            obtain ⟨t57, h_t57, H72⟩ := bnd_some H71; clear H71
            refine l_call (k24 h_t57) Try.call24 rfl rfl rfl ?_
            refine l_val rfl rfl rfl (r_not rfl) ?_
            refine l_nil ?_
            refine c_if (b := (!t57)) rfl (fun hb => ?_) (fun hb => ?_)
            · have H73 := cnd_t hb H72; clear H72
              refine c_seq ?_
              refine c_region ?_
              refine l_val rfl rfl rfl (r_assign (v := .bool false) rfl) ?_
              refine l_nil ?_
              refine c_ret ?_
              obtain rfl := Option.some.inj H73
              refine ret1 (v := .bool false) rfl rfl (fin rfl)
            · have H74 := cnd_f hb H72; clear H72
              refine c_skip ?_
              refine c_close () () 0 [] (by exact ⟨rfl, rfl, rfl, rfl, rfl, rfl, trivial⟩) (by decide) rfl (by exact ⟨H74, trivial⟩) (Nat.lt_succ_self _)
          · have H75 := cnd_f hb H69; clear H69
            refine l_passed rfl rfl rfl ?_
            refine l_passed rfl rfl rfl ?_
            refine l_passed rfl rfl rfl ?_
            refine l_passed rfl rfl rfl ?_
            refine l_val rfl rfl rfl (r_pickF (v := .bool false) rfl rfl) ?_
            refine l_val rfl rfl rfl (r_move (v := .int .i64 x11) rfl) ?_
            obtain ⟨t57_2, h_t57_2, H76⟩ := bnd_some H75; clear H75
            refine l_call (k24 h_t57_2) Try.call24 rfl rfl rfl ?_
            refine l_val rfl rfl rfl (r_not rfl) ?_
            refine l_nil ?_
            refine c_if (b := (!t57_2)) rfl (fun hb => ?_) (fun hb => ?_)
            · have H77 := cnd_t hb H76; clear H76
              refine c_seq ?_
              refine c_region ?_
              refine l_val rfl rfl rfl (r_assign (v := .bool false) rfl) ?_
              refine l_nil ?_
              refine c_ret ?_
              obtain rfl := Option.some.inj H77
              refine ret1 (v := .bool false) rfl rfl (fin rfl)
            · have H78 := cnd_f hb H76; clear H76
              refine c_skip ?_
              refine c_close () () 0 [] (by exact ⟨rfl, rfl, rfl, rfl, rfl, rfl, trivial⟩) (by decide) rfl (by exact ⟨H78, trivial⟩) (Nat.lt_succ_self _)
      · rintro _ _ gg H64 _
        replace H64 : Law_EditTidies_j5 x22_2 next4 = some r := H64
        refine c_tidyF [(0, v0), (1, .int .i64 a1), (2, .int .i64 a2), (20, v0), (21, .int .i64 (a0.length : Int)), (22, .int .i64 x22_2)] [] rfl rfl ?_
        refine c_region ?_
        obtain ⟨t59, h_t59, H65⟩ := bnd_some H64; clear H64
        refine l_val rfl rfl rfl (r_addG rfl rfl h_t59) ?_
        refine l_val rfl rfl rfl (r_move (v := .int .i64 t59) rfl) ?_
        refine l_nil ?_
        refine c_close t59 () m4 [] (by exact ⟨rfl, rfl, rfl, rfl, rfl, rfl, trivial⟩) (by decide) rfl (by exact ⟨(by subst hn4; exact H65), trivial⟩) (Nat.lt_succ_self _)
    · have H82 := cnd_f hb H62; clear H62
      refine c_exit ?_
      refine c_close () () 0 [] (by exact ⟨rfl, rfl, rfl, trivial⟩) (by decide) rfl (by exact ⟨H82, trivial⟩) (Nat.lt_succ_self _)
  · rintro _ _ gg H42 _
    replace H42 : Law_EditTidies_j1 a0 a1 a2 = some r := H42
    refine c_tidyF [(0, v0), (1, .int .i64 a1), (2, .int .i64 a2)] [] rfl rfl ?_
    refine c_seq ?_
    refine c_region ?_
    refine l_val rfl rfl rfl (r_move (v := v0) rfl) ?_
    obtain ⟨t61, h_t61, H43⟩ := bnd_some H42; clear H42
    refine l_callG (fun w hF hS => k9 (know_all w) (f0.mono (hw.now hF)) h_t61) Try.call9 rfl rfl rfl ?_
    refine l_val rfl rfl rfl (r_assign (v := .int .i64 t61) rfl) ?_
    refine l_nil ?_
    refine c_seq ?_
    refine c_region ?_
    refine l_val rfl rfl rfl (r_move (v := v0) rfl) ?_
    obtain ⟨t64, h_t64, H44⟩ := bnd_some H43; clear H43
    refine l_make (makes_call (rds := []) (G := fun x : (Option Addr × Nat) × (Option Addr × Nat) => .tuple #[.slice x.1.1 t64.1.length x.1.2, .slice x.2.1 t64.2.1.length x.2.2, .int .i64 t64.2.2]) (C := fun x : (Option Addr × Nat) × (Option Addr × Nat) => bothC (roV 5 (.slice x.1.1 t64.1.length x.1.2) t64.1.length (t64.1.map e_edit_Step)) (roV 5 (.slice x.2.1 t64.2.1.length x.2.2) t64.2.1.length (t64.2.1.map e_edit_Step))) (fun w L' hF hS hi => k26 (know_all w) (f0.mono (hw.now hF)) h_t64) Try.call26 rfl) rfl rfl rfl (fun ⟨p, p_2⟩ => ?_)
    refine c_split 0 rfl ?_
    refine l_val rfl rfl rfl (r_move (v := .tuple #[.slice p.1 t64.1.length p.2, .slice p_2.1 t64.2.1.length p_2.2, .int .i64 t64.2.2]) rfl) ?_
    refine l_val rfl rfl rfl (r_extract (v := .slice p.1 t64.1.length p.2) rfl rfl) ?_
    refine l_val rfl rfl rfl (r_extract (v := .slice p_2.1 t64.2.1.length p_2.2) rfl rfl) ?_
    refine l_val rfl rfl rfl (r_extract (v := .int .i64 t64.2.2) rfl rfl) ?_
    refine l_val rfl rfl rfl (r_assign (v := .slice p.1 t64.1.length p.2) rfl) ?_
    refine l_val rfl rfl rfl (r_assign (v := .slice p_2.1 t64.2.1.length p_2.2) rfl) ?_
    refine l_val rfl rfl rfl (r_assign (v := .int .i64 t64.2.2) rfl) ?_
    refine l_nil ?_
    refine c_seq ?_
    refine c_region ?_
    refine l_val rfl rfl rfl (r_move (v := v0) rfl) ?_
    obtain ⟨t70, h_t70, H45⟩ := bnd_some H44; clear H44
    refine l_make (makes_call (rds := []) (G := fun x : (Option Addr × Nat) × (Option Addr × Nat) => .tuple #[.slice x.1.1 t70.1.length x.1.2, .slice x.2.1 t70.2.length x.2.2]) (C := fun x : (Option Addr × Nat) × (Option Addr × Nat) => bothC (rowV 31 5 (.slice x.1.1 t70.1.length x.1.2) t70.1.length (t70.1.map e_edit_Step)) (rowV 31 5 (.slice x.2.1 t70.2.length x.2.2) t70.2.length (t70.2.map e_edit_Step))) (fun w L' hF hS hi => k27 (know_all w) (f0.mono (hw.now hF)) h_t70) Try.call27 rfl) rfl rfl rfl (fun ⟨p_3, p_4⟩ => ?_)
    refine c_split 2 rfl ?_
    refine l_val rfl rfl rfl (r_move (v := .tuple #[.slice p_3.1 t70.1.length p_3.2, .slice p_4.1 t70.2.length p_4.2]) rfl) ?_
    refine l_val rfl rfl rfl (r_extract (v := .slice p_3.1 t70.1.length p_3.2) rfl rfl) ?_
    refine l_val rfl rfl rfl (r_extract (v := .slice p_4.1 t70.2.length p_4.2) rfl rfl) ?_
    refine l_val rfl rfl rfl (r_assign (v := .slice p_3.1 t70.1.length p_3.2) rfl) ?_
    refine l_val rfl rfl rfl (r_assign (v := .slice p_4.1 t70.2.length p_4.2) rfl) ?_
    refine l_nil ?_
    refine c_seq ?_
    refine c_seq ?_
    refine c_region ?_
    refine l_val rfl rfl rfl (r_move (v := .slice p.1 t64.1.length p.2) rfl) ?_
    refine l_val rfl rfl rfl (r_move (v := .int .i64 t64.2.2) rfl) ?_
    refine l_val rfl rfl rfl (r_move (v := .slice p_3.1 t70.1.length p_3.2) rfl) ?_
    refine l_val rfl rfl rfl (r_move (v := .int .i64 t61) rfl) ?_
    obtain ⟨t77, h_t77, H46⟩ := bnd_some H45; clear H45
    refine l_callG (fun w hF hS => k28 (know_all w) (frs_rd (i := 0) hS rfl) (frs_own (i := 2) rfl hS rfl) h_t77) Try.call28 rfl rfl rfl ?_
    refine l_val rfl rfl rfl (r_not rfl) ?_
    refine l_val rfl rfl rfl (r_move (v := .bool (!t77)) rfl) ?_
    refine split (fun hb => ?_) (fun hb => ?_)
    · have H47 := cnd_t hb H46; clear H46
      refine l_passed rfl rfl rfl ?_
      refine l_passed rfl rfl rfl ?_
      refine l_passed rfl rfl rfl ?_
      refine l_passed rfl rfl rfl ?_
      refine l_passed rfl rfl rfl ?_
      refine l_passed rfl rfl rfl ?_
      refine l_val rfl rfl rfl (r_pickT (v := .bool true) rfl rfl) ?_
      refine l_nil ?_
      refine c_true rfl ?_
      refine c_seq ?_
      refine c_region ?_
      refine l_val rfl rfl rfl (r_assign (v := .bool false) rfl) ?_
      refine l_nil ?_
      refine c_ret ?_
      obtain rfl := Option.some.inj H47
      refine ret1 (v := .bool false) rfl rfl (fin rfl)
    · have H48 := cnd_f hb H46; clear H46
      refine l_val rfl rfl rfl (r_move (v := .slice p_2.1 t64.2.1.length p_2.2) rfl) ?_
      refine l_val rfl rfl rfl (r_move (v := .int .i64 t64.2.2) rfl) ?_
      refine l_val rfl rfl rfl (r_move (v := .slice p_4.1 t70.2.length p_4.2) rfl) ?_
      refine l_val rfl rfl rfl (r_move (v := .int .i64 t61) rfl) ?_
      obtain ⟨t84, h_t84, H49⟩ := bnd_some H48; clear H48
      refine l_callG (fun w hF hS => k28 (know_all w) (frs_rd (i := 1) hS rfl) (frs_own (i := 3) rfl hS rfl) h_t84) Try.call28 rfl rfl rfl ?_
      refine l_val rfl rfl rfl (r_not rfl) ?_
      refine l_val rfl rfl rfl (r_pickF (v := .bool (!t84)) rfl rfl) ?_
      refine l_nil ?_
      refine c_if (b := (!t84)) rfl (fun hb => ?_) (fun hb => ?_)
      · have H50 := cnd_t hb H49; clear H49
        refine c_seq ?_
        refine c_region ?_
        refine l_val rfl rfl rfl (r_assign (v := .bool false) rfl) ?_
        refine l_nil ?_
        refine c_ret ?_
        obtain rfl := Option.some.inj H50
        refine ret1 (v := .bool false) rfl rfl (fin rfl)
      · have H51 := cnd_f hb H49; clear H49
        refine c_skip ?_
        refine c_meet (r := r) (σ := Int) (τ := Unit) (fun s => Law_EditTidies_j2 a0 a1 a2 s) (fun s t => [(0, v0), (1, .int .i64 a1), (2, .int .i64 a2), (12, .int .i64 s)]) (fun s t => []) (fun s t => True) ?_ ?_
        · refine c_seq ?_
          refine c_region ?_
          refine l_val rfl rfl rfl (r_move (v := .int .i64 t61) rfl) ?_
          refine l_val rfl rfl rfl (r_eql rfl rfl) ?_
          refine l_nil ?_
          refine c_if (b := (decide (t61 = 0))) rfl (fun hb => ?_) (fun hb => ?_)
          · have H59 := cnd_t hb H51; clear H51
            refine c_region ?_
            refine l_val rfl rfl rfl (r_move (v := v0) rfl) ?_
            refine l_val rfl rfl rfl (r_move (v := .int .i64 a1) rfl) ?_
            refine l_val rfl rfl rfl (r_move (v := .int .i64 a2) rfl) ?_
            obtain ⟨t93, h_t93, H60⟩ := bnd_some H59; clear H59
            refine l_callG (fun w hF hS => k23 (know_all w) (f0.mono (hw.now hF)) h_t93) Try.call23 rfl rfl rfl ?_
            refine l_val rfl rfl rfl (r_move (v := .tuple #[.int .i64 t93.1, .int .i64 t93.2.1, .int .i64 t93.2.2]) rfl) ?_
            refine l_val rfl rfl rfl (r_extract (v := .int .i64 t93.1) rfl rfl) ?_
            refine l_val rfl rfl rfl (r_extract (v := .int .i64 t93.2.1) rfl rfl) ?_
            refine l_val rfl rfl rfl (r_extract (v := .int .i64 t93.2.2) rfl rfl) ?_
            refine l_val rfl rfl rfl (r_assign (v := .int .i64 t93.2.2) rfl) ?_
            refine l_nil ?_
            refine c_close t93.2.2 () 0 [] (by exact ⟨rfl, rfl, rfl, rfl, trivial⟩) (by decide) rfl (by exact ⟨H60, trivial⟩) (Nat.lt_succ_self _)
          · have H61 := cnd_f hb H51; clear H51
            refine c_skip ?_
            refine c_close t61 () 0 [] (by exact ⟨rfl, rfl, rfl, rfl, trivial⟩) (by decide) rfl (by exact ⟨H61, trivial⟩) (Nat.lt_succ_self _)
        · rintro x12 _ gg H52 _
          replace H52 : Law_EditTidies_j2 a0 a1 a2 x12 = some r := H52
          refine c_tidyF [(0, v0), (1, .int .i64 a1), (2, .int .i64 a2), (12, .int .i64 x12)] [] rfl rfl ?_
          refine c_seq ?_
          refine c_region ?_
          refine l_val rfl rfl rfl (r_assign (v := .slice none 0 0) rfl) ?_
          refine l_nil ?_
          refine c_meet (r := r) (σ := (List T_edit_Step)) (τ := (Option Addr × Nat)) (fun s => Law_EditTidies_j3 a0 a1 a2 x12 s) (fun s t => [(0, v0), (1, .int .i64 a1), (2, .int .i64 a2), (12, .int .i64 x12), (18, .slice t.1 s.length t.2)]) (fun s t => [rowV 31 5 (.slice t.1 s.length t.2) s.length (s.map e_edit_Step)]) (fun s t => True) ?_ ?_
          · refine c_seq ?_
            refine c_region ?_
            refine l_val rfl rfl rfl (r_move (v := .int .i64 x12) rfl) ?_
            refine l_val rfl rfl rfl (r_eql rfl rfl) ?_
            refine l_nil ?_
            refine c_if (b := (decide (x12 = 0))) rfl (fun hb => ?_) (fun hb => ?_)
            · have H56 := cnd_t hb H52; clear H52
              refine c_region ?_
              refine l_val rfl rfl rfl (r_move (v := v0) rfl) ?_
              refine l_val rfl rfl rfl (r_move (v := .int .i64 a1) rfl) ?_
              refine l_val rfl rfl rfl (r_move (v := .int .i64 a2) rfl) ?_
              obtain ⟨t102, h_t102, H57⟩ := bnd_some H56; clear H56
              refine l_make (makes_call (rds := []) (G := fun x : (Option Addr × Nat) => .slice x.1 t102.length x.2) (C := fun x : (Option Addr × Nat) => rowV 31 5 (.slice x.1 t102.length x.2) t102.length (t102.map e_edit_Step)) (fun w L' hF hS hi => k29 (know_all w) (f0.mono (hw.now hF)) h_t102) Try.call29 rfl) rfl rfl rfl (fun p_7 => ?_)
              refine l_val rfl rfl rfl (r_assign (v := .slice p_7.1 t102.length p_7.2) rfl) ?_
              refine l_nil ?_
              refine c_close t102 p_7 0 [0] (by exact ⟨rfl, rfl, rfl, rfl, rfl, trivial⟩) (by decide) rfl (by exact ⟨H57, trivial⟩) (Nat.lt_succ_self _)
            · have H58 := cnd_f hb H52; clear H52
              refine c_skip ?_
              refine c_nilRow 31 5 ?_
              refine c_close ([] : List T_edit_Step) ((none, 0) : Option Addr × Nat) 0 [0] (by exact ⟨rfl, rfl, rfl, rfl, rfl, trivial⟩) (by decide) rfl (by exact ⟨H58, trivial⟩) (Nat.lt_succ_self _)
          · rintro l p_5 gg H53 _
            replace H53 : Law_EditTidies_j3 a0 a1 a2 x12 l = some r := H53
            refine c_tidyF [(0, v0), (1, .int .i64 a1), (2, .int .i64 a2), (12, .int .i64 x12), (18, .slice p_5.1 l.length p_5.2)] [rowV 31 5 (.slice p_5.1 l.length p_5.2) l.length (l.map e_edit_Step)] rfl rfl ?_
            refine c_seq ?_
            refine c_region ?_
            refine l_val rfl rfl rfl (r_move (v := v0) rfl) ?_
            refine l_val rfl rfl rfl (r_move (v := .int .i64 a1) rfl) ?_
            refine l_val rfl rfl rfl (r_move (v := .int .i64 a2) rfl) ?_
            obtain ⟨t107, h_t107, H54⟩ := bnd_some H53; clear H53
            refine l_make (makes_call (rds := []) (G := fun x : (Option Addr × Nat) => .tuple #[.slice x.1 t107.1.length x.2, .int .i64 t107.2]) (C := fun x : (Option Addr × Nat) => roV 5 (.slice x.1 t107.1.length x.2) t107.1.length (t107.1.map e_edit_Step)) (fun w L' hF hS hi => k30 (know_all w) (f0.mono (hw.now hF)) h_t107) Try.call30 rfl) rfl rfl rfl (fun p_6 => ?_)
            refine l_val rfl rfl rfl (r_move (v := .tuple #[.slice p_6.1 t107.1.length p_6.2, .int .i64 t107.2]) rfl) ?_
            refine l_val rfl rfl rfl (r_extract (v := .slice p_6.1 t107.1.length p_6.2) rfl rfl) ?_
            refine l_val rfl rfl rfl (r_extract (v := .int .i64 t107.2) rfl rfl) ?_
            refine l_val rfl rfl rfl (r_assign (v := .slice p_6.1 t107.1.length p_6.2) rfl) ?_
            refine l_val rfl rfl rfl (r_assign (v := .int .i64 t107.2) rfl) ?_
            refine l_nil ?_
            refine c_seq ?_
            refine c_region ?_
            refine l_val rfl rfl rfl (r_move (v := .slice p_6.1 t107.1.length p_6.2) rfl) ?_
            refine l_val rfl rfl rfl (r_move (v := .int .i64 t107.2) rfl) ?_
            refine l_val rfl rfl rfl (r_move (v := .slice p_5.1 l.length p_5.2) rfl) ?_
            refine l_val rfl rfl rfl (r_move (v := .int .i64 x12) rfl) ?_
            obtain ⟨t114, h_t114, H55⟩ := bnd_some H54; clear H54
            refine l_callG (fun w hF hS => k28 (know_all w) (frs_rd (i := 1) hS rfl) (frs_own (i := 0) rfl hS rfl) h_t114) Try.call28 rfl rfl rfl ?_
            refine l_val rfl rfl rfl (r_assign (v := .bool t114) rfl) ?_
            refine l_nil ?_
            refine c_ret ?_
            obtain rfl := Option.some.inj H55
            refine ret1 (v := .bool t114) rfl rfl (fin rfl)
end Go.Proofs.Ytllnhnnpmmnomaa
