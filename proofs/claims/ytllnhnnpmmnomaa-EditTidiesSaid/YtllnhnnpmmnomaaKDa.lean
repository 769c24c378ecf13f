/- EditTidies, the rules of the reference: the walks, printed by our generator; each follows its model. Conditions: the model yields a value. -/
import Derived.Test.YtllnhnnpmmnomaaKDc
namespace Go.Proofs.Ytllnhnnpmmnomaa
open Go Go.Vc Go.Md Go.M Go.Lx
set_option maxRecDepth 100000
set_option maxHeartbeats 4000000
set_option linter.unusedVariables false

theorem k23 {a0 : (List T_edit_Step)} {v0 : Value} {a1 : Int} {a2 : Int} {r : Int × Int × Int} {w : World} {h : Heap} (hw : Know h w noS) (f0 : FrS h 5 v0 (a0.map e_edit_Step)) (H : R_SizeOf a0 a1 a2 = some r) : Does Try.prog 23 (List.toArray [v0, .int .i64 a1, .int .i64 a2]) w (fun v w' => v = (.tuple #[.int .i64 r.1, .int .i64 r.2.1, .int .i64 r.2.2]) ∧ Grow w w') := by
  refine enter (n := 71) Try.func23 rfl rfl rfl noS [] (Sat.nil _ _) ?_
  refine c_seq ?_
  refine c_region ?_
  refine l_val rfl rfl rfl (r_assign (v := .int .i64 0) rfl) ?_
  refine l_val rfl rfl rfl (r_assign (v := .int .i64 0) rfl) ?_
  refine l_val rfl rfl rfl (r_assign (v := .int .i64 0) rfl) ?_
  refine l_nil ?_
  refine c_seq ?_
  refine c_seq ?_
  refine c_region ?_
  refine l_val rfl rfl rfl (r_move (v := .int .i64 a1) rfl) ?_
  refine l_val rfl rfl rfl (r_lss rfl rfl) ?_
  refine l_val rfl rfl rfl (r_move (v := .bool (decide (a1 < 1))) rfl) ?_
  refine split (fun hb => ?_) (fun hb => ?_)
  · have H30 := cnd_t hb H; clear H
    refine l_passed rfl rfl rfl ?_
    refine l_passed rfl rfl rfl ?_
    refine l_val rfl rfl rfl (r_pickT (v := .bool true) rfl rfl) ?_
    refine l_val rfl rfl rfl (r_move (v := .bool true) rfl) ?_
    refine l_passed rfl rfl rfl ?_
    refine l_passed rfl rfl rfl ?_
    refine l_val rfl rfl rfl (r_pickT (v := .bool true) rfl rfl) ?_
    refine l_val rfl rfl rfl (r_move (v := .bool true) rfl) ?_
    refine l_passed rfl rfl rfl ?_
    refine l_passed rfl rfl rfl ?_
    refine l_val rfl rfl rfl (r_pickT (v := .bool true) rfl rfl) ?_
    refine l_nil ?_
    refine c_true rfl ?_
    refine c_seq ?_
    refine c_region ?_
    refine l_val rfl rfl rfl (r_assign (v := .int .i64 0) rfl) ?_
    refine l_val rfl rfl rfl (r_assign (v := .int .i64 0) rfl) ?_
    refine l_val rfl rfl rfl (r_assign (v := .int .i64 2) rfl) ?_
    refine l_nil ?_
    refine c_ret ?_
    obtain rfl := Option.some.inj H30
    refine ret3 (v1 := .int .i64 0) (v2 := .int .i64 0) (v3 := .int .i64 2) rfl rfl rfl rfl (fin rfl)
  · have H31 := cnd_f hb H; clear H
    refine l_val rfl rfl rfl (r_move (v := .int .i64 a1) rfl) ?_
    refine l_val rfl rfl rfl (r_gtr rfl rfl) ?_
    refine l_val rfl rfl rfl (r_pickF (v := .bool (decide (64 < a1))) rfl rfl) ?_
    refine l_val rfl rfl rfl (r_move (v := .bool (decide (64 < a1))) rfl) ?_
    refine split (fun hb => ?_) (fun hb => ?_)
    · have H32 := cnd_t hb H31; clear H31
      refine l_passed rfl rfl rfl ?_
      refine l_passed rfl rfl rfl ?_
      refine l_val rfl rfl rfl (r_pickT (v := .bool true) rfl rfl) ?_
      refine l_val rfl rfl rfl (r_move (v := .bool true) rfl) ?_
      refine l_passed rfl rfl rfl ?_
      refine l_passed rfl rfl rfl ?_
      refine l_val rfl rfl rfl (r_pickT (v := .bool true) rfl rfl) ?_
      refine l_nil ?_
      refine c_true rfl ?_
      refine c_seq ?_
      refine c_region ?_
      refine l_val rfl rfl rfl (r_assign (v := .int .i64 0) rfl) ?_
      refine l_val rfl rfl rfl (r_assign (v := .int .i64 0) rfl) ?_
      refine l_val rfl rfl rfl (r_assign (v := .int .i64 2) rfl) ?_
      refine l_nil ?_
      refine c_ret ?_
      obtain rfl := Option.some.inj H32
      refine ret3 (v1 := .int .i64 0) (v2 := .int .i64 0) (v3 := .int .i64 2) rfl rfl rfl rfl (fin rfl)
    · have H33 := cnd_f hb H31; clear H31
      refine l_val rfl rfl rfl (r_move (v := .int .i64 a2) rfl) ?_
      refine l_val rfl rfl rfl (r_lss rfl rfl) ?_
      refine l_val rfl rfl rfl (r_pickF (v := .bool (decide (a2 < 1))) rfl rfl) ?_
      refine l_val rfl rfl rfl (r_move (v := .bool (decide (a2 < 1))) rfl) ?_
      refine split (fun hb => ?_) (fun hb => ?_)
      · have H34 := cnd_t hb H33; clear H33
        refine l_passed rfl rfl rfl ?_
        refine l_passed rfl rfl rfl ?_
        refine l_val rfl rfl rfl (r_pickT (v := .bool true) rfl rfl) ?_
        refine l_nil ?_
        refine c_true rfl ?_
        refine c_seq ?_
        refine c_region ?_
        refine l_val rfl rfl rfl (r_assign (v := .int .i64 0) rfl) ?_
        refine l_val rfl rfl rfl (r_assign (v := .int .i64 0) rfl) ?_
        refine l_val rfl rfl rfl (r_assign (v := .int .i64 2) rfl) ?_
        refine l_nil ?_
        refine c_ret ?_
        obtain rfl := Option.some.inj H34
        refine ret3 (v1 := .int .i64 0) (v2 := .int .i64 0) (v3 := .int .i64 2) rfl rfl rfl rfl (fin rfl)
      · have H35 := cnd_f hb H33; clear H33
        refine l_val rfl rfl rfl (r_move (v := .int .i64 a2) rfl) ?_
        refine l_val rfl rfl rfl (r_gtr rfl rfl) ?_
        refine l_val rfl rfl rfl (r_pickF (v := .bool (decide (64 < a2))) rfl rfl) ?_
        refine l_nil ?_
        refine c_if (b := (decide (64 < a2))) rfl (fun hb => ?_) (fun hb => ?_)
        · have H36 := cnd_t hb H35; clear H35
          refine c_seq ?_
          refine c_region ?_
          refine l_val rfl rfl rfl (r_assign (v := .int .i64 0) rfl) ?_
          refine l_val rfl rfl rfl (r_assign (v := .int .i64 0) rfl) ?_
          refine l_val rfl rfl rfl (r_assign (v := .int .i64 2) rfl) ?_
          refine l_nil ?_
          refine c_ret ?_
          obtain rfl := Option.some.inj H36
          refine ret3 (v1 := .int .i64 0) (v2 := .int .i64 0) (v3 := .int .i64 2) rfl rfl rfl rfl (fin rfl)
        · have H37 := cnd_f hb H35; clear H35
          refine c_skip ?_
          refine c_meet (r := r) (σ := Int × Int) (τ := Unit) (fun s => R_SizeOf_j1 s.1 s.2) (fun s t => [(1, .int .i64 s.1), (2, .int .i64 s.2)]) (fun s t => []) (fun s t => True) ?_ ?_
          · refine c_seq ?_
            refine c_region ?_
            refine l_val rfl rfl rfl (r_move (v := v0) rfl) ?_
            refine l_val rfl rfl rfl (r_lenF Try.underlying22 rfl f0 rfl) ?_
            refine l_val rfl rfl rfl (r_move (v := .int .i64 0) rfl) ?_
            refine l_nil ?_
            refine c_block ?_
            refine c_fix (σ := Int × Int × Int) (τ := Unit) (fun next2 s => R_SizeOf_l2 a0 next2 s.1 s.2.1 s.2.2) (fun s t => [(1, .int .i64 s.1), (2, .int .i64 s.2.1), (25, v0), (26, .int .i64 (a0.length : Int)), (27, .int .i64 s.2.2)]) (fun s t => []) (fun s t => True) (a1, a2, 0) () [] H37 (by exact trivial) (by exact ⟨rfl, rfl, rfl, rfl, rfl, trivial⟩) (by decide) rfl ?_
            rintro ⟨x1_3, x2_3, x27_2⟩ _ m2 gg H39 _
            clear H37
            replace H39 : R_SizeOf_l2 a0 (it (fun next2 s => R_SizeOf_l2 a0 next2 s.1 s.2.1 s.2.2) m2) x1_3 x2_3 x27_2 = some r := H39
            generalize hn2 : it (fun next2 s => R_SizeOf_l2 a0 next2 s.1 s.2.1 s.2.2) m2 = next2 at H39
            refine c_tidyF [(1, .int .i64 x1_3), (2, .int .i64 x2_3), (25, v0), (26, .int .i64 (a0.length : Int)), (27, .int .i64 x27_2)] [] rfl rfl ?_
            refine c_seq ?_
            refine c_region ?_
            refine l_val rfl rfl rfl (r_lss rfl rfl) ?_
            refine l_nil ?_
            refine c_seq ?_
            refine c_if (b := (decide (x27_2 < (a0.length : Int)))) rfl (fun hb => ?_) (fun hb => ?_)
            · have H40 := cnd_t hb H39; clear H39
              refine c_skip ?_
              refine c_meet (r := r) (σ := Int × Int) (τ := Unit) (fun s => R_SizeOf_j3 x27_2 next2 s.1 s.2) (fun s t => [(1, .int .i64 s.1), (2, .int .i64 s.2), (25, v0), (26, .int .i64 (a0.length : Int)), (27, .int .i64 x27_2)]) (fun s t => []) (fun s t => True) ?_ ?_
              · refine c_block ?_
                refine c_seq ?_
                refine c_region ?_
                obtain ⟨t29, h_t29, H43⟩ := bnd_some H40; clear H40
                refine l_val rfl rfl rfl (r_indexF Try.underlying22 Try.sizeOf31 rfl rfl f0 h_t29) ?_
                refine l_read (fun w hF hS => run_loadGN (f := e_edit_Step) (i := x27_2) (sz := 5) (j := 0) (vs := [.int .i64 t29.Kind, .int .i64 t29.A, .int .i64 t29.B, .int .i64 t29.C, .int .i64 t29.D]) Try.isAgg31 Try.sizeOf31 rfl rfl (f0.row (hw.now hF)) h_t29 rfl) rfl rfl rfl ?_
                refine l_alloc (cs := [.int .i64 0, .int .i64 0, .int .i64 0, .int .i64 0, .int .i64 0]) Try.zeroValue31 rfl rfl rfl (fun b1 => ?_)
                refine l_store (i := 0) (vs := [.int .i64 t29.Kind, .int .i64 t29.A, .int .i64 t29.B, .int .i64 t29.C, .int .i64 t29.D]) (cs' := [.int .i64 t29.Kind, .int .i64 t29.A, .int .i64 t29.B, .int .i64 t29.C, .int .i64 t29.D]) Try.sizeOf31 rfl rfl rfl rfl rfl rfl rfl rfl rfl ?_
                refine l_nil ?_
                refine c_seq ?_
                refine c_region ?_
                refine l_val rfl rfl rfl (r_field Try.runUnderlying31 rfl Try.sizeOf3 rfl rfl) ?_
                refine l_load1 (i := 0) (v := .int .i64 t29.Kind) Try.isAgg3 rfl rfl rfl rfl rfl ?_
                refine l_nil ?_
                refine c_block ?_
                refine c_seq ?_
                refine c_region ?_
                refine l_val rfl rfl rfl (r_eql rfl rfl) ?_
                refine l_val rfl rfl rfl (r_assign (v := .bool (decide (t29.Kind = 1))) rfl) ?_
                refine l_nil ?_
                refine c_if (b := (decide (t29.Kind = 1))) rfl (fun hb => ?_) (fun hb => ?_)
                · have H44 := cnd_t hb H43; clear H43
                  refine c_seq ?_
                  refine c_region ?_
                  refine l_val rfl rfl rfl (r_field Try.runUnderlying31 rfl Try.sizeOf3 rfl rfl) ?_
                  refine l_load1 (i := 0) (v := .int .i64 t29.A) Try.isAgg3 rfl rfl rfl rfl rfl ?_
                  refine l_val rfl rfl rfl (r_geq rfl rfl) ?_
                  refine l_nil ?_
                  refine c_if (b := (decide (5 ≤ t29.A))) rfl (fun hb => ?_) (fun hb => ?_)
                  · have H45 := cnd_t hb H44; clear H44
                    refine c_region ?_
                    refine l_val rfl rfl rfl (r_move (v := .int .i64 x2_3) rfl) ?_
                    refine l_val rfl rfl rfl (r_move (v := .int .i64 x1_3) rfl) ?_
                    refine l_val rfl rfl rfl (r_assign (v := .int .i64 x2_3) rfl) ?_
                    refine l_val rfl rfl rfl (r_assign (v := .int .i64 x1_3) rfl) ?_
                    refine l_nil ?_
                    refine c_close (x2_3, x1_3) () 0 [] (by exact ⟨rfl, rfl, rfl, rfl, rfl, trivial⟩) (by decide) rfl (by exact ⟨H45, trivial⟩) (Nat.lt_succ_self _)
                  · have H46 := cnd_f hb H44; clear H44
                    refine c_skip ?_
                    refine c_close (x1_3, x2_3) () 0 [] (by exact ⟨rfl, rfl, rfl, rfl, rfl, trivial⟩) (by decide) rfl (by exact ⟨H46, trivial⟩) (Nat.lt_succ_self _)
                · have H47 := cnd_f hb H43; clear H43
                  refine c_seq ?_
                  refine c_region ?_
                  refine l_val rfl rfl rfl (r_eql rfl rfl) ?_
                  refine l_val rfl rfl rfl (r_assign (v := .bool (decide (t29.Kind = 2))) rfl) ?_
                  refine l_nil ?_
                  refine c_if (b := (decide (t29.Kind = 2))) rfl (fun hb => ?_) (fun hb => ?_)
                  · have H48 := cnd_t hb H47; clear H47
                    refine c_seq ?_
                    refine c_seq ?_
                    refine c_region ?_
                    refine l_val rfl rfl rfl (r_field Try.runUnderlying31 rfl Try.sizeOf3 rfl rfl) ?_
                    refine l_load1 (i := 0) (v := .int .i64 t29.A) Try.isAgg3 rfl rfl rfl rfl rfl ?_
                    refine l_val rfl rfl rfl (r_field Try.runUnderlying31 rfl Try.sizeOf3 rfl rfl) ?_
                    refine l_load1 (i := 0) (v := .int .i64 t29.C) Try.isAgg3 rfl rfl rfl rfl rfl ?_
                    obtain ⟨t46, h_t46, H49⟩ := bnd_some H48; clear H48
                    refine l_val rfl rfl rfl (r_addG rfl rfl h_t46) ?_
                    refine l_val rfl rfl rfl (r_move (v := .int .i64 x1_3) rfl) ?_
                    refine l_val rfl rfl rfl (r_gtr rfl rfl) ?_
                    refine l_val rfl rfl rfl (r_move (v := .bool (decide (x1_3 < t46))) rfl) ?_
                    refine split (fun hb => ?_) (fun hb => ?_)
                    · have H50 := cnd_t hb H49; clear H49
                      refine l_passed rfl rfl rfl ?_
                      refine l_passed rfl rfl rfl ?_
                      refine l_passed rfl rfl rfl ?_
                      refine l_passed rfl rfl rfl ?_
                      refine l_passed rfl rfl rfl ?_
                      refine l_passed rfl rfl rfl ?_
                      refine l_passed rfl rfl rfl ?_
                      refine l_val rfl rfl rfl (r_pickT (v := .bool true) rfl rfl) ?_
                      refine l_nil ?_
                      refine c_true rfl ?_
                      refine c_seq ?_
                      refine c_region ?_
                      refine l_val rfl rfl rfl (r_assign (v := .int .i64 0) rfl) ?_
                      refine l_val rfl rfl rfl (r_assign (v := .int .i64 0) rfl) ?_
                      refine l_val rfl rfl rfl (r_assign (v := .int .i64 7) rfl) ?_
                      refine l_nil ?_
                      refine c_ret ?_
                      obtain rfl := Option.some.inj H50
                      refine ret3 (v1 := .int .i64 0) (v2 := .int .i64 0) (v3 := .int .i64 7) rfl rfl rfl rfl (fin rfl)
                    · have H51 := cnd_f hb H49; clear H49
                      refine l_val rfl rfl rfl (r_field Try.runUnderlying31 rfl Try.sizeOf3 rfl rfl) ?_
                      refine l_load1 (i := 0) (v := .int .i64 t29.B) Try.isAgg3 rfl rfl rfl rfl rfl ?_
                      refine l_val rfl rfl rfl (r_field Try.runUnderlying31 rfl Try.sizeOf3 rfl rfl) ?_
                      refine l_load1 (i := 0) (v := .int .i64 t29.D) Try.isAgg3 rfl rfl rfl rfl rfl ?_
                      obtain ⟨t54, h_t54, H52⟩ := bnd_some H51; clear H51
                      refine l_val rfl rfl rfl (r_addG rfl rfl h_t54) ?_
                      refine l_val rfl rfl rfl (r_move (v := .int .i64 x2_3) rfl) ?_
                      refine l_val rfl rfl rfl (r_gtr rfl rfl) ?_
                      refine l_val rfl rfl rfl (r_pickF (v := .bool (decide (x2_3 < t54))) rfl rfl) ?_
                      refine l_nil ?_
                      refine c_if (b := (decide (x2_3 < t54))) rfl (fun hb => ?_) (fun hb => ?_)
                      · have H53 := cnd_t hb H52; clear H52
                        refine c_seq ?_
                        refine c_region ?_
                        refine l_val rfl rfl rfl (r_assign (v := .int .i64 0) rfl) ?_
                        refine l_val rfl rfl rfl (r_assign (v := .int .i64 0) rfl) ?_
                        refine l_val rfl rfl rfl (r_assign (v := .int .i64 7) rfl) ?_
                        refine l_nil ?_
                        refine c_ret ?_
                        obtain rfl := Option.some.inj H53
                        refine ret3 (v1 := .int .i64 0) (v2 := .int .i64 0) (v3 := .int .i64 7) rfl rfl rfl rfl (fin rfl)
                      · have H54 := cnd_f hb H52; clear H52
                        refine c_skip ?_
                        exact c_regionD (Kd.p :: Kd.d [0] _ :: Kd.p :: Kd.d [0] _ :: Kd.p :: Kd.p :: []) 0 mixed (by
                          refine d_val rfl rfl (r_field Try.runUnderlying31 rfl Try.sizeOf3 rfl rfl) ?_
                          refine d_load1 (i := 0) (v := .int .i64 t29.C) Try.isAgg3 rfl rfl rfl rfl ?_
                          refine d_val rfl rfl (r_field Try.runUnderlying31 rfl Try.sizeOf3 rfl rfl) ?_
                          refine d_load1 (i := 0) (v := .int .i64 t29.D) Try.isAgg3 rfl rfl rfl rfl ?_
                          refine d_val rfl rfl (r_assign (v := .int .i64 t29.C) rfl) ?_
                          refine d_val rfl rfl (r_assign (v := .int .i64 t29.D) rfl) ?_
                          refine d_nil ?_
                          refine c_close (t29.C, t29.D) () 0 [] (by exact ⟨rfl, rfl, rfl, rfl, rfl, trivial⟩) (by decide) rfl (by exact ⟨H54, trivial⟩) (Nat.lt_succ_self _)
                          ) (by kernel_rfl)
                  · have H55 := cnd_f hb H47; clear H47
                    refine c_seq ?_
                    refine c_region ?_
                    refine l_val rfl rfl rfl (r_eql rfl rfl) ?_
                    refine l_val rfl rfl rfl (r_assign (v := .bool (decide (t29.Kind = 3))) rfl) ?_
                    refine l_nil ?_
                    refine c_if (b := (decide (t29.Kind = 3))) rfl (fun hb => ?_) (fun hb => ?_)
                    · have H56 := cnd_t hb H55; clear H55
                      exact c_regionD (Kd.p :: Kd.d [0] _ :: Kd.p :: Kd.d [0] _ :: Kd.p :: Kd.p :: []) 0 mixed (by
                        refine d_val rfl rfl (r_field Try.runUnderlying31 rfl Try.sizeOf3 rfl rfl) ?_
                        refine d_load1 (i := 0) (v := .int .i64 t29.A) Try.isAgg3 rfl rfl rfl rfl ?_
                        refine d_val rfl rfl (r_field Try.runUnderlying31 rfl Try.sizeOf3 rfl rfl) ?_
                        refine d_load1 (i := 0) (v := .int .i64 t29.B) Try.isAgg3 rfl rfl rfl rfl ?_
                        refine d_val rfl rfl (r_assign (v := .int .i64 t29.A) rfl) ?_
                        refine d_val rfl rfl (r_assign (v := .int .i64 t29.B) rfl) ?_
                        refine d_nil ?_
                        refine c_close (t29.A, t29.B) () 0 [] (by exact ⟨rfl, rfl, rfl, rfl, rfl, trivial⟩) (by decide) rfl (by exact ⟨H56, trivial⟩) (Nat.lt_succ_self _)
                        ) (by kernel_rfl)
                    · have H57 := cnd_f hb H55; clear H55
                      refine c_skip ?_
                      refine c_close (x1_3, x2_3) () 0 [] (by exact ⟨rfl, rfl, rfl, rfl, rfl, trivial⟩) (by decide) rfl (by exact ⟨H57, trivial⟩) (Nat.lt_succ_self _)
              · rintro ⟨x1_4, x2_4⟩ _ gg H41 _
                replace H41 : R_SizeOf_j3 x27_2 next2 x1_4 x2_4 = some r := H41
                refine c_tidyF [(1, .int .i64 x1_4), (2, .int .i64 x2_4), (25, v0), (26, .int .i64 (a0.length : Int)), (27, .int .i64 x27_2)] [] rfl rfl ?_
                refine c_region ?_
                obtain ⟨t68, h_t68, H42⟩ := bnd_some H41; clear H41
                refine l_val rfl rfl rfl (r_addG rfl rfl h_t68) ?_
                refine l_val rfl rfl rfl (r_move (v := .int .i64 t68) rfl) ?_
                refine l_nil ?_
                refine c_close (x1_4, x2_4, t68) () m2 [] (by exact ⟨rfl, rfl, rfl, rfl, rfl, trivial⟩) (by decide) rfl (by exact ⟨(by subst hn2; exact H42), trivial⟩) (Nat.lt_succ_self _)
            · have H58 := cnd_f hb H39; clear H39
              refine c_exit ?_
              refine c_close (x1_3, x2_3) () 0 [] (by exact ⟨rfl, rfl, trivial⟩) (by decide) rfl (by exact ⟨H58, trivial⟩) (Nat.lt_succ_self _)
          · rintro ⟨x1, x2⟩ _ gg H38 _
            replace H38 : R_SizeOf_j1 x1 x2 = some r := H38
            refine c_tidyF [(1, .int .i64 x1), (2, .int .i64 x2)] [] rfl rfl ?_
            refine c_seq ?_
            refine c_region ?_
            refine l_val rfl rfl rfl (r_move (v := .int .i64 x1) rfl) ?_
            refine l_val rfl rfl rfl (r_move (v := .int .i64 x2) rfl) ?_
            refine l_val rfl rfl rfl (r_assign (v := .int .i64 x1) rfl) ?_
            refine l_val rfl rfl rfl (r_assign (v := .int .i64 x2) rfl) ?_
            refine l_val rfl rfl rfl (r_assign (v := .int .i64 0) rfl) ?_
            refine l_nil ?_
            refine c_ret ?_
            obtain rfl := Option.some.inj H38
            refine ret3 (v1 := .int .i64 x1) (v2 := .int .i64 x2) (v3 := .int .i64 0) rfl rfl rfl rfl (fin rfl)
theorem k25 {a0 : T_edit_Step} {a1 : Int} {a2 : Int} {r : Bool} (H : R_Idle a0 a1 a2 = some r) : Ret Try.prog 25 [.agg #[.int .i64 a0.Kind, .int .i64 a0.A, .int .i64 a0.B, .int .i64 a0.C, .int .i64 a0.D], .int .i64 a1, .int .i64 a2] (.bool r) := by
  refine enterRet (n := 55) Try.func25 rfl rfl rfl (fun wd => ?_)
  refine c_seq ?_
  refine c_region ?_
  refine l_box (cs := [.int .i64 a0.Kind, .int .i64 a0.A, .int .i64 a0.B, .int .i64 a0.C, .int .i64 a0.D]) rfl rfl rfl rfl (fun b1 => ?_)
  refine l_val rfl rfl rfl (r_assign (v := .bool false) rfl) ?_
  refine l_nil ?_
  refine c_seq ?_
  refine c_seq ?_
  refine c_region ?_
  refine l_val rfl rfl rfl (r_field Try.runUnderlying31 rfl Try.sizeOf3 rfl rfl) ?_
  refine l_load1 (i := 0) (v := .int .i64 a0.Kind) Try.isAgg3 rfl rfl rfl rfl rfl ?_
  refine l_nil ?_
  refine c_block ?_
  refine c_seq ?_
  refine c_region ?_
  refine l_val rfl rfl rfl (r_eql rfl rfl) ?_
  refine l_val rfl rfl rfl (r_assign (v := .bool (decide (a0.Kind = 1))) rfl) ?_
  refine l_nil ?_
  refine c_if (b := (decide (a0.Kind = 1))) rfl (fun hb => ?_) (fun hb => ?_)
  · have H22 := cnd_t hb H; clear H
    refine c_seq ?_
    refine c_region ?_
    refine l_val rfl rfl rfl (r_field Try.runUnderlying31 rfl Try.sizeOf3 rfl rfl) ?_
    refine l_load1 (i := 0) (v := .int .i64 a0.A) Try.isAgg3 rfl rfl rfl rfl rfl ?_
    refine l_val rfl rfl rfl (r_eql rfl rfl) ?_
    refine l_val rfl rfl rfl (r_assign (v := .bool (decide (a0.A = 1))) rfl) ?_
    refine l_nil ?_
    refine c_ret ?_
    obtain rfl := Option.some.inj H22
    refine ret1 (v := .bool (decide (a0.A = 1))) rfl rfl (fin rfl)
  · have H23 := cnd_f hb H; clear H
    refine c_seq ?_
    refine c_region ?_
    refine l_val rfl rfl rfl (r_eql rfl rfl) ?_
    refine l_val rfl rfl rfl (r_assign (v := .bool (decide (a0.Kind = 2))) rfl) ?_
    refine l_nil ?_
    refine c_if (b := (decide (a0.Kind = 2))) rfl (fun hb => ?_) (fun hb => ?_)
    · have H24 := cnd_t hb H23; clear H23
      refine c_seq ?_
      refine c_region ?_
      refine l_loadN (i := 0) (vs := [.int .i64 a0.Kind, .int .i64 a0.A, .int .i64 a0.B, .int .i64 a0.C, .int .i64 a0.D]) Try.isAgg31 Try.sizeOf31 rfl rfl rfl rfl rfl ?_
      refine l_val rfl rfl rfl (r_move (v := .int .i64 a1) rfl) ?_
      refine l_val rfl rfl rfl (r_move (v := .int .i64 a2) rfl) ?_
      refine l_val rfl rfl rfl (r_build (pl := #[(0, 1), (1, 1), (2, 1), (3, 1), (4, 1)]) (ps := [(0, .int .i64 2), (3, .int .i64 a1), (4, .int .i64 a2)]) (cells := #[.int .i64 2, .int .i64 0, .int .i64 0, .int .i64 a1, .int .i64 a2]) Try.zeroValue31 Try.runUnderlying31 (fun w => by kernel_rfl) rfl rfl) ?_
      refine l_val rfl rfl rfl (r_eqlA (xs := #[.int .i64 a0.Kind, .int .i64 a0.A, .int .i64 a0.B, .int .i64 a0.C, .int .i64 a0.D]) (ys := #[.int .i64 2, .int .i64 0, .int .i64 0, .int .i64 a1, .int .i64 a2]) Try.eqGuardType31 (fun w => run_eq_edit_Step w a0 (⟨2, 0, 0, a1, a2⟩ : T_edit_Step)) rfl rfl) ?_
      refine l_val rfl rfl rfl (r_assign (v := .bool (eq_edit_Step a0 (⟨2, 0, 0, a1, a2⟩ : T_edit_Step))) rfl) ?_
      refine l_nil ?_
      refine c_ret ?_
      obtain rfl := Option.some.inj H24
      refine ret1 (v := .bool (eq_edit_Step a0 (⟨2, 0, 0, a1, a2⟩ : T_edit_Step))) rfl rfl (fin rfl)
    · have H25 := cnd_f hb H23; clear H23
      refine c_seq ?_
      refine c_region ?_
      refine l_val rfl rfl rfl (r_eql rfl rfl) ?_
      refine l_val rfl rfl rfl (r_assign (v := .bool (decide (a0.Kind = 3))) rfl) ?_
      refine l_nil ?_
      refine c_if (b := (decide (a0.Kind = 3))) rfl (fun hb => ?_) (fun hb => ?_)
      · have H26 := cnd_t hb H25; clear H25
        refine c_seq ?_
        refine c_region ?_
        refine l_val rfl rfl rfl (r_field Try.runUnderlying31 rfl Try.sizeOf3 rfl rfl) ?_
        refine l_load1 (i := 0) (v := .int .i64 a0.A) Try.isAgg3 rfl rfl rfl rfl rfl ?_
        refine l_val rfl rfl rfl (r_move (v := .int .i64 a1) rfl) ?_
        refine l_val rfl rfl rfl (r_eql rfl rfl) ?_
        refine l_val rfl rfl rfl (r_move (v := .bool (decide (a0.A = a1))) rfl) ?_
        refine split (fun hb => ?_) (fun hb => ?_)
        · have H27 := cnd_t hb H26; clear H26
          refine l_val rfl rfl rfl (r_field Try.runUnderlying31 rfl Try.sizeOf3 rfl rfl) ?_
          refine l_load1 (i := 0) (v := .int .i64 a0.B) Try.isAgg3 rfl rfl rfl rfl rfl ?_
          refine l_val rfl rfl rfl (r_move (v := .int .i64 a2) rfl) ?_
          refine l_val rfl rfl rfl (r_eql rfl rfl) ?_
          refine l_val rfl rfl rfl (r_pickT (v := .bool (decide (a0.B = a2))) rfl rfl) ?_
          refine l_val rfl rfl rfl (r_assign (v := .bool (decide (a0.B = a2))) rfl) ?_
          refine l_nil ?_
          refine c_ret ?_
          obtain rfl := Option.some.inj H27
          refine ret1 (v := .bool (decide (a0.B = a2))) rfl rfl (fin rfl)
        · have H28 := cnd_f hb H26; clear H26
          refine l_passed rfl rfl rfl ?_
          refine l_passed rfl rfl rfl ?_
          refine l_passed rfl rfl rfl ?_
          refine l_passed rfl rfl rfl ?_
          refine l_val rfl rfl rfl (r_pickF (v := .bool false) rfl rfl) ?_
          refine l_val rfl rfl rfl (r_assign (v := .bool false) rfl) ?_
          refine l_nil ?_
          refine c_ret ?_
          obtain rfl := Option.some.inj H28
          refine ret1 (v := .bool false) rfl rfl (fin rfl)
      · have H29 := cnd_f hb H25; clear H25
        refine c_meet (r := r) (σ := Bool) (τ := Unit) (fun s => R_Idle_j1 a0 s) (fun s t => [(3, .pointer (some ⟨b1, 0, none⟩)), (8, .int .i64 a0.Kind), (33, .bool s)]) (fun s t => [cellsC b1 [.int .i64 a0.Kind, .int .i64 a0.A, .int .i64 a0.B, .int .i64 a0.C, .int .i64 a0.D] 31]) (fun s t => True) ?_ ?_
        · refine c_seq ?_
          refine c_region ?_
          refine l_val rfl rfl rfl (r_eql rfl rfl) ?_
          refine l_val rfl rfl rfl (r_assign (v := .bool (decide (a0.Kind = 4))) rfl) ?_
          refine l_nil ?_
          refine c_if (b := (decide (a0.Kind = 4))) rfl (fun hb => ?_) (fun hb => ?_)
          · have H39 := cnd_t hb H29; clear H29
            refine c_skip ?_
            refine c_close (decide (a0.Kind = 4)) () 0 [0] (by exact ⟨rfl, rfl, rfl, trivial⟩) (by decide) rfl (by exact ⟨H39, trivial⟩) (Nat.lt_succ_self _)
          · have H40 := cnd_f hb H29; clear H29
            refine c_seq ?_
            refine c_region ?_
            refine l_val rfl rfl rfl (r_eql rfl rfl) ?_
            refine l_val rfl rfl rfl (r_assign (v := .bool (decide (a0.Kind = 7))) rfl) ?_
            refine l_nil ?_
            refine c_if (b := (decide (a0.Kind = 7))) rfl (fun hb => ?_) (fun hb => ?_)
            · have H41 := cnd_t hb H40; clear H40
              refine c_skip ?_
              refine c_close (decide (a0.Kind = 7)) () 0 [0] (by exact ⟨rfl, rfl, rfl, trivial⟩) (by decide) rfl (by exact ⟨H41, trivial⟩) (Nat.lt_succ_self _)
            · have H42 := cnd_f hb H40; clear H40
              refine c_region ?_
              refine l_val rfl rfl rfl (r_eql rfl rfl) ?_
              refine l_val rfl rfl rfl (r_assign (v := .bool (decide (a0.Kind = 8))) rfl) ?_
              refine l_nil ?_
              refine c_close (decide (a0.Kind = 8)) () 0 [0] (by exact ⟨rfl, rfl, rfl, trivial⟩) (by decide) rfl (by exact ⟨H42, trivial⟩) (Nat.lt_succ_self _)
        · rintro x33 _ gg H30 _
          replace H30 : R_Idle_j1 a0 x33 = some r := H30
          refine c_tidyF [(3, .pointer (some ⟨b1, 0, none⟩)), (8, .int .i64 a0.Kind), (33, .bool x33)] [cellsC b1 [.int .i64 a0.Kind, .int .i64 a0.A, .int .i64 a0.B, .int .i64 a0.C, .int .i64 a0.D] 31] rfl rfl ?_
          refine c_if (b := x33) rfl (fun hb => ?_) (fun hb => ?_)
          · have H31 := cnd_t hb H30; clear H30
            refine c_seq ?_
            refine c_region ?_
            refine l_val rfl rfl rfl (r_field Try.runUnderlying31 rfl Try.sizeOf3 rfl rfl) ?_
            refine l_load1 (i := 0) (v := .int .i64 a0.A) Try.isAgg3 rfl rfl rfl rfl rfl ?_
            refine l_val rfl rfl rfl (r_eql rfl rfl) ?_
            refine l_val rfl rfl rfl (r_assign (v := .bool (decide (a0.A = 0))) rfl) ?_
            refine l_nil ?_
            refine c_ret ?_
            obtain rfl := Option.some.inj H31
            refine ret1 (v := .bool (decide (a0.A = 0))) rfl rfl (fin rfl)
          · have H32 := cnd_f hb H30; clear H30
            refine c_seq ?_
            refine c_region ?_
            refine l_val rfl rfl rfl (r_eql rfl rfl) ?_
            refine l_val rfl rfl rfl (r_assign (v := .bool (decide (a0.Kind = 5))) rfl) ?_
            refine l_nil ?_
            refine c_if (b := (decide (a0.Kind = 5))) rfl (fun hb => ?_) (fun hb => ?_)
            · have H33 := cnd_t hb H32; clear H32
              refine c_seq ?_
              refine c_region ?_
              refine l_val rfl rfl rfl (r_field Try.runUnderlying31 rfl Try.sizeOf3 rfl rfl) ?_
              refine l_load1 (i := 0) (v := .int .i64 a0.A) Try.isAgg3 rfl rfl rfl rfl rfl ?_
              refine l_val rfl rfl rfl (r_eql rfl rfl) ?_
              refine l_val rfl rfl rfl (r_assign (v := .bool (decide (a0.A = 100))) rfl) ?_
              refine l_nil ?_
              refine c_ret ?_
              obtain rfl := Option.some.inj H33
              refine ret1 (v := .bool (decide (a0.A = 100))) rfl rfl (fin rfl)
            · have H34 := cnd_f hb H32; clear H32
              refine c_seq ?_
              refine c_region ?_
              refine l_val rfl rfl rfl (r_eql rfl rfl) ?_
              refine l_val rfl rfl rfl (r_assign (v := .bool (decide (a0.Kind = 6))) rfl) ?_
              refine l_nil ?_
              refine c_if (b := (decide (a0.Kind = 6))) rfl (fun hb => ?_) (fun hb => ?_)
              · have H35 := cnd_t hb H34; clear H34
                refine c_seq ?_
                refine c_region ?_
                refine l_val rfl rfl rfl (r_field Try.runUnderlying31 rfl Try.sizeOf3 rfl rfl) ?_
                refine l_load1 (i := 0) (v := .int .i64 a0.A) Try.isAgg3 rfl rfl rfl rfl rfl ?_
                refine l_val rfl rfl rfl (r_eql rfl rfl) ?_
                refine l_val rfl rfl rfl (r_move (v := .bool (decide (a0.A = 0))) rfl) ?_
                refine split (fun hb => ?_) (fun hb => ?_)
                · have H36 := cnd_t hb H35; clear H35
                  refine l_val rfl rfl rfl (r_field Try.runUnderlying31 rfl Try.sizeOf3 rfl rfl) ?_
                  refine l_load1 (i := 0) (v := .int .i64 a0.B) Try.isAgg3 rfl rfl rfl rfl rfl ?_
                  refine l_val rfl rfl rfl (r_eql rfl rfl) ?_
                  refine l_val rfl rfl rfl (r_pickT (v := .bool (decide (a0.B = 255))) rfl rfl) ?_
                  refine l_val rfl rfl rfl (r_assign (v := .bool (decide (a0.B = 255))) rfl) ?_
                  refine l_nil ?_
                  refine c_ret ?_
                  obtain rfl := Option.some.inj H36
                  refine ret1 (v := .bool (decide (a0.B = 255))) rfl rfl (fin rfl)
                · have H37 := cnd_f hb H35; clear H35
                  refine l_passed rfl rfl rfl ?_
                  refine l_passed rfl rfl rfl ?_
                  refine l_passed rfl rfl rfl ?_
                  refine l_val rfl rfl rfl (r_pickF (v := .bool false) rfl rfl) ?_
                  refine l_val rfl rfl rfl (r_assign (v := .bool false) rfl) ?_
                  refine l_nil ?_
                  refine c_ret ?_
                  obtain rfl := Option.some.inj H37
                  refine ret1 (v := .bool false) rfl rfl (fin rfl)
              · have H38 := cnd_f hb H34; clear H34
                refine c_skip ?_
                refine c_seq ?_
                refine c_region ?_
                refine l_val rfl rfl rfl (r_assign (v := .bool false) rfl) ?_
                refine l_nil ?_
                refine c_ret ?_
                obtain rfl := Option.some.inj H38
                refine ret1 (v := .bool false) rfl rfl (fin rfl)
theorem k62 {a0 : T_edit_Step} {r : Bool} (H : R_Shaped a0 = some r) : Ret Try.prog 62 [.agg #[.int .i64 a0.Kind, .int .i64 a0.A, .int .i64 a0.B, .int .i64 a0.C, .int .i64 a0.D]] (.bool r) := by
  refine enterRet (n := 11) Try.func62 rfl rfl rfl (fun wd => ?_)
  refine c_seq ?_
  refine c_region ?_
  refine l_box (cs := [.int .i64 a0.Kind, .int .i64 a0.A, .int .i64 a0.B, .int .i64 a0.C, .int .i64 a0.D]) rfl rfl rfl rfl (fun b1 => ?_)
  refine l_val rfl rfl rfl (r_assign (v := .bool false) rfl) ?_
  refine l_nil ?_
  refine c_seq ?_
  refine c_region ?_
  refine l_val rfl rfl rfl (r_field Try.runUnderlying31 rfl Try.sizeOf3 rfl rfl) ?_
  refine l_load1 (i := 0) (v := .int .i64 a0.Kind) Try.isAgg3 rfl rfl rfl rfl rfl ?_
  refine l_val rfl rfl rfl (r_geq rfl rfl) ?_
  refine l_val rfl rfl rfl (r_move (v := .bool (decide (1 ≤ a0.Kind))) rfl) ?_
  refine split (fun hb => ?_) (fun hb => ?_)
  · have H3 := cnd_t hb H; clear H
    refine l_val rfl rfl rfl (r_field Try.runUnderlying31 rfl Try.sizeOf3 rfl rfl) ?_
    refine l_load1 (i := 0) (v := .int .i64 a0.Kind) Try.isAgg3 rfl rfl rfl rfl rfl ?_
    refine l_val rfl rfl rfl (r_leq rfl rfl) ?_
    refine l_val rfl rfl rfl (r_pickT (v := .bool (decide (a0.Kind ≤ 3))) rfl rfl) ?_
    refine l_val rfl rfl rfl (r_assign (v := .bool (decide (a0.Kind ≤ 3))) rfl) ?_
    refine l_nil ?_
    refine c_ret ?_
    obtain rfl := Option.some.inj H3
    refine ret1 (v := .bool (decide (a0.Kind ≤ 3))) rfl rfl (fin rfl)
  · have H4 := cnd_f hb H; clear H
    refine l_passed rfl rfl rfl ?_
    refine l_passed rfl rfl rfl ?_
    refine l_passed rfl rfl rfl ?_
    refine l_val rfl rfl rfl (r_pickF (v := .bool false) rfl rfl) ?_
    refine l_val rfl rfl rfl (r_assign (v := .bool false) rfl) ?_
    refine l_nil ?_
    refine c_ret ?_
    obtain rfl := Option.some.inj H4
    refine ret1 (v := .bool false) rfl rfl (fin rfl)
theorem k115 {a0 : (List T_edit_Step)} {p0 : Option Addr × Nat} {n0 : Nat} {a1 : Int} {a2 : Int} {r : (List T_edit_Step)} {w : World} {h : Heap} {S : Nat → Prop} (hcs : (rowV 31 5 (.slice p0.1 n0 p0.2) n0 (a0.map e_edit_Step)).P S w) (hlt : ∀ b, S b → b < w.heap.size) (hw : Know h w S) (hn0 : n0 = a0.length) (H : slices_Delete_edit_Step a0 a1 a2 = some r) : Does Try.prog 115 (List.toArray [.slice p0.1 n0 p0.2, .int .i64 a1, .int .i64 a2]) w (fun v w' => ∃ x : (Option Addr × Nat), v = (.slice x.1 r.length x.2) ∧ Turn w w' S (rowV 31 5 (.slice x.1 r.length x.2) r.length (r.map e_edit_Step))) := by
  refine enter (n := 33) Try.func115 rfl rfl rfl S [rowV 31 5 (.slice p0.1 n0 p0.2) n0 (a0.map e_edit_Step)] (Sat.one hcs hlt) ?_
  refine c_seq ?_
  refine c_region ?_
  refine l_val rfl rfl rfl (r_assign (v := .slice none 0 0) rfl) ?_
  refine l_nil ?_
  refine c_seq ?_
  refine c_region ?_
  refine l_val rfl rfl rfl (r_move (v := .slice p0.1 n0 p0.2) rfl) ?_
  refine l_val rfl rfl rfl (r_move (v := .int .i64 a1) rfl) ?_
  refine l_val rfl rfl rfl (r_move (v := .int .i64 a2) rfl) ?_
  refine l_val rfl rfl rfl (r_move (v := .slice p0.1 n0 p0.2) rfl) ?_
  refine l_val rfl rfl rfl (r_lenN Try.underlying22 rfl hn0) ?_
  obtain ⟨t13, h_t13, H8⟩ := bnd_some H; clear H
  refine l_read (fun w hF hS => run_slice3O (xs := a0) Try.underlying22 Try.sizeOf31 rfl rfl rfl rfl hn0 (capOf (i := 0) hS rfl) h_t13) rfl rfl rfl ?_
  refine l_nil ?_
  refine c_seq ?_
  refine c_seq ?_
  refine c_region ?_
  refine l_val rfl rfl rfl (r_move (v := .int .i64 a1) rfl) ?_
  refine l_val rfl rfl rfl (r_move (v := .int .i64 a2) rfl) ?_
  refine l_val rfl rfl rfl (r_eql rfl rfl) ?_
  refine l_nil ?_
  refine c_if (b := (decide (a1 = a2))) rfl (fun hb => ?_) (fun hb => ?_)
  · have H9 := cnd_t hb H8; clear H8
    refine c_seq ?_
    refine c_region ?_
    refine l_val rfl rfl rfl (r_move (v := .slice p0.1 n0 p0.2) rfl) ?_
    refine l_val rfl rfl rfl (r_assign (v := .slice p0.1 n0 p0.2) rfl) ?_
    refine l_nil ?_
    refine c_ret ?_
    obtain rfl := Option.some.inj H9
    refine ret1 (v := .slice p0.1 n0 p0.2) rfl rfl (finX p0 (i := 0) rfl (by first | rfl | rw [(show n0 = a0.length from hn0)]) (by first | exact Imp.refl _ | exact Imp.of (by rw [(show n0 = a0.length from hn0)])))
  · have H10 := cnd_f hb H8; clear H8
    refine c_skip ?_
    refine c_seq ?_
    refine c_region ?_
    refine l_val rfl rfl rfl (r_move (v := .slice p0.1 n0 p0.2) rfl) ?_
    refine l_val rfl rfl rfl (r_lenN Try.underlying22 rfl hn0) ?_
    refine l_val rfl rfl rfl (r_assign (v := .int .i64 (a0.length : Int)) rfl) ?_
    refine l_nil ?_
    refine c_seq ?_
    exact c_regionD (Kd.p :: Kd.p :: Kd.d [0] _ :: Kd.p :: Kd.p :: Kd.d [0] _ :: Kd.t 0 [] _ _ :: Kd.p :: []) 0 mixed (by
      refine d_val rfl rfl (r_move (v := .slice p0.1 n0 p0.2) rfl) ?_
      refine d_val rfl rfl (r_move (v := .int .i64 a1) rfl) ?_
      have h_t22 := bnd_val H10
      have H11 := bnd_rest H10
      refine d_readD (v := .slice p0.1 (val (gCut a0 0 a1)).length p0.2) (fun w L' hF hS hi => run_sliceHO0 (xs := a0) Try.underlying22 Try.sizeOf31 rfl rfl hn0 (capOf (i := 0) hS ((hi 0 (by simp)).trans rfl)) h_t22) rfl rfl ?_
      refine d_val rfl rfl (r_move (v := .slice p0.1 n0 p0.2) rfl) ?_
      refine d_val rfl rfl (r_move (v := .int .i64 a2) rfl) ?_
      have h_t25 := bnd_val H11
      have H12 := bnd_rest H11
      refine d_readD (v := .slice (cutA p0.1 (Int.toNat a2) p0.2 5) (val (gCut a0 a2 a0.length)).length (p0.2 - Int.toNat a2)) (fun w L' hF hS hi => run_sliceLO (xs := a0) Try.underlying22 Try.sizeOf31 rfl rfl hn0 (capOf (i := 0) hS ((hi 0 (by simp)).trans rfl)) h_t25) rfl rfl ?_
      have h_l26 := bnd_val H12
      have H13 := bnd_rest H12
      refine d_turn (Cv := fun v => rowC 31 5 v (val (gApR a0 (val (gCut a0 0 a1)) (val (gCut a0 a2 a0.length)))).length ((val (gApR a0 (val (gCut a0 0 a1)) (val (gCut a0 a2 a0.length)))).map e_edit_Step) a0.length) (none, 0) (turns_delG (i := 0) (rds := _) (p := p0) (f := e_edit_Step) (ys := a0) (b := _) (j := a2) (k := a0.length) hn0 Try.underlying22 (info_of Try.typeInfo31) rfl h_t22 h_t25 rfl rfl rfl (fun _ => rfl) (fun _ => rfl) h_l26) (fun _ => rfl) rfl rfl (fun p => ?_)
      refine d_val rfl rfl (r_assign (v := .slice p.1 (val (gApR a0 (val (gCut a0 0 a1)) (val (gCut a0 a2 a0.length)))).length p.2) rfl) ?_
      refine d_nil ?_
      refine c_seq ?_
      refine c_region ?_
      refine l_val rfl rfl rfl (r_move (v := .slice p.1 (val (gApR a0 (val (gCut a0 0 a1)) (val (gCut a0 a2 a0.length)))).length p.2) rfl) ?_
      refine l_val rfl rfl rfl (r_move (v := .slice p.1 (val (gApR a0 (val (gCut a0 0 a1)) (val (gCut a0 a2 a0.length)))).length p.2) rfl) ?_
      refine l_val rfl rfl rfl (r_len Try.underlying22 rfl) ?_
      refine l_val rfl rfl rfl (r_move (v := .int .i64 (a0.length : Int)) rfl) ?_
      obtain ⟨u31, h_u31, H14⟩ := bnd_some H13; clear H13
      refine l_read (v := .slice (cutA p.1 (val (gApR a0 (val (gCut a0 0 a1)) (val (gCut a0 a2 a0.length)))).length p.2 5) (Int.toNat (a0.length : Int) - (val (gApR a0 (val (gCut a0 0 a1)) (val (gCut a0 a2 a0.length)))).length) (p.2 - (val (gApR a0 (val (gCut a0 0 a1)) (val (gCut a0 a2 a0.length)))).length)) (fun w hF hS => run_sliceRoom Try.underlying22 Try.sizeOf31 rfl rfl rfl (gIf_some h_u31).1 (Int.le_trans (gIf_some h_u31).2 (Int.ofNat_le.2 (roomOf (i := 0) hS rfl)))) rfl rfl rfl ?_
      refine l_turn0 (turns_clear (i := 0) (rds := []) Try.underlying22 Try.zeroValue31 rfl rfl rfl rfl (by have := gIf_some h_u31; omega)) rfl rfl (fun _ => ?_)
      refine l_nil ?_
      refine c_seq ?_
      refine c_region ?_
      refine l_val rfl rfl rfl (r_move (v := .slice p.1 (val (gApR a0 (val (gCut a0 0 a1)) (val (gCut a0 a2 a0.length)))).length p.2) rfl) ?_
      refine l_val rfl rfl rfl (r_assign (v := .slice p.1 (val (gApR a0 (val (gCut a0 0 a1)) (val (gCut a0 a2 a0.length)))).length p.2) rfl) ?_
      refine l_nil ?_
      refine c_ret ?_
      obtain rfl := Option.some.inj H14
      refine c_imp 0 rfl (imp_rowC _ _ _ _ _ _) ?_
      refine ret1 (v := .slice p.1 (val (gApR a0 (val (gCut a0 0 a1)) (val (gCut a0 a2 a0.length)))).length p.2) rfl rfl (finX p (i := 0) rfl rfl (Imp.refl _))
      ) (by kernel_rfl)
theorem k205 {a0 : Int} {a1 : Int} {a2 : Int} {a3 : Int} {a4 : Int} {r : Int × Int} (H : R1_from a0 a1 a2 a3 a4 = some r) : Ret Try.prog 205 [.int .i64 a0, .int .i64 a1, .int .i64 a2, .int .i64 a3, .int .i64 a4] (.tuple #[.int .i64 r.1, .int .i64 r.2]) := by
  refine enterRet (n := 67) Try.func205 rfl rfl rfl (fun wd => ?_)
  refine c_seq ?_
  refine c_region ?_
  refine l_val rfl rfl rfl (r_assign (v := .int .i64 0) rfl) ?_
  refine l_val rfl rfl rfl (r_assign (v := .int .i64 0) rfl) ?_
  refine l_nil ?_
  refine c_seq ?_
  refine c_seq ?_
  refine c_region ?_
  refine l_val rfl rfl rfl (r_move (v := .int .i64 a0) rfl) ?_
  refine l_nil ?_
  refine c_block ?_
  refine c_seq ?_
  refine c_region ?_
  refine l_val rfl rfl rfl (r_eql rfl rfl) ?_
  refine l_val rfl rfl rfl (r_assign (v := .bool (decide (a0 = 2))) rfl) ?_
  refine l_nil ?_
  refine c_if (b := (decide (a0 = 2))) rfl (fun hb => ?_) (fun hb => ?_)
  · have H31 := cnd_t hb H; clear H
    refine c_seq ?_
    refine c_region ?_
    refine l_val rfl rfl rfl (r_move (v := .int .i64 a1) rfl) ?_
    obtain ⟨t16, h_t16, H32⟩ := bnd_some H31; clear H31
    refine l_val rfl rfl rfl (r_subG rfl rfl h_t16) ?_
    refine l_val rfl rfl rfl (r_move (v := .int .i64 a3) rfl) ?_
    obtain ⟨t18, h_t18, H33⟩ := bnd_some H32; clear H32
    refine l_val rfl rfl rfl (r_subG rfl rfl h_t18) ?_
    refine l_val rfl rfl rfl (r_move (v := .int .i64 a4) rfl) ?_
    refine l_val rfl rfl rfl (r_assign (v := .int .i64 t18) rfl) ?_
    refine l_val rfl rfl rfl (r_assign (v := .int .i64 a4) rfl) ?_
    refine l_nil ?_
    refine c_ret ?_
    obtain rfl := Option.some.inj H33
    refine ret2 (v1 := .int .i64 t18) (v2 := .int .i64 a4) rfl rfl rfl (fin rfl)
  · have H34 := cnd_f hb H; clear H
    refine c_seq ?_
    refine c_region ?_
    refine l_val rfl rfl rfl (r_eql rfl rfl) ?_
    refine l_val rfl rfl rfl (r_assign (v := .bool (decide (a0 = 3))) rfl) ?_
    refine l_nil ?_
    refine c_if (b := (decide (a0 = 3))) rfl (fun hb => ?_) (fun hb => ?_)
    · have H35 := cnd_t hb H34; clear H34
      refine c_seq ?_
      refine c_region ?_
      refine l_val rfl rfl rfl (r_move (v := .int .i64 a1) rfl) ?_
      obtain ⟨t23, h_t23, H36⟩ := bnd_some H35; clear H35
      refine l_val rfl rfl rfl (r_subG rfl rfl h_t23) ?_
      refine l_val rfl rfl rfl (r_move (v := .int .i64 a3) rfl) ?_
      obtain ⟨t25, h_t25, H37⟩ := bnd_some H36; clear H36
      refine l_val rfl rfl rfl (r_subG rfl rfl h_t25) ?_
      refine l_val rfl rfl rfl (r_move (v := .int .i64 a2) rfl) ?_
      obtain ⟨t27, h_t27, H38⟩ := bnd_some H37; clear H37
      refine l_val rfl rfl rfl (r_subG rfl rfl h_t27) ?_
      refine l_val rfl rfl rfl (r_move (v := .int .i64 a4) rfl) ?_
      obtain ⟨t29, h_t29, H39⟩ := bnd_some H38; clear H38
      refine l_val rfl rfl rfl (r_subG rfl rfl h_t29) ?_
      refine l_val rfl rfl rfl (r_assign (v := .int .i64 t25) rfl) ?_
      refine l_val rfl rfl rfl (r_assign (v := .int .i64 t29) rfl) ?_
      refine l_nil ?_
      refine c_ret ?_
      obtain rfl := Option.some.inj H39
      refine ret2 (v1 := .int .i64 t25) (v2 := .int .i64 t29) rfl rfl rfl (fin rfl)
    · have H40 := cnd_f hb H34; clear H34
      refine c_seq ?_
      refine c_region ?_
      refine l_val rfl rfl rfl (r_eql rfl rfl) ?_
      refine l_val rfl rfl rfl (r_assign (v := .bool (decide (a0 = 4))) rfl) ?_
      refine l_nil ?_
      refine c_if (b := (decide (a0 = 4))) rfl (fun hb => ?_) (fun hb => ?_)
      · have H41 := cnd_t hb H40; clear H40
        refine c_seq ?_
        refine c_region ?_
        refine l_val rfl rfl rfl (r_move (v := .int .i64 a3) rfl) ?_
        refine l_val rfl rfl rfl (r_move (v := .int .i64 a2) rfl) ?_
        obtain ⟨t34, h_t34, H42⟩ := bnd_some H41; clear H41
        refine l_val rfl rfl rfl (r_subG rfl rfl h_t34) ?_
        refine l_val rfl rfl rfl (r_move (v := .int .i64 a4) rfl) ?_
        obtain ⟨t36, h_t36, H43⟩ := bnd_some H42; clear H42
        refine l_val rfl rfl rfl (r_subG rfl rfl h_t36) ?_
        refine l_val rfl rfl rfl (r_assign (v := .int .i64 a3) rfl) ?_
        refine l_val rfl rfl rfl (r_assign (v := .int .i64 t36) rfl) ?_
        refine l_nil ?_
        refine c_ret ?_
        obtain rfl := Option.some.inj H43
        refine ret2 (v1 := .int .i64 a3) (v2 := .int .i64 t36) rfl rfl rfl (fin rfl)
      · have H44 := cnd_f hb H40; clear H40
        refine c_seq ?_
        refine c_region ?_
        refine l_val rfl rfl rfl (r_eql rfl rfl) ?_
        refine l_val rfl rfl rfl (r_assign (v := .bool (decide (a0 = 5))) rfl) ?_
        refine l_nil ?_
        refine c_if (b := (decide (a0 = 5))) rfl (fun hb => ?_) (fun hb => ?_)
        · have H45 := cnd_t hb H44; clear H44
          refine c_seq ?_
          refine c_region ?_
          refine l_val rfl rfl rfl (r_move (v := .int .i64 a4) rfl) ?_
          refine l_val rfl rfl rfl (r_move (v := .int .i64 a3) rfl) ?_
          refine l_val rfl rfl rfl (r_assign (v := .int .i64 a4) rfl) ?_
          refine l_val rfl rfl rfl (r_assign (v := .int .i64 a3) rfl) ?_
          refine l_nil ?_
          refine c_ret ?_
          obtain rfl := Option.some.inj H45
          refine ret2 (v1 := .int .i64 a4) (v2 := .int .i64 a3) rfl rfl rfl (fin rfl)
        · have H46 := cnd_f hb H44; clear H44
          refine c_seq ?_
          refine c_region ?_
          refine l_val rfl rfl rfl (r_eql rfl rfl) ?_
          refine l_val rfl rfl rfl (r_assign (v := .bool (decide (a0 = 6))) rfl) ?_
          refine l_nil ?_
          refine c_if (b := (decide (a0 = 6))) rfl (fun hb => ?_) (fun hb => ?_)
          · have H47 := cnd_t hb H46; clear H46
            refine c_seq ?_
            refine c_region ?_
            refine l_val rfl rfl rfl (r_move (v := .int .i64 a4) rfl) ?_
            refine l_val rfl rfl rfl (r_move (v := .int .i64 a2) rfl) ?_
            obtain ⟨t45, h_t45, H48⟩ := bnd_some H47; clear H47
            refine l_val rfl rfl rfl (r_subG rfl rfl h_t45) ?_
            refine l_val rfl rfl rfl (r_move (v := .int .i64 a3) rfl) ?_
            obtain ⟨t47, h_t47, H49⟩ := bnd_some H48; clear H48
            refine l_val rfl rfl rfl (r_subG rfl rfl h_t47) ?_
            refine l_val rfl rfl rfl (r_assign (v := .int .i64 a4) rfl) ?_
            refine l_val rfl rfl rfl (r_assign (v := .int .i64 t47) rfl) ?_
            refine l_nil ?_
            refine c_ret ?_
            obtain rfl := Option.some.inj H49
            refine ret2 (v1 := .int .i64 a4) (v2 := .int .i64 t47) rfl rfl rfl (fin rfl)
          · have H50 := cnd_f hb H46; clear H46
            refine c_seq ?_
            refine c_region ?_
            refine l_val rfl rfl rfl (r_eql rfl rfl) ?_
            refine l_val rfl rfl rfl (r_assign (v := .bool (decide (a0 = 7))) rfl) ?_
            refine l_nil ?_
            refine c_if (b := (decide (a0 = 7))) rfl (fun hb => ?_) (fun hb => ?_)
            · have H51 := cnd_t hb H50; clear H50
              refine c_seq ?_
              refine c_region ?_
              refine l_val rfl rfl rfl (r_move (v := .int .i64 a1) rfl) ?_
              obtain ⟨t51, h_t51, H52⟩ := bnd_some H51; clear H51
              refine l_val rfl rfl rfl (r_subG rfl rfl h_t51) ?_
              refine l_val rfl rfl rfl (r_move (v := .int .i64 a4) rfl) ?_
              obtain ⟨t53, h_t53, H53⟩ := bnd_some H52; clear H52
              refine l_val rfl rfl rfl (r_subG rfl rfl h_t53) ?_
              refine l_val rfl rfl rfl (r_move (v := .int .i64 a2) rfl) ?_
              obtain ⟨t55, h_t55, H54⟩ := bnd_some H53; clear H53
              refine l_val rfl rfl rfl (r_subG rfl rfl h_t55) ?_
              refine l_val rfl rfl rfl (r_move (v := .int .i64 a3) rfl) ?_
              obtain ⟨t57, h_t57, H55⟩ := bnd_some H54; clear H54
              refine l_val rfl rfl rfl (r_subG rfl rfl h_t57) ?_
              refine l_val rfl rfl rfl (r_assign (v := .int .i64 t53) rfl) ?_
              refine l_val rfl rfl rfl (r_assign (v := .int .i64 t57) rfl) ?_
              refine l_nil ?_
              refine c_ret ?_
              obtain rfl := Option.some.inj H55
              refine ret2 (v1 := .int .i64 t53) (v2 := .int .i64 t57) rfl rfl rfl (fin rfl)
            · have H56 := cnd_f hb H50; clear H50
              refine c_seq ?_
              refine c_region ?_
              refine l_val rfl rfl rfl (r_eql rfl rfl) ?_
              refine l_val rfl rfl rfl (r_assign (v := .bool (decide (a0 = 8))) rfl) ?_
              refine l_nil ?_
              refine c_if (b := (decide (a0 = 8))) rfl (fun hb => ?_) (fun hb => ?_)
              · have H57 := cnd_t hb H56; clear H56
                refine c_seq ?_
                refine c_region ?_
                refine l_val rfl rfl rfl (r_move (v := .int .i64 a1) rfl) ?_
                obtain ⟨t61, h_t61, H58⟩ := bnd_some H57; clear H57
                refine l_val rfl rfl rfl (r_subG rfl rfl h_t61) ?_
                refine l_val rfl rfl rfl (r_move (v := .int .i64 a4) rfl) ?_
                obtain ⟨t63, h_t63, H59⟩ := bnd_some H58; clear H58
                refine l_val rfl rfl rfl (r_subG rfl rfl h_t63) ?_
                refine l_val rfl rfl rfl (r_move (v := .int .i64 a3) rfl) ?_
                refine l_val rfl rfl rfl (r_assign (v := .int .i64 t63) rfl) ?_
                refine l_val rfl rfl rfl (r_assign (v := .int .i64 a3) rfl) ?_
                refine l_nil ?_
                refine c_ret ?_
                obtain rfl := Option.some.inj H59
                refine ret2 (v1 := .int .i64 t63) (v2 := .int .i64 a3) rfl rfl rfl (fin rfl)
              · have H60 := cnd_f hb H56; clear H56
                refine c_skip ?_
                refine c_seq ?_
                refine c_region ?_
                refine l_val rfl rfl rfl (r_move (v := .int .i64 a3) rfl) ?_
                refine l_val rfl rfl rfl (r_move (v := .int .i64 a4) rfl) ?_
                refine l_val rfl rfl rfl (r_assign (v := .int .i64 a3) rfl) ?_
                refine l_val rfl rfl rfl (r_assign (v := .int .i64 a4) rfl) ?_
                refine l_nil ?_
                refine c_ret ?_
                obtain rfl := Option.some.inj H60
                refine ret2 (v1 := .int .i64 a3) (v2 := .int .i64 a4) rfl rfl rfl (fin rfl)
theorem k206 {a0 : T_api_Image} {v0_2 : Value} {a1 : Int} {a2 : Int} {r : (List Int)} {w : World} {h : Heap} (hw : Know h w noS) (f0_2 : FrS h 1 v0_2 (a0.Pixels.map e_u8)) (H : R1_pixel a0 a1 a2 = some r) : Does Try.prog 206 (List.toArray [.agg #[.int .i64 a0.W, .int .i64 a0.H, v0_2], .int .i64 a1, .int .i64 a2]) w (fun v w' => (∃ x : Value, v = (x) ∧ FrS h 1 x (r.map e_u8)) ∧ Grow w w') := by
  refine enter (n := 25) Try.func206 rfl rfl rfl noS [] (Sat.nil _ _) ?_
  refine c_seq ?_
  refine c_region ?_
  refine l_box (cs := [.int .i64 a0.W, .int .i64 a0.H, v0_2]) rfl rfl rfl rfl (fun b2 => ?_)
  refine l_val rfl rfl rfl (r_assign (v := .slice none 0 0) rfl) ?_
  refine l_nil ?_
  refine c_seq ?_
  refine c_region ?_
  refine l_val rfl rfl rfl (r_field Try.runUnderlying212 rfl Try.sizeOf210 rfl rfl) ?_
  refine l_load1 (i := 0) (v := v0_2) Try.isAgg210 rfl rfl rfl rfl rfl ?_
  refine l_val rfl rfl rfl (r_move (v := .int .i64 a2) rfl) ?_
  refine l_val rfl rfl rfl (r_field Try.runUnderlying212 rfl Try.sizeOf3 rfl rfl) ?_
  refine l_load1 (i := 0) (v := .int .i64 a0.W) Try.isAgg3 rfl rfl rfl rfl rfl ?_
  obtain ⟨t12, h_t12, H17⟩ := bnd_some H; clear H
  refine l_val rfl rfl rfl (r_mulG rfl rfl h_t12) ?_
  refine l_val rfl rfl rfl (r_move (v := .int .i64 a1) rfl) ?_
  obtain ⟨t14, h_t14, H18⟩ := bnd_some H17; clear H17
  refine l_val rfl rfl rfl (r_addG rfl rfl h_t14) ?_
  obtain ⟨t15, h_t15, H19⟩ := bnd_some H18; clear H18
  refine l_val rfl rfl rfl (r_mulG rfl rfl h_t15) ?_
  refine l_val rfl rfl rfl (r_move (v := .int .i64 a2) rfl) ?_
  refine l_val rfl rfl rfl (r_field Try.runUnderlying212 rfl Try.sizeOf3 rfl rfl) ?_
  refine l_load1 (i := 0) (v := .int .i64 a0.W) Try.isAgg3 rfl rfl rfl rfl rfl ?_
  obtain ⟨t19, h_t19, H20⟩ := bnd_some H19; clear H19
  refine l_val rfl rfl rfl (r_mulG rfl rfl h_t19) ?_
  refine l_val rfl rfl rfl (r_move (v := .int .i64 a1) rfl) ?_
  obtain ⟨t21, h_t21, H21⟩ := bnd_some H20; clear H20
  refine l_val rfl rfl rfl (r_addG rfl rfl h_t21) ?_
  obtain ⟨t22, h_t22, H22⟩ := bnd_some H21; clear H21
  refine l_val rfl rfl rfl (r_mulG rfl rfl h_t22) ?_
  obtain ⟨t23, h_t23, H23⟩ := bnd_some H22; clear H22
  refine l_val rfl rfl rfl (r_addG rfl rfl h_t23) ?_
  obtain ⟨t24, h_t24, H24⟩ := bnd_some H23; clear H23
  refine l_val rfl rfl rfl (r_sliceLHF Try.underlying210 Try.sizeOf5 rfl rfl rfl f0_2 h_t24) ?_
  refine l_val rfl rfl rfl (r_assign (v := (cutV 1 v0_2 t15 t23)) rfl) ?_
  refine l_nil ?_
  refine c_ret ?_
  obtain rfl := Option.some.inj H24
  refine ret1 (v := (cutV 1 v0_2 t15 t23)) rfl rfl (finC (cutV 1 v0_2 t15 t23) rfl (f0_2.cut h_t24))
theorem k164 {a0 : T_api_Image} {v0_2 : Value} {a1 : Int} {r : T_api_Image} {w : World} {h : Heap} (hw : Know h w noS) (f0_2 : FrS h 1 v0_2 (a0.Pixels.map e_u8)) (H : R1_Turned a0 a1 = some r) : Does Try.prog 164 (List.toArray [.agg #[.int .i64 a0.W, .int .i64 a0.H, v0_2], .int .i64 a1]) w (fun v w' => ∃ x : (Option Addr × Nat), v = (.agg #[.int .i64 r.W, .int .i64 r.H, .slice x.1 r.Pixels.length x.2]) ∧ Turn w w' noS (rowV 5 1 (.slice x.1 r.Pixels.length x.2) r.Pixels.length (r.Pixels.map e_u8))) := by
  refine enter (n := 55) Try.func164 rfl rfl rfl noS [] (Sat.nil _ _) ?_
  refine c_seq ?_
  refine c_region ?_
  refine l_box (cs := [.int .i64 a0.W, .int .i64 a0.H, v0_2]) rfl rfl rfl rfl (fun b3 => ?_)
  refine l_alloc (cs := [.int .i64 0, .int .i64 0, .slice none 0 0]) Try.zeroValue212 rfl rfl rfl (fun b4 => ?_)
  refine l_nil ?_
  refine c_seq ?_
  refine c_region ?_
  refine l_val rfl rfl rfl (r_field Try.runUnderlying212 rfl Try.sizeOf3 rfl rfl) ?_
  refine l_load1 (i := 0) (v := .int .i64 a0.W) Try.isAgg3 rfl rfl rfl rfl rfl ?_
  refine l_val rfl rfl rfl (r_field Try.runUnderlying212 rfl Try.sizeOf3 rfl rfl) ?_
  refine l_load1 (i := 0) (v := .int .i64 a0.H) Try.isAgg3 rfl rfl rfl rfl rfl ?_
  refine l_val rfl rfl rfl (r_build (pl := #[(0, 1), (1, 1), (2, 1)]) (ps := [(0, .int .i64 a0.W), (1, .int .i64 a0.H)]) (cells := #[.int .i64 a0.W, .int .i64 a0.H, .slice none 0 0]) Try.zeroValue212 Try.runUnderlying212 (fun w => by kernel_rfl) rfl rfl) ?_
  refine l_alloc (cs := [.int .i64 0, .int .i64 0, .slice none 0 0]) Try.zeroValue212 rfl rfl rfl (fun b5 => ?_)
  refine l_store (i := 2) (vs := [.int .i64 a0.W, .int .i64 a0.H, .slice none 0 0]) (cs' := [.int .i64 a0.W, .int .i64 a0.H, .slice none 0 0]) Try.sizeOf212 rfl rfl rfl rfl rfl rfl rfl rfl rfl ?_
  refine l_nil ?_
  refine c_meet (r := r) (σ := Int × Int) (τ := Unit) (fun s => R1_Turned_j1 a0 a1 s.1 s.2) (fun s t => [(1, .int .i64 a1), (2, .pointer (some ⟨b3, 0, none⟩)), (4, .pointer (some ⟨b4, 0, none⟩)), (5, .pointer (some ⟨b5, 0, none⟩))]) (fun s t => [cellsC b3 [.int .i64 a0.W, .int .i64 a0.H, v0_2] 212, cellsC b4 [.int .i64 0, .int .i64 0, .slice none 0 0] 212, cellsC b5 [.int .i64 s.1, .int .i64 s.2, .slice none 0 0] 212]) (fun s t => True) ?_ ?_
  · refine c_seq ?_
    refine c_region ?_
    refine l_val rfl rfl rfl (r_move (v := .int .i64 a1) rfl) ?_
    refine l_val rfl rfl rfl (r_geq rfl rfl) ?_
    refine l_nil ?_
    refine c_if (b := (decide (5 ≤ a1))) rfl (fun hb => ?_) (fun hb => ?_)
    · have H31 := cnd_t hb H; clear H
      exact c_regionD (Kd.p :: Kd.d [0] _ :: Kd.p :: Kd.d [0] _ :: Kd.p :: Kd.st 21 2 [_, _, _] 212 :: Kd.p :: Kd.st 22 2 [_, _, _] 212 :: []) 0 mixed (by
        refine d_val rfl rfl (r_field Try.runUnderlying212 rfl Try.sizeOf3 rfl rfl) ?_
        refine d_load1 (i := 0) (v := .int .i64 a0.H) Try.isAgg3 rfl rfl rfl rfl ?_
        refine d_val rfl rfl (r_field Try.runUnderlying212 rfl Try.sizeOf3 rfl rfl) ?_
        refine d_load1 (i := 0) (v := .int .i64 a0.W) Try.isAgg3 rfl rfl rfl rfl ?_
        refine d_val rfl rfl (r_field Try.runUnderlying212 rfl Try.sizeOf3 rfl rfl) ?_
        refine d_store (i := 2) (vs := [.int .i64 a0.H]) (cs' := [.int .i64 a0.H, .int .i64 a0.H, .slice none 0 0]) Try.sizeOf3 rfl rfl rfl rfl rfl rfl rfl rfl rfl ?_
        refine d_val rfl rfl (r_field Try.runUnderlying212 rfl Try.sizeOf3 rfl rfl) ?_
        refine d_store (i := 2) (vs := [.int .i64 a0.W]) (cs' := [.int .i64 a0.H, .int .i64 a0.W, .slice none 0 0]) Try.sizeOf3 rfl rfl rfl rfl rfl rfl rfl rfl rfl ?_
        refine d_nil ?_
        refine c_close (a0.H, a0.W) () 0 [0, 1, 2] (by exact ⟨rfl, rfl, rfl, rfl, trivial⟩) (by decide) rfl (by exact ⟨H31, trivial⟩) (Nat.lt_succ_self _)
        ) (by kernel_rfl)
    · have H32 := cnd_f hb H; clear H
      refine c_skip ?_
      refine c_close (a0.W, a0.H) () 0 [0, 1, 2] (by exact ⟨rfl, rfl, rfl, rfl, trivial⟩) (by decide) rfl (by exact ⟨H32, trivial⟩) (Nat.lt_succ_self _)
  · rintro ⟨m, m_2⟩ _ gg H17 _
    replace H17 : R1_Turned_j1 a0 a1 m m_2 = some r := H17
    refine c_tidyF [(1, .int .i64 a1), (2, .pointer (some ⟨b3, 0, none⟩)), (4, .pointer (some ⟨b4, 0, none⟩)), (5, .pointer (some ⟨b5, 0, none⟩))] [cellsC b3 [.int .i64 a0.W, .int .i64 a0.H, v0_2] 212, cellsC b4 [.int .i64 0, .int .i64 0, .slice none 0 0] 212, cellsC b5 [.int .i64 m, .int .i64 m_2, .slice none 0 0] 212] rfl rfl ?_
    refine c_meet (r := r) (σ := (List Int)) (τ := (Option Addr × Nat)) (fun s => R1_Turned_j2 m m_2 s) (fun s t => [(4, .pointer (some ⟨b4, 0, none⟩)), (5, .pointer (some ⟨b5, 0, none⟩))]) (fun s t => [cellsC b4 [.int .i64 0, .int .i64 0, .slice none 0 0] 212, cellsC b5 [.int .i64 m, .int .i64 m_2, .slice t.1 s.length t.2] 212, rowV 5 1 (.slice t.1 s.length t.2) s.length (s.map e_u8)]) (fun s t => True) ?_ ?_
    · refine c_seq ?_
      refine c_region ?_
      refine l_val rfl rfl rfl (r_field Try.runUnderlying212 rfl Try.sizeOf3 rfl rfl) ?_
      refine l_load1 (i := 2) (v := .int .i64 m_2) Try.isAgg3 rfl rfl rfl rfl rfl ?_
      refine l_val rfl rfl rfl (r_move (v := .int .i64 0) rfl) ?_
      refine l_nil ?_
      refine c_block ?_
      refine c_nilRow 5 1 ?_
      refine c_fix (σ := Int × (List Int)) (τ := (Option Addr × Nat)) (fun next3 s => R1_Turned_l3 a0 a1 m m_2 next3 s.1 s.2) (fun s t => [(1, .int .i64 a1), (2, .pointer (some ⟨b3, 0, none⟩)), (4, .pointer (some ⟨b4, 0, none⟩)), (5, .pointer (some ⟨b5, 0, none⟩)), (24, .int .i64 m_2), (25, .int .i64 s.1)]) (fun s t => [cellsC b3 [.int .i64 a0.W, .int .i64 a0.H, v0_2] 212, cellsC b4 [.int .i64 0, .int .i64 0, .slice none 0 0] 212, cellsC b5 [.int .i64 m, .int .i64 m_2, .slice t.1 s.2.length t.2] 212, rowV 5 1 (.slice t.1 s.2.length t.2) s.2.length (s.2.map e_u8)]) (fun s t => True) (0, ([] : List Int)) ((none, 0) : Option Addr × Nat) [0, 1, 2, 3] H17 (by exact trivial) (by exact ⟨rfl, rfl, rfl, rfl, rfl, rfl, trivial⟩) (by decide) rfl ?_
      rintro ⟨x25_2, l_3⟩ p_2 m3 gg H19 _
      clear H17
      replace H19 : R1_Turned_l3 a0 a1 m m_2 (it (fun next3 s => R1_Turned_l3 a0 a1 m m_2 next3 s.1 s.2) m3) x25_2 l_3 = some r := H19
      generalize hn3 : it (fun next3 s => R1_Turned_l3 a0 a1 m m_2 next3 s.1 s.2) m3 = next3 at H19
      refine c_tidyF [(1, .int .i64 a1), (2, .pointer (some ⟨b3, 0, none⟩)), (4, .pointer (some ⟨b4, 0, none⟩)), (5, .pointer (some ⟨b5, 0, none⟩)), (24, .int .i64 m_2), (25, .int .i64 x25_2)] [cellsC b3 [.int .i64 a0.W, .int .i64 a0.H, v0_2] 212, cellsC b4 [.int .i64 0, .int .i64 0, .slice none 0 0] 212, cellsC b5 [.int .i64 m, .int .i64 m_2, .slice p_2.1 l_3.length p_2.2] 212, rowV 5 1 (.slice p_2.1 l_3.length p_2.2) l_3.length (l_3.map e_u8)] rfl rfl ?_
      refine c_seq ?_
      refine c_region ?_
      refine l_val rfl rfl rfl (r_lss rfl rfl) ?_
      refine l_nil ?_
      refine c_seq ?_
      refine c_if (b := (decide (x25_2 < m_2))) rfl (fun hb => ?_) (fun hb => ?_)
      · have H20 := cnd_t hb H19; clear H19
        refine c_skip ?_
        refine c_meet (r := r) (σ := (List Int)) (τ := (Option Addr × Nat)) (fun s => R1_Turned_j4 x25_2 next3 s) (fun s t => [(1, .int .i64 a1), (2, .pointer (some ⟨b3, 0, none⟩)), (4, .pointer (some ⟨b4, 0, none⟩)), (5, .pointer (some ⟨b5, 0, none⟩)), (24, .int .i64 m_2), (25, .int .i64 x25_2)]) (fun s t => [cellsC b3 [.int .i64 a0.W, .int .i64 a0.H, v0_2] 212, cellsC b4 [.int .i64 0, .int .i64 0, .slice none 0 0] 212, cellsC b5 [.int .i64 m, .int .i64 m_2, .slice t.1 s.length t.2] 212, rowV 5 1 (.slice t.1 s.length t.2) s.length (s.map e_u8)]) (fun s t => True) ?_ ?_
        · refine c_block ?_
          refine c_seq ?_
          refine c_region ?_
          refine l_val rfl rfl rfl (r_move (v := .int .i64 x25_2) rfl) ?_
          refine l_val rfl rfl rfl (r_assign (v := .int .i64 x25_2) rfl) ?_
          refine l_nil ?_
          refine c_seq ?_
          refine c_region ?_
          refine l_val rfl rfl rfl (r_field Try.runUnderlying212 rfl Try.sizeOf3 rfl rfl) ?_
          refine l_load1 (i := 2) (v := .int .i64 m) Try.isAgg3 rfl rfl rfl rfl rfl ?_
          refine l_val rfl rfl rfl (r_move (v := .int .i64 0) rfl) ?_
          refine l_nil ?_
          refine c_block ?_
          refine c_fix (σ := Int × (List Int)) (τ := (Option Addr × Nat)) (fun next5 s => R1_Turned_l5 a0 a1 m x25_2 next3 next5 s.1 s.2) (fun s t => [(1, .int .i64 a1), (2, .pointer (some ⟨b3, 0, none⟩)), (4, .pointer (some ⟨b4, 0, none⟩)), (5, .pointer (some ⟨b5, 0, none⟩)), (6, .int .i64 x25_2), (24, .int .i64 m_2), (25, .int .i64 x25_2), (29, .int .i64 m), (30, .int .i64 s.1)]) (fun s t => [cellsC b3 [.int .i64 a0.W, .int .i64 a0.H, v0_2] 212, cellsC b4 [.int .i64 0, .int .i64 0, .slice none 0 0] 212, cellsC b5 [.int .i64 m, .int .i64 m_2, .slice t.1 s.2.length t.2] 212, rowV 5 1 (.slice t.1 s.2.length t.2) s.2.length (s.2.map e_u8)]) (fun s t => True) (0, l_3) p_2 [0, 1, 2, 3] H20 (by exact trivial) (by exact ⟨rfl, rfl, rfl, rfl, rfl, rfl, rfl, rfl, rfl, trivial⟩) (by decide) rfl ?_
          rintro ⟨x30_2, l_6⟩ p_4 m5 gg H23 _
          clear H20
          replace H23 : R1_Turned_l5 a0 a1 m x25_2 next3 (it (fun next5 s => R1_Turned_l5 a0 a1 m x25_2 next3 next5 s.1 s.2) m5) x30_2 l_6 = some r := H23
          generalize hn5 : it (fun next5 s => R1_Turned_l5 a0 a1 m x25_2 next3 next5 s.1 s.2) m5 = next5 at H23
          refine c_tidyF [(1, .int .i64 a1), (2, .pointer (some ⟨b3, 0, none⟩)), (4, .pointer (some ⟨b4, 0, none⟩)), (5, .pointer (some ⟨b5, 0, none⟩)), (6, .int .i64 x25_2), (24, .int .i64 m_2), (25, .int .i64 x25_2), (29, .int .i64 m), (30, .int .i64 x30_2)] [cellsC b3 [.int .i64 a0.W, .int .i64 a0.H, v0_2] 212, cellsC b4 [.int .i64 0, .int .i64 0, .slice none 0 0] 212, cellsC b5 [.int .i64 m, .int .i64 m_2, .slice p_4.1 l_6.length p_4.2] 212, rowV 5 1 (.slice p_4.1 l_6.length p_4.2) l_6.length (l_6.map e_u8)] rfl rfl ?_
          refine c_seq ?_
          refine c_region ?_
          refine l_val rfl rfl rfl (r_lss rfl rfl) ?_
          refine l_nil ?_
          refine c_seq ?_
          refine c_if (b := (decide (x30_2 < m))) rfl (fun hb => ?_) (fun hb => ?_)
          · have H24 := cnd_t hb H23; clear H23
            refine c_skip ?_
            refine c_seq ?_
            refine c_block ?_
            refine c_seq ?_
            refine c_region ?_
            refine l_val rfl rfl rfl (r_move (v := .int .i64 x30_2) rfl) ?_
            refine l_val rfl rfl rfl (r_assign (v := .int .i64 x30_2) rfl) ?_
            refine l_nil ?_
            refine c_seq ?_
            refine c_region ?_
            refine l_val rfl rfl rfl (r_move (v := .int .i64 a1) rfl) ?_
            refine l_val rfl rfl rfl (r_field Try.runUnderlying212 rfl Try.sizeOf3 rfl rfl) ?_
            refine l_load1 (i := 0) (v := .int .i64 a0.W) Try.isAgg3 rfl rfl rfl rfl rfl ?_
            refine l_val rfl rfl rfl (r_field Try.runUnderlying212 rfl Try.sizeOf3 rfl rfl) ?_
            refine l_load1 (i := 0) (v := .int .i64 a0.H) Try.isAgg3 rfl rfl rfl rfl rfl ?_
            refine l_val rfl rfl rfl (r_move (v := .int .i64 x30_2) rfl) ?_
            refine l_val rfl rfl rfl (r_move (v := .int .i64 x25_2) rfl) ?_
            obtain ⟨t41, h_t41, H25⟩ := bnd_some H24; clear H24
            refine l_call (k205 h_t41) Try.call205 rfl rfl rfl ?_
            refine l_val rfl rfl rfl (r_move (v := .tuple #[.int .i64 t41.1, .int .i64 t41.2]) rfl) ?_
            refine l_val rfl rfl rfl (r_extract (v := .int .i64 t41.1) rfl rfl) ?_
            refine l_val rfl rfl rfl (r_extract (v := .int .i64 t41.2) rfl rfl) ?_
            refine l_val rfl rfl rfl (r_assign (v := .int .i64 t41.1) rfl) ?_
            refine l_val rfl rfl rfl (r_assign (v := .int .i64 t41.2) rfl) ?_
            refine l_nil ?_
            exact c_regionD (Kd.p :: Kd.d [2] _ :: Kd.d [0] _ :: Kd.p :: Kd.p :: Kd.cv _ _ :: Kd.t 3 [] _ _ :: Kd.p :: Kd.sv 51 50 2 _ 212 :: []) 0 mixed (by
              refine d_val rfl rfl (r_field Try.runUnderlying212 rfl Try.sizeOf210 rfl rfl) ?_
              refine d_load1 (i := 2) (v := .slice p_4.1 l_6.length p_4.2) Try.isAgg210 rfl rfl rfl rfl ?_
              refine d_loadN (i := 0) (vs := [.int .i64 a0.W, .int .i64 a0.H, v0_2]) Try.isAgg212 Try.sizeOf212 rfl rfl rfl rfl ?_
              refine d_val rfl rfl (r_move (v := .int .i64 t41.1) rfl) ?_
              refine d_val rfl rfl (r_move (v := .int .i64 t41.2) rfl) ?_
              have h_t49 := bnd_val H25
              have H26 := bnd_rest H25
              refine d_callC (σ := Value) (G := fun x => x) (Φ := fun x => FrS h 1 x ((val (R1_pixel a0 t41.1 t41.2)).map e_u8)) (fun w hF => k206 (h := h) (hw.at hF) f0_2 h_t49) (k206 (h := h) hw.weak f0_2 h_t49) Try.call206 rfl rfl (fun pv hp => ?_)
              have h_l50 := bnd_val H26
              have H27 := bnd_rest H26
              refine d_turn (Cv := fun v => rowV 5 1 v (val (gApp 1 l_6 (val (R1_pixel a0 t41.1 t41.2)))).length ((val (gApp 1 l_6 (val (R1_pixel a0 t41.1 t41.2)))).map e_u8)) (none, 0) (turns_appG (i := 3) (hn := rfl) (rds := []) (p := p_4) (sz := 1) (by_ := 1) (f := e_u8) (ys := l_6) (ls := (val (R1_pixel a0 t41.1 t41.2))) (V := pv) Try.underlying210 (info_of Try.typeInfo5) rfl rfl rfl rfl rfl rfl rfl rfl hp.eq (List.length_map _) (fun w L' hF hS hi => (hp).row (hw.now hF)) (fun _ => rfl) (fun _ => rfl) h_l50) (fun _ => rfl) rfl rfl (fun p_5 => ?_)
              refine d_val rfl rfl (r_field Try.runUnderlying212 rfl Try.sizeOf210 rfl rfl) ?_
              refine d_storeV (i := 2) (vs := [.slice p_5.1 (val (gApp 1 l_6 (val (R1_pixel a0 t41.1 t41.2)))).length p_5.2]) (cs' := fun v_ => [.int .i64 m, .int .i64 m_2, v_]) Try.sizeOf210 rfl rfl rfl rfl rfl rfl rfl rfl rfl ?_
              refine d_nil ?_
              refine c_region ?_
              obtain ⟨t52, h_t52, H28⟩ := bnd_some H27; clear H27
              refine l_val rfl rfl rfl (r_addG rfl rfl h_t52) ?_
              refine l_val rfl rfl rfl (r_move (v := .int .i64 t52) rfl) ?_
              refine l_nil ?_
              refine c_close (t52, (val (gApp 1 l_6 (val (R1_pixel a0 t41.1 t41.2))))) p_5 m5 [0, 1, 2, 3] (by exact ⟨rfl, rfl, rfl, rfl, rfl, rfl, rfl, rfl, rfl, trivial⟩) (by decide) rfl (by exact ⟨(by subst hn5; exact H28), trivial⟩) (Nat.lt_succ_self _)
              ) (by kernel_rfl)
          · have H29 := cnd_f hb H23; clear H23
            refine c_exit ?_
            refine c_close l_6 p_4 0 [0, 1, 2, 3] (by exact ⟨rfl, rfl, rfl, rfl, rfl, rfl, trivial⟩) (by decide) rfl (by exact ⟨H29, trivial⟩) (Nat.lt_succ_self _)
        · rintro l_4 p_3 gg H21 _
          replace H21 : R1_Turned_j4 x25_2 next3 l_4 = some r := H21
          refine c_tidyF [(1, .int .i64 a1), (2, .pointer (some ⟨b3, 0, none⟩)), (4, .pointer (some ⟨b4, 0, none⟩)), (5, .pointer (some ⟨b5, 0, none⟩)), (24, .int .i64 m_2), (25, .int .i64 x25_2)] [cellsC b3 [.int .i64 a0.W, .int .i64 a0.H, v0_2] 212, cellsC b4 [.int .i64 0, .int .i64 0, .slice none 0 0] 212, cellsC b5 [.int .i64 m, .int .i64 m_2, .slice p_3.1 l_4.length p_3.2] 212, rowV 5 1 (.slice p_3.1 l_4.length p_3.2) l_4.length (l_4.map e_u8)] rfl rfl ?_
          refine c_region ?_
          obtain ⟨t53, h_t53, H22⟩ := bnd_some H21; clear H21
          refine l_val rfl rfl rfl (r_addG rfl rfl h_t53) ?_
          refine l_val rfl rfl rfl (r_move (v := .int .i64 t53) rfl) ?_
          refine l_nil ?_
          refine c_close (t53, l_4) p_3 m3 [0, 1, 2, 3] (by exact ⟨rfl, rfl, rfl, rfl, rfl, rfl, trivial⟩) (by decide) rfl (by exact ⟨(by subst hn3; exact H22), trivial⟩) (Nat.lt_succ_self _)
      · have H30 := cnd_f hb H19; clear H19
        refine c_exit ?_
        refine c_close l_3 p_2 0 [1, 2, 3] (by exact ⟨rfl, rfl, trivial⟩) (by decide) rfl (by exact ⟨H30, trivial⟩) (Nat.lt_succ_self _)
    · rintro l p gg H18 _
      replace H18 : R1_Turned_j2 m m_2 l = some r := H18
      refine c_tidyF [(4, .pointer (some ⟨b4, 0, none⟩)), (5, .pointer (some ⟨b5, 0, none⟩))] [cellsC b4 [.int .i64 0, .int .i64 0, .slice none 0 0] 212, cellsC b5 [.int .i64 m, .int .i64 m_2, .slice p.1 l.length p.2] 212, rowV 5 1 (.slice p.1 l.length p.2) l.length (l.map e_u8)] rfl rfl ?_
      refine c_seq ?_
      refine c_region ?_
      refine l_loadN (i := 1) (vs := [.int .i64 m, .int .i64 m_2, .slice p.1 l.length p.2]) Try.isAgg212 Try.sizeOf212 rfl rfl rfl rfl rfl ?_
      refine l_store (i := 0) (vs := [.int .i64 m, .int .i64 m_2, .slice p.1 l.length p.2]) (cs' := [.int .i64 m, .int .i64 m_2, .slice p.1 l.length p.2]) Try.sizeOf212 rfl rfl rfl rfl rfl rfl rfl rfl rfl ?_
      refine l_nil ?_
      refine c_ret ?_
      obtain rfl := Option.some.inj H18
      refine retC (i := 0) (vs := [.int .i64 m, .int .i64 m_2, .slice p.1 l.length p.2]) Try.isAgg212 Try.sizeOf212 rfl rfl rfl rfl (finX p (i := 2) rfl rfl (Imp.refl _))
theorem k165 {r : T_api_Image} {w : World} {h : Heap} (hw : Know h w noS) (H : R1_sample = some r) : Does Try.prog 165 (List.toArray []) w (fun v w' => ∃ x : (Option Addr × Nat), v = (.agg #[.int .i64 r.W, .int .i64 r.H, .slice x.1 r.Pixels.length x.2]) ∧ Turn w w' noS (rowV 5 1 (.slice x.1 r.Pixels.length x.2) r.Pixels.length (r.Pixels.map e_u8))) := by
  refine enter (n := 20) Try.func165 rfl rfl rfl noS [] (Sat.nil _ _) ?_
  refine c_seq ?_
  refine c_region ?_
  refine l_alloc (cs := [.int .i64 0, .int .i64 0, .slice none 0 0]) Try.zeroValue212 rfl rfl rfl (fun b3 => ?_)
  refine l_nil ?_
  refine c_seq ?_
  refine c_region ?_
  refine l_val rfl rfl rfl (r_build (pl := #[(0, 1), (1, 1), (2, 1)]) (ps := [(0, .int .i64 3), (1, .int .i64 2)]) (cells := #[.int .i64 3, .int .i64 2, .slice none 0 0]) Try.zeroValue212 Try.runUnderlying212 (fun w => by kernel_rfl) rfl rfl) ?_
  refine l_alloc (cs := [.int .i64 0, .int .i64 0, .slice none 0 0]) Try.zeroValue212 rfl rfl rfl (fun b4 => ?_)
  refine l_store (i := 1) (vs := [.int .i64 3, .int .i64 2, .slice none 0 0]) (cs' := [.int .i64 3, .int .i64 2, .slice none 0 0]) Try.sizeOf212 rfl rfl rfl rfl rfl rfl rfl rfl rfl ?_
  refine l_nil ?_
  refine c_meet (r := r) (σ := (List Int)) (τ := (Option Addr × Nat)) (fun s => R1_sample_j1 s) (fun s t => [(0, .pointer (some ⟨b3, 0, none⟩)), (1, .pointer (some ⟨b4, 0, none⟩))]) (fun s t => [cellsC b3 [.int .i64 0, .int .i64 0, .slice none 0 0] 212, cellsC b4 [.int .i64 3, .int .i64 2, .slice t.1 s.length t.2] 212, rowV 5 1 (.slice t.1 s.length t.2) s.length (s.map e_u8)]) (fun s t => True) ?_ ?_
  · refine c_seq ?_
    refine c_region ?_
    refine l_val rfl rfl rfl (r_move (v := .int .i64 0) rfl) ?_
    refine l_nil ?_
    refine c_block ?_
    refine c_nilRow 5 1 ?_
    refine c_fix (σ := Int × (List Int)) (τ := (Option Addr × Nat)) (fun next2 s => R1_sample_l2 next2 s.1 s.2) (fun s t => [(0, .pointer (some ⟨b3, 0, none⟩)), (1, .pointer (some ⟨b4, 0, none⟩)), (4, .int .i64 s.1)]) (fun s t => [cellsC b3 [.int .i64 0, .int .i64 0, .slice none 0 0] 212, cellsC b4 [.int .i64 3, .int .i64 2, .slice t.1 s.2.length t.2] 212, rowV 5 1 (.slice t.1 s.2.length t.2) s.2.length (s.2.map e_u8)]) (fun s t => True) (0, ([] : List Int)) ((none, 0) : Option Addr × Nat) [0, 1, 2] H (by exact trivial) (by exact ⟨rfl, rfl, rfl, trivial⟩) (by decide) rfl ?_
    rintro ⟨x4_2, l_3⟩ p_2 m2 gg H8 _
    clear H
    replace H8 : R1_sample_l2 (it (fun next2 s => R1_sample_l2 next2 s.1 s.2) m2) x4_2 l_3 = some r := H8
    generalize hn2 : it (fun next2 s => R1_sample_l2 next2 s.1 s.2) m2 = next2 at H8
    refine c_tidyF [(0, .pointer (some ⟨b3, 0, none⟩)), (1, .pointer (some ⟨b4, 0, none⟩)), (4, .int .i64 x4_2)] [cellsC b3 [.int .i64 0, .int .i64 0, .slice none 0 0] 212, cellsC b4 [.int .i64 3, .int .i64 2, .slice p_2.1 l_3.length p_2.2] 212, rowV 5 1 (.slice p_2.1 l_3.length p_2.2) l_3.length (l_3.map e_u8)] rfl rfl ?_
    refine c_seq ?_
    refine c_region ?_
    refine l_val rfl rfl rfl (r_lss rfl rfl) ?_
    refine l_nil ?_
    refine c_seq ?_
    refine c_if (b := (decide (x4_2 < 6))) rfl (fun hb => ?_) (fun hb => ?_)
    · have H9 := cnd_t hb H8; clear H8
      refine c_skip ?_
      refine c_seq ?_
      refine c_block ?_
      refine c_seq ?_
      refine c_region ?_
      refine l_val rfl rfl rfl (r_move (v := .int .i64 x4_2) rfl) ?_
      refine l_val rfl rfl rfl (r_assign (v := .int .i64 x4_2) rfl) ?_
      refine l_nil ?_
      refine c_region ?_
      refine l_val rfl rfl rfl (r_field Try.runUnderlying212 rfl Try.sizeOf210 rfl rfl) ?_
      refine l_load1 (i := 1) (v := .slice p_2.1 l_3.length p_2.2) Try.isAgg210 rfl rfl rfl rfl rfl ?_
      refine l_val rfl rfl rfl (r_move (v := .int .i64 x4_2) rfl) ?_
      refine l_val rfl rfl rfl (r_convG Try.runUnderlying3 Try.runUnderlying5 rfl (wr_u8 _)) ?_
      refine l_val rfl rfl rfl (r_move (v := .int .i64 x4_2) rfl) ?_
      refine l_val rfl rfl rfl (r_convG Try.runUnderlying3 Try.runUnderlying5 rfl (wr_u8 _)) ?_
      refine l_val rfl rfl rfl (r_move (v := .int .i64 x4_2) rfl) ?_
      refine l_val rfl rfl rfl (r_convG Try.runUnderlying3 Try.runUnderlying5 rfl (wr_u8 _)) ?_
      refine l_buildSlice (vs := [.int .u8 (wU8 x4_2), .int .u8 (wU8 x4_2), .int .u8 (wU8 x4_2)]) (cs := [.int .u8 (wU8 x4_2), .int .u8 (wU8 x4_2), .int .u8 (wU8 x4_2)]) Try.underlying210 Try.sizeOf5 Try.zeroValue5 rfl rfl rfl rfl rfl rfl rfl (fun b5 => ?_)
      obtain ⟨l16, h_l16, H10⟩ := bnd_some H9; clear H9
      refine l_turn (turns_appG (i := 2) (hn := rfl) (rds := [3]) (p := p_2) (sz := 1) (by_ := 1) (f := e_u8) (ys := l_3) (ls := ([(wU8 x4_2), (wU8 x4_2), (wU8 x4_2)] : List Int)) (V := .slice (some ⟨b5, 0, none⟩) 3 3) Try.underlying210 (info_of Try.typeInfo5) rfl rfl rfl rfl rfl rfl rfl rfl rfl rfl (fun w L' hF hS hi => row_box (i := 3) hS ((hi 3 (by simp)).trans rfl) rfl rfl) (fun _ => rfl) (fun _ => rfl) h_l16) rfl rfl rfl (fun p_3 => ?_)
      refine l_val rfl rfl rfl (r_field Try.runUnderlying212 rfl Try.sizeOf210 rfl rfl) ?_
      refine l_store (i := 1) (vs := [.slice p_3.1 l16.length p_3.2]) (cs' := [.int .i64 3, .int .i64 2, .slice p_3.1 l16.length p_3.2]) Try.sizeOf210 rfl rfl rfl rfl rfl rfl rfl rfl rfl ?_
      refine l_nil ?_
      refine c_region ?_
      obtain ⟨t18, h_t18, H11⟩ := bnd_some H10; clear H10
      refine l_val rfl rfl rfl (r_addG rfl rfl h_t18) ?_
      refine l_val rfl rfl rfl (r_move (v := .int .i64 t18) rfl) ?_
      refine l_nil ?_
      refine c_close (t18, l16) p_3 m2 [0, 1, 2] (by exact ⟨rfl, rfl, rfl, trivial⟩) (by decide) rfl (by exact ⟨(by subst hn2; exact H11), trivial⟩) (Nat.lt_succ_self _)
    · have H12 := cnd_f hb H8; clear H8
      refine c_exit ?_
      refine c_close l_3 p_2 0 [0, 1, 2] (by exact ⟨rfl, rfl, trivial⟩) (by decide) rfl (by exact ⟨H12, trivial⟩) (Nat.lt_succ_self _)
  · rintro l p gg H7 _
    replace H7 : R1_sample_j1 l = some r := H7
    refine c_tidyF [(0, .pointer (some ⟨b3, 0, none⟩)), (1, .pointer (some ⟨b4, 0, none⟩))] [cellsC b3 [.int .i64 0, .int .i64 0, .slice none 0 0] 212, cellsC b4 [.int .i64 3, .int .i64 2, .slice p.1 l.length p.2] 212, rowV 5 1 (.slice p.1 l.length p.2) l.length (l.map e_u8)] rfl rfl ?_
    refine c_seq ?_
    refine c_region ?_
    refine l_loadN (i := 1) (vs := [.int .i64 3, .int .i64 2, .slice p.1 l.length p.2]) Try.isAgg212 Try.sizeOf212 rfl rfl rfl rfl rfl ?_
    refine l_store (i := 0) (vs := [.int .i64 3, .int .i64 2, .slice p.1 l.length p.2]) (cs' := [.int .i64 3, .int .i64 2, .slice p.1 l.length p.2]) Try.sizeOf212 rfl rfl rfl rfl rfl rfl rfl rfl rfl ?_
    refine l_nil ?_
    refine c_ret ?_
    obtain rfl := Option.some.inj H7
    refine retC (i := 0) (vs := [.int .i64 3, .int .i64 2, .slice p.1 l.length p.2]) Try.isAgg212 Try.sizeOf212 rfl rfl rfl rfl (finX p (i := 2) rfl rfl (Imp.refl _))
theorem k207 {a0 : (List Int)} {v0 : Value} {a1 : (List Int)} {v1 : Value} {r : Bool} {w : World} {h : Heap} (hw : Know h w noS) (f0 : FrS h 1 v0 (a0.map e_u8)) (f1 : FrS h 1 v1 (a1.map e_u8)) (H : slices_Equal_byte a0 a1 = some r) : Does Try.prog 207 (List.toArray [v0, v1]) w (fun v w' => v = (.bool r) ∧ Grow w w') := by
  refine enter (n := 26) Try.func207 rfl rfl rfl noS [] (Sat.nil _ _) ?_
  refine c_seq ?_
  refine c_region ?_
  refine l_val rfl rfl rfl (r_assign (v := .bool false) rfl) ?_
  refine l_nil ?_
  refine c_seq ?_
  refine c_seq ?_
  refine c_region ?_
  refine l_val rfl rfl rfl (r_move (v := v0) rfl) ?_
  refine l_val rfl rfl rfl (r_lenF Try.underlying210 rfl f0 rfl) ?_
  refine l_val rfl rfl rfl (r_move (v := v1) rfl) ?_
  refine l_val rfl rfl rfl (r_lenF Try.underlying210 rfl f1 rfl) ?_
  refine l_val rfl rfl rfl (r_neq rfl rfl) ?_
  refine l_nil ?_
  refine c_if (b := (decide ((a0.length : Int) ≠ (a1.length : Int)))) rfl (fun hb => ?_) (fun hb => ?_)
  · have H11 := cnd_t hb H; clear H
    refine c_seq ?_
    refine c_region ?_
    refine l_val rfl rfl rfl (r_assign (v := .bool false) rfl) ?_
    refine l_nil ?_
    refine c_ret ?_
    obtain rfl := Option.some.inj H11
    refine ret1 (v := .bool false) rfl rfl (fin rfl)
  · have H12 := cnd_f hb H; clear H
    refine c_skip ?_
    refine c_seq ?_
    refine c_seq ?_
    refine c_region ?_
    refine l_val rfl rfl rfl (r_move (v := v0) rfl) ?_
    refine l_val rfl rfl rfl (r_lenF Try.underlying210 rfl f0 rfl) ?_
    refine l_val rfl rfl rfl (r_move (v := .int .i64 0) rfl) ?_
    refine l_nil ?_
    refine c_block ?_
    refine c_fix (σ := Int) (τ := Unit) (fun next1 s => slices_Equal_byte_l1 a0 a1 next1 s) (fun s t => [(0, v0), (1, v1), (12, .int .i64 (a0.length : Int)), (13, .int .i64 s)]) (fun s t => []) (fun s t => True) 0 () [] H12 (by exact trivial) (by exact ⟨rfl, rfl, rfl, rfl, trivial⟩) (by decide) rfl ?_
    rintro x13_2 _ m1 gg H13 _
    clear H12
    replace H13 : slices_Equal_byte_l1 a0 a1 (it (fun next1 s => slices_Equal_byte_l1 a0 a1 next1 s) m1) x13_2 = some r := H13
    generalize hn1 : it (fun next1 s => slices_Equal_byte_l1 a0 a1 next1 s) m1 = next1 at H13
    refine c_tidyF [(0, v0), (1, v1), (12, .int .i64 (a0.length : Int)), (13, .int .i64 x13_2)] [] rfl rfl ?_
    refine c_seq ?_
    refine c_region ?_
    refine l_val rfl rfl rfl (r_lss rfl rfl) ?_
    refine l_nil ?_
    refine c_seq ?_
    refine c_if (b := (decide (x13_2 < (a0.length : Int)))) rfl (fun hb => ?_) (fun hb => ?_)
    · have H14 := cnd_t hb H13; clear H13
      refine c_skip ?_
      refine c_seq ?_
      refine c_block ?_
      refine c_seq ?_
      refine c_region ?_
      refine l_val rfl rfl rfl (r_move (v := .int .i64 x13_2) rfl) ?_
      refine l_val rfl rfl rfl (r_assign (v := .int .i64 x13_2) rfl) ?_
      refine l_nil ?_
      refine c_seq ?_
      exact c_regionD (Kd.p :: Kd.p :: Kd.p :: Kd.d [] _ :: Kd.p :: Kd.p :: Kd.p :: Kd.d [] _ :: Kd.p :: []) 0 mixed (by
        refine d_val rfl rfl (r_move (v := v0) rfl) ?_
        refine d_val rfl rfl (r_move (v := .int .i64 x13_2) rfl) ?_
        have h_t18 := bnd_val H14
        have H15 := bnd_rest H14
        refine d_val rfl rfl (r_indexF Try.underlying210 Try.sizeOf5 rfl rfl f0 h_t18) ?_
        refine d_read (fun w hF => run_loadG1 (f := e_u8) (i := x13_2) (sz := 1) (j := 0) (v := .int .u8 (val (gAt a0 x13_2))) Try.isAgg5 rfl rfl (f0.row (hw.now hF)) h_t18 rfl) rfl rfl ?_
        refine d_val rfl rfl (r_move (v := v1) rfl) ?_
        refine d_val rfl rfl (r_move (v := .int .i64 x13_2) rfl) ?_
        have h_t22 := bnd_val H15
        have H16 := bnd_rest H15
        refine d_val rfl rfl (r_indexF Try.underlying210 Try.sizeOf5 rfl rfl f1 h_t22) ?_
        refine d_read (fun w hF => run_loadG1 (f := e_u8) (i := x13_2) (sz := 1) (j := 0) (v := .int .u8 (val (gAt a1 x13_2))) Try.isAgg5 rfl rfl (f1.row (hw.now hF)) h_t22 rfl) rfl rfl ?_
        refine d_val rfl rfl (r_neq rfl rfl) ?_
        refine d_nil ?_
        refine c_if (b := (decide ((val (gAt a0 x13_2)) ≠ (val (gAt a1 x13_2))))) rfl (fun hb => ?_) (fun hb => ?_)
        · have H17 := cnd_t hb H16; clear H16
          refine c_seq ?_
          refine c_region ?_
          refine l_val rfl rfl rfl (r_assign (v := .bool false) rfl) ?_
          refine l_nil ?_
          refine c_ret ?_
          obtain rfl := Option.some.inj H17
          refine ret1 (v := .bool false) rfl rfl (fin rfl)
        · have H18 := cnd_f hb H16; clear H16
          refine c_skip ?_
          refine c_region ?_
          obtain ⟨t25, h_t25, H19⟩ := bnd_some H18; clear H18
          refine l_val rfl rfl rfl (r_addG rfl rfl h_t25) ?_
          refine l_val rfl rfl rfl (r_move (v := .int .i64 t25) rfl) ?_
          refine l_nil ?_
          refine c_close t25 () m1 [] (by exact ⟨rfl, rfl, rfl, rfl, trivial⟩) (by decide) rfl (by exact ⟨(by subst hn1; exact H19), trivial⟩) (Nat.lt_succ_self _)
        ) (by kernel_rfl)
    · have H20 := cnd_f hb H13; clear H13
      refine c_exit ?_
      refine c_seq ?_
      refine c_region ?_
      refine l_val rfl rfl rfl (r_assign (v := .bool true) rfl) ?_
      refine l_nil ?_
      refine c_ret ?_
      obtain rfl := Option.some.inj H20
      refine ret1 (v := .bool true) rfl rfl (fin rfl)
theorem k166 {a0 : T_api_Image} {v0_2 : Value} {a1 : T_api_Image} {v1_2 : Value} {r : Bool} {w : World} {h : Heap} (hw : Know h w noS) (f0_2 : FrS h 1 v0_2 (a0.Pixels.map e_u8)) (f1_2 : FrS h 1 v1_2 (a1.Pixels.map e_u8)) (H : R1_SameImage a0 a1 = some r) : Does Try.prog 166 (List.toArray [.agg #[.int .i64 a0.W, .int .i64 a0.H, v0_2], .agg #[.int .i64 a1.W, .int .i64 a1.H, v1_2]]) w (fun v w' => v = (.bool r) ∧ Grow w w') := by
  refine enter (n := 24) Try.func166 rfl rfl rfl noS [] (Sat.nil _ _) ?_
  refine c_seq ?_
  refine c_region ?_
  refine l_box (cs := [.int .i64 a0.W, .int .i64 a0.H, v0_2]) rfl rfl rfl rfl (fun b2 => ?_)
  refine l_box (cs := [.int .i64 a1.W, .int .i64 a1.H, v1_2]) rfl rfl rfl rfl (fun b3 => ?_)
  refine l_val rfl rfl rfl (r_assign (v := .bool false) rfl) ?_
  refine l_nil ?_
  refine c_seq ?_
  refine c_region ?_
  refine l_val rfl rfl rfl (r_field Try.runUnderlying212 rfl Try.sizeOf3 rfl rfl) ?_
  refine l_load1 (i := 0) (v := .int .i64 a0.W) Try.isAgg3 rfl rfl rfl rfl rfl ?_
  refine l_val rfl rfl rfl (r_field Try.runUnderlying212 rfl Try.sizeOf3 rfl rfl) ?_
  refine l_load1 (i := 1) (v := .int .i64 a1.W) Try.isAgg3 rfl rfl rfl rfl rfl ?_
  refine l_val rfl rfl rfl (r_eql rfl rfl) ?_
  refine l_val rfl rfl rfl (r_move (v := .bool (decide (a0.W = a1.W))) rfl) ?_
  refine split (fun hb => ?_) (fun hb => ?_)
  · have H6 := cnd_t hb H; clear H
    refine l_val rfl rfl rfl (r_field Try.runUnderlying212 rfl Try.sizeOf3 rfl rfl) ?_
    refine l_load1 (i := 0) (v := .int .i64 a0.H) Try.isAgg3 rfl rfl rfl rfl rfl ?_
    refine l_val rfl rfl rfl (r_field Try.runUnderlying212 rfl Try.sizeOf3 rfl rfl) ?_
    refine l_load1 (i := 1) (v := .int .i64 a1.H) Try.isAgg3 rfl rfl rfl rfl rfl ?_
    refine l_val rfl rfl rfl (r_eql rfl rfl) ?_
    refine l_val rfl rfl rfl (r_pickT (v := .bool (decide (a0.H = a1.H))) rfl rfl) ?_
    refine l_val rfl rfl rfl (r_move (v := .bool (decide (a0.H = a1.H))) rfl) ?_
    refine split (fun hb => ?_) (fun hb => ?_)
    · have H7 := cnd_t hb H6; clear H6
      refine l_val rfl rfl rfl (r_field Try.runUnderlying212 rfl Try.sizeOf210 rfl rfl) ?_
      refine l_load1 (i := 0) (v := v0_2) Try.isAgg210 rfl rfl rfl rfl rfl ?_
      refine l_val rfl rfl rfl (r_field Try.runUnderlying212 rfl Try.sizeOf210 rfl rfl) ?_
      refine l_load1 (i := 1) (v := v1_2) Try.isAgg210 rfl rfl rfl rfl rfl ?_
      obtain ⟨t22, h_t22, H8⟩ := bnd_some H7; clear H7
      refine l_callG (fun w hF hS => k207 (know_all w) (f0_2.mono (hw.now hF)) (f1_2.mono (hw.now hF)) h_t22) Try.call207 rfl rfl rfl ?_
      refine l_val rfl rfl rfl (r_pickT (v := .bool t22) rfl rfl) ?_
      refine l_val rfl rfl rfl (r_assign (v := .bool t22) rfl) ?_
      refine l_nil ?_
      refine c_ret ?_
      obtain rfl := Option.some.inj H8
      refine ret1 (v := .bool t22) rfl rfl (fin rfl)
    · have H9 := cnd_f hb H6; clear H6
      refine l_passed rfl rfl rfl ?_
      refine l_passed rfl rfl rfl ?_
      refine l_passed rfl rfl rfl ?_
      refine l_passed rfl rfl rfl ?_
      refine l_passed rfl rfl rfl ?_
      refine l_val rfl rfl rfl (r_pickF (v := .bool false) rfl rfl) ?_
      refine l_val rfl rfl rfl (r_assign (v := .bool false) rfl) ?_
      refine l_nil ?_
      refine c_ret ?_
      obtain rfl := Option.some.inj H9
      refine ret1 (v := .bool false) rfl rfl (fin rfl)
  · have H10 := cnd_f hb H; clear H
    refine l_passed rfl rfl rfl ?_
    refine l_passed rfl rfl rfl ?_
    refine l_passed rfl rfl rfl ?_
    refine l_passed rfl rfl rfl ?_
    refine l_passed rfl rfl rfl ?_
    refine l_val rfl rfl rfl (r_pickF (v := .bool false) rfl rfl) ?_
    refine l_val rfl rfl rfl (r_move (v := .bool false) rfl) ?_
    refine l_passed rfl rfl rfl ?_
    refine l_passed rfl rfl rfl ?_
    refine l_passed rfl rfl rfl ?_
    refine l_passed rfl rfl rfl ?_
    refine l_passed rfl rfl rfl ?_
    refine l_val rfl rfl rfl (r_pickF (v := .bool false) rfl rfl) ?_
    refine l_val rfl rfl rfl (r_assign (v := .bool false) rfl) ?_
    refine l_nil ?_
    refine c_ret ?_
    obtain rfl := Option.some.inj H10
    refine ret1 (v := .bool false) rfl rfl (fin rfl)
theorem k116 {a0 : Int} {a1 : Int} {r : Int} (H : R1_Both a0 a1 = some r) : Ret Try.prog 116 [.int .i64 a0, .int .i64 a1] (.int .i64 r) := by
  refine enterRet (n := 22) Try.func116 rfl rfl rfl (fun wd => ?_)
  refine c_seq ?_
  refine c_region ?_
  refine l_val rfl rfl rfl (r_assign (v := .int .i64 0) rfl) ?_
  refine l_nil ?_
  refine c_seq ?_
  refine c_region ?_
  obtain ⟨t7, h_t7, H13⟩ := bnd_some H; clear H
  refine l_make (makes_call (rds := []) (G := fun x : (Option Addr × Nat) => .agg #[.int .i64 t7.W, .int .i64 t7.H, .slice x.1 t7.Pixels.length x.2]) (C := fun x : (Option Addr × Nat) => rowV 5 1 (.slice x.1 t7.Pixels.length x.2) t7.Pixels.length (t7.Pixels.map e_u8)) (fun w L' hF hS hi => k165 (know_all w)  h_t7) Try.call165 rfl) rfl rfl rfl (fun p => ?_)
  refine l_val rfl rfl rfl (r_move (v := .int .i64 a0) rfl) ?_
  obtain ⟨t9, h_t9, H14⟩ := bnd_some H13; clear H13
  refine l_make (makes_call (rds := [0]) (G := fun x : (Option Addr × Nat) => .agg #[.int .i64 t9.W, .int .i64 t9.H, .slice x.1 t9.Pixels.length x.2]) (C := fun x : (Option Addr × Nat) => rowV 5 1 (.slice x.1 t9.Pixels.length x.2) t9.Pixels.length (t9.Pixels.map e_u8)) (fun w L' hF hS hi => k164 (know_all w) (frs_own (i := 0) rfl hS ((hi 0 (by simp)).trans rfl)) h_t9) Try.call164 rfl) rfl rfl rfl (fun p_2 => ?_)
  refine l_val rfl rfl rfl (r_move (v := .int .i64 a1) rfl) ?_
  obtain ⟨t11, h_t11, H15⟩ := bnd_some H14; clear H14
  refine l_make (makes_call (rds := [1]) (G := fun x : (Option Addr × Nat) => .agg #[.int .i64 t11.W, .int .i64 t11.H, .slice x.1 t11.Pixels.length x.2]) (C := fun x : (Option Addr × Nat) => rowV 5 1 (.slice x.1 t11.Pixels.length x.2) t11.Pixels.length (t11.Pixels.map e_u8)) (fun w L' hF hS hi => k164 (know_all w) (frs_own (i := 1) rfl hS ((hi 1 (by simp)).trans rfl)) h_t11) Try.call164 rfl) rfl rfl rfl (fun p_3 => ?_)
  refine l_alloc (cs := [.int .i64 0, .int .i64 0, .slice none 0 0]) Try.zeroValue212 rfl rfl rfl (fun b1 => ?_)
  refine l_store (i := 3) (vs := [.int .i64 t11.W, .int .i64 t11.H, .slice p_3.1 t11.Pixels.length p_3.2]) (cs' := [.int .i64 t11.W, .int .i64 t11.H, .slice p_3.1 t11.Pixels.length p_3.2]) Try.sizeOf212 rfl rfl rfl rfl rfl rfl rfl rfl rfl ?_
  refine l_nil ?_
  refine c_seq ?_
  refine c_seq ?_
  refine c_region ?_
  refine l_val rfl rfl rfl (r_assign (v := .int .i64 1) rfl) ?_
  refine l_nil ?_
  refine c_block ?_
  refine c_sel [2, 3] [rowV 5 1 (.slice p_3.1 t11.Pixels.length p_3.2) t11.Pixels.length (t11.Pixels.map e_u8), cellsC b1 [.int .i64 t11.W, .int .i64 t11.H, .slice p_3.1 t11.Pixels.length p_3.2] 212] rfl (by decide) ?_
  refine c_fix (σ := Int) (τ := Unit) (fun next1 s => R1_Both_l1 t11 next1 s) (fun s t => [(5, .pointer (some ⟨b1, 0, none⟩)), (6, .int .i64 s)]) (fun s t => [rowV 5 1 (.slice p_3.1 t11.Pixels.length p_3.2) t11.Pixels.length (t11.Pixels.map e_u8), cellsC b1 [.int .i64 t11.W, .int .i64 t11.H, .slice p_3.1 t11.Pixels.length p_3.2] 212]) (fun s t => True) 1 () [0, 1] H15 (by exact trivial) (by exact ⟨rfl, rfl, trivial⟩) (by decide) rfl ?_
  rintro x6_2 _ m1 gg H16 _
  clear H15
  replace H16 : R1_Both_l1 t11 (it (fun next1 s => R1_Both_l1 t11 next1 s) m1) x6_2 = some r := H16
  generalize hn1 : it (fun next1 s => R1_Both_l1 t11 next1 s) m1 = next1 at H16
  refine c_tidyF [(5, .pointer (some ⟨b1, 0, none⟩)), (6, .int .i64 x6_2)] [rowV 5 1 (.slice p_3.1 t11.Pixels.length p_3.2) t11.Pixels.length (t11.Pixels.map e_u8), cellsC b1 [.int .i64 t11.W, .int .i64 t11.H, .slice p_3.1 t11.Pixels.length p_3.2] 212] rfl rfl ?_
  refine c_seq ?_
  refine c_seq ?_
  refine c_region ?_
  refine l_val rfl rfl rfl (r_move (v := .int .i64 x6_2) rfl) ?_
  refine l_val rfl rfl rfl (r_leq rfl rfl) ?_
  refine l_nil ?_
  refine c_if (b := (decide (x6_2 ≤ 8))) rfl (fun hb => ?_) (fun hb => ?_)
  · have H17 := cnd_t hb H16; clear H16
    refine c_skip ?_
    refine c_seq ?_
    refine c_block ?_
    refine c_seq ?_
    exact c_regionD (Kd.t 2 [] _ _ :: Kd.p :: Kd.t 3 [2] _ _ :: Kd.d [1] _ :: Kd.d [3, 0] _ :: []) 2 mixed (by
      have h_t16 := bnd_val H17
      have H18 := bnd_rest H17
      refine d_make (Cv := fun v => rowV 5 1 (.slice (sa (vcell v 2)) (val R1_sample).Pixels.length (sc (vcell v 2))) (val R1_sample).Pixels.length ((val R1_sample).Pixels.map e_u8)) (none, 0) (makes_call (G := fun x : (Option Addr × Nat) => .agg #[.int .i64 (val R1_sample).W, .int .i64 (val R1_sample).H, .slice x.1 (val R1_sample).Pixels.length x.2]) (C := fun x : (Option Addr × Nat) => rowV 5 1 (.slice x.1 (val R1_sample).Pixels.length x.2) (val R1_sample).Pixels.length ((val R1_sample).Pixels.map e_u8)) (fun w L' hF hS hi => k165 (know_all w)  h_t16) Try.call165 rfl) (fun _ => rfl) rfl rfl rfl (fun p_4 => ?_)
      refine d_val rfl rfl (r_move (v := .int .i64 x6_2) rfl) ?_
      have h_t18 := bnd_val H18
      have H19 := bnd_rest H18
      refine d_make (Cv := fun v => rowV 5 1 (.slice (sa (vcell v 2)) (val (R1_Turned (val R1_sample) x6_2)).Pixels.length (sc (vcell v 2))) (val (R1_Turned (val R1_sample) x6_2)).Pixels.length ((val (R1_Turned (val R1_sample) x6_2)).Pixels.map e_u8)) (none, 0) (makes_call (G := fun x : (Option Addr × Nat) => .agg #[.int .i64 (val (R1_Turned (val R1_sample) x6_2)).W, .int .i64 (val (R1_Turned (val R1_sample) x6_2)).H, .slice x.1 (val (R1_Turned (val R1_sample) x6_2)).Pixels.length x.2]) (C := fun x : (Option Addr × Nat) => rowV 5 1 (.slice x.1 (val (R1_Turned (val R1_sample) x6_2)).Pixels.length x.2) (val (R1_Turned (val R1_sample) x6_2)).Pixels.length ((val (R1_Turned (val R1_sample) x6_2)).Pixels.map e_u8)) (fun w L' hF hS hi => k164 (know_all w) (frs_own (i := 2) rfl hS ((hi 2 (by simp)).trans rfl)) h_t18) Try.call164 rfl) (fun _ => rfl) rfl rfl rfl (fun p_5 => ?_)
      refine d_loadN (i := 1) (vs := [.int .i64 t11.W, .int .i64 t11.H, .slice p_3.1 t11.Pixels.length p_3.2]) Try.isAgg212 Try.sizeOf212 rfl rfl rfl rfl ?_
      have h_t20 := bnd_val H19
      have H20 := bnd_rest H19
      refine d_callD (fun w L' hF hS hi => k166 (know_all w) (frs_own (i := 3) rfl hS ((hi 3 (by simp)).trans rfl)) (frs_own (i := 0) rfl hS ((hi 0 (by simp)).trans rfl)) h_t20) Try.call166 rfl rfl ?_
      refine d_nil ?_
      refine c_if (b := (val (R1_SameImage (val (R1_Turned (val R1_sample) x6_2)) t11))) rfl (fun hb => ?_) (fun hb => ?_)
      · have H21 := cnd_t hb H20; clear H20
        refine c_seq ?_
        refine c_region ?_
        refine l_val rfl rfl rfl (r_move (v := .int .i64 x6_2) rfl) ?_
        refine l_val rfl rfl rfl (r_assign (v := .int .i64 x6_2) rfl) ?_
        refine l_nil ?_
        refine c_ret ?_
        obtain rfl := Option.some.inj H21
        refine ret1 (v := .int .i64 x6_2) rfl rfl (fin rfl)
      · have H22 := cnd_f hb H20; clear H20
        refine c_skip ?_
        refine c_region ?_
        refine l_val rfl rfl rfl (r_move (v := .int .i64 x6_2) rfl) ?_
        obtain ⟨t15, h_t15, H23⟩ := bnd_some H22; clear H22
        refine l_val rfl rfl rfl (r_addG rfl rfl h_t15) ?_
        refine l_val rfl rfl rfl (r_assign (v := .int .i64 t15) rfl) ?_
        refine l_nil ?_
        refine c_close t15 () m1 [0, 1] (by exact ⟨rfl, rfl, trivial⟩) (by decide) rfl (by exact ⟨(by subst hn1; exact H23), trivial⟩) (Nat.lt_succ_self _)
      ) (by kernel_rfl)
  · have H24 := cnd_f hb H16; clear H16
    refine c_exit ?_
    refine c_seq ?_
    refine c_region ?_
    refine l_val rfl rfl rfl (r_assign (v := .int .i64 0) rfl) ?_
    refine l_nil ?_
    refine c_ret ?_
    obtain rfl := Option.some.inj H24
    refine ret1 (v := .int .i64 0) rfl rfl (fin rfl)
theorem k167 {a0 : Int} {a1 : Int} {a2 : Int} {a3 : Int} {a4 : Int} {r : Int × Int} (H : R_source a0 a1 a2 a3 a4 = some r) : Ret Try.prog 167 [.int .i64 a0, .int .i64 a1, .int .i64 a2, .int .i64 a3, .int .i64 a4] (.tuple #[.int .i64 r.1, .int .i64 r.2]) := by
  refine enterRet (n := 67) Try.func167 rfl rfl rfl (fun wd => ?_)
  refine c_seq ?_
  refine c_region ?_
  refine l_val rfl rfl rfl (r_assign (v := .int .i64 0) rfl) ?_
  refine l_val rfl rfl rfl (r_assign (v := .int .i64 0) rfl) ?_
  refine l_nil ?_
  refine c_seq ?_
  refine c_seq ?_
  refine c_region ?_
  refine l_val rfl rfl rfl (r_move (v := .int .i64 a0) rfl) ?_
  refine l_nil ?_
  refine c_block ?_
  refine c_seq ?_
  refine c_region ?_
  refine l_val rfl rfl rfl (r_eql rfl rfl) ?_
  refine l_val rfl rfl rfl (r_assign (v := .bool (decide (a0 = 2))) rfl) ?_
  refine l_nil ?_
  refine c_if (b := (decide (a0 = 2))) rfl (fun hb => ?_) (fun hb => ?_)
  · have H31 := cnd_t hb H; clear H
    refine c_seq ?_
    refine c_region ?_
    refine l_val rfl rfl rfl (r_move (v := .int .i64 a1) rfl) ?_
    obtain ⟨t16, h_t16, H32⟩ := bnd_some H31; clear H31
    refine l_val rfl rfl rfl (r_subG rfl rfl h_t16) ?_
    refine l_val rfl rfl rfl (r_move (v := .int .i64 a3) rfl) ?_
    obtain ⟨t18, h_t18, H33⟩ := bnd_some H32; clear H32
    refine l_val rfl rfl rfl (r_subG rfl rfl h_t18) ?_
    refine l_val rfl rfl rfl (r_move (v := .int .i64 a4) rfl) ?_
    refine l_val rfl rfl rfl (r_assign (v := .int .i64 t18) rfl) ?_
    refine l_val rfl rfl rfl (r_assign (v := .int .i64 a4) rfl) ?_
    refine l_nil ?_
    refine c_ret ?_
    obtain rfl := Option.some.inj H33
    refine ret2 (v1 := .int .i64 t18) (v2 := .int .i64 a4) rfl rfl rfl (fin rfl)
  · have H34 := cnd_f hb H; clear H
    refine c_seq ?_
    refine c_region ?_
    refine l_val rfl rfl rfl (r_eql rfl rfl) ?_
    refine l_val rfl rfl rfl (r_assign (v := .bool (decide (a0 = 3))) rfl) ?_
    refine l_nil ?_
    refine c_if (b := (decide (a0 = 3))) rfl (fun hb => ?_) (fun hb => ?_)
    · have H35 := cnd_t hb H34; clear H34
      refine c_seq ?_
      refine c_region ?_
      refine l_val rfl rfl rfl (r_move (v := .int .i64 a1) rfl) ?_
      obtain ⟨t23, h_t23, H36⟩ := bnd_some H35; clear H35
      refine l_val rfl rfl rfl (r_subG rfl rfl h_t23) ?_
      refine l_val rfl rfl rfl (r_move (v := .int .i64 a3) rfl) ?_
      obtain ⟨t25, h_t25, H37⟩ := bnd_some H36; clear H36
      refine l_val rfl rfl rfl (r_subG rfl rfl h_t25) ?_
      refine l_val rfl rfl rfl (r_move (v := .int .i64 a2) rfl) ?_
      obtain ⟨t27, h_t27, H38⟩ := bnd_some H37; clear H37
      refine l_val rfl rfl rfl (r_subG rfl rfl h_t27) ?_
      refine l_val rfl rfl rfl (r_move (v := .int .i64 a4) rfl) ?_
      obtain ⟨t29, h_t29, H39⟩ := bnd_some H38; clear H38
      refine l_val rfl rfl rfl (r_subG rfl rfl h_t29) ?_
      refine l_val rfl rfl rfl (r_assign (v := .int .i64 t25) rfl) ?_
      refine l_val rfl rfl rfl (r_assign (v := .int .i64 t29) rfl) ?_
      refine l_nil ?_
      refine c_ret ?_
      obtain rfl := Option.some.inj H39
      refine ret2 (v1 := .int .i64 t25) (v2 := .int .i64 t29) rfl rfl rfl (fin rfl)
    · have H40 := cnd_f hb H34; clear H34
      refine c_seq ?_
      refine c_region ?_
      refine l_val rfl rfl rfl (r_eql rfl rfl) ?_
      refine l_val rfl rfl rfl (r_assign (v := .bool (decide (a0 = 4))) rfl) ?_
      refine l_nil ?_
      refine c_if (b := (decide (a0 = 4))) rfl (fun hb => ?_) (fun hb => ?_)
      · have H41 := cnd_t hb H40; clear H40
        refine c_seq ?_
        refine c_region ?_
        refine l_val rfl rfl rfl (r_move (v := .int .i64 a3) rfl) ?_
        refine l_val rfl rfl rfl (r_move (v := .int .i64 a2) rfl) ?_
        obtain ⟨t34, h_t34, H42⟩ := bnd_some H41; clear H41
        refine l_val rfl rfl rfl (r_subG rfl rfl h_t34) ?_
        refine l_val rfl rfl rfl (r_move (v := .int .i64 a4) rfl) ?_
        obtain ⟨t36, h_t36, H43⟩ := bnd_some H42; clear H42
        refine l_val rfl rfl rfl (r_subG rfl rfl h_t36) ?_
        refine l_val rfl rfl rfl (r_assign (v := .int .i64 a3) rfl) ?_
        refine l_val rfl rfl rfl (r_assign (v := .int .i64 t36) rfl) ?_
        refine l_nil ?_
        refine c_ret ?_
        obtain rfl := Option.some.inj H43
        refine ret2 (v1 := .int .i64 a3) (v2 := .int .i64 t36) rfl rfl rfl (fin rfl)
      · have H44 := cnd_f hb H40; clear H40
        refine c_seq ?_
        refine c_region ?_
        refine l_val rfl rfl rfl (r_eql rfl rfl) ?_
        refine l_val rfl rfl rfl (r_assign (v := .bool (decide (a0 = 5))) rfl) ?_
        refine l_nil ?_
        refine c_if (b := (decide (a0 = 5))) rfl (fun hb => ?_) (fun hb => ?_)
        · have H45 := cnd_t hb H44; clear H44
          refine c_seq ?_
          refine c_region ?_
          refine l_val rfl rfl rfl (r_move (v := .int .i64 a4) rfl) ?_
          refine l_val rfl rfl rfl (r_move (v := .int .i64 a3) rfl) ?_
          refine l_val rfl rfl rfl (r_assign (v := .int .i64 a4) rfl) ?_
          refine l_val rfl rfl rfl (r_assign (v := .int .i64 a3) rfl) ?_
          refine l_nil ?_
          refine c_ret ?_
          obtain rfl := Option.some.inj H45
          refine ret2 (v1 := .int .i64 a4) (v2 := .int .i64 a3) rfl rfl rfl (fin rfl)
        · have H46 := cnd_f hb H44; clear H44
          refine c_seq ?_
          refine c_region ?_
          refine l_val rfl rfl rfl (r_eql rfl rfl) ?_
          refine l_val rfl rfl rfl (r_assign (v := .bool (decide (a0 = 6))) rfl) ?_
          refine l_nil ?_
          refine c_if (b := (decide (a0 = 6))) rfl (fun hb => ?_) (fun hb => ?_)
          · have H47 := cnd_t hb H46; clear H46
            refine c_seq ?_
            refine c_region ?_
            refine l_val rfl rfl rfl (r_move (v := .int .i64 a4) rfl) ?_
            refine l_val rfl rfl rfl (r_move (v := .int .i64 a2) rfl) ?_
            obtain ⟨t45, h_t45, H48⟩ := bnd_some H47; clear H47
            refine l_val rfl rfl rfl (r_subG rfl rfl h_t45) ?_
            refine l_val rfl rfl rfl (r_move (v := .int .i64 a3) rfl) ?_
            obtain ⟨t47, h_t47, H49⟩ := bnd_some H48; clear H48
            refine l_val rfl rfl rfl (r_subG rfl rfl h_t47) ?_
            refine l_val rfl rfl rfl (r_assign (v := .int .i64 a4) rfl) ?_
            refine l_val rfl rfl rfl (r_assign (v := .int .i64 t47) rfl) ?_
            refine l_nil ?_
            refine c_ret ?_
            obtain rfl := Option.some.inj H49
            refine ret2 (v1 := .int .i64 a4) (v2 := .int .i64 t47) rfl rfl rfl (fin rfl)
          · have H50 := cnd_f hb H46; clear H46
            refine c_seq ?_
            refine c_region ?_
            refine l_val rfl rfl rfl (r_eql rfl rfl) ?_
            refine l_val rfl rfl rfl (r_assign (v := .bool (decide (a0 = 7))) rfl) ?_
            refine l_nil ?_
            refine c_if (b := (decide (a0 = 7))) rfl (fun hb => ?_) (fun hb => ?_)
            · have H51 := cnd_t hb H50; clear H50
              refine c_seq ?_
              refine c_region ?_
              refine l_val rfl rfl rfl (r_move (v := .int .i64 a1) rfl) ?_
              obtain ⟨t51, h_t51, H52⟩ := bnd_some H51; clear H51
              refine l_val rfl rfl rfl (r_subG rfl rfl h_t51) ?_
              refine l_val rfl rfl rfl (r_move (v := .int .i64 a4) rfl) ?_
              obtain ⟨t53, h_t53, H53⟩ := bnd_some H52; clear H52
              refine l_val rfl rfl rfl (r_subG rfl rfl h_t53) ?_
              refine l_val rfl rfl rfl (r_move (v := .int .i64 a2) rfl) ?_
              obtain ⟨t55, h_t55, H54⟩ := bnd_some H53; clear H53
              refine l_val rfl rfl rfl (r_subG rfl rfl h_t55) ?_
              refine l_val rfl rfl rfl (r_move (v := .int .i64 a3) rfl) ?_
              obtain ⟨t57, h_t57, H55⟩ := bnd_some H54; clear H54
              refine l_val rfl rfl rfl (r_subG rfl rfl h_t57) ?_
              refine l_val rfl rfl rfl (r_assign (v := .int .i64 t53) rfl) ?_
              refine l_val rfl rfl rfl (r_assign (v := .int .i64 t57) rfl) ?_
              refine l_nil ?_
              refine c_ret ?_
              obtain rfl := Option.some.inj H55
              refine ret2 (v1 := .int .i64 t53) (v2 := .int .i64 t57) rfl rfl rfl (fin rfl)
            · have H56 := cnd_f hb H50; clear H50
              refine c_seq ?_
              refine c_region ?_
              refine l_val rfl rfl rfl (r_eql rfl rfl) ?_
              refine l_val rfl rfl rfl (r_assign (v := .bool (decide (a0 = 8))) rfl) ?_
              refine l_nil ?_
              refine c_if (b := (decide (a0 = 8))) rfl (fun hb => ?_) (fun hb => ?_)
              · have H57 := cnd_t hb H56; clear H56
                refine c_seq ?_
                refine c_region ?_
                refine l_val rfl rfl rfl (r_move (v := .int .i64 a1) rfl) ?_
                obtain ⟨t61, h_t61, H58⟩ := bnd_some H57; clear H57
                refine l_val rfl rfl rfl (r_subG rfl rfl h_t61) ?_
                refine l_val rfl rfl rfl (r_move (v := .int .i64 a4) rfl) ?_
                obtain ⟨t63, h_t63, H59⟩ := bnd_some H58; clear H58
                refine l_val rfl rfl rfl (r_subG rfl rfl h_t63) ?_
                refine l_val rfl rfl rfl (r_move (v := .int .i64 a3) rfl) ?_
                refine l_val rfl rfl rfl (r_assign (v := .int .i64 t63) rfl) ?_
                refine l_val rfl rfl rfl (r_assign (v := .int .i64 a3) rfl) ?_
                refine l_nil ?_
                refine c_ret ?_
                obtain rfl := Option.some.inj H59
                refine ret2 (v1 := .int .i64 t63) (v2 := .int .i64 a3) rfl rfl rfl (fin rfl)
              · have H60 := cnd_f hb H56; clear H56
                refine c_skip ?_
                refine c_seq ?_
                refine c_region ?_
                refine l_val rfl rfl rfl (r_move (v := .int .i64 a3) rfl) ?_
                refine l_val rfl rfl rfl (r_move (v := .int .i64 a4) rfl) ?_
                refine l_val rfl rfl rfl (r_assign (v := .int .i64 a3) rfl) ?_
                refine l_val rfl rfl rfl (r_assign (v := .int .i64 a4) rfl) ?_
                refine l_nil ?_
                refine c_ret ?_
                obtain rfl := Option.some.inj H60
                refine ret2 (v1 := .int .i64 a3) (v2 := .int .i64 a4) rfl rfl rfl (fin rfl)
theorem k168 {a0 : (List Int)} {v0 : Value} {r : Int} {w : World} {h : Heap} (hw : Know h w noS) (f0 : FrS h 1 v0 (a0.map e_i64)) (H : slices_Min_int a0 = some r) : Does Try.prog 168 (List.toArray [v0]) w (fun v w' => v = (.int .i64 r) ∧ Grow w w') := by
  refine enter (n := 25) Try.func168 rfl rfl rfl noS [] (Sat.nil _ _) ?_
  refine c_seq ?_
  refine c_region ?_
  refine l_val rfl rfl rfl (r_assign (v := .int .i64 0) rfl) ?_
  refine l_nil ?_
  refine c_seq ?_
  refine c_seq ?_
  refine c_region ?_
  refine l_val rfl rfl rfl (r_move (v := v0) rfl) ?_
  refine l_val rfl rfl rfl (r_lenF Try.underlying66 rfl f0 rfl) ?_
  refine l_val rfl rfl rfl (r_lss rfl rfl) ?_
  refine l_nil ?_
  refine c_if (b := (decide ((a0.length : Int) < 1))) rfl (fun hb => ?_) (fun hb => ?_)
  · have H9 := cnd_t hb H; clear H
    exact absurd (show (none : Option (Int)) = some r from H9) (fun h => by cases h)
  · have H10 := cnd_f hb H; clear H
    refine c_skip ?_
    refine c_seq ?_
    refine c_region ?_
    refine l_val rfl rfl rfl (r_move (v := v0) rfl) ?_
    obtain ⟨t10, h_t10, H11⟩ := bnd_some H10; clear H10
    refine l_val rfl rfl rfl (r_indexF Try.underlying66 Try.sizeOf3 rfl rfl f0 h_t10) ?_
    refine l_read (fun w hF hS => run_loadG1 (f := e_i64) (i := 0) (sz := 1) (j := 0) (v := .int .i64 t10) Try.isAgg3 rfl rfl (f0.row (hw.now hF)) h_t10 rfl) rfl rfl rfl ?_
    refine l_val rfl rfl rfl (r_assign (v := .int .i64 t10) rfl) ?_
    refine l_nil ?_
    refine c_seq ?_
    refine c_seq ?_
    refine c_region ?_
    refine l_val rfl rfl rfl (r_assign (v := .int .i64 1) rfl) ?_
    refine l_nil ?_
    refine c_block ?_
    refine c_fix (σ := Int × Int) (τ := Unit) (fun next1 s => slices_Min_int_l1 a0 next1 s.1 s.2) (fun s t => [(0, v0), (3, .int .i64 s.1), (4, .int .i64 s.2)]) (fun s t => []) (fun s t => True) (t10, 1) () [] H11 (by exact trivial) (by exact ⟨rfl, rfl, rfl, trivial⟩) (by decide) rfl ?_
    rintro ⟨x3_2, x4_2⟩ _ m1 gg H12 _
    clear H11
    replace H12 : slices_Min_int_l1 a0 (it (fun next1 s => slices_Min_int_l1 a0 next1 s.1 s.2) m1) x3_2 x4_2 = some r := H12
    generalize hn1 : it (fun next1 s => slices_Min_int_l1 a0 next1 s.1 s.2) m1 = next1 at H12
    refine c_tidyF [(0, v0), (3, .int .i64 x3_2), (4, .int .i64 x4_2)] [] rfl rfl ?_
    refine c_seq ?_
    refine c_seq ?_
    refine c_region ?_
    refine l_val rfl rfl rfl (r_move (v := .int .i64 x4_2) rfl) ?_
    refine l_val rfl rfl rfl (r_move (v := v0) rfl) ?_
    refine l_val rfl rfl rfl (r_lenF Try.underlying66 rfl f0 rfl) ?_
    refine l_val rfl rfl rfl (r_lss rfl rfl) ?_
    refine l_nil ?_
    refine c_if (b := (decide (x4_2 < (a0.length : Int)))) rfl (fun hb => ?_) (fun hb => ?_)
    · have H13 := cnd_t hb H12; clear H12
      refine c_skip ?_
      refine c_seq ?_
      refine c_block ?_
      refine c_region ?_
      refine l_val rfl rfl rfl (r_move (v := .int .i64 x3_2) rfl) ?_
      refine l_val rfl rfl rfl (r_move (v := v0) rfl) ?_
      refine l_val rfl rfl rfl (r_move (v := .int .i64 x4_2) rfl) ?_
      obtain ⟨t21, h_t21, H14⟩ := bnd_some H13; clear H13
      refine l_val rfl rfl rfl (r_indexF Try.underlying66 Try.sizeOf3 rfl rfl f0 h_t21) ?_
      refine l_read (fun w hF hS => run_loadG1 (f := e_i64) (i := x4_2) (sz := 1) (j := 0) (v := .int .i64 t21) Try.isAgg3 rfl rfl (f0.row (hw.now hF)) h_t21 rfl) rfl rfl rfl ?_
      refine l_val rfl rfl rfl (r_min rfl rfl) ?_
      refine l_val rfl rfl rfl (r_assign (v := .int .i64 (min x3_2 t21)) rfl) ?_
      refine l_nil ?_
      refine c_region ?_
      refine l_val rfl rfl rfl (r_move (v := .int .i64 x4_2) rfl) ?_
      obtain ⟨t17, h_t17, H15⟩ := bnd_some H14; clear H14
      refine l_val rfl rfl rfl (r_addG rfl rfl h_t17) ?_
      refine l_val rfl rfl rfl (r_assign (v := .int .i64 t17) rfl) ?_
      refine l_nil ?_
      refine c_close ((min x3_2 t21), t17) () m1 [] (by exact ⟨rfl, rfl, rfl, trivial⟩) (by decide) rfl (by exact ⟨(by subst hn1; exact H15), trivial⟩) (Nat.lt_succ_self _)
    · have H16 := cnd_f hb H12; clear H12
      refine c_exit ?_
      refine c_seq ?_
      refine c_region ?_
      refine l_val rfl rfl rfl (r_move (v := .int .i64 x3_2) rfl) ?_
      refine l_val rfl rfl rfl (r_assign (v := .int .i64 x3_2) rfl) ?_
      refine l_nil ?_
      refine c_ret ?_
      obtain rfl := Option.some.inj H16
      refine ret1 (v := .int .i64 x3_2) rfl rfl (fin rfl)
theorem k169 {a0 : (List Int)} {v0 : Value} {r : Int} {w : World} {h : Heap} (hw : Know h w noS) (f0 : FrS h 1 v0 (a0.map e_i64)) (H : slices_Max_int a0 = some r) : Does Try.prog 169 (List.toArray [v0]) w (fun v w' => v = (.int .i64 r) ∧ Grow w w') := by
  refine enter (n := 25) Try.func169 rfl rfl rfl noS [] (Sat.nil _ _) ?_
  refine c_seq ?_
  refine c_region ?_
  refine l_val rfl rfl rfl (r_assign (v := .int .i64 0) rfl) ?_
  refine l_nil ?_
  refine c_seq ?_
  refine c_seq ?_
  refine c_region ?_
  refine l_val rfl rfl rfl (r_move (v := v0) rfl) ?_
  refine l_val rfl rfl rfl (r_lenF Try.underlying66 rfl f0 rfl) ?_
  refine l_val rfl rfl rfl (r_lss rfl rfl) ?_
  refine l_nil ?_
  refine c_if (b := (decide ((a0.length : Int) < 1))) rfl (fun hb => ?_) (fun hb => ?_)
  · have H9 := cnd_t hb H; clear H
    exact absurd (show (none : Option (Int)) = some r from H9) (fun h => by cases h)
  · have H10 := cnd_f hb H; clear H
    refine c_skip ?_
    refine c_seq ?_
    refine c_region ?_
    refine l_val rfl rfl rfl (r_move (v := v0) rfl) ?_
    obtain ⟨t10, h_t10, H11⟩ := bnd_some H10; clear H10
    refine l_val rfl rfl rfl (r_indexF Try.underlying66 Try.sizeOf3 rfl rfl f0 h_t10) ?_
    refine l_read (fun w hF hS => run_loadG1 (f := e_i64) (i := 0) (sz := 1) (j := 0) (v := .int .i64 t10) Try.isAgg3 rfl rfl (f0.row (hw.now hF)) h_t10 rfl) rfl rfl rfl ?_
    refine l_val rfl rfl rfl (r_assign (v := .int .i64 t10) rfl) ?_
    refine l_nil ?_
    refine c_seq ?_
    refine c_seq ?_
    refine c_region ?_
    refine l_val rfl rfl rfl (r_assign (v := .int .i64 1) rfl) ?_
    refine l_nil ?_
    refine c_block ?_
    refine c_fix (σ := Int × Int) (τ := Unit) (fun next1 s => slices_Max_int_l1 a0 next1 s.1 s.2) (fun s t => [(0, v0), (3, .int .i64 s.1), (4, .int .i64 s.2)]) (fun s t => []) (fun s t => True) (t10, 1) () [] H11 (by exact trivial) (by exact ⟨rfl, rfl, rfl, trivial⟩) (by decide) rfl ?_
    rintro ⟨x3_2, x4_2⟩ _ m1 gg H12 _
    clear H11
    replace H12 : slices_Max_int_l1 a0 (it (fun next1 s => slices_Max_int_l1 a0 next1 s.1 s.2) m1) x3_2 x4_2 = some r := H12
    generalize hn1 : it (fun next1 s => slices_Max_int_l1 a0 next1 s.1 s.2) m1 = next1 at H12
    refine c_tidyF [(0, v0), (3, .int .i64 x3_2), (4, .int .i64 x4_2)] [] rfl rfl ?_
    refine c_seq ?_
    refine c_seq ?_
    refine c_region ?_
    refine l_val rfl rfl rfl (r_move (v := .int .i64 x4_2) rfl) ?_
    refine l_val rfl rfl rfl (r_move (v := v0) rfl) ?_
    refine l_val rfl rfl rfl (r_lenF Try.underlying66 rfl f0 rfl) ?_
    refine l_val rfl rfl rfl (r_lss rfl rfl) ?_
    refine l_nil ?_
    refine c_if (b := (decide (x4_2 < (a0.length : Int)))) rfl (fun hb => ?_) (fun hb => ?_)
    · have H13 := cnd_t hb H12; clear H12
      refine c_skip ?_
      refine c_seq ?_
      refine c_block ?_
      refine c_region ?_
      refine l_val rfl rfl rfl (r_move (v := .int .i64 x3_2) rfl) ?_
      refine l_val rfl rfl rfl (r_move (v := v0) rfl) ?_
      refine l_val rfl rfl rfl (r_move (v := .int .i64 x4_2) rfl) ?_
      obtain ⟨t21, h_t21, H14⟩ := bnd_some H13; clear H13
      refine l_val rfl rfl rfl (r_indexF Try.underlying66 Try.sizeOf3 rfl rfl f0 h_t21) ?_
      refine l_read (fun w hF hS => run_loadG1 (f := e_i64) (i := x4_2) (sz := 1) (j := 0) (v := .int .i64 t21) Try.isAgg3 rfl rfl (f0.row (hw.now hF)) h_t21 rfl) rfl rfl rfl ?_
      refine l_val rfl rfl rfl (r_max rfl rfl) ?_
      refine l_val rfl rfl rfl (r_assign (v := .int .i64 (max x3_2 t21)) rfl) ?_
      refine l_nil ?_
      refine c_region ?_
      refine l_val rfl rfl rfl (r_move (v := .int .i64 x4_2) rfl) ?_
      obtain ⟨t17, h_t17, H15⟩ := bnd_some H14; clear H14
      refine l_val rfl rfl rfl (r_addG rfl rfl h_t17) ?_
      refine l_val rfl rfl rfl (r_assign (v := .int .i64 t17) rfl) ?_
      refine l_nil ?_
      refine c_close ((max x3_2 t21), t17) () m1 [] (by exact ⟨rfl, rfl, rfl, trivial⟩) (by decide) rfl (by exact ⟨(by subst hn1; exact H15), trivial⟩) (Nat.lt_succ_self _)
    · have H16 := cnd_f hb H12; clear H12
      refine c_exit ?_
      refine c_seq ?_
      refine c_region ?_
      refine l_val rfl rfl rfl (r_move (v := .int .i64 x3_2) rfl) ?_
      refine l_val rfl rfl rfl (r_assign (v := .int .i64 x3_2) rfl) ?_
      refine l_nil ?_
      refine c_ret ?_
      obtain rfl := Option.some.inj H16
      refine ret1 (v := .int .i64 x3_2) rfl rfl (fin rfl)
theorem k117 {a0 : T_edit_Step} {a1 : Int} {a2 : Int} {a3 : Int} {r : T_edit_Step} (H : R_cropTurned a0 a1 a2 a3 = some r) : Ret Try.prog 117 [.agg #[.int .i64 a0.Kind, .int .i64 a0.A, .int .i64 a0.B, .int .i64 a0.C, .int .i64 a0.D], .int .i64 a1, .int .i64 a2, .int .i64 a3] (.agg #[.int .i64 r.Kind, .int .i64 r.A, .int .i64 r.B, .int .i64 r.C, .int .i64 r.D]) := by
  refine enterRet (n := 97) Try.func117 rfl rfl rfl (fun wd => ?_)
  refine c_seq ?_
  refine c_region ?_
  refine l_box (cs := [.int .i64 a0.Kind, .int .i64 a0.A, .int .i64 a0.B, .int .i64 a0.C, .int .i64 a0.D]) rfl rfl rfl rfl (fun b4 => ?_)
  refine l_alloc (cs := [.int .i64 0, .int .i64 0, .int .i64 0, .int .i64 0, .int .i64 0]) Try.zeroValue31 rfl rfl rfl (fun b5 => ?_)
  refine l_nil ?_
  refine c_seq ?_
  refine c_region ?_
  refine l_val rfl rfl rfl (r_assign (v := .slice none 0 0) rfl) ?_
  refine l_val rfl rfl rfl (r_assign (v := .slice none 0 0) rfl) ?_
  refine l_nil ?_
  refine c_seq ?_
  refine c_region ?_
  refine l_val rfl rfl rfl (r_move (v := .int .i64 a2) rfl) ?_
  refine l_val rfl rfl rfl (r_move (v := .int .i64 a3) rfl) ?_
  refine l_val rfl rfl rfl (r_assign (v := .int .i64 a2) rfl) ?_
  refine l_val rfl rfl rfl (r_assign (v := .int .i64 a3) rfl) ?_
  refine l_nil ?_
  refine c_meet (r := r) (σ := Int × Int) (τ := Unit) (fun s => R_cropTurned_j1 a0 a1 a2 a3 s.1 s.2) (fun s t => [(1, .int .i64 a1), (2, .int .i64 a2), (3, .int .i64 a3), (4, .pointer (some ⟨b4, 0, none⟩)), (8, .pointer (some ⟨b5, 0, none⟩)), (9, .slice none 0 0), (10, .slice none 0 0), (11, .int .i64 s.1), (12, .int .i64 s.2)]) (fun s t => [cellsC b4 [.int .i64 a0.Kind, .int .i64 a0.A, .int .i64 a0.B, .int .i64 a0.C, .int .i64 a0.D] 31, cellsC b5 [.int .i64 0, .int .i64 0, .int .i64 0, .int .i64 0, .int .i64 0] 31]) (fun s t => True) ?_ ?_
  · refine c_seq ?_
    refine c_region ?_
    refine l_val rfl rfl rfl (r_move (v := .int .i64 a1) rfl) ?_
    refine l_val rfl rfl rfl (r_geq rfl rfl) ?_
    refine l_nil ?_
    refine c_if (b := (decide (5 ≤ a1))) rfl (fun hb => ?_) (fun hb => ?_)
    · have H69 := cnd_t hb H; clear H
      refine c_region ?_
      refine l_val rfl rfl rfl (r_move (v := .int .i64 a3) rfl) ?_
      refine l_val rfl rfl rfl (r_move (v := .int .i64 a2) rfl) ?_
      refine l_val rfl rfl rfl (r_assign (v := .int .i64 a3) rfl) ?_
      refine l_val rfl rfl rfl (r_assign (v := .int .i64 a2) rfl) ?_
      refine l_nil ?_
      refine c_close (a3, a2) () 0 [0, 1] (by exact ⟨rfl, rfl, rfl, rfl, rfl, rfl, rfl, rfl, rfl, trivial⟩) (by decide) rfl (by exact ⟨H69, trivial⟩) (Nat.lt_succ_self _)
    · have H70 := cnd_f hb H; clear H
      refine c_skip ?_
      refine c_close (a2, a3) () 0 [0, 1] (by exact ⟨rfl, rfl, rfl, rfl, rfl, rfl, rfl, rfl, rfl, trivial⟩) (by decide) rfl (by exact ⟨H70, trivial⟩) (Nat.lt_succ_self _)
  · rintro ⟨x11, x12⟩ _ gg H36 _
    replace H36 : R_cropTurned_j1 a0 a1 a2 a3 x11 x12 = some r := H36
    refine c_tidyF [(1, .int .i64 a1), (2, .int .i64 a2), (3, .int .i64 a3), (4, .pointer (some ⟨b4, 0, none⟩)), (8, .pointer (some ⟨b5, 0, none⟩)), (9, .slice none 0 0), (10, .slice none 0 0), (11, .int .i64 x11), (12, .int .i64 x12)] [cellsC b4 [.int .i64 a0.Kind, .int .i64 a0.A, .int .i64 a0.B, .int .i64 a0.C, .int .i64 a0.D] 31, cellsC b5 [.int .i64 0, .int .i64 0, .int .i64 0, .int .i64 0, .int .i64 0] 31] rfl rfl ?_
    refine c_meet (r := r) (σ := (List Int) × (List Int)) (τ := (Option Addr × Nat) × (Option Addr × Nat)) (fun s => R_cropTurned_j2 s.1 s.2) (fun s t => [(8, .pointer (some ⟨b5, 0, none⟩)), (9, .slice t.1.1 s.1.length t.1.2), (10, .slice t.2.1 s.2.length t.2.2)]) (fun s t => [cellsC b5 [.int .i64 0, .int .i64 0, .int .i64 0, .int .i64 0, .int .i64 0] 31, rowV 3 1 (.slice t.1.1 s.1.length t.1.2) s.1.length (s.1.map e_i64), rowV 3 1 (.slice t.2.1 s.2.length t.2.2) s.2.length (s.2.map e_i64)]) (fun s t => True) ?_ ?_
    · refine c_seq ?_
      refine c_region ?_
      refine l_val rfl rfl rfl (r_move (v := .int .i64 x12) rfl) ?_
      refine l_val rfl rfl rfl (r_move (v := .int .i64 0) rfl) ?_
      refine l_nil ?_
      refine c_block ?_
      refine c_nilRow 3 1 ?_
      refine c_nilRow 3 1 ?_
      refine c_fix (σ := Int × (List Int) × (List Int)) (τ := (Option Addr × Nat) × (Option Addr × Nat)) (fun next3 s => R_cropTurned_l3 a0 a1 a2 a3 x11 x12 next3 s.1 s.2.1 s.2.2) (fun s t => [(1, .int .i64 a1), (2, .int .i64 a2), (3, .int .i64 a3), (4, .pointer (some ⟨b4, 0, none⟩)), (8, .pointer (some ⟨b5, 0, none⟩)), (9, .slice t.1.1 s.2.1.length t.1.2), (10, .slice t.2.1 s.2.2.length t.2.2), (11, .int .i64 x11), (25, .int .i64 x12), (26, .int .i64 s.1)]) (fun s t => [cellsC b4 [.int .i64 a0.Kind, .int .i64 a0.A, .int .i64 a0.B, .int .i64 a0.C, .int .i64 a0.D] 31, cellsC b5 [.int .i64 0, .int .i64 0, .int .i64 0, .int .i64 0, .int .i64 0] 31, rowV 3 1 (.slice t.1.1 s.2.1.length t.1.2) s.2.1.length (s.2.1.map e_i64), rowV 3 1 (.slice t.2.1 s.2.2.length t.2.2) s.2.2.length (s.2.2.map e_i64)]) (fun s t => True) (0, ([] : List Int), ([] : List Int)) (((none, 0) : Option Addr × Nat), ((none, 0) : Option Addr × Nat)) [0, 1, 2, 3] H36 (by exact trivial) (by exact ⟨rfl, rfl, rfl, rfl, rfl, rfl, rfl, rfl, rfl, rfl, trivial⟩) (by decide) rfl ?_
      rintro ⟨x26_2, l_5, l_6⟩ ⟨p_3, p_4⟩ m3 gg H46 _
      clear H36
      replace H46 : R_cropTurned_l3 a0 a1 a2 a3 x11 x12 (it (fun next3 s => R_cropTurned_l3 a0 a1 a2 a3 x11 x12 next3 s.1 s.2.1 s.2.2) m3) x26_2 l_5 l_6 = some r := H46
      generalize hn3 : it (fun next3 s => R_cropTurned_l3 a0 a1 a2 a3 x11 x12 next3 s.1 s.2.1 s.2.2) m3 = next3 at H46
      refine c_tidyF [(1, .int .i64 a1), (2, .int .i64 a2), (3, .int .i64 a3), (4, .pointer (some ⟨b4, 0, none⟩)), (8, .pointer (some ⟨b5, 0, none⟩)), (9, .slice p_3.1 l_5.length p_3.2), (10, .slice p_4.1 l_6.length p_4.2), (11, .int .i64 x11), (25, .int .i64 x12), (26, .int .i64 x26_2)] [cellsC b4 [.int .i64 a0.Kind, .int .i64 a0.A, .int .i64 a0.B, .int .i64 a0.C, .int .i64 a0.D] 31, cellsC b5 [.int .i64 0, .int .i64 0, .int .i64 0, .int .i64 0, .int .i64 0] 31, rowV 3 1 (.slice p_3.1 l_5.length p_3.2) l_5.length (l_5.map e_i64), rowV 3 1 (.slice p_4.1 l_6.length p_4.2) l_6.length (l_6.map e_i64)] rfl rfl ?_
      refine c_seq ?_
      refine c_region ?_
      refine l_val rfl rfl rfl (r_lss rfl rfl) ?_
      refine l_nil ?_
      refine c_seq ?_
      refine c_if (b := (decide (x26_2 < x12))) rfl (fun hb => ?_) (fun hb => ?_)
      · have H47 := cnd_t hb H46; clear H46
        refine c_skip ?_
        refine c_meet (r := r) (σ := (List Int) × (List Int)) (τ := (Option Addr × Nat) × (Option Addr × Nat)) (fun s => R_cropTurned_j4 x26_2 next3 s.1 s.2) (fun s t => [(1, .int .i64 a1), (2, .int .i64 a2), (3, .int .i64 a3), (4, .pointer (some ⟨b4, 0, none⟩)), (8, .pointer (some ⟨b5, 0, none⟩)), (9, .slice t.1.1 s.1.length t.1.2), (10, .slice t.2.1 s.2.length t.2.2), (11, .int .i64 x11), (25, .int .i64 x12), (26, .int .i64 x26_2)]) (fun s t => [cellsC b4 [.int .i64 a0.Kind, .int .i64 a0.A, .int .i64 a0.B, .int .i64 a0.C, .int .i64 a0.D] 31, cellsC b5 [.int .i64 0, .int .i64 0, .int .i64 0, .int .i64 0, .int .i64 0] 31, rowV 3 1 (.slice t.1.1 s.1.length t.1.2) s.1.length (s.1.map e_i64), rowV 3 1 (.slice t.2.1 s.2.length t.2.2) s.2.length (s.2.map e_i64)]) (fun s t => True) ?_ ?_
        · refine c_block ?_
          refine c_seq ?_
          refine c_region ?_
          refine l_val rfl rfl rfl (r_move (v := .int .i64 x26_2) rfl) ?_
          refine l_val rfl rfl rfl (r_assign (v := .int .i64 x26_2) rfl) ?_
          refine l_nil ?_
          refine c_seq ?_
          refine c_region ?_
          refine l_val rfl rfl rfl (r_move (v := .int .i64 x11) rfl) ?_
          refine l_val rfl rfl rfl (r_move (v := .int .i64 0) rfl) ?_
          refine l_nil ?_
          refine c_block ?_
          refine c_fix (σ := Int × (List Int) × (List Int)) (τ := (Option Addr × Nat) × (Option Addr × Nat)) (fun next5 s => R_cropTurned_l5 a0 a1 a2 a3 x11 x26_2 next3 next5 s.1 s.2.1 s.2.2) (fun s t => [(1, .int .i64 a1), (2, .int .i64 a2), (3, .int .i64 a3), (4, .pointer (some ⟨b4, 0, none⟩)), (8, .pointer (some ⟨b5, 0, none⟩)), (9, .slice t.1.1 s.2.1.length t.1.2), (10, .slice t.2.1 s.2.2.length t.2.2), (11, .int .i64 x11), (13, .int .i64 x26_2), (25, .int .i64 x12), (26, .int .i64 x26_2), (29, .int .i64 x11), (30, .int .i64 s.1)]) (fun s t => [cellsC b4 [.int .i64 a0.Kind, .int .i64 a0.A, .int .i64 a0.B, .int .i64 a0.C, .int .i64 a0.D] 31, cellsC b5 [.int .i64 0, .int .i64 0, .int .i64 0, .int .i64 0, .int .i64 0] 31, rowV 3 1 (.slice t.1.1 s.2.1.length t.1.2) s.2.1.length (s.2.1.map e_i64), rowV 3 1 (.slice t.2.1 s.2.2.length t.2.2) s.2.2.length (s.2.2.map e_i64)]) (fun s t => True) (0, l_5, l_6) (p_3, p_4) [0, 1, 2, 3] H47 (by exact trivial) (by exact ⟨rfl, rfl, rfl, rfl, rfl, rfl, rfl, rfl, rfl, rfl, rfl, rfl, rfl, trivial⟩) (by decide) rfl ?_
          rintro ⟨x30_2, l_11, l_12⟩ ⟨p_7, p_8⟩ m5 gg H50 _
          clear H47
          replace H50 : R_cropTurned_l5 a0 a1 a2 a3 x11 x26_2 next3 (it (fun next5 s => R_cropTurned_l5 a0 a1 a2 a3 x11 x26_2 next3 next5 s.1 s.2.1 s.2.2) m5) x30_2 l_11 l_12 = some r := H50
          generalize hn5 : it (fun next5 s => R_cropTurned_l5 a0 a1 a2 a3 x11 x26_2 next3 next5 s.1 s.2.1 s.2.2) m5 = next5 at H50
          refine c_tidyF [(1, .int .i64 a1), (2, .int .i64 a2), (3, .int .i64 a3), (4, .pointer (some ⟨b4, 0, none⟩)), (8, .pointer (some ⟨b5, 0, none⟩)), (9, .slice p_7.1 l_11.length p_7.2), (10, .slice p_8.1 l_12.length p_8.2), (11, .int .i64 x11), (13, .int .i64 x26_2), (25, .int .i64 x12), (26, .int .i64 x26_2), (29, .int .i64 x11), (30, .int .i64 x30_2)] [cellsC b4 [.int .i64 a0.Kind, .int .i64 a0.A, .int .i64 a0.B, .int .i64 a0.C, .int .i64 a0.D] 31, cellsC b5 [.int .i64 0, .int .i64 0, .int .i64 0, .int .i64 0, .int .i64 0] 31, rowV 3 1 (.slice p_7.1 l_11.length p_7.2) l_11.length (l_11.map e_i64), rowV 3 1 (.slice p_8.1 l_12.length p_8.2) l_12.length (l_12.map e_i64)] rfl rfl ?_
          refine c_seq ?_
          refine c_region ?_
          refine l_val rfl rfl rfl (r_lss rfl rfl) ?_
          refine l_nil ?_
          refine c_seq ?_
          refine c_if (b := (decide (x30_2 < x11))) rfl (fun hb => ?_) (fun hb => ?_)
          · have H51 := cnd_t hb H50; clear H50
            refine c_skip ?_
            refine c_meet (r := r) (σ := (List Int) × (List Int)) (τ := (Option Addr × Nat) × (Option Addr × Nat)) (fun s => R_cropTurned_j6 x30_2 next5 s.1 s.2) (fun s t => [(1, .int .i64 a1), (2, .int .i64 a2), (3, .int .i64 a3), (4, .pointer (some ⟨b4, 0, none⟩)), (8, .pointer (some ⟨b5, 0, none⟩)), (9, .slice t.1.1 s.1.length t.1.2), (10, .slice t.2.1 s.2.length t.2.2), (11, .int .i64 x11), (13, .int .i64 x26_2), (25, .int .i64 x12), (26, .int .i64 x26_2), (29, .int .i64 x11), (30, .int .i64 x30_2)]) (fun s t => [cellsC b4 [.int .i64 a0.Kind, .int .i64 a0.A, .int .i64 a0.B, .int .i64 a0.C, .int .i64 a0.D] 31, cellsC b5 [.int .i64 0, .int .i64 0, .int .i64 0, .int .i64 0, .int .i64 0] 31, rowV 3 1 (.slice t.1.1 s.1.length t.1.2) s.1.length (s.1.map e_i64), rowV 3 1 (.slice t.2.1 s.2.length t.2.2) s.2.length (s.2.map e_i64)]) (fun s t => True) ?_ ?_
            · refine c_block ?_
              refine c_seq ?_
              refine c_region ?_
              refine l_val rfl rfl rfl (r_move (v := .int .i64 x30_2) rfl) ?_
              refine l_val rfl rfl rfl (r_assign (v := .int .i64 x30_2) rfl) ?_
              refine l_nil ?_
              refine c_seq ?_
              refine c_region ?_
              refine l_val rfl rfl rfl (r_move (v := .int .i64 a1) rfl) ?_
              refine l_val rfl rfl rfl (r_move (v := .int .i64 a2) rfl) ?_
              refine l_val rfl rfl rfl (r_move (v := .int .i64 a3) rfl) ?_
              refine l_val rfl rfl rfl (r_move (v := .int .i64 x30_2) rfl) ?_
              refine l_val rfl rfl rfl (r_move (v := .int .i64 x26_2) rfl) ?_
              obtain ⟨t39, h_t39, H54⟩ := bnd_some H51; clear H51
              refine l_call (k167 h_t39) Try.call167 rfl rfl rfl ?_
              refine l_val rfl rfl rfl (r_move (v := .tuple #[.int .i64 t39.1, .int .i64 t39.2]) rfl) ?_
              refine l_val rfl rfl rfl (r_extract (v := .int .i64 t39.1) rfl rfl) ?_
              refine l_val rfl rfl rfl (r_extract (v := .int .i64 t39.2) rfl rfl) ?_
              refine l_val rfl rfl rfl (r_assign (v := .int .i64 t39.1) rfl) ?_
              refine l_val rfl rfl rfl (r_assign (v := .int .i64 t39.2) rfl) ?_
              refine l_nil ?_
              refine c_seq ?_
              refine c_region ?_
              refine l_val rfl rfl rfl (r_move (v := .int .i64 t39.1) rfl) ?_
              refine l_val rfl rfl rfl (r_field Try.runUnderlying31 rfl Try.sizeOf3 rfl rfl) ?_
              refine l_load1 (i := 0) (v := .int .i64 a0.A) Try.isAgg3 rfl rfl rfl rfl rfl ?_
              refine l_val rfl rfl rfl (r_geq rfl rfl) ?_
              refine l_val rfl rfl rfl (r_move (v := .bool (decide (a0.A ≤ t39.1))) rfl) ?_
              refine split (fun hb => ?_) (fun hb => ?_)
              · have H55 := cnd_t hb H54; clear H54
                refine l_val rfl rfl rfl (r_move (v := .int .i64 t39.1) rfl) ?_
                refine l_val rfl rfl rfl (r_field Try.runUnderlying31 rfl Try.sizeOf3 rfl rfl) ?_
                refine l_load1 (i := 0) (v := .int .i64 a0.A) Try.isAgg3 rfl rfl rfl rfl rfl ?_
                refine l_val rfl rfl rfl (r_field Try.runUnderlying31 rfl Try.sizeOf3 rfl rfl) ?_
                refine l_load1 (i := 0) (v := .int .i64 a0.C) Try.isAgg3 rfl rfl rfl rfl rfl ?_
                obtain ⟨t52, h_t52, H56⟩ := bnd_some H55; clear H55
                refine l_val rfl rfl rfl (r_addG rfl rfl h_t52) ?_
                refine l_val rfl rfl rfl (r_lss rfl rfl) ?_
                refine l_val rfl rfl rfl (r_pickT (v := .bool (decide (t39.1 < t52))) rfl rfl) ?_
                refine l_val rfl rfl rfl (r_move (v := .bool (decide (t39.1 < t52))) rfl) ?_
                refine split (fun hb => ?_) (fun hb => ?_)
                · have H57 := cnd_t hb H56; clear H56
                  refine l_val rfl rfl rfl (r_move (v := .int .i64 t39.2) rfl) ?_
                  refine l_val rfl rfl rfl (r_field Try.runUnderlying31 rfl Try.sizeOf3 rfl rfl) ?_
                  refine l_load1 (i := 0) (v := .int .i64 a0.B) Try.isAgg3 rfl rfl rfl rfl rfl ?_
                  refine l_val rfl rfl rfl (r_geq rfl rfl) ?_
                  refine l_val rfl rfl rfl (r_pickT (v := .bool (decide (a0.B ≤ t39.2))) rfl rfl) ?_
                  refine l_val rfl rfl rfl (r_move (v := .bool (decide (a0.B ≤ t39.2))) rfl) ?_
                  refine split (fun hb => ?_) (fun hb => ?_)
                  · have H58 := cnd_t hb H57; clear H57
                    refine l_val rfl rfl rfl (r_move (v := .int .i64 t39.2) rfl) ?_
                    refine l_val rfl rfl rfl (r_field Try.runUnderlying31 rfl Try.sizeOf3 rfl rfl) ?_
                    refine l_load1 (i := 0) (v := .int .i64 a0.B) Try.isAgg3 rfl rfl rfl rfl rfl ?_
                    refine l_val rfl rfl rfl (r_field Try.runUnderlying31 rfl Try.sizeOf3 rfl rfl) ?_
                    refine l_load1 (i := 0) (v := .int .i64 a0.D) Try.isAgg3 rfl rfl rfl rfl rfl ?_
                    obtain ⟨t67, h_t67, H59⟩ := bnd_some H58; clear H58
                    refine l_val rfl rfl rfl (r_addG rfl rfl h_t67) ?_
                    refine l_val rfl rfl rfl (r_lss rfl rfl) ?_
                    refine l_val rfl rfl rfl (r_pickT (v := .bool (decide (t39.2 < t67))) rfl rfl) ?_
                    refine l_nil ?_
                    refine c_if (b := (decide (t39.2 < t67))) rfl (fun hb => ?_) (fun hb => ?_)
                    · have H60 := cnd_t hb H59; clear H59
                      refine c_region ?_
                      refine l_val rfl rfl rfl (r_move (v := .slice p_7.1 l_11.length p_7.2) rfl) ?_
                      refine l_val rfl rfl rfl (r_move (v := .int .i64 x30_2) rfl) ?_
                      refine l_buildSlice (vs := [.int .i64 x30_2]) (cs := [.int .i64 x30_2]) Try.underlying66 Try.sizeOf3 Try.zeroValue3 rfl rfl rfl rfl rfl rfl rfl (fun b6 => ?_)
                      obtain ⟨l73, h_l73, H61⟩ := bnd_some H60; clear H60
                      refine l_turn (turns_appG (i := 2) (hn := rfl) (rds := [4]) (p := p_7) (sz := 1) (by_ := 8) (f := e_i64) (ys := l_11) (ls := ([x30_2] : List Int)) (V := .slice (some ⟨b6, 0, none⟩) 1 1) Try.underlying66 (info_of Try.typeInfo3) rfl rfl rfl rfl rfl rfl rfl rfl rfl rfl (fun w L' hF hS hi => row_box (i := 4) hS ((hi 4 (by simp)).trans rfl) rfl rfl) (fun _ => rfl) (fun _ => rfl) h_l73) rfl rfl rfl (fun p_11 => ?_)
                      refine l_val rfl rfl rfl (r_move (v := .slice p_8.1 l_12.length p_8.2) rfl) ?_
                      refine l_val rfl rfl rfl (r_move (v := .int .i64 x26_2) rfl) ?_
                      refine l_buildSlice (vs := [.int .i64 x26_2]) (cs := [.int .i64 x26_2]) Try.underlying66 Try.sizeOf3 Try.zeroValue3 rfl rfl rfl rfl rfl rfl rfl (fun b7 => ?_)
                      obtain ⟨l77, h_l77, H62⟩ := bnd_some H61; clear H61
                      refine l_turn (turns_appG (i := 3) (hn := rfl) (rds := [5]) (p := p_8) (sz := 1) (by_ := 8) (f := e_i64) (ys := l_12) (ls := ([x26_2] : List Int)) (V := .slice (some ⟨b7, 0, none⟩) 1 1) Try.underlying66 (info_of Try.typeInfo3) rfl rfl rfl rfl rfl rfl rfl rfl rfl rfl (fun w L' hF hS hi => row_box (i := 5) hS ((hi 5 (by simp)).trans rfl) rfl rfl) (fun _ => rfl) (fun _ => rfl) h_l77) rfl rfl rfl (fun p_12 => ?_)
                      refine l_val rfl rfl rfl (r_assign (v := .slice p_11.1 l73.length p_11.2) rfl) ?_
                      refine l_val rfl rfl rfl (r_assign (v := .slice p_12.1 l77.length p_12.2) rfl) ?_
                      refine l_nil ?_
                      refine c_close (l73, l77) (p_11, p_12) 0 [0, 1, 2, 3] (by exact ⟨rfl, rfl, rfl, rfl, rfl, rfl, rfl, rfl, rfl, rfl, rfl, rfl, rfl, trivial⟩) (by decide) rfl (by exact ⟨H62, trivial⟩) (Nat.lt_succ_self _)
                    · have H63 := cnd_f hb H59; clear H59
                      refine c_skip ?_
                      refine c_close (l_11, l_12) (p_7, p_8) 0 [0, 1, 2, 3] (by exact ⟨rfl, rfl, rfl, rfl, rfl, rfl, rfl, rfl, rfl, rfl, rfl, rfl, rfl, trivial⟩) (by decide) rfl (by exact ⟨H63, trivial⟩) (Nat.lt_succ_self _)
                  · have H64 := cnd_f hb H57; clear H57
                    refine l_passed rfl rfl rfl ?_
                    refine l_passed rfl rfl rfl ?_
                    refine l_passed rfl rfl rfl ?_
                    refine l_passed rfl rfl rfl ?_
                    refine l_passed rfl rfl rfl ?_
                    refine l_passed rfl rfl rfl ?_
                    refine l_passed rfl rfl rfl ?_
                    refine l_val rfl rfl rfl (r_pickF (v := .bool false) rfl rfl) ?_
                    refine l_nil ?_
                    refine c_false rfl ?_
                    refine c_skip ?_
                    refine c_close (l_11, l_12) (p_7, p_8) 0 [0, 1, 2, 3] (by exact ⟨rfl, rfl, rfl, rfl, rfl, rfl, rfl, rfl, rfl, rfl, rfl, rfl, rfl, trivial⟩) (by decide) rfl (by exact ⟨H64, trivial⟩) (Nat.lt_succ_self _)
                · have H65 := cnd_f hb H56; clear H56
                  refine l_passed rfl rfl rfl ?_
                  refine l_passed rfl rfl rfl ?_
                  refine l_passed rfl rfl rfl ?_
                  refine l_passed rfl rfl rfl ?_
                  refine l_val rfl rfl rfl (r_pickF (v := .bool false) rfl rfl) ?_
                  refine l_val rfl rfl rfl (r_move (v := .bool false) rfl) ?_
                  refine l_passed rfl rfl rfl ?_
                  refine l_passed rfl rfl rfl ?_
                  refine l_passed rfl rfl rfl ?_
                  refine l_passed rfl rfl rfl ?_
                  refine l_passed rfl rfl rfl ?_
                  refine l_passed rfl rfl rfl ?_
                  refine l_passed rfl rfl rfl ?_
                  refine l_val rfl rfl rfl (r_pickF (v := .bool false) rfl rfl) ?_
                  refine l_nil ?_
                  refine c_false rfl ?_
                  refine c_skip ?_
                  refine c_close (l_11, l_12) (p_7, p_8) 0 [0, 1, 2, 3] (by exact ⟨rfl, rfl, rfl, rfl, rfl, rfl, rfl, rfl, rfl, rfl, rfl, rfl, rfl, trivial⟩) (by decide) rfl (by exact ⟨H65, trivial⟩) (Nat.lt_succ_self _)
              · have H66 := cnd_f hb H54; clear H54
                refine l_passed rfl rfl rfl ?_
                refine l_passed rfl rfl rfl ?_
                refine l_passed rfl rfl rfl ?_
                refine l_passed rfl rfl rfl ?_
                refine l_passed rfl rfl rfl ?_
                refine l_passed rfl rfl rfl ?_
                refine l_passed rfl rfl rfl ?_
                refine l_val rfl rfl rfl (r_pickF (v := .bool false) rfl rfl) ?_
                refine l_val rfl rfl rfl (r_move (v := .bool false) rfl) ?_
                refine l_passed rfl rfl rfl ?_
                refine l_passed rfl rfl rfl ?_
                refine l_passed rfl rfl rfl ?_
                refine l_passed rfl rfl rfl ?_
                refine l_val rfl rfl rfl (r_pickF (v := .bool false) rfl rfl) ?_
                refine l_val rfl rfl rfl (r_move (v := .bool false) rfl) ?_
                refine l_passed rfl rfl rfl ?_
                refine l_passed rfl rfl rfl ?_
                refine l_passed rfl rfl rfl ?_
                refine l_passed rfl rfl rfl ?_
                refine l_passed rfl rfl rfl ?_
                refine l_passed rfl rfl rfl ?_
                refine l_passed rfl rfl rfl ?_
                refine l_val rfl rfl rfl (r_pickF (v := .bool false) rfl rfl) ?_
                refine l_nil ?_
                refine c_false rfl ?_
                refine c_skip ?_
                refine c_close (l_11, l_12) (p_7, p_8) 0 [0, 1, 2, 3] (by exact ⟨rfl, rfl, rfl, rfl, rfl, rfl, rfl, rfl, rfl, rfl, rfl, rfl, rfl, trivial⟩) (by decide) rfl (by exact ⟨H66, trivial⟩) (Nat.lt_succ_self _)
            · rintro ⟨l_13, l_14⟩ ⟨p_9, p_10⟩ gg H52 _
              replace H52 : R_cropTurned_j6 x30_2 next5 l_13 l_14 = some r := H52
              refine c_tidyF [(1, .int .i64 a1), (2, .int .i64 a2), (3, .int .i64 a3), (4, .pointer (some ⟨b4, 0, none⟩)), (8, .pointer (some ⟨b5, 0, none⟩)), (9, .slice p_9.1 l_13.length p_9.2), (10, .slice p_10.1 l_14.length p_10.2), (11, .int .i64 x11), (13, .int .i64 x26_2), (25, .int .i64 x12), (26, .int .i64 x26_2), (29, .int .i64 x11), (30, .int .i64 x30_2)] [cellsC b4 [.int .i64 a0.Kind, .int .i64 a0.A, .int .i64 a0.B, .int .i64 a0.C, .int .i64 a0.D] 31, cellsC b5 [.int .i64 0, .int .i64 0, .int .i64 0, .int .i64 0, .int .i64 0] 31, rowV 3 1 (.slice p_9.1 l_13.length p_9.2) l_13.length (l_13.map e_i64), rowV 3 1 (.slice p_10.1 l_14.length p_10.2) l_14.length (l_14.map e_i64)] rfl rfl ?_
              refine c_region ?_
              obtain ⟨t78, h_t78, H53⟩ := bnd_some H52; clear H52
              refine l_val rfl rfl rfl (r_addG rfl rfl h_t78) ?_
              refine l_val rfl rfl rfl (r_move (v := .int .i64 t78) rfl) ?_
              refine l_nil ?_
              refine c_close (t78, l_13, l_14) (p_9, p_10) m5 [0, 1, 2, 3] (by exact ⟨rfl, rfl, rfl, rfl, rfl, rfl, rfl, rfl, rfl, rfl, rfl, rfl, rfl, trivial⟩) (by decide) rfl (by exact ⟨(by subst hn5; exact H53), trivial⟩) (Nat.lt_succ_self _)
          · have H67 := cnd_f hb H50; clear H50
            refine c_exit ?_
            refine c_close (l_11, l_12) (p_7, p_8) 0 [0, 1, 2, 3] (by exact ⟨rfl, rfl, rfl, rfl, rfl, rfl, rfl, rfl, rfl, rfl, trivial⟩) (by decide) rfl (by exact ⟨H67, trivial⟩) (Nat.lt_succ_self _)
        · rintro ⟨l_7, l_8⟩ ⟨p_5, p_6⟩ gg H48 _
          replace H48 : R_cropTurned_j4 x26_2 next3 l_7 l_8 = some r := H48
          refine c_tidyF [(1, .int .i64 a1), (2, .int .i64 a2), (3, .int .i64 a3), (4, .pointer (some ⟨b4, 0, none⟩)), (8, .pointer (some ⟨b5, 0, none⟩)), (9, .slice p_5.1 l_7.length p_5.2), (10, .slice p_6.1 l_8.length p_6.2), (11, .int .i64 x11), (25, .int .i64 x12), (26, .int .i64 x26_2)] [cellsC b4 [.int .i64 a0.Kind, .int .i64 a0.A, .int .i64 a0.B, .int .i64 a0.C, .int .i64 a0.D] 31, cellsC b5 [.int .i64 0, .int .i64 0, .int .i64 0, .int .i64 0, .int .i64 0] 31, rowV 3 1 (.slice p_5.1 l_7.length p_5.2) l_7.length (l_7.map e_i64), rowV 3 1 (.slice p_6.1 l_8.length p_6.2) l_8.length (l_8.map e_i64)] rfl rfl ?_
          refine c_region ?_
          obtain ⟨t79, h_t79, H49⟩ := bnd_some H48; clear H48
          refine l_val rfl rfl rfl (r_addG rfl rfl h_t79) ?_
          refine l_val rfl rfl rfl (r_move (v := .int .i64 t79) rfl) ?_
          refine l_nil ?_
          refine c_close (t79, l_7, l_8) (p_5, p_6) m3 [0, 1, 2, 3] (by exact ⟨rfl, rfl, rfl, rfl, rfl, rfl, rfl, rfl, rfl, rfl, trivial⟩) (by decide) rfl (by exact ⟨(by subst hn3; exact H49), trivial⟩) (Nat.lt_succ_self _)
      · have H68 := cnd_f hb H46; clear H46
        refine c_exit ?_
        refine c_close (l_5, l_6) (p_3, p_4) 0 [1, 2, 3] (by exact ⟨rfl, rfl, rfl, trivial⟩) (by decide) rfl (by exact ⟨H68, trivial⟩) (Nat.lt_succ_self _)
    · rintro ⟨l, l_2⟩ ⟨p, p_2⟩ gg H37 _
      replace H37 : R_cropTurned_j2 l l_2 = some r := H37
      refine c_tidyF [(8, .pointer (some ⟨b5, 0, none⟩)), (9, .slice p.1 l.length p.2), (10, .slice p_2.1 l_2.length p_2.2)] [cellsC b5 [.int .i64 0, .int .i64 0, .int .i64 0, .int .i64 0, .int .i64 0] 31, rowV 3 1 (.slice p.1 l.length p.2) l.length (l.map e_i64), rowV 3 1 (.slice p_2.1 l_2.length p_2.2) l_2.length (l_2.map e_i64)] rfl rfl ?_
      refine c_seq ?_
      refine c_region ?_
      refine l_val rfl rfl rfl (r_move (v := .slice p.1 l.length p.2) rfl) ?_
      obtain ⟨t81, h_t81, H38⟩ := bnd_some H37; clear H37
      refine l_callG (fun w hF hS => k168 (know_all w) (frs_own (i := 1) rfl hS rfl) h_t81) Try.call168 rfl rfl rfl ?_
      refine l_val rfl rfl rfl (r_move (v := .slice p_2.1 l_2.length p_2.2) rfl) ?_
      obtain ⟨t83, h_t83, H39⟩ := bnd_some H38; clear H38
      refine l_callG (fun w hF hS => k168 (know_all w) (frs_own (i := 2) rfl hS rfl) h_t83) Try.call168 rfl rfl rfl ?_
      refine l_val rfl rfl rfl (r_assign (v := .int .i64 t81) rfl) ?_
      refine l_val rfl rfl rfl (r_assign (v := .int .i64 t83) rfl) ?_
      refine l_nil ?_
      refine c_seq ?_
      refine c_region ?_
      refine l_val rfl rfl rfl (r_move (v := .int .i64 t81) rfl) ?_
      refine l_val rfl rfl rfl (r_move (v := .int .i64 t83) rfl) ?_
      refine l_val rfl rfl rfl (r_move (v := .slice p.1 l.length p.2) rfl) ?_
      obtain ⟨t87, h_t87, H40⟩ := bnd_some H39; clear H39
      refine l_callG (fun w hF hS => k169 (know_all w) (frs_own (i := 1) rfl hS rfl) h_t87) Try.call169 rfl rfl rfl ?_
      refine l_val rfl rfl rfl (r_move (v := .int .i64 t81) rfl) ?_
      obtain ⟨t89, h_t89, H41⟩ := bnd_some H40; clear H40
      refine l_val rfl rfl rfl (r_subG rfl rfl h_t89) ?_
      obtain ⟨t90, h_t90, H42⟩ := bnd_some H41; clear H41
      refine l_val rfl rfl rfl (r_addG rfl rfl h_t90) ?_
      refine l_val rfl rfl rfl (r_move (v := .slice p_2.1 l_2.length p_2.2) rfl) ?_
      obtain ⟨t92, h_t92, H43⟩ := bnd_some H42; clear H42
      refine l_callG (fun w hF hS => k169 (know_all w) (frs_own (i := 2) rfl hS rfl) h_t92) Try.call169 rfl rfl rfl ?_
      refine l_val rfl rfl rfl (r_move (v := .int .i64 t83) rfl) ?_
      obtain ⟨t94, h_t94, H44⟩ := bnd_some H43; clear H43
      refine l_val rfl rfl rfl (r_subG rfl rfl h_t94) ?_
      obtain ⟨t95, h_t95, H45⟩ := bnd_some H44; clear H44
      refine l_val rfl rfl rfl (r_addG rfl rfl h_t95) ?_
      refine l_val rfl rfl rfl (r_build (pl := #[(0, 1), (1, 1), (2, 1), (3, 1), (4, 1)]) (ps := [(0, .int .i64 2), (1, .int .i64 t81), (2, .int .i64 t83), (3, .int .i64 t90), (4, .int .i64 t95)]) (cells := #[.int .i64 2, .int .i64 t81, .int .i64 t83, .int .i64 t90, .int .i64 t95]) Try.zeroValue31 Try.runUnderlying31 (fun w => by kernel_rfl) rfl rfl) ?_
      refine l_store (i := 0) (vs := [.int .i64 2, .int .i64 t81, .int .i64 t83, .int .i64 t90, .int .i64 t95]) (cs' := [.int .i64 2, .int .i64 t81, .int .i64 t83, .int .i64 t90, .int .i64 t95]) Try.sizeOf31 rfl rfl rfl rfl rfl rfl rfl rfl rfl ?_
      refine l_nil ?_
      refine c_ret ?_
      obtain rfl := Option.some.inj H45
      refine retC (i := 0) (vs := [.int .i64 2, .int .i64 t81, .int .i64 t83, .int .i64 t90, .int .i64 t95]) Try.isAgg31 Try.sizeOf31 rfl rfl rfl rfl (fin rfl)
theorem k63 {a0 : (List T_edit_Step)} {p0 : Option Addr × Nat} {n0 : Nat} {a1 : Int} {a2 : Int} {a3 : Int} {r : (List T_edit_Step) × Bool} {w : World} {h : Heap} {S : Nat → Prop} (hcs : (rowV 31 5 (.slice p0.1 n0 p0.2) n0 (a0.map e_edit_Step)).P S w) (hlt : ∀ b, S b → b < w.heap.size) (hw : Know h w S) (hn0 : n0 = a0.length) (H : R_ruled a0 a1 a2 a3 = some r) : Does Try.prog 63 (List.toArray [.slice p0.1 n0 p0.2, .int .i64 a1, .int .i64 a2, .int .i64 a3]) w (fun v w' => ∃ x : (Option Addr × Nat), v = (.tuple #[.slice x.1 r.1.length x.2, .bool r.2]) ∧ Turn w w' S (rowV 31 5 (.slice x.1 r.1.length x.2) r.1.length (r.1.map e_edit_Step))) := by
  refine enter (n := 195) Try.func63 rfl rfl rfl S [rowV 31 5 (.slice p0.1 n0 p0.2) n0 (a0.map e_edit_Step)] (Sat.one hcs hlt) ?_
  refine c_seq ?_
  refine c_region ?_
  refine l_val rfl rfl rfl (r_assign (v := .slice none 0 0) rfl) ?_
  refine l_val rfl rfl rfl (r_assign (v := .bool false) rfl) ?_
  refine l_nil ?_
  refine c_seq ?_
  refine c_seq ?_
  refine c_region ?_
  refine l_val rfl rfl rfl (r_move (v := .slice p0.1 n0 p0.2) rfl) ?_
  refine l_val rfl rfl rfl (r_lenN Try.underlying22 rfl hn0) ?_
  refine l_val rfl rfl rfl (r_move (v := .int .i64 0) rfl) ?_
  refine l_nil ?_
  refine c_block ?_
  refine c_fix (σ := Int) (τ := Unit) (fun next1 s => R_ruled_l1 a0 a1 a2 a3 next1 s) (fun s t => [(0, .slice p0.1 n0 p0.2), (1, .int .i64 a1), (2, .int .i64 a2), (3, .int .i64 a3), (16, .slice p0.1 n0 p0.2), (17, .int .i64 (a0.length : Int)), (18, .int .i64 s)]) (fun s t => [rowV 31 5 (.slice p0.1 n0 p0.2) n0 (a0.map e_edit_Step)]) (fun s t => True) 0 () [0] H (by exact trivial) (by exact ⟨rfl, rfl, rfl, rfl, rfl, rfl, rfl, trivial⟩) (by decide) rfl ?_
  rintro x18_2 _ m1 gg H85 _
  clear H
  replace H85 : R_ruled_l1 a0 a1 a2 a3 (it (fun next1 s => R_ruled_l1 a0 a1 a2 a3 next1 s) m1) x18_2 = some r := H85
  generalize hn1 : it (fun next1 s => R_ruled_l1 a0 a1 a2 a3 next1 s) m1 = next1 at H85
  refine c_tidyF [(0, .slice p0.1 n0 p0.2), (1, .int .i64 a1), (2, .int .i64 a2), (3, .int .i64 a3), (16, .slice p0.1 n0 p0.2), (17, .int .i64 (a0.length : Int)), (18, .int .i64 x18_2)] [rowV 31 5 (.slice p0.1 n0 p0.2) n0 (a0.map e_edit_Step)] rfl rfl ?_
  refine c_seq ?_
  refine c_region ?_
  refine l_val rfl rfl rfl (r_lss rfl rfl) ?_
  refine l_nil ?_
  refine c_seq ?_
  refine c_if (b := (decide (x18_2 < (a0.length : Int)))) rfl (fun hb => ?_) (fun hb => ?_)
  · have H86 := cnd_t hb H85; clear H85
    refine c_skip ?_
    refine c_meet (r := r) (σ := Unit) (τ := Unit) (fun s => R_ruled_j2 x18_2 next1) (fun s t => [(0, .slice p0.1 n0 p0.2), (1, .int .i64 a1), (2, .int .i64 a2), (3, .int .i64 a3), (16, .slice p0.1 n0 p0.2), (17, .int .i64 (a0.length : Int)), (18, .int .i64 x18_2)]) (fun s t => [rowV 31 5 (.slice p0.1 n0 p0.2) n0 (a0.map e_edit_Step)]) (fun s t => True) ?_ ?_
    · refine c_block ?_
      refine c_seq ?_
      refine c_region ?_
      refine l_val rfl rfl rfl (r_move (v := .int .i64 x18_2) rfl) ?_
      obtain ⟨t21, h_t21, H89⟩ := bnd_some H86; clear H86
      refine l_read (fun w hF hS => run_indexO Try.underlying22 Try.sizeOf31 rfl rfl (rowOf (i := 0) hS rfl) hn0 h_t21) rfl rfl rfl ?_
      refine l_read (fun w hF hS => run_loadGN (f := e_edit_Step) (i := x18_2) (sz := 5) (j := 0) (vs := [.int .i64 t21.Kind, .int .i64 t21.A, .int .i64 t21.B, .int .i64 t21.C, .int .i64 t21.D]) Try.isAgg31 Try.sizeOf31 rfl rfl (rowOf (i := 0) hS rfl) h_t21 rfl) rfl rfl rfl ?_
      refine l_alloc (cs := [.int .i64 0, .int .i64 0, .int .i64 0, .int .i64 0, .int .i64 0]) Try.zeroValue31 rfl rfl rfl (fun b2 => ?_)
      refine l_val rfl rfl rfl (r_assign (v := .int .i64 x18_2) rfl) ?_
      refine l_store (i := 1) (vs := [.int .i64 t21.Kind, .int .i64 t21.A, .int .i64 t21.B, .int .i64 t21.C, .int .i64 t21.D]) (cs' := [.int .i64 t21.Kind, .int .i64 t21.A, .int .i64 t21.B, .int .i64 t21.C, .int .i64 t21.D]) Try.sizeOf31 rfl rfl rfl rfl rfl rfl rfl rfl rfl ?_
      refine l_nil ?_
      refine c_seq ?_
      refine c_region ?_
      refine l_val rfl rfl rfl (r_move (v := .slice p0.1 n0 p0.2) rfl) ?_
      refine l_val rfl rfl rfl (r_move (v := .int .i64 x18_2) rfl) ?_
      obtain ⟨t26, h_t26, H90⟩ := bnd_some H89; clear H89
      refine l_read (v := .slice p0.1 t26.length p0.2) (fun w hF hS => run_sliceHO0 (xs := a0) Try.underlying22 Try.sizeOf31 rfl rfl hn0 (capOf (i := 0) hS rfl) h_t26) rfl rfl rfl ?_
      refine l_val rfl rfl rfl (r_move (v := .int .i64 a2) rfl) ?_
      refine l_val rfl rfl rfl (r_move (v := .int .i64 a3) rfl) ?_
      obtain ⟨t29, h_t29, H91⟩ := bnd_some H90; clear H90
      refine l_callG (fun w hF hS => k23 (know_all w) (FrS.cut0 (frs_own (i := 0) hn0 hS rfl) h_t26) h_t29) Try.call23 rfl rfl rfl ?_
      refine l_val rfl rfl rfl (r_move (v := .tuple #[.int .i64 t29.1, .int .i64 t29.2.1, .int .i64 t29.2.2]) rfl) ?_
      refine l_val rfl rfl rfl (r_extract (v := .int .i64 t29.1) rfl rfl) ?_
      refine l_val rfl rfl rfl (r_extract (v := .int .i64 t29.2.1) rfl rfl) ?_
      refine l_val rfl rfl rfl (r_extract (v := .int .i64 t29.2.2) rfl rfl) ?_
      refine l_val rfl rfl rfl (r_assign (v := .int .i64 t29.1) rfl) ?_
      refine l_val rfl rfl rfl (r_assign (v := .int .i64 t29.2.1) rfl) ?_
      refine l_val rfl rfl rfl (r_assign (v := .int .i64 t29.2.2) rfl) ?_
      refine l_nil ?_
      refine c_seq ?_
      refine c_seq ?_
      refine c_region ?_
      refine l_val rfl rfl rfl (r_move (v := .int .i64 a1) rfl) ?_
      refine l_val rfl rfl rfl (r_eql rfl rfl) ?_
      refine l_nil ?_
      refine c_if (b := (decide (a1 = 1))) rfl (fun hb => ?_) (fun hb => ?_)
      · have H92 := cnd_t hb H91; clear H91
        refine c_seq ?_
        refine c_seq ?_
        refine c_region ?_
        refine l_loadN (i := 1) (vs := [.int .i64 t21.Kind, .int .i64 t21.A, .int .i64 t21.B, .int .i64 t21.C, .int .i64 t21.D]) Try.isAgg31 Try.sizeOf31 rfl rfl rfl rfl rfl ?_
        refine l_val rfl rfl rfl (r_move (v := .int .i64 t29.1) rfl) ?_
        refine l_val rfl rfl rfl (r_move (v := .int .i64 t29.2.1) rfl) ?_
        obtain ⟨t38, h_t38, H93⟩ := bnd_some H92; clear H92
        refine l_call (k25 h_t38) Try.call25 rfl rfl rfl ?_
        refine l_nil ?_
        refine c_if (b := t38) rfl (fun hb => ?_) (fun hb => ?_)
        · have H94 := cnd_t hb H93; clear H93
          refine c_seq ?_
          refine c_region ?_
          refine l_val rfl rfl rfl (r_move (v := .slice p0.1 n0 p0.2) rfl) ?_
          refine l_val rfl rfl rfl (r_move (v := .int .i64 x18_2) rfl) ?_
          refine l_val rfl rfl rfl (r_move (v := .int .i64 x18_2) rfl) ?_
          obtain ⟨t42, h_t42, H95⟩ := bnd_some H94; clear H94
          refine l_val rfl rfl rfl (r_addG rfl rfl h_t42) ?_
          obtain ⟨t43, h_t43, H96⟩ := bnd_some H95; clear H95
          refine l_turn (turns_callB (i := 0) (rds := []) (G := fun x : (Option Addr × Nat) => .slice x.1 t43.length x.2) (C := fun x : (Option Addr × Nat) => rowV 31 5 (.slice x.1 t43.length x.2) t43.length (t43.map e_edit_Step)) rfl (fun w L' S hF hS hi hp hlt ho hA => k115 hp hlt (know_but w S) hn0 h_t43) Try.call115 rfl) rfl rfl rfl (fun p => ?_)
          refine l_val rfl rfl rfl (r_assign (v := .slice p.1 t43.length p.2) rfl) ?_
          refine l_val rfl rfl rfl (r_assign (v := .bool true) rfl) ?_
          refine l_nil ?_
          refine c_ret ?_
          obtain rfl := Option.some.inj H96
          refine ret2 (v1 := .slice p.1 t43.length p.2) (v2 := .bool true) rfl rfl rfl (finX p (i := 0) rfl rfl (Imp.refl _))
        · have H97 := cnd_f hb H93; clear H93
          refine c_skip ?_
          refine c_exit ?_
          refine c_close () () 0 [0] (by exact ⟨rfl, rfl, rfl, rfl, rfl, rfl, rfl, trivial⟩) (by decide) rfl (by exact ⟨H97, trivial⟩) (Nat.lt_succ_self _)
      · have H98 := cnd_f hb H91; clear H91
        refine c_skip ?_
        refine c_seq ?_
        refine c_seq ?_
        refine c_region ?_
        refine l_val rfl rfl rfl (r_move (v := .int .i64 x18_2) rfl) ?_
        obtain ⟨t45, h_t45, H99⟩ := bnd_some H98; clear H98
        refine l_val rfl rfl rfl (r_addG rfl rfl h_t45) ?_
        refine l_val rfl rfl rfl (r_move (v := .slice p0.1 n0 p0.2) rfl) ?_
        refine l_val rfl rfl rfl (r_lenN Try.underlying22 rfl hn0) ?_
        refine l_val rfl rfl rfl (r_eql rfl rfl) ?_
        refine l_nil ?_
        refine c_if (b := (decide (t45 = (a0.length : Int)))) rfl (fun hb => ?_) (fun hb => ?_)
        · have H100 := cnd_t hb H99; clear H99
          refine c_exit ?_
          refine c_close () () 0 [0] (by exact ⟨rfl, rfl, rfl, rfl, rfl, rfl, rfl, trivial⟩) (by decide) rfl (by exact ⟨H100, trivial⟩) (Nat.lt_succ_self _)
        · have H101 := cnd_f hb H99; clear H99
          refine c_skip ?_
          refine c_seq ?_
          refine c_region ?_
          refine l_val rfl rfl rfl (r_move (v := .slice p0.1 n0 p0.2) rfl) ?_
          refine l_val rfl rfl rfl (r_move (v := .int .i64 x18_2) rfl) ?_
          obtain ⟨t51, h_t51, H102⟩ := bnd_some H101; clear H101
          refine l_val rfl rfl rfl (r_addG rfl rfl h_t51) ?_
          obtain ⟨t52, h_t52, H103⟩ := bnd_some H102; clear H102
          refine l_read (fun w hF hS => run_indexO Try.underlying22 Try.sizeOf31 rfl rfl (rowOf (i := 0) hS rfl) hn0 h_t52) rfl rfl rfl ?_
          refine l_read (fun w hF hS => run_loadGN (f := e_edit_Step) (i := t51) (sz := 5) (j := 0) (vs := [.int .i64 t52.Kind, .int .i64 t52.A, .int .i64 t52.B, .int .i64 t52.C, .int .i64 t52.D]) Try.isAgg31 Try.sizeOf31 rfl rfl (rowOf (i := 0) hS rfl) h_t52 rfl) rfl rfl rfl ?_
          refine l_alloc (cs := [.int .i64 0, .int .i64 0, .int .i64 0, .int .i64 0, .int .i64 0]) Try.zeroValue31 rfl rfl rfl (fun b3 => ?_)
          refine l_store (i := 2) (vs := [.int .i64 t52.Kind, .int .i64 t52.A, .int .i64 t52.B, .int .i64 t52.C, .int .i64 t52.D]) (cs' := [.int .i64 t52.Kind, .int .i64 t52.A, .int .i64 t52.B, .int .i64 t52.C, .int .i64 t52.D]) Try.sizeOf31 rfl rfl rfl rfl rfl rfl rfl rfl rfl ?_
          refine l_nil ?_
          refine c_block ?_
          refine c_meet (r := r) (σ := Bool) (τ := Unit) (fun s => R_ruled_j3 a0 a1 x18_2 next1 t21 t29 t52 s) (fun s t => [(0, .slice p0.1 n0 p0.2), (1, .int .i64 a1), (2, .int .i64 a2), (3, .int .i64 a3), (10, .int .i64 x18_2), (11, .pointer (some ⟨b2, 0, none⟩)), (12, .int .i64 t29.1), (13, .int .i64 t29.2.1), (15, .pointer (some ⟨b3, 0, none⟩)), (16, .slice p0.1 n0 p0.2), (17, .int .i64 (a0.length : Int)), (18, .int .i64 x18_2), (54, .bool s)]) (fun s t => [rowV 31 5 (.slice p0.1 n0 p0.2) n0 (a0.map e_edit_Step), cellsC b2 [.int .i64 t21.Kind, .int .i64 t21.A, .int .i64 t21.B, .int .i64 t21.C, .int .i64 t21.D] 31, cellsC b3 [.int .i64 t52.Kind, .int .i64 t52.A, .int .i64 t52.B, .int .i64 t52.C, .int .i64 t52.D] 31]) (fun s t => True) ?_ ?_
          · refine c_region ?_
            refine l_val rfl rfl rfl (r_move (v := .int .i64 a1) rfl) ?_
            refine l_val rfl rfl rfl (r_eql rfl rfl) ?_
            refine l_val rfl rfl rfl (r_move (v := .bool (decide (a1 = 2))) rfl) ?_
            refine split (fun hb => ?_) (fun hb => ?_)
            · have H164 := cnd_t hb H103; clear H103
              refine l_val rfl rfl rfl (r_field Try.runUnderlying31 rfl Try.sizeOf3 rfl rfl) ?_
              refine l_load1 (i := 1) (v := .int .i64 t21.Kind) Try.isAgg3 rfl rfl rfl rfl rfl ?_
              refine l_val rfl rfl rfl (r_eql rfl rfl) ?_
              refine l_val rfl rfl rfl (r_pickT (v := .bool (decide (t21.Kind = 1))) rfl rfl) ?_
              refine l_val rfl rfl rfl (r_move (v := .bool (decide (t21.Kind = 1))) rfl) ?_
              refine split (fun hb => ?_) (fun hb => ?_)
              · have H165 := cnd_t hb H164; clear H164
                refine l_val rfl rfl rfl (r_field Try.runUnderlying31 rfl Try.sizeOf3 rfl rfl) ?_
                refine l_load1 (i := 2) (v := .int .i64 t52.Kind) Try.isAgg3 rfl rfl rfl rfl rfl ?_
                refine l_val rfl rfl rfl (r_eql rfl rfl) ?_
                refine l_val rfl rfl rfl (r_pickT (v := .bool (decide (t52.Kind = 1))) rfl rfl) ?_
                refine l_val rfl rfl rfl (r_assign (v := .bool (decide (t52.Kind = 1))) rfl) ?_
                refine l_nil ?_
                refine c_close (decide (t52.Kind = 1)) () 0 [0, 1, 2] (by exact ⟨rfl, rfl, rfl, rfl, rfl, rfl, rfl, rfl, rfl, rfl, rfl, rfl, rfl, trivial⟩) (by decide) rfl (by exact ⟨H165, trivial⟩) (Nat.lt_succ_self _)
              · have H166 := cnd_f hb H164; clear H164
                refine l_passed rfl rfl rfl ?_
                refine l_passed rfl rfl rfl ?_
                refine l_passed rfl rfl rfl ?_
                refine l_val rfl rfl rfl (r_pickF (v := .bool false) rfl rfl) ?_
                refine l_val rfl rfl rfl (r_assign (v := .bool false) rfl) ?_
                refine l_nil ?_
                refine c_close false () 0 [0, 1, 2] (by exact ⟨rfl, rfl, rfl, rfl, rfl, rfl, rfl, rfl, rfl, rfl, rfl, rfl, rfl, trivial⟩) (by decide) rfl (by exact ⟨H166, trivial⟩) (Nat.lt_succ_self _)
            · have H167 := cnd_f hb H103; clear H103
              refine l_passed rfl rfl rfl ?_
              refine l_passed rfl rfl rfl ?_
              refine l_passed rfl rfl rfl ?_
              refine l_val rfl rfl rfl (r_pickF (v := .bool false) rfl rfl) ?_
              refine l_val rfl rfl rfl (r_move (v := .bool false) rfl) ?_
              refine l_passed rfl rfl rfl ?_
              refine l_passed rfl rfl rfl ?_
              refine l_passed rfl rfl rfl ?_
              refine l_val rfl rfl rfl (r_pickF (v := .bool false) rfl rfl) ?_
              refine l_val rfl rfl rfl (r_assign (v := .bool false) rfl) ?_
              refine l_nil ?_
              refine c_close false () 0 [0, 1, 2] (by exact ⟨rfl, rfl, rfl, rfl, rfl, rfl, rfl, rfl, rfl, rfl, rfl, rfl, rfl, trivial⟩) (by decide) rfl (by exact ⟨H167, trivial⟩) (Nat.lt_succ_self _)
          · rintro x54 _ gg H104 _
            replace H104 : R_ruled_j3 a0 a1 x18_2 next1 t21 t29 t52 x54 = some r := H104
            refine c_tidyF [(0, .slice p0.1 n0 p0.2), (1, .int .i64 a1), (2, .int .i64 a2), (3, .int .i64 a3), (10, .int .i64 x18_2), (11, .pointer (some ⟨b2, 0, none⟩)), (12, .int .i64 t29.1), (13, .int .i64 t29.2.1), (15, .pointer (some ⟨b3, 0, none⟩)), (16, .slice p0.1 n0 p0.2), (17, .int .i64 (a0.length : Int)), (18, .int .i64 x18_2), (54, .bool x54)] [rowV 31 5 (.slice p0.1 n0 p0.2) n0 (a0.map e_edit_Step), cellsC b2 [.int .i64 t21.Kind, .int .i64 t21.A, .int .i64 t21.B, .int .i64 t21.C, .int .i64 t21.D] 31, cellsC b3 [.int .i64 t52.Kind, .int .i64 t52.A, .int .i64 t52.B, .int .i64 t52.C, .int .i64 t52.D] 31] rfl rfl ?_
            refine c_if (b := x54) rfl (fun hb => ?_) (fun hb => ?_)
            · have H105 := cnd_t hb H104; clear H104
              refine c_seq ?_
              refine c_region ?_
              refine l_val rfl rfl rfl (r_move (v := .slice p0.1 n0 p0.2) rfl) ?_
              refine l_val rfl rfl rfl (r_move (v := .int .i64 x18_2) rfl) ?_
              refine l_val rfl rfl rfl (r_field Try.runUnderlying31 rfl Try.sizeOf3 rfl rfl) ?_
              refine l_load1 (i := 1) (v := .int .i64 t21.A) Try.isAgg3 rfl rfl rfl rfl rfl ?_
              refine l_val rfl rfl rfl (r_field Try.runUnderlying31 rfl Try.sizeOf3 rfl rfl) ?_
              refine l_load1 (i := 2) (v := .int .i64 t52.A) Try.isAgg3 rfl rfl rfl rfl rfl ?_
              obtain ⟨t73, h_t73, H106⟩ := bnd_some H105; clear H105
              refine l_call (k116 h_t73) Try.call116 rfl rfl rfl ?_
              obtain ⟨t74, h_t74, H107⟩ := bnd_some H106; clear H106
              refine l_read (fun w hF hS => run_indexO Try.underlying22 Try.sizeOf31 rfl rfl (rowOf (i := 0) hS rfl) hn0 h_t74) rfl rfl rfl ?_
              refine c_know (fun w hF hS => someOf (i := 0) hS rfl h_t74) (fun hs => ?_)
              refine l_val rfl rfl rfl (r_fieldP Try.runUnderlying31 rfl Try.sizeOf3 rfl rfl hs) ?_
              obtain ⟨l0, h_l0, H108⟩ := bnd_some H107; clear H107
              refine l_storeG (q := 0) (j := 1) (i := x18_2) (sz := 5) (hm := hn0) (f := e_edit_Step) (vs := [.int .i64 t73]) Try.sizeOf3 rfl rfl rfl rfl rfl rfl rfl rfl rfl (fun y_ hy_ => by first | rfl | (cases hy_.symm.trans h_t74; rfl)) h_l0 ?_
              refine l_nil ?_
              refine c_seq ?_
              refine c_region ?_
              refine l_val rfl rfl rfl (r_move (v := .slice p0.1 n0 p0.2) rfl) ?_
              refine l_val rfl rfl rfl (r_move (v := .int .i64 x18_2) rfl) ?_
              obtain ⟨t78, h_t78, H109⟩ := bnd_some H108; clear H108
              refine l_val rfl rfl rfl (r_addG rfl rfl h_t78) ?_
              refine l_val rfl rfl rfl (r_move (v := .int .i64 x18_2) rfl) ?_
              obtain ⟨t80, h_t80, H110⟩ := bnd_some H109; clear H109
              refine l_val rfl rfl rfl (r_addG rfl rfl h_t80) ?_
              obtain ⟨t81, h_t81, H111⟩ := bnd_some H110; clear H110
              refine l_turn (turns_callB (i := 0) (rds := []) (G := fun x : (Option Addr × Nat) => .slice x.1 t81.length x.2) (C := fun x : (Option Addr × Nat) => rowV 31 5 (.slice x.1 t81.length x.2) t81.length (t81.map e_edit_Step)) rfl (fun w L' S hF hS hi hp hlt ho hA => k115 hp hlt (know_but w S) (gSet_n hn0 h_l0) h_t81) Try.call115 rfl) rfl rfl rfl (fun p_2 => ?_)
              refine l_val rfl rfl rfl (r_assign (v := .slice p_2.1 t81.length p_2.2) rfl) ?_
              refine l_val rfl rfl rfl (r_assign (v := .bool true) rfl) ?_
              refine l_nil ?_
              refine c_ret ?_
              obtain rfl := Option.some.inj H111
              refine ret2 (v1 := .slice p_2.1 t81.length p_2.2) (v2 := .bool true) rfl rfl rfl (finX p_2 (i := 0) rfl rfl (Imp.refl _))
            · have H112 := cnd_f hb H104; clear H104
              refine c_meet (r := r) (σ := Bool) (τ := Unit) (fun s => R_ruled_j4 a0 a1 x18_2 next1 t21 t29 t52 s) (fun s t => [(0, .slice p0.1 n0 p0.2), (1, .int .i64 a1), (2, .int .i64 a2), (3, .int .i64 a3), (10, .int .i64 x18_2), (11, .pointer (some ⟨b2, 0, none⟩)), (12, .int .i64 t29.1), (13, .int .i64 t29.2.1), (15, .pointer (some ⟨b3, 0, none⟩)), (16, .slice p0.1 n0 p0.2), (17, .int .i64 (a0.length : Int)), (18, .int .i64 x18_2), (82, .bool s)]) (fun s t => [rowV 31 5 (.slice p0.1 n0 p0.2) n0 (a0.map e_edit_Step), cellsC b2 [.int .i64 t21.Kind, .int .i64 t21.A, .int .i64 t21.B, .int .i64 t21.C, .int .i64 t21.D] 31, cellsC b3 [.int .i64 t52.Kind, .int .i64 t52.A, .int .i64 t52.B, .int .i64 t52.C, .int .i64 t52.D] 31]) (fun s t => True) ?_ ?_
              · refine c_region ?_
                refine l_val rfl rfl rfl (r_move (v := .int .i64 a1) rfl) ?_
                refine l_val rfl rfl rfl (r_eql rfl rfl) ?_
                refine l_val rfl rfl rfl (r_move (v := .bool (decide (a1 = 3))) rfl) ?_
                refine split (fun hb => ?_) (fun hb => ?_)
                · have H160 := cnd_t hb H112; clear H112
                  refine l_val rfl rfl rfl (r_field Try.runUnderlying31 rfl Try.sizeOf3 rfl rfl) ?_
                  refine l_load1 (i := 1) (v := .int .i64 t21.Kind) Try.isAgg3 rfl rfl rfl rfl rfl ?_
                  refine l_val rfl rfl rfl (r_eql rfl rfl) ?_
                  refine l_val rfl rfl rfl (r_pickT (v := .bool (decide (t21.Kind = 2))) rfl rfl) ?_
                  refine l_val rfl rfl rfl (r_move (v := .bool (decide (t21.Kind = 2))) rfl) ?_
                  refine split (fun hb => ?_) (fun hb => ?_)
                  · have H161 := cnd_t hb H160; clear H160
                    refine l_val rfl rfl rfl (r_field Try.runUnderlying31 rfl Try.sizeOf3 rfl rfl) ?_
                    refine l_load1 (i := 2) (v := .int .i64 t52.Kind) Try.isAgg3 rfl rfl rfl rfl rfl ?_
                    refine l_val rfl rfl rfl (r_eql rfl rfl) ?_
                    refine l_val rfl rfl rfl (r_pickT (v := .bool (decide (t52.Kind = 2))) rfl rfl) ?_
                    refine l_val rfl rfl rfl (r_assign (v := .bool (decide (t52.Kind = 2))) rfl) ?_
                    refine l_nil ?_
                    refine c_close (decide (t52.Kind = 2)) () 0 [0, 1, 2] (by exact ⟨rfl, rfl, rfl, rfl, rfl, rfl, rfl, rfl, rfl, rfl, rfl, rfl, rfl, trivial⟩) (by decide) rfl (by exact ⟨H161, trivial⟩) (Nat.lt_succ_self _)
                  · have H162 := cnd_f hb H160; clear H160
                    refine l_passed rfl rfl rfl ?_
                    refine l_passed rfl rfl rfl ?_
                    refine l_passed rfl rfl rfl ?_
                    refine l_val rfl rfl rfl (r_pickF (v := .bool false) rfl rfl) ?_
                    refine l_val rfl rfl rfl (r_assign (v := .bool false) rfl) ?_
                    refine l_nil ?_
                    refine c_close false () 0 [0, 1, 2] (by exact ⟨rfl, rfl, rfl, rfl, rfl, rfl, rfl, rfl, rfl, rfl, rfl, rfl, rfl, trivial⟩) (by decide) rfl (by exact ⟨H162, trivial⟩) (Nat.lt_succ_self _)
                · have H163 := cnd_f hb H112; clear H112
                  refine l_passed rfl rfl rfl ?_
                  refine l_passed rfl rfl rfl ?_
                  refine l_passed rfl rfl rfl ?_
                  refine l_val rfl rfl rfl (r_pickF (v := .bool false) rfl rfl) ?_
                  refine l_val rfl rfl rfl (r_move (v := .bool false) rfl) ?_
                  refine l_passed rfl rfl rfl ?_
                  refine l_passed rfl rfl rfl ?_
                  refine l_passed rfl rfl rfl ?_
                  refine l_val rfl rfl rfl (r_pickF (v := .bool false) rfl rfl) ?_
                  refine l_val rfl rfl rfl (r_assign (v := .bool false) rfl) ?_
                  refine l_nil ?_
                  refine c_close false () 0 [0, 1, 2] (by exact ⟨rfl, rfl, rfl, rfl, rfl, rfl, rfl, rfl, rfl, rfl, rfl, rfl, rfl, trivial⟩) (by decide) rfl (by exact ⟨H163, trivial⟩) (Nat.lt_succ_self _)
              · rintro x82 _ gg H113 _
                replace H113 : R_ruled_j4 a0 a1 x18_2 next1 t21 t29 t52 x82 = some r := H113
                refine c_tidyF [(0, .slice p0.1 n0 p0.2), (1, .int .i64 a1), (2, .int .i64 a2), (3, .int .i64 a3), (10, .int .i64 x18_2), (11, .pointer (some ⟨b2, 0, none⟩)), (12, .int .i64 t29.1), (13, .int .i64 t29.2.1), (15, .pointer (some ⟨b3, 0, none⟩)), (16, .slice p0.1 n0 p0.2), (17, .int .i64 (a0.length : Int)), (18, .int .i64 x18_2), (82, .bool x82)] [rowV 31 5 (.slice p0.1 n0 p0.2) n0 (a0.map e_edit_Step), cellsC b2 [.int .i64 t21.Kind, .int .i64 t21.A, .int .i64 t21.B, .int .i64 t21.C, .int .i64 t21.D] 31, cellsC b3 [.int .i64 t52.Kind, .int .i64 t52.A, .int .i64 t52.B, .int .i64 t52.C, .int .i64 t52.D] 31] rfl rfl ?_
                refine c_if (b := x82) rfl (fun hb => ?_) (fun hb => ?_)
                · have H114 := cnd_t hb H113; clear H113
                  refine c_seq ?_
                  refine c_region ?_
                  refine l_val rfl rfl rfl (r_move (v := .slice p0.1 n0 p0.2) rfl) ?_
                  refine l_val rfl rfl rfl (r_move (v := .int .i64 x18_2) rfl) ?_
                  refine l_val rfl rfl rfl (r_field Try.runUnderlying31 rfl Try.sizeOf3 rfl rfl) ?_
                  refine l_load1 (i := 1) (v := .int .i64 t21.A) Try.isAgg3 rfl rfl rfl rfl rfl ?_
                  refine l_val rfl rfl rfl (r_field Try.runUnderlying31 rfl Try.sizeOf3 rfl rfl) ?_
                  refine l_load1 (i := 2) (v := .int .i64 t52.A) Try.isAgg3 rfl rfl rfl rfl rfl ?_
                  obtain ⟨t101, h_t101, H115⟩ := bnd_some H114; clear H114
                  refine l_val rfl rfl rfl (r_addG rfl rfl h_t101) ?_
                  refine l_val rfl rfl rfl (r_field Try.runUnderlying31 rfl Try.sizeOf3 rfl rfl) ?_
                  refine l_load1 (i := 1) (v := .int .i64 t21.B) Try.isAgg3 rfl rfl rfl rfl rfl ?_
                  refine l_val rfl rfl rfl (r_field Try.runUnderlying31 rfl Try.sizeOf3 rfl rfl) ?_
                  refine l_load1 (i := 2) (v := .int .i64 t52.B) Try.isAgg3 rfl rfl rfl rfl rfl ?_
                  obtain ⟨t106, h_t106, H116⟩ := bnd_some H115; clear H115
                  refine l_val rfl rfl rfl (r_addG rfl rfl h_t106) ?_
                  refine l_val rfl rfl rfl (r_field Try.runUnderlying31 rfl Try.sizeOf3 rfl rfl) ?_
                  refine l_load1 (i := 2) (v := .int .i64 t52.C) Try.isAgg3 rfl rfl rfl rfl rfl ?_
                  refine l_val rfl rfl rfl (r_field Try.runUnderlying31 rfl Try.sizeOf3 rfl rfl) ?_
                  refine l_load1 (i := 2) (v := .int .i64 t52.D) Try.isAgg3 rfl rfl rfl rfl rfl ?_
                  refine l_val rfl rfl rfl (r_build (pl := #[(0, 1), (1, 1), (2, 1), (3, 1), (4, 1)]) (ps := [(0, .int .i64 2), (1, .int .i64 t101), (2, .int .i64 t106), (3, .int .i64 t52.C), (4, .int .i64 t52.D)]) (cells := #[.int .i64 2, .int .i64 t101, .int .i64 t106, .int .i64 t52.C, .int .i64 t52.D]) Try.zeroValue31 Try.runUnderlying31 (fun w => by kernel_rfl) rfl rfl) ?_
                  obtain ⟨t112, h_t112, H117⟩ := bnd_some H116; clear H116
                  refine l_read (fun w hF hS => run_indexO Try.underlying22 Try.sizeOf31 rfl rfl (rowOf (i := 0) hS rfl) hn0 h_t112) rfl rfl rfl ?_
                  obtain ⟨l0_2, h_l0_2, H118⟩ := bnd_some H117; clear H117
                  refine l_storeG (q := 0) (j := 0) (i := x18_2) (sz := 5) (hm := hn0) (f := e_edit_Step) (vs := [.int .i64 2, .int .i64 t101, .int .i64 t106, .int .i64 t52.C, .int .i64 t52.D]) Try.sizeOf31 rfl rfl rfl rfl rfl rfl rfl rfl rfl (fun y_ hy_ => by first | rfl | (cases hy_.symm.trans h_t112; rfl)) h_l0_2 ?_
                  refine l_nil ?_
                  refine c_seq ?_
                  refine c_region ?_
                  refine l_val rfl rfl rfl (r_move (v := .slice p0.1 n0 p0.2) rfl) ?_
                  refine l_val rfl rfl rfl (r_move (v := .int .i64 x18_2) rfl) ?_
                  obtain ⟨t115, h_t115, H119⟩ := bnd_some H118; clear H118
                  refine l_val rfl rfl rfl (r_addG rfl rfl h_t115) ?_
                  refine l_val rfl rfl rfl (r_move (v := .int .i64 x18_2) rfl) ?_
                  obtain ⟨t117, h_t117, H120⟩ := bnd_some H119; clear H119
                  refine l_val rfl rfl rfl (r_addG rfl rfl h_t117) ?_
                  obtain ⟨t118, h_t118, H121⟩ := bnd_some H120; clear H120
                  refine l_turn (turns_callB (i := 0) (rds := []) (G := fun x : (Option Addr × Nat) => .slice x.1 t118.length x.2) (C := fun x : (Option Addr × Nat) => rowV 31 5 (.slice x.1 t118.length x.2) t118.length (t118.map e_edit_Step)) rfl (fun w L' S hF hS hi hp hlt ho hA => k115 hp hlt (know_but w S) (gSet_n hn0 h_l0_2) h_t118) Try.call115 rfl) rfl rfl rfl (fun p_3 => ?_)
                  refine l_val rfl rfl rfl (r_assign (v := .slice p_3.1 t118.length p_3.2) rfl) ?_
                  refine l_val rfl rfl rfl (r_assign (v := .bool true) rfl) ?_
                  refine l_nil ?_
                  refine c_ret ?_
                  obtain rfl := Option.some.inj H121
                  refine ret2 (v1 := .slice p_3.1 t118.length p_3.2) (v2 := .bool true) rfl rfl rfl (finX p_3 (i := 0) rfl rfl (Imp.refl _))
                · have H122 := cnd_f hb H113; clear H113
                  refine c_meet (r := r) (σ := Bool) (τ := Unit) (fun s => R_ruled_j5 a0 a1 x18_2 next1 t21 t29 t52 s) (fun s t => [(0, .slice p0.1 n0 p0.2), (1, .int .i64 a1), (2, .int .i64 a2), (3, .int .i64 a3), (10, .int .i64 x18_2), (11, .pointer (some ⟨b2, 0, none⟩)), (12, .int .i64 t29.1), (13, .int .i64 t29.2.1), (15, .pointer (some ⟨b3, 0, none⟩)), (16, .slice p0.1 n0 p0.2), (17, .int .i64 (a0.length : Int)), (18, .int .i64 x18_2), (119, .bool s)]) (fun s t => [rowV 31 5 (.slice p0.1 n0 p0.2) n0 (a0.map e_edit_Step), cellsC b2 [.int .i64 t21.Kind, .int .i64 t21.A, .int .i64 t21.B, .int .i64 t21.C, .int .i64 t21.D] 31, cellsC b3 [.int .i64 t52.Kind, .int .i64 t52.A, .int .i64 t52.B, .int .i64 t52.C, .int .i64 t52.D] 31]) (fun s t => True) ?_ ?_
                  · refine c_region ?_
                    refine l_val rfl rfl rfl (r_move (v := .int .i64 a1) rfl) ?_
                    refine l_val rfl rfl rfl (r_eql rfl rfl) ?_
                    refine l_val rfl rfl rfl (r_move (v := .bool (decide (a1 = 4))) rfl) ?_
                    refine split (fun hb => ?_) (fun hb => ?_)
                    · have H156 := cnd_t hb H122; clear H122
                      refine l_val rfl rfl rfl (r_field Try.runUnderlying31 rfl Try.sizeOf3 rfl rfl) ?_
                      refine l_load1 (i := 1) (v := .int .i64 t21.Kind) Try.isAgg3 rfl rfl rfl rfl rfl ?_
                      refine l_val rfl rfl rfl (r_eql rfl rfl) ?_
                      refine l_val rfl rfl rfl (r_pickT (v := .bool (decide (t21.Kind = 2))) rfl rfl) ?_
                      refine l_val rfl rfl rfl (r_move (v := .bool (decide (t21.Kind = 2))) rfl) ?_
                      refine split (fun hb => ?_) (fun hb => ?_)
                      · have H157 := cnd_t hb H156; clear H156
                        refine l_val rfl rfl rfl (r_field Try.runUnderlying31 rfl Try.sizeOf3 rfl rfl) ?_
                        refine l_load1 (i := 2) (v := .int .i64 t52.Kind) Try.isAgg3 rfl rfl rfl rfl rfl ?_
                        refine l_val rfl rfl rfl (r_eql rfl rfl) ?_
                        refine l_val rfl rfl rfl (r_pickT (v := .bool (decide (t52.Kind = 1))) rfl rfl) ?_
                        refine l_val rfl rfl rfl (r_assign (v := .bool (decide (t52.Kind = 1))) rfl) ?_
                        refine l_nil ?_
                        refine c_close (decide (t52.Kind = 1)) () 0 [0, 1, 2] (by exact ⟨rfl, rfl, rfl, rfl, rfl, rfl, rfl, rfl, rfl, rfl, rfl, rfl, rfl, trivial⟩) (by decide) rfl (by exact ⟨H157, trivial⟩) (Nat.lt_succ_self _)
                      · have H158 := cnd_f hb H156; clear H156
                        refine l_passed rfl rfl rfl ?_
                        refine l_passed rfl rfl rfl ?_
                        refine l_passed rfl rfl rfl ?_
                        refine l_val rfl rfl rfl (r_pickF (v := .bool false) rfl rfl) ?_
                        refine l_val rfl rfl rfl (r_assign (v := .bool false) rfl) ?_
                        refine l_nil ?_
                        refine c_close false () 0 [0, 1, 2] (by exact ⟨rfl, rfl, rfl, rfl, rfl, rfl, rfl, rfl, rfl, rfl, rfl, rfl, rfl, trivial⟩) (by decide) rfl (by exact ⟨H158, trivial⟩) (Nat.lt_succ_self _)
                    · have H159 := cnd_f hb H122; clear H122
                      refine l_passed rfl rfl rfl ?_
                      refine l_passed rfl rfl rfl ?_
                      refine l_passed rfl rfl rfl ?_
                      refine l_val rfl rfl rfl (r_pickF (v := .bool false) rfl rfl) ?_
                      refine l_val rfl rfl rfl (r_move (v := .bool false) rfl) ?_
                      refine l_passed rfl rfl rfl ?_
                      refine l_passed rfl rfl rfl ?_
                      refine l_passed rfl rfl rfl ?_
                      refine l_val rfl rfl rfl (r_pickF (v := .bool false) rfl rfl) ?_
                      refine l_val rfl rfl rfl (r_assign (v := .bool false) rfl) ?_
                      refine l_nil ?_
                      refine c_close false () 0 [0, 1, 2] (by exact ⟨rfl, rfl, rfl, rfl, rfl, rfl, rfl, rfl, rfl, rfl, rfl, rfl, rfl, trivial⟩) (by decide) rfl (by exact ⟨H159, trivial⟩) (Nat.lt_succ_self _)
                  · rintro x119 _ gg H123 _
                    replace H123 : R_ruled_j5 a0 a1 x18_2 next1 t21 t29 t52 x119 = some r := H123
                    refine c_tidyF [(0, .slice p0.1 n0 p0.2), (1, .int .i64 a1), (2, .int .i64 a2), (3, .int .i64 a3), (10, .int .i64 x18_2), (11, .pointer (some ⟨b2, 0, none⟩)), (12, .int .i64 t29.1), (13, .int .i64 t29.2.1), (15, .pointer (some ⟨b3, 0, none⟩)), (16, .slice p0.1 n0 p0.2), (17, .int .i64 (a0.length : Int)), (18, .int .i64 x18_2), (119, .bool x119)] [rowV 31 5 (.slice p0.1 n0 p0.2) n0 (a0.map e_edit_Step), cellsC b2 [.int .i64 t21.Kind, .int .i64 t21.A, .int .i64 t21.B, .int .i64 t21.C, .int .i64 t21.D] 31, cellsC b3 [.int .i64 t52.Kind, .int .i64 t52.A, .int .i64 t52.B, .int .i64 t52.C, .int .i64 t52.D] 31] rfl rfl ?_
                    refine c_if (b := x119) rfl (fun hb => ?_) (fun hb => ?_)
                    · have H124 := cnd_t hb H123; clear H123
                      refine c_seq ?_
                      exact c_regionD (Kd.p :: Kd.p :: Kd.p :: Kd.p :: Kd.p :: Kd.d [2] _ :: Kd.d [1] _ :: Kd.p :: Kd.d [2] _ :: Kd.p :: Kd.p :: Kd.d [] _ :: Kd.d [0] _ :: Kd.sr 0 _ :: Kd.d [0] _ :: Kd.sr 0 _ :: []) 0 mixed (by
                        refine d_val rfl rfl (r_move (v := .slice p0.1 n0 p0.2) rfl) ?_
                        refine d_val rfl rfl (r_move (v := .int .i64 x18_2) rfl) ?_
                        refine d_val rfl rfl (r_move (v := .slice p0.1 n0 p0.2) rfl) ?_
                        refine d_val rfl rfl (r_move (v := .int .i64 x18_2) rfl) ?_
                        have h_t136 := bnd_val H124
                        have H125 := bnd_rest H124
                        refine d_val rfl rfl (r_addG rfl rfl h_t136) ?_
                        refine d_loadN (i := 2) (vs := [.int .i64 t52.Kind, .int .i64 t52.A, .int .i64 t52.B, .int .i64 t52.C, .int .i64 t52.D]) Try.isAgg31 Try.sizeOf31 rfl rfl rfl rfl ?_
                        refine d_loadN (i := 1) (vs := [.int .i64 t21.Kind, .int .i64 t21.A, .int .i64 t21.B, .int .i64 t21.C, .int .i64 t21.D]) Try.isAgg31 Try.sizeOf31 rfl rfl rfl rfl ?_
                        refine d_val rfl rfl (r_field Try.runUnderlying31 rfl Try.sizeOf3 rfl rfl) ?_
                        refine d_load1 (i := 2) (v := .int .i64 t52.A) Try.isAgg3 rfl rfl rfl rfl ?_
                        refine d_val rfl rfl (r_move (v := .int .i64 t29.1) rfl) ?_
                        refine d_val rfl rfl (r_move (v := .int .i64 t29.2.1) rfl) ?_
                        have h_t143 := bnd_val H125
                        have H126 := bnd_rest H125
                        refine d_call (k117 h_t143) Try.call117 rfl rfl ?_
                        have h_t144 := bnd_val H126
                        have H127 := bnd_rest H126
                        refine d_readD (fun w L' hF hS hi => run_indexO Try.underlying22 Try.sizeOf31 rfl rfl (rowOf (i := 0) (E := 31) (sz := 5) (n := n0) (a := p0.1) (c := p0.2) hS ((hi 0 (by simp)).trans rfl)) hn0 h_t144) rfl rfl ?_
                        have h_l0_3 := bnd_val H127
                        have H128 := bnd_rest H127
                        refine d_storeG (q := 0) (j := 0) (i := x18_2) (sz := 5) (hm := hn0) (f := e_edit_Step) (vs := [.int .i64 t52.Kind, .int .i64 t52.A, .int .i64 t52.B, .int .i64 t52.C, .int .i64 t52.D]) Try.sizeOf31 rfl rfl rfl rfl rfl rfl rfl rfl rfl (fun y_ hy_ => by first | rfl | (cases hy_.symm.trans h_t144; rfl)) h_l0_3 ?_
                        have h_t145 := bnd_val H128
                        have H129 := bnd_rest H128
                        refine d_readD (fun w L' hF hS hi => run_indexO Try.underlying22 Try.sizeOf31 rfl rfl (rowOf (i := 0) (E := 31) (sz := 5) (n := n0) (a := p0.1) (c := p0.2) hS ((hi 0 (by simp)).trans rfl)) (gSet_n hn0 h_l0_3) h_t145) rfl rfl ?_
                        have h_l0_4 := bnd_val H129
                        have H130 := bnd_rest H129
                        refine d_storeG (q := 0) (j := 0) (i := (val (gI (x18_2 + 1)))) (sz := 5) (hm := (gSet_n hn0 h_l0_3)) (f := e_edit_Step) (vs := [.int .i64 (val (R_cropTurned t21 t52.A t29.1 t29.2.1)).Kind, .int .i64 (val (R_cropTurned t21 t52.A t29.1 t29.2.1)).A, .int .i64 (val (R_cropTurned t21 t52.A t29.1 t29.2.1)).B, .int .i64 (val (R_cropTurned t21 t52.A t29.1 t29.2.1)).C, .int .i64 (val (R_cropTurned t21 t52.A t29.1 t29.2.1)).D]) Try.sizeOf31 rfl rfl rfl rfl rfl rfl rfl rfl rfl (fun y_ hy_ => by first | rfl | (cases hy_.symm.trans h_t145; rfl)) h_l0_4 ?_
                        refine d_nil ?_
                        refine c_seq ?_
                        refine c_region ?_
                        refine l_val rfl rfl rfl (r_move (v := .slice p0.1 n0 p0.2) rfl) ?_
                        refine l_val rfl rfl rfl (r_assign (v := .slice p0.1 n0 p0.2) rfl) ?_
                        refine l_val rfl rfl rfl (r_assign (v := .bool true) rfl) ?_
                        refine l_nil ?_
                        refine c_ret ?_
                        obtain rfl := Option.some.inj H130
                        refine ret2 (v1 := .slice p0.1 n0 p0.2) (v2 := .bool true) rfl rfl rfl (finX p0 (i := 0) rfl (by first | rfl | rw [(show n0 = (val (gSet (val (gSet a0 x18_2 t52)) (val (gI (x18_2 + 1))) (val (R_cropTurned t21 t52.A t29.1 t29.2.1)))).length from (gSet_n (gSet_n hn0 h_l0_3) h_l0_4))]) (by first | exact Imp.refl _ | exact Imp.of (by rw [(show n0 = (val (gSet (val (gSet a0 x18_2 t52)) (val (gI (x18_2 + 1))) (val (R_cropTurned t21 t52.A t29.1 t29.2.1)))).length from (gSet_n (gSet_n hn0 h_l0_3) h_l0_4))])))
                        ) (by kernel_rfl)
                    · have H131 := cnd_f hb H123; clear H123
                      refine c_meet (r := r) (σ := Bool) (τ := Unit) (fun s => R_ruled_j6 a0 a1 x18_2 next1 t21 t52 s) (fun s t => [(0, .slice p0.1 n0 p0.2), (1, .int .i64 a1), (2, .int .i64 a2), (3, .int .i64 a3), (10, .int .i64 x18_2), (11, .pointer (some ⟨b2, 0, none⟩)), (15, .pointer (some ⟨b3, 0, none⟩)), (16, .slice p0.1 n0 p0.2), (17, .int .i64 (a0.length : Int)), (18, .int .i64 x18_2), (147, .bool s)]) (fun s t => [rowV 31 5 (.slice p0.1 n0 p0.2) n0 (a0.map e_edit_Step), cellsC b2 [.int .i64 t21.Kind, .int .i64 t21.A, .int .i64 t21.B, .int .i64 t21.C, .int .i64 t21.D] 31, cellsC b3 [.int .i64 t52.Kind, .int .i64 t52.A, .int .i64 t52.B, .int .i64 t52.C, .int .i64 t52.D] 31]) (fun s t => True) ?_ ?_
                      · refine c_region ?_
                        refine l_val rfl rfl rfl (r_move (v := .int .i64 a1) rfl) ?_
                        refine l_val rfl rfl rfl (r_eql rfl rfl) ?_
                        refine l_val rfl rfl rfl (r_move (v := .bool (decide (a1 = 5))) rfl) ?_
                        refine split (fun hb => ?_) (fun hb => ?_)
                        · have H152 := cnd_t hb H131; clear H131
                          refine l_val rfl rfl rfl (r_field Try.runUnderlying31 rfl Try.sizeOf3 rfl rfl) ?_
                          refine l_load1 (i := 1) (v := .int .i64 t21.Kind) Try.isAgg3 rfl rfl rfl rfl rfl ?_
                          refine l_val rfl rfl rfl (r_eql rfl rfl) ?_
                          refine l_val rfl rfl rfl (r_pickT (v := .bool (decide (t21.Kind = 9))) rfl rfl) ?_
                          refine l_val rfl rfl rfl (r_move (v := .bool (decide (t21.Kind = 9))) rfl) ?_
                          refine split (fun hb => ?_) (fun hb => ?_)
                          · have H153 := cnd_t hb H152; clear H152
                            refine l_val rfl rfl rfl (r_field Try.runUnderlying31 rfl Try.sizeOf3 rfl rfl) ?_
                            refine l_load1 (i := 2) (v := .int .i64 t52.Kind) Try.isAgg3 rfl rfl rfl rfl rfl ?_
                            refine l_val rfl rfl rfl (r_eql rfl rfl) ?_
                            refine l_val rfl rfl rfl (r_pickT (v := .bool (decide (t52.Kind = 9))) rfl rfl) ?_
                            refine l_val rfl rfl rfl (r_assign (v := .bool (decide (t52.Kind = 9))) rfl) ?_
                            refine l_nil ?_
                            refine c_close (decide (t52.Kind = 9)) () 0 [0, 1, 2] (by exact ⟨rfl, rfl, rfl, rfl, rfl, rfl, rfl, rfl, rfl, rfl, rfl, trivial⟩) (by decide) rfl (by exact ⟨H153, trivial⟩) (Nat.lt_succ_self _)
                          · have H154 := cnd_f hb H152; clear H152
                            refine l_passed rfl rfl rfl ?_
                            refine l_passed rfl rfl rfl ?_
                            refine l_passed rfl rfl rfl ?_
                            refine l_val rfl rfl rfl (r_pickF (v := .bool false) rfl rfl) ?_
                            refine l_val rfl rfl rfl (r_assign (v := .bool false) rfl) ?_
                            refine l_nil ?_
                            refine c_close false () 0 [0, 1, 2] (by exact ⟨rfl, rfl, rfl, rfl, rfl, rfl, rfl, rfl, rfl, rfl, rfl, trivial⟩) (by decide) rfl (by exact ⟨H154, trivial⟩) (Nat.lt_succ_self _)
                        · have H155 := cnd_f hb H131; clear H131
                          refine l_passed rfl rfl rfl ?_
                          refine l_passed rfl rfl rfl ?_
                          refine l_passed rfl rfl rfl ?_
                          refine l_val rfl rfl rfl (r_pickF (v := .bool false) rfl rfl) ?_
                          refine l_val rfl rfl rfl (r_move (v := .bool false) rfl) ?_
                          refine l_passed rfl rfl rfl ?_
                          refine l_passed rfl rfl rfl ?_
                          refine l_passed rfl rfl rfl ?_
                          refine l_val rfl rfl rfl (r_pickF (v := .bool false) rfl rfl) ?_
                          refine l_val rfl rfl rfl (r_assign (v := .bool false) rfl) ?_
                          refine l_nil ?_
                          refine c_close false () 0 [0, 1, 2] (by exact ⟨rfl, rfl, rfl, rfl, rfl, rfl, rfl, rfl, rfl, rfl, rfl, trivial⟩) (by decide) rfl (by exact ⟨H155, trivial⟩) (Nat.lt_succ_self _)
                      · rintro x147 _ gg H132 _
                        replace H132 : R_ruled_j6 a0 a1 x18_2 next1 t21 t52 x147 = some r := H132
                        refine c_tidyF [(0, .slice p0.1 n0 p0.2), (1, .int .i64 a1), (2, .int .i64 a2), (3, .int .i64 a3), (10, .int .i64 x18_2), (11, .pointer (some ⟨b2, 0, none⟩)), (15, .pointer (some ⟨b3, 0, none⟩)), (16, .slice p0.1 n0 p0.2), (17, .int .i64 (a0.length : Int)), (18, .int .i64 x18_2), (147, .bool x147)] [rowV 31 5 (.slice p0.1 n0 p0.2) n0 (a0.map e_edit_Step), cellsC b2 [.int .i64 t21.Kind, .int .i64 t21.A, .int .i64 t21.B, .int .i64 t21.C, .int .i64 t21.D] 31, cellsC b3 [.int .i64 t52.Kind, .int .i64 t52.A, .int .i64 t52.B, .int .i64 t52.C, .int .i64 t52.D] 31] rfl rfl ?_
                        refine c_if (b := x147) rfl (fun hb => ?_) (fun hb => ?_)
                        · have H133 := cnd_t hb H132; clear H132
                          refine c_seq ?_
                          refine c_region ?_
                          refine l_val rfl rfl rfl (r_move (v := .slice p0.1 n0 p0.2) rfl) ?_
                          refine l_val rfl rfl rfl (r_move (v := .int .i64 x18_2) rfl) ?_
                          refine l_val rfl rfl rfl (r_move (v := .int .i64 x18_2) rfl) ?_
                          obtain ⟨t163, h_t163, H134⟩ := bnd_some H133; clear H133
                          refine l_val rfl rfl rfl (r_addG rfl rfl h_t163) ?_
                          obtain ⟨t164, h_t164, H135⟩ := bnd_some H134; clear H134
                          refine l_turn (turns_callB (i := 0) (rds := []) (G := fun x : (Option Addr × Nat) => .slice x.1 t164.length x.2) (C := fun x : (Option Addr × Nat) => rowV 31 5 (.slice x.1 t164.length x.2) t164.length (t164.map e_edit_Step)) rfl (fun w L' S hF hS hi hp hlt ho hA => k115 hp hlt (know_but w S) hn0 h_t164) Try.call115 rfl) rfl rfl rfl (fun p_4 => ?_)
                          refine l_val rfl rfl rfl (r_assign (v := .slice p_4.1 t164.length p_4.2) rfl) ?_
                          refine l_val rfl rfl rfl (r_assign (v := .bool true) rfl) ?_
                          refine l_nil ?_
                          refine c_ret ?_
                          obtain rfl := Option.some.inj H135
                          refine ret2 (v1 := .slice p_4.1 t164.length p_4.2) (v2 := .bool true) rfl rfl rfl (finX p_4 (i := 0) rfl rfl (Imp.refl _))
                        · have H136 := cnd_f hb H132; clear H132
                          refine c_meet (r := r) (σ := Bool) (τ := Unit) (fun s => R_ruled_j7 a0 x18_2 next1 t21 t52 s) (fun s t => [(0, .slice p0.1 n0 p0.2), (1, .int .i64 a1), (2, .int .i64 a2), (3, .int .i64 a3), (10, .int .i64 x18_2), (11, .pointer (some ⟨b2, 0, none⟩)), (15, .pointer (some ⟨b3, 0, none⟩)), (16, .slice p0.1 n0 p0.2), (17, .int .i64 (a0.length : Int)), (18, .int .i64 x18_2), (165, .bool s)]) (fun s t => [rowV 31 5 (.slice p0.1 n0 p0.2) n0 (a0.map e_edit_Step), cellsC b2 [.int .i64 t21.Kind, .int .i64 t21.A, .int .i64 t21.B, .int .i64 t21.C, .int .i64 t21.D] 31, cellsC b3 [.int .i64 t52.Kind, .int .i64 t52.A, .int .i64 t52.B, .int .i64 t52.C, .int .i64 t52.D] 31]) (fun s t => True) ?_ ?_
                          · refine c_region ?_
                            refine l_val rfl rfl rfl (r_move (v := .int .i64 a1) rfl) ?_
                            refine l_val rfl rfl rfl (r_eql rfl rfl) ?_
                            refine l_val rfl rfl rfl (r_move (v := .bool (decide (a1 = 6))) rfl) ?_
                            refine split (fun hb => ?_) (fun hb => ?_)
                            · have H145 := cnd_t hb H136; clear H136
                              refine l_loadN (i := 1) (vs := [.int .i64 t21.Kind, .int .i64 t21.A, .int .i64 t21.B, .int .i64 t21.C, .int .i64 t21.D]) Try.isAgg31 Try.sizeOf31 rfl rfl rfl rfl rfl ?_
                              obtain ⟨t170, h_t170, H146⟩ := bnd_some H145; clear H145
                              refine l_call (k62 h_t170) Try.call62 rfl rfl rfl ?_
                              refine l_val rfl rfl rfl (r_not rfl) ?_
                              refine l_val rfl rfl rfl (r_pickT (v := .bool (!t170)) rfl rfl) ?_
                              refine l_val rfl rfl rfl (r_move (v := .bool (!t170)) rfl) ?_
                              refine split (fun hb => ?_) (fun hb => ?_)
                              · have H147 := cnd_t hb H146; clear H146
                                refine l_val rfl rfl rfl (r_field Try.runUnderlying31 rfl Try.sizeOf3 rfl rfl) ?_
                                refine l_load1 (i := 2) (v := .int .i64 t52.Kind) Try.isAgg3 rfl rfl rfl rfl rfl ?_
                                refine l_val rfl rfl rfl (r_eql rfl rfl) ?_
                                refine l_val rfl rfl rfl (r_move (v := .bool (decide (t52.Kind = 1))) rfl) ?_
                                refine split (fun hb => ?_) (fun hb => ?_)
                                · have H148 := cnd_t hb H147; clear H147
                                  refine l_passed rfl rfl rfl ?_
                                  refine l_passed rfl rfl rfl ?_
                                  refine l_passed rfl rfl rfl ?_
                                  refine l_val rfl rfl rfl (r_pickT (v := .bool true) rfl rfl) ?_
                                  refine l_val rfl rfl rfl (r_pickT (v := .bool true) rfl rfl) ?_
                                  refine l_val rfl rfl rfl (r_assign (v := .bool true) rfl) ?_
                                  refine l_nil ?_
                                  refine c_close true () 0 [0, 1, 2] (by exact ⟨rfl, rfl, rfl, rfl, rfl, rfl, rfl, rfl, rfl, rfl, rfl, trivial⟩) (by decide) rfl (by exact ⟨H148, trivial⟩) (Nat.lt_succ_self _)
                                · have H149 := cnd_f hb H147; clear H147
                                  refine l_val rfl rfl rfl (r_field Try.runUnderlying31 rfl Try.sizeOf3 rfl rfl) ?_
                                  refine l_load1 (i := 2) (v := .int .i64 t52.Kind) Try.isAgg3 rfl rfl rfl rfl rfl ?_
                                  refine l_val rfl rfl rfl (r_eql rfl rfl) ?_
                                  refine l_val rfl rfl rfl (r_pickF (v := .bool (decide (t52.Kind = 2))) rfl rfl) ?_
                                  refine l_val rfl rfl rfl (r_pickT (v := .bool (decide (t52.Kind = 2))) rfl rfl) ?_
                                  refine l_val rfl rfl rfl (r_assign (v := .bool (decide (t52.Kind = 2))) rfl) ?_
                                  refine l_nil ?_
                                  refine c_close (decide (t52.Kind = 2)) () 0 [0, 1, 2] (by exact ⟨rfl, rfl, rfl, rfl, rfl, rfl, rfl, rfl, rfl, rfl, rfl, trivial⟩) (by decide) rfl (by exact ⟨H149, trivial⟩) (Nat.lt_succ_self _)
                              · have H150 := cnd_f hb H146; clear H146
                                refine l_passed rfl rfl rfl ?_
                                refine l_passed rfl rfl rfl ?_
                                refine l_passed rfl rfl rfl ?_
                                refine l_passed rfl rfl rfl ?_
                                refine l_passed rfl rfl rfl ?_
                                refine l_passed rfl rfl rfl ?_
                                refine l_passed rfl rfl rfl ?_
                                refine l_passed rfl rfl rfl ?_
                                refine l_val rfl rfl rfl (r_pickF (v := .bool false) rfl rfl) ?_
                                refine l_val rfl rfl rfl (r_assign (v := .bool false) rfl) ?_
                                refine l_nil ?_
                                refine c_close false () 0 [0, 1, 2] (by exact ⟨rfl, rfl, rfl, rfl, rfl, rfl, rfl, rfl, rfl, rfl, rfl, trivial⟩) (by decide) rfl (by exact ⟨H150, trivial⟩) (Nat.lt_succ_self _)
                            · have H151 := cnd_f hb H136; clear H136
                              refine l_passed rfl rfl rfl ?_
                              refine l_passed rfl rfl rfl ?_
                              refine l_passed rfl rfl rfl ?_
                              refine l_val rfl rfl rfl (r_pickF (v := .bool false) rfl rfl) ?_
                              refine l_val rfl rfl rfl (r_move (v := .bool false) rfl) ?_
                              refine l_passed rfl rfl rfl ?_
                              refine l_passed rfl rfl rfl ?_
                              refine l_passed rfl rfl rfl ?_
                              refine l_passed rfl rfl rfl ?_
                              refine l_passed rfl rfl rfl ?_
                              refine l_passed rfl rfl rfl ?_
                              refine l_passed rfl rfl rfl ?_
                              refine l_passed rfl rfl rfl ?_
                              refine l_val rfl rfl rfl (r_pickF (v := .bool false) rfl rfl) ?_
                              refine l_val rfl rfl rfl (r_assign (v := .bool false) rfl) ?_
                              refine l_nil ?_
                              refine c_close false () 0 [0, 1, 2] (by exact ⟨rfl, rfl, rfl, rfl, rfl, rfl, rfl, rfl, rfl, rfl, rfl, trivial⟩) (by decide) rfl (by exact ⟨H151, trivial⟩) (Nat.lt_succ_self _)
                          · rintro x165 _ gg H137 _
                            replace H137 : R_ruled_j7 a0 x18_2 next1 t21 t52 x165 = some r := H137
                            refine c_tidyF [(0, .slice p0.1 n0 p0.2), (1, .int .i64 a1), (2, .int .i64 a2), (3, .int .i64 a3), (10, .int .i64 x18_2), (11, .pointer (some ⟨b2, 0, none⟩)), (15, .pointer (some ⟨b3, 0, none⟩)), (16, .slice p0.1 n0 p0.2), (17, .int .i64 (a0.length : Int)), (18, .int .i64 x18_2), (165, .bool x165)] [rowV 31 5 (.slice p0.1 n0 p0.2) n0 (a0.map e_edit_Step), cellsC b2 [.int .i64 t21.Kind, .int .i64 t21.A, .int .i64 t21.B, .int .i64 t21.C, .int .i64 t21.D] 31, cellsC b3 [.int .i64 t52.Kind, .int .i64 t52.A, .int .i64 t52.B, .int .i64 t52.C, .int .i64 t52.D] 31] rfl rfl ?_
                            refine c_if (b := x165) rfl (fun hb => ?_) (fun hb => ?_)
                            · have H138 := cnd_t hb H137; clear H137
                              refine c_seq ?_
                              exact c_regionD (Kd.p :: Kd.p :: Kd.p :: Kd.p :: Kd.p :: Kd.d [2] _ :: Kd.d [1] _ :: Kd.d [0] _ :: Kd.sr 0 _ :: Kd.d [0] _ :: Kd.sr 0 _ :: []) 0 mixed (by
                                refine d_val rfl rfl (r_move (v := .slice p0.1 n0 p0.2) rfl) ?_
                                refine d_val rfl rfl (r_move (v := .int .i64 x18_2) rfl) ?_
                                refine d_val rfl rfl (r_move (v := .slice p0.1 n0 p0.2) rfl) ?_
                                refine d_val rfl rfl (r_move (v := .int .i64 x18_2) rfl) ?_
                                have h_t187 := bnd_val H138
                                have H139 := bnd_rest H138
                                refine d_val rfl rfl (r_addG rfl rfl h_t187) ?_
                                refine d_loadN (i := 2) (vs := [.int .i64 t52.Kind, .int .i64 t52.A, .int .i64 t52.B, .int .i64 t52.C, .int .i64 t52.D]) Try.isAgg31 Try.sizeOf31 rfl rfl rfl rfl ?_
                                refine d_loadN (i := 1) (vs := [.int .i64 t21.Kind, .int .i64 t21.A, .int .i64 t21.B, .int .i64 t21.C, .int .i64 t21.D]) Try.isAgg31 Try.sizeOf31 rfl rfl rfl rfl ?_
                                have h_t190 := bnd_val H139
                                have H140 := bnd_rest H139
                                refine d_readD (fun w L' hF hS hi => run_indexO Try.underlying22 Try.sizeOf31 rfl rfl (rowOf (i := 0) (E := 31) (sz := 5) (n := n0) (a := p0.1) (c := p0.2) hS ((hi 0 (by simp)).trans rfl)) hn0 h_t190) rfl rfl ?_
                                have h_l0_5 := bnd_val H140
                                have H141 := bnd_rest H140
                                refine d_storeG (q := 0) (j := 0) (i := x18_2) (sz := 5) (hm := hn0) (f := e_edit_Step) (vs := [.int .i64 t52.Kind, .int .i64 t52.A, .int .i64 t52.B, .int .i64 t52.C, .int .i64 t52.D]) Try.sizeOf31 rfl rfl rfl rfl rfl rfl rfl rfl rfl (fun y_ hy_ => by first | rfl | (cases hy_.symm.trans h_t190; rfl)) h_l0_5 ?_
                                have h_t191 := bnd_val H141
                                have H142 := bnd_rest H141
                                refine d_readD (fun w L' hF hS hi => run_indexO Try.underlying22 Try.sizeOf31 rfl rfl (rowOf (i := 0) (E := 31) (sz := 5) (n := n0) (a := p0.1) (c := p0.2) hS ((hi 0 (by simp)).trans rfl)) (gSet_n hn0 h_l0_5) h_t191) rfl rfl ?_
                                have h_l0_6 := bnd_val H142
                                have H143 := bnd_rest H142
                                refine d_storeG (q := 0) (j := 0) (i := (val (gI (x18_2 + 1)))) (sz := 5) (hm := (gSet_n hn0 h_l0_5)) (f := e_edit_Step) (vs := [.int .i64 t21.Kind, .int .i64 t21.A, .int .i64 t21.B, .int .i64 t21.C, .int .i64 t21.D]) Try.sizeOf31 rfl rfl rfl rfl rfl rfl rfl rfl rfl (fun y_ hy_ => by first | rfl | (cases hy_.symm.trans h_t191; rfl)) h_l0_6 ?_
                                refine d_nil ?_
                                refine c_seq ?_
                                refine c_region ?_
                                refine l_val rfl rfl rfl (r_move (v := .slice p0.1 n0 p0.2) rfl) ?_
                                refine l_val rfl rfl rfl (r_assign (v := .slice p0.1 n0 p0.2) rfl) ?_
                                refine l_val rfl rfl rfl (r_assign (v := .bool true) rfl) ?_
                                refine l_nil ?_
                                refine c_ret ?_
                                obtain rfl := Option.some.inj H143
                                refine ret2 (v1 := .slice p0.1 n0 p0.2) (v2 := .bool true) rfl rfl rfl (finX p0 (i := 0) rfl (by first | rfl | rw [(show n0 = (val (gSet (val (gSet a0 x18_2 t52)) (val (gI (x18_2 + 1))) t21)).length from (gSet_n (gSet_n hn0 h_l0_5) h_l0_6))]) (by first | exact Imp.refl _ | exact Imp.of (by rw [(show n0 = (val (gSet (val (gSet a0 x18_2 t52)) (val (gI (x18_2 + 1))) t21)).length from (gSet_n (gSet_n hn0 h_l0_5) h_l0_6))])))
                                ) (by kernel_rfl)
                            · have H144 := cnd_f hb H137; clear H137
                              refine c_skip ?_
                              refine c_close () () 0 [0] (by exact ⟨rfl, rfl, rfl, rfl, rfl, rfl, rfl, trivial⟩) (by decide) rfl (by exact ⟨H144, trivial⟩) (Nat.lt_succ_self _)
    · rintro _ _ gg H87 _
      replace H87 : R_ruled_j2 x18_2 next1 = some r := H87
      refine c_tidyF [(0, .slice p0.1 n0 p0.2), (1, .int .i64 a1), (2, .int .i64 a2), (3, .int .i64 a3), (16, .slice p0.1 n0 p0.2), (17, .int .i64 (a0.length : Int)), (18, .int .i64 x18_2)] [rowV 31 5 (.slice p0.1 n0 p0.2) n0 (a0.map e_edit_Step)] rfl rfl ?_
      refine c_region ?_
      obtain ⟨t193, h_t193, H88⟩ := bnd_some H87; clear H87
      refine l_val rfl rfl rfl (r_addG rfl rfl h_t193) ?_
      refine l_val rfl rfl rfl (r_move (v := .int .i64 t193) rfl) ?_
      refine l_nil ?_
      refine c_close t193 () m1 [0] (by exact ⟨rfl, rfl, rfl, rfl, rfl, rfl, rfl, trivial⟩) (by decide) rfl (by exact ⟨(by subst hn1; exact H88), trivial⟩) (Nat.lt_succ_self _)
  · have H168 := cnd_f hb H85; clear H85
    refine c_exit ?_
    refine c_seq ?_
    refine c_region ?_
    refine l_val rfl rfl rfl (r_move (v := .slice p0.1 n0 p0.2) rfl) ?_
    refine l_val rfl rfl rfl (r_assign (v := .slice p0.1 n0 p0.2) rfl) ?_
    refine l_val rfl rfl rfl (r_assign (v := .bool false) rfl) ?_
    refine l_nil ?_
    refine c_ret ?_
    obtain rfl := Option.some.inj H168
    refine ret2 (v1 := .slice p0.1 n0 p0.2) (v2 := .bool false) rfl rfl rfl (finX p0 (i := 0) rfl (by first | rfl | rw [(show n0 = a0.length from hn0)]) (by first | exact Imp.refl _ | exact Imp.of (by rw [(show n0 = a0.length from hn0)])))
end Go.Proofs.Ytllnhnnpmmnomaa
