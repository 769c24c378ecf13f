/- EditTidies, the rules: the walks, printed by our generator; each follows its model. Conditions: the model yields a value. -/
import Derived.Test.YtllnhnnpmmnomaaKDa
namespace Go.Proofs.Ytllnhnnpmmnomaa
open Go Go.Vc Go.Md Go.M Go.Lx
set_option maxRecDepth 100000
set_option maxHeartbeats 4000000
set_option linter.unusedVariables false

theorem k57 {a0 : Int} {a1 : Int} {a2 : Int} {r : Bool} (H : edit_outside a0 a1 a2 = some r) : Ret Try.prog 57 [.int .i64 a0, .int .i64 a1, .int .i64 a2] (.bool r) := by
  refine enterRet (n := 15) Try.func57 rfl rfl rfl (fun wd => ?_)
  refine c_seq ?_
  refine c_region ?_
  refine l_val rfl rfl rfl (r_assign (v := .bool false) rfl) ?_
  refine l_nil ?_
  refine c_seq ?_
  refine c_region ?_
  refine l_val rfl rfl rfl (r_move (v := .int .i64 a0) rfl) ?_
  refine l_val rfl rfl rfl (r_move (v := .int .i64 a1) rfl) ?_
  refine l_val rfl rfl rfl (r_lss rfl rfl) ?_
  refine l_val rfl rfl rfl (r_move (v := .bool (decide (a0 < a1))) rfl) ?_
  refine split (fun hb => ?_) (fun hb => ?_)
  · have H3 := cnd_t hb H; clear H
    refine l_passed rfl rfl rfl ?_
    refine l_passed rfl rfl rfl ?_
    refine l_passed rfl rfl rfl ?_
    refine l_val rfl rfl rfl (r_pickT (v := .bool true) rfl rfl) ?_
    refine l_val rfl rfl rfl (r_assign (v := .bool true) rfl) ?_
    refine l_nil ?_
    refine c_ret ?_
    obtain rfl := Option.some.inj H3
    refine ret1 (v := .bool true) rfl rfl (fin rfl)
  · have H4 := cnd_f hb H; clear H
    refine l_val rfl rfl rfl (r_move (v := .int .i64 a0) rfl) ?_
    refine l_val rfl rfl rfl (r_move (v := .int .i64 a2) rfl) ?_
    refine l_val rfl rfl rfl (r_gtr rfl rfl) ?_
    refine l_val rfl rfl rfl (r_pickF (v := .bool (decide (a2 < a0))) rfl rfl) ?_
    refine l_val rfl rfl rfl (r_assign (v := .bool (decide (a2 < a0))) rfl) ?_
    refine l_nil ?_
    refine c_ret ?_
    obtain rfl := Option.some.inj H4
    refine ret1 (v := .bool (decide (a2 < a0))) rfl rfl (fin rfl)
theorem k111 {a0 : T_edit_Step} {a1 : Int} {a2 : Int} {r : Int × Int × Bool} (H : edit_Step_size a0 a1 a2 = some r) : Ret Try.prog 111 [.agg #[.int .i64 a0.Kind, .int .i64 a0.A, .int .i64 a0.B, .int .i64 a0.C, .int .i64 a0.D], .int .i64 a1, .int .i64 a2] (.tuple #[.int .i64 r.1, .int .i64 r.2.1, .bool r.2.2]) := by
  refine enterRet (n := 48) Try.func111 rfl rfl rfl (fun wd => ?_)
  refine c_seq ?_
  refine c_region ?_
  refine l_box (cs := [.int .i64 a0.Kind, .int .i64 a0.A, .int .i64 a0.B, .int .i64 a0.C, .int .i64 a0.D]) rfl rfl rfl rfl (fun b1 => ?_)
  refine l_val rfl rfl rfl (r_assign (v := .int .i64 0) rfl) ?_
  refine l_val rfl rfl rfl (r_assign (v := .int .i64 0) rfl) ?_
  refine l_val rfl rfl rfl (r_assign (v := .bool false) rfl) ?_
  refine l_nil ?_
  refine c_meet (r := r) (σ := Unit) (τ := Unit) (fun s => edit_Step_size_j1 a1 a2) (fun s t => [(1, .int .i64 a1), (2, .int .i64 a2)]) (fun s t => []) (fun s t => True) ?_ ?_
  · refine c_seq ?_
    refine c_region ?_
    refine l_val rfl rfl rfl (r_field Try.runUnderlying31 rfl Try.sizeOf3 rfl rfl) ?_
    refine l_load1 (i := 0) (v := .int .i64 a0.Kind) Try.isAgg3 rfl rfl rfl rfl rfl ?_
    refine l_nil ?_
    refine c_block ?_
    refine c_seq ?_
    refine c_region ?_
    refine l_val rfl rfl rfl (r_eql rfl rfl) ?_
    refine l_val rfl rfl rfl (r_assign (v := .bool (decide (a0.Kind = 1))) rfl) ?_
    refine l_nil ?_
    refine c_if (b := (decide (a0.Kind = 1))) rfl (fun hb => ?_) (fun hb => ?_)
    · have H15 := cnd_t hb H; clear H
      refine c_seq ?_
      refine c_region ?_
      refine l_val rfl rfl rfl (r_field Try.runUnderlying31 rfl Try.sizeOf3 rfl rfl) ?_
      refine l_load1 (i := 0) (v := .int .i64 a0.A) Try.isAgg3 rfl rfl rfl rfl rfl ?_
      refine l_val rfl rfl rfl (r_geq rfl rfl) ?_
      refine l_nil ?_
      refine c_if (b := (decide (5 ≤ a0.A))) rfl (fun hb => ?_) (fun hb => ?_)
      · have H16 := cnd_t hb H15; clear H15
        refine c_seq ?_
        refine c_region ?_
        refine l_val rfl rfl rfl (r_move (v := .int .i64 a2) rfl) ?_
        refine l_val rfl rfl rfl (r_move (v := .int .i64 a1) rfl) ?_
        refine l_val rfl rfl rfl (r_assign (v := .int .i64 a2) rfl) ?_
        refine l_val rfl rfl rfl (r_assign (v := .int .i64 a1) rfl) ?_
        refine l_val rfl rfl rfl (r_assign (v := .bool true) rfl) ?_
        refine l_nil ?_
        refine c_ret ?_
        obtain rfl := Option.some.inj H16
        refine ret3 (v1 := .int .i64 a2) (v2 := .int .i64 a1) (v3 := .bool true) rfl rfl rfl rfl (fin rfl)
      · have H17 := cnd_f hb H15; clear H15
        refine c_skip ?_
        refine c_close () () 0 [] (by exact ⟨rfl, rfl, trivial⟩) (by decide) rfl (by exact ⟨H17, trivial⟩) (Nat.lt_succ_self _)
    · have H18 := cnd_f hb H; clear H
      refine c_seq ?_
      refine c_region ?_
      refine l_val rfl rfl rfl (r_eql rfl rfl) ?_
      refine l_val rfl rfl rfl (r_assign (v := .bool (decide (a0.Kind = 2))) rfl) ?_
      refine l_nil ?_
      refine c_if (b := (decide (a0.Kind = 2))) rfl (fun hb => ?_) (fun hb => ?_)
      · have H19 := cnd_t hb H18; clear H18
        refine c_seq ?_
        exact c_regionD (Kd.p :: Kd.d [0] _ :: Kd.p :: Kd.d [0] _ :: Kd.p :: Kd.d [0] _ :: Kd.p :: Kd.d [0] _ :: Kd.p :: Kd.p :: Kd.p :: Kd.p :: Kd.p :: Kd.d [0] _ :: Kd.p :: Kd.d [0] _ :: Kd.p :: Kd.p :: Kd.p :: Kd.p :: Kd.p :: Kd.p :: Kd.p :: []) 0 mixed (by
          refine d_val rfl rfl (r_field Try.runUnderlying31 rfl Try.sizeOf3 rfl rfl) ?_
          refine d_load1 (i := 0) (v := .int .i64 a0.C) Try.isAgg3 rfl rfl rfl rfl ?_
          refine d_val rfl rfl (r_field Try.runUnderlying31 rfl Try.sizeOf3 rfl rfl) ?_
          refine d_load1 (i := 0) (v := .int .i64 a0.D) Try.isAgg3 rfl rfl rfl rfl ?_
          refine d_val rfl rfl (r_field Try.runUnderlying31 rfl Try.sizeOf3 rfl rfl) ?_
          refine d_load1 (i := 0) (v := .int .i64 a0.A) Try.isAgg3 rfl rfl rfl rfl ?_
          refine d_val rfl rfl (r_field Try.runUnderlying31 rfl Try.sizeOf3 rfl rfl) ?_
          refine d_load1 (i := 0) (v := .int .i64 a0.C) Try.isAgg3 rfl rfl rfl rfl ?_
          have h_t28 := bnd_val H19
          have H20 := bnd_rest H19
          refine d_val rfl rfl (r_addG rfl rfl h_t28) ?_
          refine d_val rfl rfl (r_move (v := .int .i64 a1) rfl) ?_
          refine d_val rfl rfl (r_leq rfl rfl) ?_
          refine d_val rfl rfl (r_move (v := .bool (decide ((val (gI (a0.A + a0.C))) ≤ a1))) rfl) ?_
          refine splitS (fun hb => ?_) (fun hb => ?_)
          · have H21 := cnd_t hb H20
            refine d_val rfl rfl (r_field Try.runUnderlying31 rfl Try.sizeOf3 rfl rfl) ?_
            refine d_load1 (i := 0) (v := .int .i64 a0.B) Try.isAgg3 rfl rfl rfl rfl ?_
            refine d_val rfl rfl (r_field Try.runUnderlying31 rfl Try.sizeOf3 rfl rfl) ?_
            refine d_load1 (i := 0) (v := .int .i64 a0.D) Try.isAgg3 rfl rfl rfl rfl ?_
            have h_t36 := bnd_val H21
            have H22 := bnd_rest H21
            refine d_val rfl rfl (r_addG rfl rfl h_t36) ?_
            refine d_val rfl rfl (r_move (v := .int .i64 a2) rfl) ?_
            refine d_val rfl rfl (r_leq rfl rfl) ?_
            refine d_val rfl rfl (r_pickT (v := .bool (decide ((val (gI (a0.B + a0.D))) ≤ a2))) rfl rfl) ?_
            refine d_val rfl rfl (r_assign (v := .int .i64 a0.C) rfl) ?_
            refine d_val rfl rfl (r_assign (v := .int .i64 a0.D) rfl) ?_
            refine d_val rfl rfl (r_assign (v := .bool (decide ((val (gI (a0.B + a0.D))) ≤ a2))) rfl) ?_
            refine d_nil ?_
            refine c_ret ?_
            obtain rfl := Option.some.inj H22
            refine ret3 (v1 := .int .i64 a0.C) (v2 := .int .i64 a0.D) (v3 := .bool (decide ((val (gI (a0.B + a0.D))) ≤ a2))) rfl rfl rfl rfl (fin rfl)
          · have H23 := cnd_f hb H20
            refine d_pass rfl rfl ?_
            refine d_pass rfl rfl ?_
            refine d_pass rfl rfl ?_
            refine d_pass rfl rfl ?_
            refine d_pass rfl rfl ?_
            refine d_pass rfl rfl ?_
            refine d_pass rfl rfl ?_
            refine d_val rfl rfl (r_pickF (v := .bool false) rfl rfl) ?_
            refine d_val rfl rfl (r_assign (v := .int .i64 a0.C) rfl) ?_
            refine d_val rfl rfl (r_assign (v := .int .i64 a0.D) rfl) ?_
            refine d_val rfl rfl (r_assign (v := .bool false) rfl) ?_
            refine d_nil ?_
            refine c_ret ?_
            obtain rfl := Option.some.inj H23
            refine ret3 (v1 := .int .i64 a0.C) (v2 := .int .i64 a0.D) (v3 := .bool false) rfl rfl rfl rfl (fin rfl)
          ) (by kernel_rfl)
      · have H24 := cnd_f hb H18; clear H18
        refine c_seq ?_
        refine c_region ?_
        refine l_val rfl rfl rfl (r_eql rfl rfl) ?_
        refine l_val rfl rfl rfl (r_assign (v := .bool (decide (a0.Kind = 3))) rfl) ?_
        refine l_nil ?_
        refine c_if (b := (decide (a0.Kind = 3))) rfl (fun hb => ?_) (fun hb => ?_)
        · have H25 := cnd_t hb H24; clear H24
          refine c_seq ?_
          exact c_regionD (Kd.p :: Kd.d [0] _ :: Kd.p :: Kd.d [0] _ :: Kd.p :: Kd.p :: Kd.p :: []) 0 mixed (by
            refine d_val rfl rfl (r_field Try.runUnderlying31 rfl Try.sizeOf3 rfl rfl) ?_
            refine d_load1 (i := 0) (v := .int .i64 a0.A) Try.isAgg3 rfl rfl rfl rfl ?_
            refine d_val rfl rfl (r_field Try.runUnderlying31 rfl Try.sizeOf3 rfl rfl) ?_
            refine d_load1 (i := 0) (v := .int .i64 a0.B) Try.isAgg3 rfl rfl rfl rfl ?_
            refine d_val rfl rfl (r_assign (v := .int .i64 a0.A) rfl) ?_
            refine d_val rfl rfl (r_assign (v := .int .i64 a0.B) rfl) ?_
            refine d_val rfl rfl (r_assign (v := .bool true) rfl) ?_
            refine d_nil ?_
            refine c_ret ?_
            obtain rfl := Option.some.inj H25
            refine ret3 (v1 := .int .i64 a0.A) (v2 := .int .i64 a0.B) (v3 := .bool true) rfl rfl rfl rfl (fin rfl)
            ) (by kernel_rfl)
        · have H26 := cnd_f hb H24; clear H24
          refine c_skip ?_
          refine c_close () () 0 [] (by exact ⟨rfl, rfl, trivial⟩) (by decide) rfl (by exact ⟨H26, trivial⟩) (Nat.lt_succ_self _)
  · rintro _ _ gg H14 _
    replace H14 : edit_Step_size_j1 a1 a2 = some r := H14
    refine c_tidyF [(1, .int .i64 a1), (2, .int .i64 a2)] [] rfl rfl ?_
    refine c_seq ?_
    refine c_region ?_
    refine l_val rfl rfl rfl (r_move (v := .int .i64 a1) rfl) ?_
    refine l_val rfl rfl rfl (r_move (v := .int .i64 a2) rfl) ?_
    refine l_val rfl rfl rfl (r_assign (v := .int .i64 a1) rfl) ?_
    refine l_val rfl rfl rfl (r_assign (v := .int .i64 a2) rfl) ?_
    refine l_val rfl rfl rfl (r_assign (v := .bool true) rfl) ?_
    refine l_nil ?_
    refine c_ret ?_
    obtain rfl := Option.some.inj H14
    refine ret3 (v1 := .int .i64 a1) (v2 := .int .i64 a2) (v3 := .bool true) rfl rfl rfl rfl (fin rfl)
theorem k59 {a0 : (List T_edit_Step)} {v0 : Value} {a1 : Int} {a2 : Int} {r : Int × Int × Int} {w : World} {h : Heap} (hw : Know h w noS) (f0 : FrS h 5 v0 (a0.map e_edit_Step)) (H : edit_size a0 a1 a2 = some r) : Does Try.prog 59 (List.toArray [v0, .int .i64 a1, .int .i64 a2]) w (fun v w' => v = (.tuple #[.int .i64 r.1, .int .i64 r.2.1, .int .i64 r.2.2]) ∧ Grow w w') := by
  refine enter (n := 37) Try.func59 rfl rfl rfl noS [] (Sat.nil _ _) ?_
  refine c_seq ?_
  refine c_region ?_
  refine l_val rfl rfl rfl (r_assign (v := .int .i64 0) rfl) ?_
  refine l_val rfl rfl rfl (r_assign (v := .int .i64 0) rfl) ?_
  refine l_val rfl rfl rfl (r_assign (v := .int .i64 0) rfl) ?_
  refine l_nil ?_
  refine c_seq ?_
  refine c_seq ?_
  refine c_region ?_
  refine l_val rfl rfl rfl (r_move (v := .int .i64 a1) rfl) ?_
  obtain ⟨t13, h_t13, H16⟩ := bnd_some H; clear H
  refine l_call (k57 h_t13) Try.call57 rfl rfl rfl ?_
  refine l_val rfl rfl rfl (r_move (v := .bool t13) rfl) ?_
  refine split (fun hb => ?_) (fun hb => ?_)
  · have H17 := cnd_t hb H16; clear H16
    refine l_passed rfl rfl rfl ?_
    refine l_passed rfl rfl rfl ?_
    refine l_val rfl rfl rfl (r_pickT (v := .bool true) rfl rfl) ?_
    refine l_nil ?_
    refine c_true rfl ?_
    refine c_seq ?_
    refine c_region ?_
    refine l_val rfl rfl rfl (r_assign (v := .int .i64 0) rfl) ?_
    refine l_val rfl rfl rfl (r_assign (v := .int .i64 0) rfl) ?_
    refine l_val rfl rfl rfl (r_assign (v := .int .i64 2) rfl) ?_
    refine l_nil ?_
    refine c_ret ?_
    obtain rfl := Option.some.inj H17
    refine ret3 (v1 := .int .i64 0) (v2 := .int .i64 0) (v3 := .int .i64 2) rfl rfl rfl rfl (fin rfl)
  · have H18 := cnd_f hb H16; clear H16
    refine l_val rfl rfl rfl (r_move (v := .int .i64 a2) rfl) ?_
    obtain ⟨t16, h_t16, H19⟩ := bnd_some H18; clear H18
    refine l_call (k57 h_t16) Try.call57 rfl rfl rfl ?_
    refine l_val rfl rfl rfl (r_pickF (v := .bool t16) rfl rfl) ?_
    refine l_nil ?_
    refine c_if (b := t16) rfl (fun hb => ?_) (fun hb => ?_)
    · have H20 := cnd_t hb H19; clear H19
      refine c_seq ?_
      refine c_region ?_
      refine l_val rfl rfl rfl (r_assign (v := .int .i64 0) rfl) ?_
      refine l_val rfl rfl rfl (r_assign (v := .int .i64 0) rfl) ?_
      refine l_val rfl rfl rfl (r_assign (v := .int .i64 2) rfl) ?_
      refine l_nil ?_
      refine c_ret ?_
      obtain rfl := Option.some.inj H20
      refine ret3 (v1 := .int .i64 0) (v2 := .int .i64 0) (v3 := .int .i64 2) rfl rfl rfl rfl (fin rfl)
    · have H21 := cnd_f hb H19; clear H19
      refine c_skip ?_
      refine c_meet (r := r) (σ := Int × Int) (τ := Unit) (fun s => edit_size_j1 s.1 s.2) (fun s t => [(1, .int .i64 s.1), (2, .int .i64 s.2)]) (fun s t => []) (fun s t => True) ?_ ?_
      · refine c_seq ?_
        refine c_region ?_
        refine l_val rfl rfl rfl (r_move (v := v0) rfl) ?_
        refine l_val rfl rfl rfl (r_lenF Try.underlying22 rfl f0 rfl) ?_
        refine l_val rfl rfl rfl (r_move (v := .int .i64 0) rfl) ?_
        refine l_nil ?_
        refine c_block ?_
        refine c_fix (σ := Int × Int × Int) (τ := Unit) (fun next2 s => edit_size_l2 a0 next2 s.1 s.2.1 s.2.2) (fun s t => [(1, .int .i64 s.1), (2, .int .i64 s.2.1), (18, v0), (19, .int .i64 (a0.length : Int)), (20, .int .i64 s.2.2)]) (fun s t => []) (fun s t => True) (a1, a2, 0) () [] H21 (by exact trivial) (by exact ⟨rfl, rfl, rfl, rfl, rfl, trivial⟩) (by decide) rfl ?_
        rintro ⟨x1_3, x2_3, x20_2⟩ _ m2 gg H23 _
        clear H21
        replace H23 : edit_size_l2 a0 (it (fun next2 s => edit_size_l2 a0 next2 s.1 s.2.1 s.2.2) m2) x1_3 x2_3 x20_2 = some r := H23
        generalize hn2 : it (fun next2 s => edit_size_l2 a0 next2 s.1 s.2.1 s.2.2) m2 = next2 at H23
        refine c_tidyF [(1, .int .i64 x1_3), (2, .int .i64 x2_3), (18, v0), (19, .int .i64 (a0.length : Int)), (20, .int .i64 x20_2)] [] rfl rfl ?_
        refine c_seq ?_
        refine c_region ?_
        refine l_val rfl rfl rfl (r_lss rfl rfl) ?_
        refine l_nil ?_
        refine c_seq ?_
        refine c_if (b := (decide (x20_2 < (a0.length : Int)))) rfl (fun hb => ?_) (fun hb => ?_)
        · have H24 := cnd_t hb H23; clear H23
          refine c_skip ?_
          refine c_seq ?_
          refine c_block ?_
          refine c_seq ?_
          refine c_region ?_
          obtain ⟨t22, h_t22, H25⟩ := bnd_some H24; clear H24
          refine l_val rfl rfl rfl (r_indexF Try.underlying22 Try.sizeOf31 rfl rfl f0 h_t22) ?_
          refine l_read (fun w hF hS => run_loadGN (f := e_edit_Step) (i := x20_2) (sz := 5) (j := 0) (vs := [.int .i64 t22.Kind, .int .i64 t22.A, .int .i64 t22.B, .int .i64 t22.C, .int .i64 t22.D]) Try.isAgg31 Try.sizeOf31 rfl rfl (f0.row (hw.now hF)) h_t22 rfl) rfl rfl rfl ?_
          refine l_alloc (cs := [.int .i64 0, .int .i64 0, .int .i64 0, .int .i64 0, .int .i64 0]) Try.zeroValue31 rfl rfl rfl (fun b1 => ?_)
          refine l_store (i := 0) (vs := [.int .i64 t22.Kind, .int .i64 t22.A, .int .i64 t22.B, .int .i64 t22.C, .int .i64 t22.D]) (cs' := [.int .i64 t22.Kind, .int .i64 t22.A, .int .i64 t22.B, .int .i64 t22.C, .int .i64 t22.D]) Try.sizeOf31 rfl rfl rfl rfl rfl rfl rfl rfl rfl ?_
          refine l_nil ?_
          refine c_seq ?_
          refine c_region ?_
          refine l_val rfl rfl rfl (r_assign (v := .bool false) rfl) ?_
          refine l_nil ?_
          refine c_seq ?_
          refine c_region ?_
          refine l_loadN (i := 0) (vs := [.int .i64 t22.Kind, .int .i64 t22.A, .int .i64 t22.B, .int .i64 t22.C, .int .i64 t22.D]) Try.isAgg31 Try.sizeOf31 rfl rfl rfl rfl rfl ?_
          refine l_val rfl rfl rfl (r_move (v := .int .i64 x1_3) rfl) ?_
          refine l_val rfl rfl rfl (r_move (v := .int .i64 x2_3) rfl) ?_
          obtain ⟨t28, h_t28, H26⟩ := bnd_some H25; clear H25
          refine l_call (k111 h_t28) Try.call111 rfl rfl rfl ?_
          refine l_val rfl rfl rfl (r_move (v := .tuple #[.int .i64 t28.1, .int .i64 t28.2.1, .bool t28.2.2]) rfl) ?_
          refine l_val rfl rfl rfl (r_extract (v := .int .i64 t28.1) rfl rfl) ?_
          refine l_val rfl rfl rfl (r_extract (v := .int .i64 t28.2.1) rfl rfl) ?_
          refine l_val rfl rfl rfl (r_extract (v := .bool t28.2.2) rfl rfl) ?_
          refine l_val rfl rfl rfl (r_assign (v := .int .i64 t28.1) rfl) ?_
          refine l_val rfl rfl rfl (r_assign (v := .int .i64 t28.2.1) rfl) ?_
          refine l_val rfl rfl rfl (r_assign (v := .bool t28.2.2) rfl) ?_
          refine l_nil ?_
          refine c_seq ?_
          refine c_region ?_
          refine l_val rfl rfl rfl (r_move (v := .bool t28.2.2) rfl) ?_
          refine l_val rfl rfl rfl (r_not rfl) ?_
          refine l_nil ?_
          refine c_if (b := (!t28.2.2)) rfl (fun hb => ?_) (fun hb => ?_)
          · have H27 := cnd_t hb H26; clear H26
            refine c_seq ?_
            refine c_region ?_
            refine l_val rfl rfl rfl (r_assign (v := .int .i64 0) rfl) ?_
            refine l_val rfl rfl rfl (r_assign (v := .int .i64 0) rfl) ?_
            refine l_val rfl rfl rfl (r_assign (v := .int .i64 7) rfl) ?_
            refine l_nil ?_
            refine c_ret ?_
            obtain rfl := Option.some.inj H27
            refine ret3 (v1 := .int .i64 0) (v2 := .int .i64 0) (v3 := .int .i64 7) rfl rfl rfl rfl (fin rfl)
          · have H28 := cnd_f hb H26; clear H26
            refine c_skip ?_
            refine c_region ?_
            obtain ⟨t34, h_t34, H29⟩ := bnd_some H28; clear H28
            refine l_val rfl rfl rfl (r_addG rfl rfl h_t34) ?_
            refine l_val rfl rfl rfl (r_move (v := .int .i64 t34) rfl) ?_
            refine l_nil ?_
            refine c_close (t28.1, t28.2.1, t34) () m2 [] (by exact ⟨rfl, rfl, rfl, rfl, rfl, trivial⟩) (by decide) rfl (by exact ⟨(by subst hn2; exact H29), trivial⟩) (Nat.lt_succ_self _)
        · have H30 := cnd_f hb H23; clear H23
          refine c_exit ?_
          refine c_close (x1_3, x2_3) () 0 [] (by exact ⟨rfl, rfl, trivial⟩) (by decide) rfl (by exact ⟨H30, trivial⟩) (Nat.lt_succ_self _)
      · rintro ⟨x1, x2⟩ _ gg H22 _
        replace H22 : edit_size_j1 x1 x2 = some r := H22
        refine c_tidyF [(1, .int .i64 x1), (2, .int .i64 x2)] [] rfl rfl ?_
        refine c_seq ?_
        refine c_region ?_
        refine l_val rfl rfl rfl (r_move (v := .int .i64 x1) rfl) ?_
        refine l_val rfl rfl rfl (r_move (v := .int .i64 x2) rfl) ?_
        refine l_val rfl rfl rfl (r_assign (v := .int .i64 x1) rfl) ?_
        refine l_val rfl rfl rfl (r_assign (v := .int .i64 x2) rfl) ?_
        refine l_val rfl rfl rfl (r_assign (v := .int .i64 0) rfl) ?_
        refine l_nil ?_
        refine c_ret ?_
        obtain rfl := Option.some.inj H22
        refine ret3 (v1 := .int .i64 x1) (v2 := .int .i64 x2) (v3 := .int .i64 0) rfl rfl rfl rfl (fin rfl)
theorem k60 {a0 : T_edit_Step} {a1 : Int} {a2 : Int} {r : Bool} (H : edit_Step_neutral a0 a1 a2 = some r) : Ret Try.prog 60 [.agg #[.int .i64 a0.Kind, .int .i64 a0.A, .int .i64 a0.B, .int .i64 a0.C, .int .i64 a0.D], .int .i64 a1, .int .i64 a2] (.bool r) := by
  refine enterRet (n := 50) Try.func60 rfl rfl rfl (fun wd => ?_)
  refine c_seq ?_
  refine c_region ?_
  refine l_box (cs := [.int .i64 a0.Kind, .int .i64 a0.A, .int .i64 a0.B, .int .i64 a0.C, .int .i64 a0.D]) rfl rfl rfl rfl (fun b2 => ?_)
  refine l_val rfl rfl rfl (r_assign (v := .bool false) rfl) ?_
  refine l_nil ?_
  refine c_meet (r := r) (σ := Unit) (τ := Unit) (fun s => edit_Step_neutral_j1 a0) (fun s t => [(3, .pointer (some ⟨b2, 0, none⟩))]) (fun s t => [cellsC b2 [.int .i64 a0.Kind, .int .i64 a0.A, .int .i64 a0.B, .int .i64 a0.C, .int .i64 a0.D] 31]) (fun s t => True) ?_ ?_
  · refine c_seq ?_
    refine c_region ?_
    refine l_val rfl rfl rfl (r_field Try.runUnderlying31 rfl Try.sizeOf3 rfl rfl) ?_
    refine l_load1 (i := 0) (v := .int .i64 a0.Kind) Try.isAgg3 rfl rfl rfl rfl rfl ?_
    refine l_nil ?_
    refine c_block ?_
    refine c_seq ?_
    refine c_region ?_
    refine l_val rfl rfl rfl (r_eql rfl rfl) ?_
    refine l_val rfl rfl rfl (r_assign (v := .bool (decide (a0.Kind = 1))) rfl) ?_
    refine l_nil ?_
    refine c_if (b := (decide (a0.Kind = 1))) rfl (fun hb => ?_) (fun hb => ?_)
    · have H23 := cnd_t hb H; clear H
      refine c_seq ?_
      refine c_region ?_
      refine l_val rfl rfl rfl (r_field Try.runUnderlying31 rfl Try.sizeOf3 rfl rfl) ?_
      refine l_load1 (i := 0) (v := .int .i64 a0.A) Try.isAgg3 rfl rfl rfl rfl rfl ?_
      refine l_val rfl rfl rfl (r_eql rfl rfl) ?_
      refine l_val rfl rfl rfl (r_assign (v := .bool (decide (a0.A = 1))) rfl) ?_
      refine l_nil ?_
      refine c_ret ?_
      obtain rfl := Option.some.inj H23
      refine ret1 (v := .bool (decide (a0.A = 1))) rfl rfl (fin rfl)
    · have H24 := cnd_f hb H; clear H
      refine c_seq ?_
      refine c_region ?_
      refine l_val rfl rfl rfl (r_eql rfl rfl) ?_
      refine l_val rfl rfl rfl (r_assign (v := .bool (decide (a0.Kind = 2))) rfl) ?_
      refine l_nil ?_
      refine c_if (b := (decide (a0.Kind = 2))) rfl (fun hb => ?_) (fun hb => ?_)
      · have H25 := cnd_t hb H24; clear H24
        refine c_seq ?_
        refine c_region ?_
        refine l_loadN (i := 0) (vs := [.int .i64 a0.Kind, .int .i64 a0.A, .int .i64 a0.B, .int .i64 a0.C, .int .i64 a0.D]) Try.isAgg31 Try.sizeOf31 rfl rfl rfl rfl rfl ?_
        refine l_val rfl rfl rfl (r_move (v := .int .i64 a1) rfl) ?_
        refine l_val rfl rfl rfl (r_move (v := .int .i64 a2) rfl) ?_
        refine l_val rfl rfl rfl (r_build (pl := #[(0, 1), (1, 1), (2, 1), (3, 1), (4, 1)]) (ps := [(0, .int .i64 2), (1, .int .i64 0), (2, .int .i64 0), (3, .int .i64 a1), (4, .int .i64 a2)]) (cells := #[.int .i64 2, .int .i64 0, .int .i64 0, .int .i64 a1, .int .i64 a2]) Try.zeroValue31 Try.runUnderlying31 (fun w => by kernel_rfl) rfl rfl) ?_
        refine l_val rfl rfl rfl (r_eqlA (xs := #[.int .i64 a0.Kind, .int .i64 a0.A, .int .i64 a0.B, .int .i64 a0.C, .int .i64 a0.D]) (ys := #[.int .i64 2, .int .i64 0, .int .i64 0, .int .i64 a1, .int .i64 a2]) Try.eqGuardType31 (fun w => run_eq_edit_Step w a0 (⟨2, 0, 0, a1, a2⟩ : T_edit_Step)) rfl rfl) ?_
        refine l_val rfl rfl rfl (r_assign (v := .bool (eq_edit_Step a0 (⟨2, 0, 0, a1, a2⟩ : T_edit_Step))) rfl) ?_
        refine l_nil ?_
        refine c_ret ?_
        obtain rfl := Option.some.inj H25
        refine ret1 (v := .bool (eq_edit_Step a0 (⟨2, 0, 0, a1, a2⟩ : T_edit_Step))) rfl rfl (fin rfl)
      · have H26 := cnd_f hb H24; clear H24
        refine c_seq ?_
        refine c_region ?_
        refine l_val rfl rfl rfl (r_eql rfl rfl) ?_
        refine l_val rfl rfl rfl (r_assign (v := .bool (decide (a0.Kind = 3))) rfl) ?_
        refine l_nil ?_
        refine c_if (b := (decide (a0.Kind = 3))) rfl (fun hb => ?_) (fun hb => ?_)
        · have H27 := cnd_t hb H26; clear H26
          refine c_seq ?_
          refine c_region ?_
          refine l_val rfl rfl rfl (r_field Try.runUnderlying31 rfl Try.sizeOf3 rfl rfl) ?_
          refine l_load1 (i := 0) (v := .int .i64 a0.A) Try.isAgg3 rfl rfl rfl rfl rfl ?_
          refine l_val rfl rfl rfl (r_move (v := .int .i64 a1) rfl) ?_
          refine l_val rfl rfl rfl (r_eql rfl rfl) ?_
          refine l_val rfl rfl rfl (r_move (v := .bool (decide (a0.A = a1))) rfl) ?_
          refine split (fun hb => ?_) (fun hb => ?_)
          · have H28 := cnd_t hb H27; clear H27
            refine l_val rfl rfl rfl (r_field Try.runUnderlying31 rfl Try.sizeOf3 rfl rfl) ?_
            refine l_load1 (i := 0) (v := .int .i64 a0.B) Try.isAgg3 rfl rfl rfl rfl rfl ?_
            refine l_val rfl rfl rfl (r_move (v := .int .i64 a2) rfl) ?_
            refine l_val rfl rfl rfl (r_eql rfl rfl) ?_
            refine l_val rfl rfl rfl (r_pickT (v := .bool (decide (a0.B = a2))) rfl rfl) ?_
            refine l_val rfl rfl rfl (r_assign (v := .bool (decide (a0.B = a2))) rfl) ?_
            refine l_nil ?_
            refine c_ret ?_
            obtain rfl := Option.some.inj H28
            refine ret1 (v := .bool (decide (a0.B = a2))) rfl rfl (fin rfl)
          · have H29 := cnd_f hb H27; clear H27
            refine l_passed rfl rfl rfl ?_
            refine l_passed rfl rfl rfl ?_
            refine l_passed rfl rfl rfl ?_
            refine l_passed rfl rfl rfl ?_
            refine l_val rfl rfl rfl (r_pickF (v := .bool false) rfl rfl) ?_
            refine l_val rfl rfl rfl (r_assign (v := .bool false) rfl) ?_
            refine l_nil ?_
            refine c_ret ?_
            obtain rfl := Option.some.inj H29
            refine ret1 (v := .bool false) rfl rfl (fin rfl)
        · have H30 := cnd_f hb H26; clear H26
          refine c_seq ?_
          refine c_seq ?_
          refine c_region ?_
          refine l_val rfl rfl rfl (r_eql rfl rfl) ?_
          refine l_val rfl rfl rfl (r_assign (v := .bool (decide (a0.Kind = 7))) rfl) ?_
          refine l_nil ?_
          refine c_if (b := (decide (a0.Kind = 7))) rfl (fun hb => ?_) (fun hb => ?_)
          · have H31 := cnd_t hb H30; clear H30
            refine c_skip ?_
            refine c_if (b := (decide (a0.Kind = 7))) rfl (fun hb => ?_) (fun hb => ?_)
            · have H32 := cnd_t hb H31; clear H31
              refine c_seq ?_
              refine c_region ?_
              refine l_val rfl rfl rfl (r_field Try.runUnderlying31 rfl Try.sizeOf3 rfl rfl) ?_
              refine l_load1 (i := 0) (v := .int .i64 a0.A) Try.isAgg3 rfl rfl rfl rfl rfl ?_
              refine l_val rfl rfl rfl (r_eql rfl rfl) ?_
              refine l_val rfl rfl rfl (r_assign (v := .bool (decide (a0.A = 0))) rfl) ?_
              refine l_nil ?_
              refine c_ret ?_
              obtain rfl := Option.some.inj H32
              refine ret1 (v := .bool (decide (a0.A = 0))) rfl rfl (fin rfl)
            · have H33 := cnd_f hb H31; clear H31
              refine c_skip ?_
              refine c_close () () 0 [0] (by exact ⟨rfl, trivial⟩) (by decide) rfl (by exact ⟨H33, trivial⟩) (Nat.lt_succ_self _)
          · have H34 := cnd_f hb H30; clear H30
            refine c_region ?_
            refine l_val rfl rfl rfl (r_eql rfl rfl) ?_
            refine l_val rfl rfl rfl (r_assign (v := .bool (decide (a0.Kind = 8))) rfl) ?_
            refine l_nil ?_
            refine c_if (b := (decide (a0.Kind = 8))) rfl (fun hb => ?_) (fun hb => ?_)
            · have H35 := cnd_t hb H34; clear H34
              refine c_seq ?_
              refine c_region ?_
              refine l_val rfl rfl rfl (r_field Try.runUnderlying31 rfl Try.sizeOf3 rfl rfl) ?_
              refine l_load1 (i := 0) (v := .int .i64 a0.A) Try.isAgg3 rfl rfl rfl rfl rfl ?_
              refine l_val rfl rfl rfl (r_eql rfl rfl) ?_
              refine l_val rfl rfl rfl (r_assign (v := .bool (decide (a0.A = 0))) rfl) ?_
              refine l_nil ?_
              refine c_ret ?_
              obtain rfl := Option.some.inj H35
              refine ret1 (v := .bool (decide (a0.A = 0))) rfl rfl (fin rfl)
            · have H36 := cnd_f hb H34; clear H34
              refine c_skip ?_
              refine c_close () () 0 [0] (by exact ⟨rfl, trivial⟩) (by decide) rfl (by exact ⟨H36, trivial⟩) (Nat.lt_succ_self _)
  · rintro _ _ gg H19 _
    replace H19 : edit_Step_neutral_j1 a0 = some r := H19
    refine c_tidyF [(3, .pointer (some ⟨b2, 0, none⟩))] [cellsC b2 [.int .i64 a0.Kind, .int .i64 a0.A, .int .i64 a0.B, .int .i64 a0.C, .int .i64 a0.D] 31] rfl rfl ?_
    refine c_seq ?_
    exact c_regionD (Kd.d [] _ :: Kd.d [0] _ :: Kd.d [] _ :: Kd.p :: Kd.p :: Kd.p :: Kd.nw 1 _ 169 :: Kd.st 7 1 _ 169 :: Kd.p :: []) 1 mixed (by
      have h_t42 := bnd_val H19
      have H20 := bnd_rest H19
      refine d_call (k112 h_t42) Try.call112 rfl rfl ?_
      refine d_loadN (i := 0) (vs := [.int .i64 a0.Kind, .int .i64 a0.A, .int .i64 a0.B, .int .i64 a0.C, .int .i64 a0.D]) Try.isAgg31 Try.sizeOf31 rfl rfl rfl rfl ?_
      have h_t44 := bnd_val H20
      have H21 := bnd_rest H20
      refine d_call (k113 h_t44) Try.call113 rfl rfl ?_
      refine d_val rfl rfl (r_move (v := .tuple #[.agg (List.toArray (arrC 256 (fun j_ => [.int .u8 ((val (edit_curve_after (val edit_straight) a0)).1 j_)]))), .bool (val (edit_curve_after (val edit_straight) a0)).2]) rfl) ?_
      refine d_val rfl rfl (r_extract (v := .agg (List.toArray (arrC 256 (fun j_ => [.int .u8 ((val (edit_curve_after (val edit_straight) a0)).1 j_)])))) rfl rfl) ?_
      refine d_val rfl rfl (r_extract (v := .bool (val (edit_curve_after (val edit_straight) a0)).2) rfl rfl) ?_
      refine d_new rfl rfl (run_alloc (cs := (arrC 256 (fun j_ => [.int .u8 ((fun _ => 0) j_)]))) Try.zeroValue169 (by kernel_rfl)) rfl (fun b3 => ?_)
      refine d_store (i := 1) (vs := (arrC 256 (fun j_ => [.int .u8 ((val (edit_curve_after (val edit_straight) a0)).1 j_)]))) (cs' := (arrC 256 (fun j_ => [.int .u8 ((val (edit_curve_after (val edit_straight) a0)).1 j_)]))) Try.sizeOf169 rfl rfl rfl rfl (arrC_len (fun _ => rfl)) rfl (arrC_one (fun _ => rfl)) rfl (wr_whole ((arrC_len (fun _ => rfl)).trans (arrC_len (fun _ => rfl)).symm)) ?_
      refine d_val rfl rfl (r_assign (v := .bool (val (edit_curve_after (val edit_straight) a0)).2) rfl) ?_
      refine d_nil ?_
      refine c_seq ?_
      exact c_regionD (Kd.d [1] _ :: Kd.d [] _ :: Kd.p :: Kd.p :: []) 0 mixed (by
        refine d_loadN (i := 1) (vs := (arrC 256 (fun j_ => [.int .u8 ((val (edit_curve_after (val edit_straight) a0)).1 j_)]))) Try.isAgg169 Try.sizeOf169 rfl rfl rfl (rd_whole (arrC_len (fun _ => rfl))) ?_
        have h_t48 := bnd_val H21
        have H22 := bnd_rest H21
        refine d_call (k112 h_t48) Try.call112 rfl rfl ?_
        refine d_val rfl rfl (r_eqlA (xs := (List.toArray (arrC 256 (fun j_ => [.int .u8 ((val (edit_curve_after (val edit_straight) a0)).1 j_)])))) (ys := (List.toArray (arrC 256 (fun j_ => [.int .u8 ((val edit_straight) j_)])))) Try.eqGuardType169 (fun w => run_eq_edit_curve w ((val (edit_curve_after (val edit_straight) a0)).1) (val edit_straight)) rfl rfl) ?_
        refine d_val rfl rfl (r_assign (v := .bool (eq_edit_curve (val (edit_curve_after (val edit_straight) a0)).1 (val edit_straight))) rfl) ?_
        refine d_nil ?_
        refine c_ret ?_
        obtain rfl := Option.some.inj H22
        refine ret1 (v := .bool (eq_edit_curve (val (edit_curve_after (val edit_straight) a0)).1 (val edit_straight))) rfl rfl (fin rfl)
        ) (by kernel_rfl)
      ) (by kernel_rfl)
theorem k114 {a0 : T_edit_Step} {r : Bool} (H : edit_Shape a0 = some r) : Ret Try.prog 114 [.agg #[.int .i64 a0.Kind, .int .i64 a0.A, .int .i64 a0.B, .int .i64 a0.C, .int .i64 a0.D]] (.bool r) := by
  refine enterRet (n := 7) Try.func114 rfl rfl rfl (fun wd => ?_)
  refine c_seq ?_
  refine c_region ?_
  refine l_box (cs := [.int .i64 a0.Kind, .int .i64 a0.A, .int .i64 a0.B, .int .i64 a0.C, .int .i64 a0.D]) rfl rfl rfl rfl (fun b1 => ?_)
  refine l_val rfl rfl rfl (r_assign (v := .bool false) rfl) ?_
  refine l_nil ?_
  refine c_seq ?_
  refine c_region ?_
  refine l_val rfl rfl rfl (r_field Try.runUnderlying31 rfl Try.sizeOf3 rfl rfl) ?_
  refine l_load1 (i := 0) (v := .int .i64 a0.Kind) Try.isAgg3 rfl rfl rfl rfl rfl ?_
  obtain ⟨t5, h_t5, H2⟩ := bnd_some H; clear H
  refine l_call (k57 h_t5) Try.call57 rfl rfl rfl ?_
  refine l_val rfl rfl rfl (r_not rfl) ?_
  refine l_val rfl rfl rfl (r_assign (v := .bool (!t5)) rfl) ?_
  refine l_nil ?_
  refine c_ret ?_
  obtain rfl := Option.some.inj H2
  refine ret1 (v := .bool (!t5)) rfl rfl (fin rfl)
theorem k235 {n : Int} {u : Nat} (hg : gGroC 40 n = some u) (w : World) : Does Try.prog 235 (List.toArray [.slice none 0 0, .int .i64 n]) w (fun v w' => ∃ p : Option Addr × Nat, v = .slice p.1 0 p.2 ∧ Turn w w' noS (rowC 31 5 (.slice p.1 0 p.2) 0 [] u)) := by
  obtain ⟨rfl, h0, h1, h2⟩ := gGroC_some hg
  obtain ⟨m, rfl⟩ : ∃ m : Nat, n = (m : Int) := ⟨n.toNat, (Int.toNat_of_nonneg h0).symm⟩
  rw [Int.toNat_natCast] at h2 ⊢
  refine enter (n := 27) Try.func235 rfl rfl rfl noS [] (Sat.nil _ _) ?_
  refine c_seq ?_
  refine c_region ?_
  refine l_val rfl rfl rfl (r_assign (v := .slice none 0 0) rfl) ?_
  refine l_nil ?_
  refine c_seq ?_
  refine c_seq ?_
  refine c_region ?_
  refine l_val rfl rfl rfl (r_move (v := .int .i64 (m : Int)) rfl) ?_
  refine l_val rfl rfl rfl (r_decF (r_lss rfl rfl) (by omega)) ?_
  refine l_nil ?_
  refine c_false rfl ?_
  refine c_skip ?_
  refine c_seq ?_
  refine c_seq ?_
  refine c_region ?_
  refine l_val rfl rfl rfl (r_move (v := .int .i64 (m : Int)) rfl) ?_
  refine l_val rfl rfl rfl (r_move (v := .slice none 0 0) rfl) ?_
  refine l_val rfl rfl rfl (r_cap (c := 0) Try.underlying22 rfl) ?_
  refine l_val rfl rfl rfl (r_move (v := .slice none 0 0) rfl) ?_
  refine l_val rfl rfl rfl (r_len (m := 0) Try.underlying22 rfl) ?_
  refine l_val rfl rfl rfl (r_subG (z := 0) rfl rfl (by decide)) ?_
  refine l_val rfl rfl rfl (r_subG (z := (m : Int)) rfl rfl (by rw [Int.sub_zero]; exact gI_ok (by omega))) ?_
  refine l_val rfl rfl rfl (r_assign (v := .int .i64 (m : Int)) rfl) ?_
  refine l_nil ?_
  refine c_seq ?_
  refine c_region ?_
  refine l_val rfl rfl rfl (r_move (v := .int .i64 (m : Int)) rfl) ?_
  rcases Nat.eq_zero_or_pos m with hm | hm
  · refine l_val rfl rfl rfl (r_decF (r_gtr rfl rfl) (by omega)) ?_
    refine l_nil ?_
    refine c_false rfl ?_
    refine c_skip ?_
    refine c_seq ?_
    refine c_region ?_
    refine l_val rfl rfl rfl (r_move (v := .slice none 0 0) rfl) ?_
    refine l_val rfl rfl rfl (r_assign (v := .slice none 0 0) rfl) ?_
    refine l_nil ?_
    refine c_ret ?_
    subst hm
    refine c_nilRow 31 5 ?_
    refine c_imp 0 rfl (imp_C0 31 5 _) ?_
    exact ret1 (v := .slice none 0 0) rfl rfl (finX ((none, 0) : Option Addr × Nat) (i := 0) rfl rfl (Imp.refl _))
  · refine l_val rfl rfl rfl (r_decT (r_gtr rfl rfl) (by omega)) ?_
    refine l_nil ?_
    refine c_true rfl ?_
    refine c_region ?_
    refine l_val rfl rfl rfl (r_move (v := .slice none 0 0) rfl) ?_
    refine l_val rfl rfl rfl (r_move (v := .slice none 0 0) rfl) ?_
    refine l_val rfl rfl rfl (r_cap (c := 0) Try.underlying22 rfl) ?_
    refine l_val rfl rfl rfl (r_sliceH (a := none) (m := 0) (c := 0) (h := 0) Try.underlying22 Try.sizeOf31 rfl rfl (by decide) (by decide)) ?_
    refine l_val rfl rfl rfl (r_move (v := .int .i64 (m : Int)) rfl) ?_
    refine l_make (rds := []) (makes_zerosC (E := 31) (sz := 5) (by_ := 40) (m := m) Try.underlying22 Try.underlying3 (info_of Try.typeInfo31) rfl rfl rfl rfl rfl rfl rfl hm (by omega) h2) rfl rfl rfl (fun ⟨g0, c0⟩ => ?_)
    refine l_val rfl rfl rfl (r_move (v := .slice none 0 0) rfl) ?_
    refine l_val rfl rfl rfl (r_len (m := 0) Try.underlying22 rfl) ?_
    refine l_val rfl rfl rfl (r_sliceH0 (g0 := g0) (c := c0) Try.underlying22 Try.sizeOf31 rfl rfl) ?_
    refine l_val rfl rfl rfl (r_assign (v := .slice (some ⟨g0, 0, none⟩) 0 c0) rfl) ?_
    refine l_nil ?_
    refine c_seq ?_
    refine c_region ?_
    refine l_val rfl rfl rfl (r_move (v := .slice (some ⟨g0, 0, none⟩) 0 c0) rfl) ?_
    refine l_val rfl rfl rfl (r_assign (v := .slice (some ⟨g0, 0, none⟩) 0 c0) rfl) ?_
    refine l_nil ?_
    refine c_ret ?_
    exact ret1 (v := .slice (some ⟨g0, 0, none⟩) 0 c0) rfl rfl (finX ((some ⟨g0, 0, none⟩, c0) : Option Addr × Nat) (i := 0) rfl rfl (Imp.refl _))

theorem k208 {a0 : (List (List T_edit_Step))} {v0 : Value} {r : (List T_edit_Step)} {w : World} {h : Heap} (hw : Know h w noS) (f0 : FrN h 1 v0 gs_edit_Step a0) (H : slices_Concat_edit_Step a0 = some r) : Does Try.prog 208 (List.toArray [v0]) w (fun v w' => ∃ x : (Option Addr × Nat), v = (.slice x.1 r.length x.2) ∧ Turn w w' noS (rowV 31 5 (.slice x.1 r.length x.2) r.length (r.map e_edit_Step))) := by
  refine enter (n := 36) Try.func208 rfl rfl rfl noS [] (Sat.nil _ _) ?_
  refine c_seq ?_
  refine c_region ?_
  refine l_val rfl rfl rfl (r_assign (v := .slice none 0 0) rfl) ?_
  refine l_nil ?_
  refine c_seq ?_
  refine c_region ?_
  refine l_val rfl rfl rfl (r_assign (v := .int .i64 0) rfl) ?_
  refine l_nil ?_
  refine c_meet (r := r) (σ := Int) (τ := Unit) (fun s => slices_Concat_edit_Step_j1 a0 s) (fun s t => [(0, v0), (3, .int .i64 s)]) (fun s t => []) (fun s t => True) ?_ ?_
  · refine c_seq ?_
    refine c_region ?_
    refine l_val rfl rfl rfl (r_move (v := v0) rfl) ?_
    refine l_val rfl rfl rfl (r_lenFN Try.underlying29 rfl f0) ?_
    refine l_val rfl rfl rfl (r_move (v := .int .i64 0) rfl) ?_
    refine l_nil ?_
    refine c_block ?_
    refine c_fix (σ := Int × Int) (τ := Unit) (fun next3 s => slices_Concat_edit_Step_l3 a0 next3 s.1 s.2) (fun s t => [(0, v0), (3, .int .i64 s.1), (9, v0), (10, .int .i64 (a0.length : Int)), (11, .int .i64 s.2)]) (fun s t => []) (fun s t => True) (0, 0) () [] H (by exact trivial) (by exact ⟨rfl, rfl, rfl, rfl, rfl, trivial⟩) (by decide) rfl ?_
    rintro ⟨x3_3, x11_2⟩ _ m3 gg H25 _
    clear H
    replace H25 : slices_Concat_edit_Step_l3 a0 (it (fun next3 s => slices_Concat_edit_Step_l3 a0 next3 s.1 s.2) m3) x3_3 x11_2 = some r := H25
    generalize hn3 : it (fun next3 s => slices_Concat_edit_Step_l3 a0 next3 s.1 s.2) m3 = next3 at H25
    refine c_tidyF [(0, v0), (3, .int .i64 x3_3), (9, v0), (10, .int .i64 (a0.length : Int)), (11, .int .i64 x11_2)] [] rfl rfl ?_
    refine c_seq ?_
    refine c_region ?_
    refine l_val rfl rfl rfl (r_lss rfl rfl) ?_
    refine l_nil ?_
    refine c_seq ?_
    refine c_if (b := (decide (x11_2 < (a0.length : Int)))) rfl (fun hb => ?_) (fun hb => ?_)
    · have H26 := cnd_t hb H25; clear H25
      refine c_skip ?_
      refine c_seq ?_
      refine c_block ?_
      refine c_seq ?_
      refine c_region ?_
      obtain ⟨t13, h_t13, H27⟩ := bnd_some H26; clear H26
      refine l_val rfl rfl rfl (r_indexF Try.underlying29 Try.sizeOf22 rfl rfl f0.frs (f0.ix h_t13)) ?_
      refine l_read (fun w hF hS => run_loadG1 (f := (elC h v0 1)) (i := x11_2) (sz := 1) (j := 0) (v := (elH h v0 1 (Int.toNat x11_2) 0)) Try.isAgg22 rfl rfl (f0.frs.row (hw.now hF)) (f0.ix h_t13) (rg_of (cgs_edit_Step (f0.at h_t13)) rfl)) rfl rfl rfl ?_
      refine l_val rfl rfl rfl (r_assign (v := (elH h v0 1 (Int.toNat x11_2) 0)) rfl) ?_
      refine l_nil ?_
      refine c_seq ?_
      refine c_region ?_
      refine l_val rfl rfl rfl (r_move (v := .int .i64 x3_3) rfl) ?_
      refine l_val rfl rfl rfl (r_move (v := (elH h v0 1 (Int.toNat x11_2) 0)) rfl) ?_
      refine l_val rfl rfl rfl (r_lenF Try.underlying22 rfl (show FrS h 5 (elH h v0 1 (Int.toNat x11_2) 0) (t13.map e_edit_Step) from (f0.at h_t13)) rfl) ?_
      obtain ⟨t18, h_t18, H28⟩ := bnd_some H27; clear H27
      refine l_val rfl rfl rfl (r_addG rfl rfl h_t18) ?_
      refine l_val rfl rfl rfl (r_assign (v := .int .i64 t18) rfl) ?_
      refine l_nil ?_
      refine c_seq ?_
      refine c_region ?_
      refine l_val rfl rfl rfl (r_move (v := .int .i64 t18) rfl) ?_
      refine l_val rfl rfl rfl (r_lss rfl rfl) ?_
      refine l_nil ?_
      refine c_if (b := (decide (t18 < 0))) rfl (fun hb => ?_) (fun hb => ?_)
      · have H29 := cnd_t hb H28; clear H28
        exact absurd (show (none : Option ((List T_edit_Step))) = some r from H29) (fun h => by cases h)
      · have H30 := cnd_f hb H28; clear H28
        refine c_skip ?_
        refine c_region ?_
        obtain ⟨t22, h_t22, H31⟩ := bnd_some H30; clear H30
        refine l_val rfl rfl rfl (r_addG rfl rfl h_t22) ?_
        refine l_val rfl rfl rfl (r_move (v := .int .i64 t22) rfl) ?_
        refine l_nil ?_
        refine c_close (t18, t22) () m3 [] (by exact ⟨rfl, rfl, rfl, rfl, rfl, trivial⟩) (by decide) rfl (by exact ⟨(by subst hn3; exact H31), trivial⟩) (Nat.lt_succ_self _)
    · have H32 := cnd_f hb H25; clear H25
      refine c_exit ?_
      refine c_close x3_3 () 0 [] (by exact ⟨rfl, rfl, trivial⟩) (by decide) rfl (by exact ⟨H32, trivial⟩) (Nat.lt_succ_self _)
  · rintro x3 _ gg H17 _
    replace H17 : slices_Concat_edit_Step_j1 a0 x3 = some r := H17
    refine c_tidyF [(0, v0), (3, .int .i64 x3)] [] rfl rfl ?_
    refine c_seq ?_
    refine c_region ?_
    refine l_val rfl rfl rfl (r_move (v := .int .i64 x3) rfl) ?_
    obtain ⟨u24, h_u24, H18⟩ := bnd_some H17; clear H17
    refine l_make (makes_call (rds := []) (G := fun x : (Option Addr × Nat) => .slice x.1 ([] : List T_edit_Step).length x.2) (C := fun x : (Option Addr × Nat) => rowC 31 5 (.slice x.1 ([] : List T_edit_Step).length x.2) ([] : List T_edit_Step).length (([] : List T_edit_Step).map e_edit_Step) u24) (fun w L' hF hS hi => k235 h_u24 w) Try.call235 rfl) rfl rfl rfl (fun p => ?_)
    refine l_val rfl rfl rfl (r_assign (v := .slice p.1 ([] : List T_edit_Step).length p.2) rfl) ?_
    refine l_nil ?_
    refine c_seq ?_
    refine c_seq ?_
    refine c_region ?_
    refine l_val rfl rfl rfl (r_move (v := v0) rfl) ?_
    refine l_val rfl rfl rfl (r_lenFN Try.underlying29 rfl f0) ?_
    refine l_val rfl rfl rfl (r_move (v := .int .i64 0) rfl) ?_
    refine l_nil ?_
    refine c_block ?_
    refine c_fix (σ := Int × (List T_edit_Step)) (τ := (Option Addr × Nat)) (fun next2 s => slices_Concat_edit_Step_l2 a0 u24 next2 s.1 s.2) (fun s t => [(6, .slice t.1 s.2.length t.2), (25, v0), (26, .int .i64 (a0.length : Int)), (27, .int .i64 s.1)]) (fun s t => [rowC 31 5 (.slice t.1 s.2.length t.2) s.2.length (s.2.map e_edit_Step) u24]) (fun s t => True) (0, ([] : List T_edit_Step)) p [0] H18 (by exact trivial) (by exact ⟨rfl, rfl, rfl, rfl, trivial⟩) (by decide) rfl ?_
    rintro ⟨x27_2, l_2⟩ p_2 m2 gg H19 _
    clear H18
    replace H19 : slices_Concat_edit_Step_l2 a0 u24 (it (fun next2 s => slices_Concat_edit_Step_l2 a0 u24 next2 s.1 s.2) m2) x27_2 l_2 = some r := H19
    generalize hn2 : it (fun next2 s => slices_Concat_edit_Step_l2 a0 u24 next2 s.1 s.2) m2 = next2 at H19
    refine c_tidyF [(6, .slice p_2.1 l_2.length p_2.2), (25, v0), (26, .int .i64 (a0.length : Int)), (27, .int .i64 x27_2)] [rowC 31 5 (.slice p_2.1 l_2.length p_2.2) l_2.length (l_2.map e_edit_Step) u24] rfl rfl ?_
    refine c_seq ?_
    refine c_region ?_
    refine l_val rfl rfl rfl (r_lss rfl rfl) ?_
    refine l_nil ?_
    refine c_seq ?_
    refine c_if (b := (decide (x27_2 < (a0.length : Int)))) rfl (fun hb => ?_) (fun hb => ?_)
    · have H20 := cnd_t hb H19; clear H19
      refine c_skip ?_
      refine c_seq ?_
      refine c_block ?_
      refine c_seq ?_
      refine c_region ?_
      obtain ⟨t29, h_t29, H21⟩ := bnd_some H20; clear H20
      refine l_val rfl rfl rfl (r_indexF Try.underlying29 Try.sizeOf22 rfl rfl f0.frs (f0.ix h_t29)) ?_
      refine l_read (fun w hF hS => run_loadG1 (f := (elC h v0 1)) (i := x27_2) (sz := 1) (j := 0) (v := (elH h v0 1 (Int.toNat x27_2) 0)) Try.isAgg22 rfl rfl (f0.frs.row (hw.now hF)) (f0.ix h_t29) (rg_of (cgs_edit_Step (f0.at h_t29)) rfl)) rfl rfl rfl ?_
      refine l_val rfl rfl rfl (r_assign (v := (elH h v0 1 (Int.toNat x27_2) 0)) rfl) ?_
      refine l_nil ?_
      refine c_region ?_
      refine l_val rfl rfl rfl (r_move (v := .slice p_2.1 l_2.length p_2.2) rfl) ?_
      refine l_val rfl rfl rfl (r_move (v := (elH h v0 1 (Int.toNat x27_2) 0)) rfl) ?_
      obtain ⟨l33, h_l33, H22⟩ := bnd_some H21; clear H21
      refine l_turn (turns_appC (i := 0) (hn := rfl) (rds := []) (p := p_2) (sz := 5) (by_ := 40) (f := e_edit_Step) (ys := l_2) (ls := t29) (V := (elH h v0 1 (Int.toNat x27_2) 0)) Try.underlying22 (info_of Try.typeInfo31) rfl rfl rfl rfl rfl rfl rfl rfl (show FrS h 5 (elH h v0 1 (Int.toNat x27_2) 0) (t29.map e_edit_Step) from (f0.at h_t29)).eq (List.length_map _) (fun w L' hF hS hi => ((show FrS h 5 (elH h v0 1 (Int.toNat x27_2) 0) (t29.map e_edit_Step) from (f0.at h_t29))).row (hw.now hF)) (fun _ => rfl) (fun _ => rfl) h_l33) rfl rfl rfl (fun p_3 => ?_)
      refine l_val rfl rfl rfl (r_assign (v := .slice p_3.1 l33.length p_3.2) rfl) ?_
      refine l_nil ?_
      refine c_region ?_
      obtain ⟨t34, h_t34, H23⟩ := bnd_some H22; clear H22
      refine l_val rfl rfl rfl (r_addG rfl rfl h_t34) ?_
      refine l_val rfl rfl rfl (r_move (v := .int .i64 t34) rfl) ?_
      refine l_nil ?_
      refine c_close (t34, l33) p_3 m2 [0] (by exact ⟨rfl, rfl, rfl, rfl, trivial⟩) (by decide) rfl (by exact ⟨(by subst hn2; exact H23), trivial⟩) (Nat.lt_succ_self _)
    · have H24 := cnd_f hb H19; clear H19
      refine c_exit ?_
      refine c_seq ?_
      refine c_region ?_
      refine l_val rfl rfl rfl (r_move (v := .slice p_2.1 l_2.length p_2.2) rfl) ?_
      refine l_val rfl rfl rfl (r_assign (v := .slice p_2.1 l_2.length p_2.2) rfl) ?_
      refine l_nil ?_
      refine c_ret ?_
      obtain rfl := Option.some.inj H24
      refine c_imp 0 rfl (imp_rowC _ _ _ _ _ _) ?_
      refine ret1 (v := .slice p_2.1 l_2.length p_2.2) rfl rfl (finX p_2 (i := 0) rfl rfl (Imp.refl _))
theorem k170 {a0 : (List T_edit_Step)} {v0 : Value} {a1 : Int} {a2 : Int} {a3 : (List T_edit_Step)} {v3 : Value} {r : (List T_edit_Step)} {w : World} {h : Heap} (hw : Know h w noS) (f0 : FrS h 5 v0 (a0.map e_edit_Step)) (f3 : FrS h 5 v3 (a3.map e_edit_Step)) (H : edit_with a0 a1 a2 a3 = some r) : Does Try.prog 170 (List.toArray [v0, .int .i64 a1, .int .i64 a2, v3]) w (fun v w' => ∃ x : (Option Addr × Nat), v = (.slice x.1 r.length x.2) ∧ Turn w w' noS (rowV 31 5 (.slice x.1 r.length x.2) r.length (r.map e_edit_Step))) := by
  refine enter (n := 20) Try.func170 rfl rfl rfl noS [] (Sat.nil _ _) ?_
  refine c_seq ?_
  refine c_region ?_
  refine l_val rfl rfl rfl (r_assign (v := .slice none 0 0) rfl) ?_
  refine l_nil ?_
  refine c_seq ?_
  exact c_regionD (Kd.p :: Kd.p :: Kd.p :: Kd.p :: Kd.p :: Kd.p :: Kd.p :: Kd.p :: Kd.p :: Kd.ns 0 [_, _, _] 22 3 :: Kd.t 1 [0] _ _ :: Kd.p :: []) 2 mixed (by
    refine d_val rfl rfl (r_move (v := v0) rfl) ?_
    refine d_val rfl rfl (r_move (v := .int .i64 a1) rfl) ?_
    have h_t11 := bnd_val H
    have H5 := bnd_rest H
    refine d_val rfl rfl (r_sliceHF Try.underlying22 Try.sizeOf31 rfl rfl f0 h_t11) ?_
    refine d_val rfl rfl (r_move (v := v3) rfl) ?_
    refine d_val rfl rfl (r_move (v := v0) rfl) ?_
    refine d_val rfl rfl (r_move (v := .int .i64 a1) rfl) ?_
    refine d_val rfl rfl (r_move (v := .int .i64 a2) rfl) ?_
    have h_t16 := bnd_val H5
    have H6 := bnd_rest H5
    refine d_val rfl rfl (r_addG rfl rfl h_t16) ?_
    have h_t17 := bnd_val H6
    have H7 := bnd_rest H6
    refine d_val rfl rfl (r_sliceLF Try.underlying22 Try.sizeOf31 rfl rfl f0 h_t17) ?_
    refine d_newS rfl rfl (run_buildSlice (vs := [(cutV 5 v0 0 a1), v3, (cutV 5 v0 (val (gI (a1 + a2))) a0.length)]) (cs := [(cutV 5 v0 0 a1), v3, (cutV 5 v0 (val (gI (a1 + a2))) a0.length)]) Try.underlying29 Try.sizeOf22 Try.zeroValue22 rfl rfl (by simp only [List.all_cons, List.all_nil, cells_sz (f0.cut h_t11).cells, cells_sz (f0.cut h_t17).cells, cells_sz f3.cells] <;> rfl) rfl (by simp only [List.flatMap_cons, List.flatMap_nil, (f0.cut h_t11).cells, (f0.cut h_t17).cells, f3.cells] <;> rfl)) rfl (fun b1 => ?_)
    have h_t19 := bnd_val H7
    have H8 := bnd_rest H7
    refine d_make (Cv := fun v => rowV 31 5 v (val (slices_Concat_edit_Step ([(val (gCut a0 0 a1)), a3, (val (gCut a0 (val (gI (a1 + a2))) a0.length))] : List (List T_edit_Step)))).length ((val (slices_Concat_edit_Step ([(val (gCut a0 0 a1)), a3, (val (gCut a0 (val (gI (a1 + a2))) a0.length))] : List (List T_edit_Step)))).map e_edit_Step)) (none, 0) (makes_call (G := fun x : (Option Addr × Nat) => .slice x.1 (val (slices_Concat_edit_Step ([(val (gCut a0 0 a1)), a3, (val (gCut a0 (val (gI (a1 + a2))) a0.length))] : List (List T_edit_Step)))).length x.2) (C := fun x : (Option Addr × Nat) => rowV 31 5 (.slice x.1 (val (slices_Concat_edit_Step ([(val (gCut a0 0 a1)), a3, (val (gCut a0 (val (gI (a1 + a2))) a0.length))] : List (List T_edit_Step)))).length x.2) (val (slices_Concat_edit_Step ([(val (gCut a0 0 a1)), a3, (val (gCut a0 (val (gI (a1 + a2))) a0.length))] : List (List T_edit_Step)))).length ((val (slices_Concat_edit_Step ([(val (gCut a0 0 a1)), a3, (val (gCut a0 (val (gI (a1 + a2))) a0.length))] : List (List T_edit_Step)))).map e_edit_Step)) (fun w L' hF hS hi => k208 (know_all w) (frn_box (G := gs_edit_Step) (sz := 1) (xs := ([(val (gCut a0 0 a1)), a3, (val (gCut a0 (val (gI (a1 + a2))) a0.length))] : List (List T_edit_Step))) (i := 0) hS ((hi 0 (by simp)).trans rfl) rfl rfl rfl ⟨((f0.cut h_t11).mono (hw.now hF)), (f3.mono (hw.now hF)), ((f0.cut h_t17).mono (hw.now hF)), rfl⟩) h_t19) Try.call208 rfl) (fun _ => rfl) rfl rfl rfl (fun p => ?_)
    refine d_val rfl rfl (r_assign (v := .slice p.1 (val (slices_Concat_edit_Step ([(val (gCut a0 0 a1)), a3, (val (gCut a0 (val (gI (a1 + a2))) a0.length))] : List (List T_edit_Step)))).length p.2) rfl) ?_
    refine d_nil ?_
    refine c_ret ?_
    obtain rfl := Option.some.inj H8
    refine ret1 (v := .slice p.1 (val (slices_Concat_edit_Step ([(val (gCut a0 0 a1)), a3, (val (gCut a0 (val (gI (a1 + a2))) a0.length))] : List (List T_edit_Step)))).length p.2) rfl rfl (finX p (i := 1) rfl rfl (Imp.refl _))
    ) (by kernel_rfl)
theorem k118 {a0 : (List T_edit_Step)} {v0 : Value} {a1 : Int} {a2 : Int} {a3 : Int} {r : (List T_edit_Step) × Bool} {w : World} {h : Heap} (hw : Know h w noS) (f0 : FrS h 5 v0 (a0.map e_edit_Step)) (H : edit_leaveNeutral a0 a1 a2 a3 = some r) : Does Try.prog 118 (List.toArray [v0, .int .i64 a1, .int .i64 a2, .int .i64 a3]) w (fun v w' => ∃ x : (Option Addr × Nat), v = (.tuple #[.slice x.1 r.1.length x.2, .bool r.2]) ∧ Turn w w' noS (rowV 31 5 (.slice x.1 r.1.length x.2) r.1.length (r.1.map e_edit_Step))) := by
  refine enter (n := 21) Try.func118 rfl rfl rfl noS [] (Sat.nil _ _) ?_
  refine c_seq ?_
  refine c_region ?_
  refine l_val rfl rfl rfl (r_assign (v := .slice none 0 0) rfl) ?_
  refine l_val rfl rfl rfl (r_assign (v := .bool false) rfl) ?_
  refine l_nil ?_
  refine c_seq ?_
  refine c_seq ?_
  refine c_region ?_
  refine l_val rfl rfl rfl (r_move (v := v0) rfl) ?_
  refine l_val rfl rfl rfl (r_move (v := .int .i64 a1) rfl) ?_
  obtain ⟨t12, h_t12, H6⟩ := bnd_some H; clear H
  refine l_val rfl rfl rfl (r_indexF Try.underlying22 Try.sizeOf31 rfl rfl f0 h_t12) ?_
  refine l_read (fun w hF hS => run_loadGN (f := e_edit_Step) (i := a1) (sz := 5) (j := 0) (vs := [.int .i64 t12.Kind, .int .i64 t12.A, .int .i64 t12.B, .int .i64 t12.C, .int .i64 t12.D]) Try.isAgg31 Try.sizeOf31 rfl rfl (f0.row (hw.now hF)) h_t12 rfl) rfl rfl rfl ?_
  refine l_val rfl rfl rfl (r_move (v := .int .i64 a2) rfl) ?_
  refine l_val rfl rfl rfl (r_move (v := .int .i64 a3) rfl) ?_
  obtain ⟨t16, h_t16, H7⟩ := bnd_some H6; clear H6
  refine l_call (k60 h_t16) Try.call60 rfl rfl rfl ?_
  refine l_val rfl rfl rfl (r_not rfl) ?_
  refine l_nil ?_
  refine c_if (b := (!t16)) rfl (fun hb => ?_) (fun hb => ?_)
  · have H8 := cnd_t hb H7; clear H7
    refine c_seq ?_
    refine c_region ?_
    refine l_val rfl rfl rfl (r_assign (v := .slice none 0 0) rfl) ?_
    refine l_val rfl rfl rfl (r_assign (v := .bool false) rfl) ?_
    refine l_nil ?_
    refine c_ret ?_
    refine c_nilRow 31 5 ?_
    obtain rfl := Option.some.inj H8
    refine ret2 (v1 := .slice ((none, 0) : Option Addr × Nat).1 ([] : List T_edit_Step).length ((none, 0) : Option Addr × Nat).2) (v2 := .bool false) rfl rfl rfl (finX ((none, 0) : Option Addr × Nat) (i := 0) rfl rfl (Imp.refl _))
  · have H9 := cnd_f hb H7; clear H7
    refine c_skip ?_
    refine c_seq ?_
    refine c_region ?_
    refine l_val rfl rfl rfl (r_move (v := v0) rfl) ?_
    refine l_val rfl rfl rfl (r_move (v := .int .i64 a1) rfl) ?_
    obtain ⟨t20, h_t20, H10⟩ := bnd_some H9; clear H9
    refine l_make (makes_call (rds := []) (G := fun x : (Option Addr × Nat) => .slice x.1 t20.length x.2) (C := fun x : (Option Addr × Nat) => rowV 31 5 (.slice x.1 t20.length x.2) t20.length (t20.map e_edit_Step)) (fun w L' hF hS hi => k170 (know_all w) (f0.mono (hw.now hF)) (FrS.nil _ _) h_t20) Try.call170 rfl) rfl rfl rfl (fun p => ?_)
    refine l_val rfl rfl rfl (r_assign (v := .slice p.1 t20.length p.2) rfl) ?_
    refine l_val rfl rfl rfl (r_assign (v := .bool true) rfl) ?_
    refine l_nil ?_
    refine c_ret ?_
    obtain rfl := Option.some.inj H10
    refine ret2 (v1 := .slice p.1 t20.length p.2) (v2 := .bool true) rfl rfl rfl (finX p (i := 0) rfl rfl (Imp.refl _))
theorem k171 {a0 : (List T_edit_Step)} {v0 : Value} {a1 : Int} {a2 : Int} {a3 : Int} {r : Bool} {w : World} {h : Heap} (hw : Know h w noS) (f0 : FrS h 5 v0 (a0.map e_edit_Step)) (H : edit_pair a0 a1 a2 a3 = some r) : Does Try.prog 171 (List.toArray [v0, .int .i64 a1, .int .i64 a2, .int .i64 a3]) w (fun v w' => v = (.bool r) ∧ Grow w w') := by
  refine enter (n := 33) Try.func171 rfl rfl rfl noS [] (Sat.nil _ _) ?_
  refine c_seq ?_
  refine c_region ?_
  refine l_val rfl rfl rfl (r_assign (v := .bool false) rfl) ?_
  refine l_nil ?_
  refine c_seq ?_
  refine c_region ?_
  refine l_val rfl rfl rfl (r_move (v := .int .i64 a1) rfl) ?_
  obtain ⟨t10, h_t10, H9⟩ := bnd_some H; clear H
  refine l_val rfl rfl rfl (r_addG rfl rfl h_t10) ?_
  refine l_val rfl rfl rfl (r_move (v := v0) rfl) ?_
  refine l_val rfl rfl rfl (r_lenF Try.underlying22 rfl f0 rfl) ?_
  refine l_val rfl rfl rfl (r_lss rfl rfl) ?_
  refine l_val rfl rfl rfl (r_move (v := .bool (decide (t10 < (a0.length : Int)))) rfl) ?_
  refine split (fun hb => ?_) (fun hb => ?_)
  · have H10 := cnd_t hb H9; clear H9
    refine l_val rfl rfl rfl (r_move (v := v0) rfl) ?_
    refine l_val rfl rfl rfl (r_move (v := .int .i64 a1) rfl) ?_
    obtain ⟨t17, h_t17, H11⟩ := bnd_some H10; clear H10
    refine l_val rfl rfl rfl (r_indexF Try.underlying22 Try.sizeOf31 rfl rfl f0 h_t17) ?_
    refine l_val rfl rfl rfl (r_fieldP Try.runUnderlying31 rfl Try.sizeOf3 rfl rfl (some_of_at f0 h_t17)) ?_
    refine l_read (fun w hF hS => run_loadG1 (f := e_edit_Step) (i := a1) (sz := 5) (j := 0) (v := .int .i64 t17.Kind) Try.isAgg3 rfl rfl (f0.row (hw.now hF)) h_t17 rfl) rfl rfl rfl ?_
    refine l_val rfl rfl rfl (r_move (v := .int .i64 a2) rfl) ?_
    refine l_val rfl rfl rfl (r_eql rfl rfl) ?_
    refine l_val rfl rfl rfl (r_pickT (v := .bool (decide (t17.Kind = a2))) rfl rfl) ?_
    refine l_val rfl rfl rfl (r_move (v := .bool (decide (t17.Kind = a2))) rfl) ?_
    refine split (fun hb => ?_) (fun hb => ?_)
    · have H12 := cnd_t hb H11; clear H11
      refine l_val rfl rfl rfl (r_move (v := v0) rfl) ?_
      refine l_val rfl rfl rfl (r_move (v := .int .i64 a1) rfl) ?_
      obtain ⟨t26, h_t26, H13⟩ := bnd_some H12; clear H12
      refine l_val rfl rfl rfl (r_addG rfl rfl h_t26) ?_
      obtain ⟨t27, h_t27, H14⟩ := bnd_some H13; clear H13
      refine l_val rfl rfl rfl (r_indexF Try.underlying22 Try.sizeOf31 rfl rfl f0 h_t27) ?_
      refine l_val rfl rfl rfl (r_fieldP Try.runUnderlying31 rfl Try.sizeOf3 rfl rfl (some_of_at f0 h_t27)) ?_
      refine l_read (fun w hF hS => run_loadG1 (f := e_edit_Step) (i := t26) (sz := 5) (j := 0) (v := .int .i64 t27.Kind) Try.isAgg3 rfl rfl (f0.row (hw.now hF)) h_t27 rfl) rfl rfl rfl ?_
      refine l_val rfl rfl rfl (r_move (v := .int .i64 a3) rfl) ?_
      refine l_val rfl rfl rfl (r_eql rfl rfl) ?_
      refine l_val rfl rfl rfl (r_pickT (v := .bool (decide (t27.Kind = a3))) rfl rfl) ?_
      refine l_val rfl rfl rfl (r_assign (v := .bool (decide (t27.Kind = a3))) rfl) ?_
      refine l_nil ?_
      refine c_ret ?_
      obtain rfl := Option.some.inj H14
      refine ret1 (v := .bool (decide (t27.Kind = a3))) rfl rfl (fin rfl)
    · have H15 := cnd_f hb H11; clear H11
      refine l_passed rfl rfl rfl ?_
      refine l_passed rfl rfl rfl ?_
      refine l_passed rfl rfl rfl ?_
      refine l_passed rfl rfl rfl ?_
      refine l_passed rfl rfl rfl ?_
      refine l_passed rfl rfl rfl ?_
      refine l_passed rfl rfl rfl ?_
      refine l_passed rfl rfl rfl ?_
      refine l_val rfl rfl rfl (r_pickF (v := .bool false) rfl rfl) ?_
      refine l_val rfl rfl rfl (r_assign (v := .bool false) rfl) ?_
      refine l_nil ?_
      refine c_ret ?_
      obtain rfl := Option.some.inj H15
      refine ret1 (v := .bool false) rfl rfl (fin rfl)
  · have H16 := cnd_f hb H9; clear H9
    refine l_passed rfl rfl rfl ?_
    refine l_passed rfl rfl rfl ?_
    refine l_passed rfl rfl rfl ?_
    refine l_passed rfl rfl rfl ?_
    refine l_passed rfl rfl rfl ?_
    refine l_passed rfl rfl rfl ?_
    refine l_passed rfl rfl rfl ?_
    refine l_val rfl rfl rfl (r_pickF (v := .bool false) rfl rfl) ?_
    refine l_val rfl rfl rfl (r_move (v := .bool false) rfl) ?_
    refine l_passed rfl rfl rfl ?_
    refine l_passed rfl rfl rfl ?_
    refine l_passed rfl rfl rfl ?_
    refine l_passed rfl rfl rfl ?_
    refine l_passed rfl rfl rfl ?_
    refine l_passed rfl rfl rfl ?_
    refine l_passed rfl rfl rfl ?_
    refine l_passed rfl rfl rfl ?_
    refine l_val rfl rfl rfl (r_pickF (v := .bool false) rfl rfl) ?_
    refine l_val rfl rfl rfl (r_assign (v := .bool false) rfl) ?_
    refine l_nil ?_
    refine c_ret ?_
    obtain rfl := Option.some.inj H16
    refine ret1 (v := .bool false) rfl rfl (fin rfl)
theorem k209 {a0 : Int} {a1 : Int} {a2 : Int} {r : Bool} (H : pix_outside a0 a1 a2 = some r) : Ret Try.prog 209 [.int .i64 a0, .int .i64 a1, .int .i64 a2] (.bool r) := by
  refine enterRet (n := 15) Try.func209 rfl rfl rfl (fun wd => ?_)
  refine c_seq ?_
  refine c_region ?_
  refine l_val rfl rfl rfl (r_assign (v := .bool false) rfl) ?_
  refine l_nil ?_
  refine c_seq ?_
  refine c_region ?_
  refine l_val rfl rfl rfl (r_move (v := .int .i64 a0) rfl) ?_
  refine l_val rfl rfl rfl (r_move (v := .int .i64 a1) rfl) ?_
  refine l_val rfl rfl rfl (r_lss rfl rfl) ?_
  refine l_val rfl rfl rfl (r_move (v := .bool (decide (a0 < a1))) rfl) ?_
  refine split (fun hb => ?_) (fun hb => ?_)
  · have H3 := cnd_t hb H; clear H
    refine l_passed rfl rfl rfl ?_
    refine l_passed rfl rfl rfl ?_
    refine l_passed rfl rfl rfl ?_
    refine l_val rfl rfl rfl (r_pickT (v := .bool true) rfl rfl) ?_
    refine l_val rfl rfl rfl (r_assign (v := .bool true) rfl) ?_
    refine l_nil ?_
    refine c_ret ?_
    obtain rfl := Option.some.inj H3
    refine ret1 (v := .bool true) rfl rfl (fin rfl)
  · have H4 := cnd_f hb H; clear H
    refine l_val rfl rfl rfl (r_move (v := .int .i64 a0) rfl) ?_
    refine l_val rfl rfl rfl (r_move (v := .int .i64 a2) rfl) ?_
    refine l_val rfl rfl rfl (r_gtr rfl rfl) ?_
    refine l_val rfl rfl rfl (r_pickF (v := .bool (decide (a2 < a0))) rfl rfl) ?_
    refine l_val rfl rfl rfl (r_assign (v := .bool (decide (a2 < a0))) rfl) ?_
    refine l_nil ?_
    refine c_ret ?_
    obtain rfl := Option.some.inj H4
    refine ret1 (v := .bool (decide (a2 < a0))) rfl rfl (fin rfl)
theorem k245 {a0 : Int} {a1 : Int} {a2 : Int} {a3 : Int} {r : Int × Int} (H : pix_turnings_1 a0 a1 a2 a3 = some r) : Ret Try.prog 245 [.int .i64 a0, .int .i64 a1, .int .i64 a2, .int .i64 a3] (.tuple #[.int .i64 r.1, .int .i64 r.2]) := by
  refine enterRet (n := 12) Try.func245 rfl rfl rfl (fun wd => ?_)
  refine c_seq ?_
  refine c_region ?_
  refine l_val rfl rfl rfl (r_assign (v := .int .i64 0) rfl) ?_
  refine l_val rfl rfl rfl (r_assign (v := .int .i64 0) rfl) ?_
  refine l_nil ?_
  refine c_seq ?_
  refine c_region ?_
  refine l_val rfl rfl rfl (r_move (v := .int .i64 a2) rfl) ?_
  refine l_val rfl rfl rfl (r_move (v := .int .i64 a3) rfl) ?_
  refine l_val rfl rfl rfl (r_assign (v := .int .i64 a2) rfl) ?_
  refine l_val rfl rfl rfl (r_assign (v := .int .i64 a3) rfl) ?_
  refine l_nil ?_
  refine c_ret ?_
  obtain rfl := Option.some.inj H
  refine ret2 (v1 := .int .i64 a2) (v2 := .int .i64 a3) rfl rfl rfl (fin rfl)
theorem k246 {a0 : Int} {a1 : Int} {a2 : Int} {a3 : Int} {r : Int × Int} (H : pix_turnings_2 a0 a1 a2 a3 = some r) : Ret Try.prog 246 [.int .i64 a0, .int .i64 a1, .int .i64 a2, .int .i64 a3] (.tuple #[.int .i64 r.1, .int .i64 r.2]) := by
  refine enterRet (n := 15) Try.func246 rfl rfl rfl (fun wd => ?_)
  refine c_seq ?_
  refine c_region ?_
  refine l_val rfl rfl rfl (r_assign (v := .int .i64 0) rfl) ?_
  refine l_val rfl rfl rfl (r_assign (v := .int .i64 0) rfl) ?_
  refine l_nil ?_
  refine c_seq ?_
  refine c_region ?_
  refine l_val rfl rfl rfl (r_move (v := .int .i64 a0) rfl) ?_
  obtain ⟨t11, h_t11, H3⟩ := bnd_some H; clear H
  refine l_val rfl rfl rfl (r_subG rfl rfl h_t11) ?_
  refine l_val rfl rfl rfl (r_move (v := .int .i64 a2) rfl) ?_
  obtain ⟨t13, h_t13, H4⟩ := bnd_some H3; clear H3
  refine l_val rfl rfl rfl (r_subG rfl rfl h_t13) ?_
  refine l_val rfl rfl rfl (r_move (v := .int .i64 a3) rfl) ?_
  refine l_val rfl rfl rfl (r_assign (v := .int .i64 t13) rfl) ?_
  refine l_val rfl rfl rfl (r_assign (v := .int .i64 a3) rfl) ?_
  refine l_nil ?_
  refine c_ret ?_
  obtain rfl := Option.some.inj H4
  refine ret2 (v1 := .int .i64 t13) (v2 := .int .i64 a3) rfl rfl rfl (fin rfl)
theorem k247 {a0 : Int} {a1 : Int} {a2 : Int} {a3 : Int} {r : Int × Int} (H : pix_turnings_3 a0 a1 a2 a3 = some r) : Ret Try.prog 247 [.int .i64 a0, .int .i64 a1, .int .i64 a2, .int .i64 a3] (.tuple #[.int .i64 r.1, .int .i64 r.2]) := by
  refine enterRet (n := 18) Try.func247 rfl rfl rfl (fun wd => ?_)
  refine c_seq ?_
  refine c_region ?_
  refine l_val rfl rfl rfl (r_assign (v := .int .i64 0) rfl) ?_
  refine l_val rfl rfl rfl (r_assign (v := .int .i64 0) rfl) ?_
  refine l_nil ?_
  refine c_seq ?_
  refine c_region ?_
  refine l_val rfl rfl rfl (r_move (v := .int .i64 a0) rfl) ?_
  obtain ⟨t11, h_t11, H5⟩ := bnd_some H; clear H
  refine l_val rfl rfl rfl (r_subG rfl rfl h_t11) ?_
  refine l_val rfl rfl rfl (r_move (v := .int .i64 a2) rfl) ?_
  obtain ⟨t13, h_t13, H6⟩ := bnd_some H5; clear H5
  refine l_val rfl rfl rfl (r_subG rfl rfl h_t13) ?_
  refine l_val rfl rfl rfl (r_move (v := .int .i64 a1) rfl) ?_
  obtain ⟨t15, h_t15, H7⟩ := bnd_some H6; clear H6
  refine l_val rfl rfl rfl (r_subG rfl rfl h_t15) ?_
  refine l_val rfl rfl rfl (r_move (v := .int .i64 a3) rfl) ?_
  obtain ⟨t17, h_t17, H8⟩ := bnd_some H7; clear H7
  refine l_val rfl rfl rfl (r_subG rfl rfl h_t17) ?_
  refine l_val rfl rfl rfl (r_assign (v := .int .i64 t13) rfl) ?_
  refine l_val rfl rfl rfl (r_assign (v := .int .i64 t17) rfl) ?_
  refine l_nil ?_
  refine c_ret ?_
  obtain rfl := Option.some.inj H8
  refine ret2 (v1 := .int .i64 t13) (v2 := .int .i64 t17) rfl rfl rfl (fin rfl)
theorem k248 {a0 : Int} {a1 : Int} {a2 : Int} {a3 : Int} {r : Int × Int} (H : pix_turnings_4 a0 a1 a2 a3 = some r) : Ret Try.prog 248 [.int .i64 a0, .int .i64 a1, .int .i64 a2, .int .i64 a3] (.tuple #[.int .i64 r.1, .int .i64 r.2]) := by
  refine enterRet (n := 15) Try.func248 rfl rfl rfl (fun wd => ?_)
  refine c_seq ?_
  refine c_region ?_
  refine l_val rfl rfl rfl (r_assign (v := .int .i64 0) rfl) ?_
  refine l_val rfl rfl rfl (r_assign (v := .int .i64 0) rfl) ?_
  refine l_nil ?_
  refine c_seq ?_
  refine c_region ?_
  refine l_val rfl rfl rfl (r_move (v := .int .i64 a2) rfl) ?_
  refine l_val rfl rfl rfl (r_move (v := .int .i64 a1) rfl) ?_
  obtain ⟨t12, h_t12, H3⟩ := bnd_some H; clear H
  refine l_val rfl rfl rfl (r_subG rfl rfl h_t12) ?_
  refine l_val rfl rfl rfl (r_move (v := .int .i64 a3) rfl) ?_
  obtain ⟨t14, h_t14, H4⟩ := bnd_some H3; clear H3
  refine l_val rfl rfl rfl (r_subG rfl rfl h_t14) ?_
  refine l_val rfl rfl rfl (r_assign (v := .int .i64 a2) rfl) ?_
  refine l_val rfl rfl rfl (r_assign (v := .int .i64 t14) rfl) ?_
  refine l_nil ?_
  refine c_ret ?_
  obtain rfl := Option.some.inj H4
  refine ret2 (v1 := .int .i64 a2) (v2 := .int .i64 t14) rfl rfl rfl (fin rfl)
theorem k249 {a0 : Int} {a1 : Int} {a2 : Int} {a3 : Int} {r : Int × Int} (H : pix_turnings_5 a0 a1 a2 a3 = some r) : Ret Try.prog 249 [.int .i64 a0, .int .i64 a1, .int .i64 a2, .int .i64 a3] (.tuple #[.int .i64 r.1, .int .i64 r.2]) := by
  refine enterRet (n := 12) Try.func249 rfl rfl rfl (fun wd => ?_)
  refine c_seq ?_
  refine c_region ?_
  refine l_val rfl rfl rfl (r_assign (v := .int .i64 0) rfl) ?_
  refine l_val rfl rfl rfl (r_assign (v := .int .i64 0) rfl) ?_
  refine l_nil ?_
  refine c_seq ?_
  refine c_region ?_
  refine l_val rfl rfl rfl (r_move (v := .int .i64 a3) rfl) ?_
  refine l_val rfl rfl rfl (r_move (v := .int .i64 a2) rfl) ?_
  refine l_val rfl rfl rfl (r_assign (v := .int .i64 a3) rfl) ?_
  refine l_val rfl rfl rfl (r_assign (v := .int .i64 a2) rfl) ?_
  refine l_nil ?_
  refine c_ret ?_
  obtain rfl := Option.some.inj H
  refine ret2 (v1 := .int .i64 a3) (v2 := .int .i64 a2) rfl rfl rfl (fin rfl)
theorem k250 {a0 : Int} {a1 : Int} {a2 : Int} {a3 : Int} {r : Int × Int} (H : pix_turnings_6 a0 a1 a2 a3 = some r) : Ret Try.prog 250 [.int .i64 a0, .int .i64 a1, .int .i64 a2, .int .i64 a3] (.tuple #[.int .i64 r.1, .int .i64 r.2]) := by
  refine enterRet (n := 15) Try.func250 rfl rfl rfl (fun wd => ?_)
  refine c_seq ?_
  refine c_region ?_
  refine l_val rfl rfl rfl (r_assign (v := .int .i64 0) rfl) ?_
  refine l_val rfl rfl rfl (r_assign (v := .int .i64 0) rfl) ?_
  refine l_nil ?_
  refine c_seq ?_
  refine c_region ?_
  refine l_val rfl rfl rfl (r_move (v := .int .i64 a3) rfl) ?_
  refine l_val rfl rfl rfl (r_move (v := .int .i64 a1) rfl) ?_
  obtain ⟨t12, h_t12, H3⟩ := bnd_some H; clear H
  refine l_val rfl rfl rfl (r_subG rfl rfl h_t12) ?_
  refine l_val rfl rfl rfl (r_move (v := .int .i64 a2) rfl) ?_
  obtain ⟨t14, h_t14, H4⟩ := bnd_some H3; clear H3
  refine l_val rfl rfl rfl (r_subG rfl rfl h_t14) ?_
  refine l_val rfl rfl rfl (r_assign (v := .int .i64 a3) rfl) ?_
  refine l_val rfl rfl rfl (r_assign (v := .int .i64 t14) rfl) ?_
  refine l_nil ?_
  refine c_ret ?_
  obtain rfl := Option.some.inj H4
  refine ret2 (v1 := .int .i64 a3) (v2 := .int .i64 t14) rfl rfl rfl (fin rfl)
theorem k251 {a0 : Int} {a1 : Int} {a2 : Int} {a3 : Int} {r : Int × Int} (H : pix_turnings_7 a0 a1 a2 a3 = some r) : Ret Try.prog 251 [.int .i64 a0, .int .i64 a1, .int .i64 a2, .int .i64 a3] (.tuple #[.int .i64 r.1, .int .i64 r.2]) := by
  refine enterRet (n := 18) Try.func251 rfl rfl rfl (fun wd => ?_)
  refine c_seq ?_
  refine c_region ?_
  refine l_val rfl rfl rfl (r_assign (v := .int .i64 0) rfl) ?_
  refine l_val rfl rfl rfl (r_assign (v := .int .i64 0) rfl) ?_
  refine l_nil ?_
  refine c_seq ?_
  refine c_region ?_
  refine l_val rfl rfl rfl (r_move (v := .int .i64 a0) rfl) ?_
  obtain ⟨t11, h_t11, H5⟩ := bnd_some H; clear H
  refine l_val rfl rfl rfl (r_subG rfl rfl h_t11) ?_
  refine l_val rfl rfl rfl (r_move (v := .int .i64 a3) rfl) ?_
  obtain ⟨t13, h_t13, H6⟩ := bnd_some H5; clear H5
  refine l_val rfl rfl rfl (r_subG rfl rfl h_t13) ?_
  refine l_val rfl rfl rfl (r_move (v := .int .i64 a1) rfl) ?_
  obtain ⟨t15, h_t15, H7⟩ := bnd_some H6; clear H6
  refine l_val rfl rfl rfl (r_subG rfl rfl h_t15) ?_
  refine l_val rfl rfl rfl (r_move (v := .int .i64 a2) rfl) ?_
  obtain ⟨t17, h_t17, H8⟩ := bnd_some H7; clear H7
  refine l_val rfl rfl rfl (r_subG rfl rfl h_t17) ?_
  refine l_val rfl rfl rfl (r_assign (v := .int .i64 t13) rfl) ?_
  refine l_val rfl rfl rfl (r_assign (v := .int .i64 t17) rfl) ?_
  refine l_nil ?_
  refine c_ret ?_
  obtain rfl := Option.some.inj H8
  refine ret2 (v1 := .int .i64 t13) (v2 := .int .i64 t17) rfl rfl rfl (fin rfl)
theorem k252 {a0 : Int} {a1 : Int} {a2 : Int} {a3 : Int} {r : Int × Int} (H : pix_turnings_8 a0 a1 a2 a3 = some r) : Ret Try.prog 252 [.int .i64 a0, .int .i64 a1, .int .i64 a2, .int .i64 a3] (.tuple #[.int .i64 r.1, .int .i64 r.2]) := by
  refine enterRet (n := 15) Try.func252 rfl rfl rfl (fun wd => ?_)
  refine c_seq ?_
  refine c_region ?_
  refine l_val rfl rfl rfl (r_assign (v := .int .i64 0) rfl) ?_
  refine l_val rfl rfl rfl (r_assign (v := .int .i64 0) rfl) ?_
  refine l_nil ?_
  refine c_seq ?_
  refine c_region ?_
  refine l_val rfl rfl rfl (r_move (v := .int .i64 a0) rfl) ?_
  obtain ⟨t11, h_t11, H3⟩ := bnd_some H; clear H
  refine l_val rfl rfl rfl (r_subG rfl rfl h_t11) ?_
  refine l_val rfl rfl rfl (r_move (v := .int .i64 a3) rfl) ?_
  obtain ⟨t13, h_t13, H4⟩ := bnd_some H3; clear H3
  refine l_val rfl rfl rfl (r_subG rfl rfl h_t13) ?_
  refine l_val rfl rfl rfl (r_move (v := .int .i64 a2) rfl) ?_
  refine l_val rfl rfl rfl (r_assign (v := .int .i64 t13) rfl) ?_
  refine l_val rfl rfl rfl (r_assign (v := .int .i64 a2) rfl) ?_
  refine l_nil ?_
  refine c_ret ?_
  obtain rfl := Option.some.inj H4
  refine ret2 (v1 := .int .i64 t13) (v2 := .int .i64 a2) rfl rfl rfl (fin rfl)
theorem k237 {r : Unit} (H : pix_turnings = some r) : Ret Try.prog 237 [] (.agg #[.nilFunc, .bool false, .func (.func 245) #[] #[], .bool false, .func (.func 246) #[] #[], .bool false, .func (.func 247) #[] #[], .bool false, .func (.func 248) #[] #[], .bool false, .func (.func 249) #[] #[], .bool true, .func (.func 250) #[] #[], .bool true, .func (.func 251) #[] #[], .bool true, .func (.func 252) #[] #[], .bool true]) := by
  refine enterRet (n := 10) Try.func237 rfl rfl rfl (fun wd => ?_)
  refine c_seq ?_
  refine c_region ?_
  refine l_alloc (cs := [.nilFunc, .bool false, .nilFunc, .bool false, .nilFunc, .bool false, .nilFunc, .bool false, .nilFunc, .bool false, .nilFunc, .bool false, .nilFunc, .bool false, .nilFunc, .bool false, .nilFunc, .bool false]) Try.zeroValue270 rfl rfl rfl (fun b2 => ?_)
  refine l_nil ?_
  refine c_seq ?_
  refine c_region ?_
  refine l_val rfl rfl rfl (r_build (pl := #[(0, 1), (1, 1)]) (ps := [(0, .func (.func 245) #[] #[]), (1, .bool false)]) (cells := #[.func (.func 245) #[] #[], .bool false]) Try.zeroValue269 Try.runUnderlying269 (fun w => by kernel_rfl) rfl rfl) ?_
  refine l_val rfl rfl rfl (r_build (pl := #[(0, 1), (1, 1)]) (ps := [(0, .func (.func 246) #[] #[]), (1, .bool false)]) (cells := #[.func (.func 246) #[] #[], .bool false]) Try.zeroValue269 Try.runUnderlying269 (fun w => by kernel_rfl) rfl rfl) ?_
  refine l_val rfl rfl rfl (r_build (pl := #[(0, 1), (1, 1)]) (ps := [(0, .func (.func 247) #[] #[]), (1, .bool false)]) (cells := #[.func (.func 247) #[] #[], .bool false]) Try.zeroValue269 Try.runUnderlying269 (fun w => by kernel_rfl) rfl rfl) ?_
  refine l_val rfl rfl rfl (r_build (pl := #[(0, 1), (1, 1)]) (ps := [(0, .func (.func 248) #[] #[]), (1, .bool false)]) (cells := #[.func (.func 248) #[] #[], .bool false]) Try.zeroValue269 Try.runUnderlying269 (fun w => by kernel_rfl) rfl rfl) ?_
  refine l_val rfl rfl rfl (r_build (pl := #[(0, 1), (1, 1)]) (ps := [(0, .func (.func 249) #[] #[]), (1, .bool true)]) (cells := #[.func (.func 249) #[] #[], .bool true]) Try.zeroValue269 Try.runUnderlying269 (fun w => by kernel_rfl) rfl rfl) ?_
  refine l_val rfl rfl rfl (r_build (pl := #[(0, 1), (1, 1)]) (ps := [(0, .func (.func 250) #[] #[]), (1, .bool true)]) (cells := #[.func (.func 250) #[] #[], .bool true]) Try.zeroValue269 Try.runUnderlying269 (fun w => by kernel_rfl) rfl rfl) ?_
  refine l_val rfl rfl rfl (r_build (pl := #[(0, 1), (1, 1)]) (ps := [(0, .func (.func 251) #[] #[]), (1, .bool true)]) (cells := #[.func (.func 251) #[] #[], .bool true]) Try.zeroValue269 Try.runUnderlying269 (fun w => by kernel_rfl) rfl rfl) ?_
  refine l_val rfl rfl rfl (r_build (pl := #[(0, 1), (1, 1)]) (ps := [(0, .func (.func 252) #[] #[]), (1, .bool true)]) (cells := #[.func (.func 252) #[] #[], .bool true]) Try.zeroValue269 Try.runUnderlying269 (fun w => by kernel_rfl) rfl rfl) ?_
  refine l_val rfl rfl rfl (r_buildA (ps := [(1, .agg #[.func (.func 245) #[] #[], .bool false]), (2, .agg #[.func (.func 246) #[] #[], .bool false]), (3, .agg #[.func (.func 247) #[] #[], .bool false]), (4, .agg #[.func (.func 248) #[] #[], .bool false]), (5, .agg #[.func (.func 249) #[] #[], .bool true]), (6, .agg #[.func (.func 250) #[] #[], .bool true]), (7, .agg #[.func (.func 251) #[] #[], .bool true]), (8, .agg #[.func (.func 252) #[] #[], .bool true])]) (cells := #[.nilFunc, .bool false, .func (.func 245) #[] #[], .bool false, .func (.func 246) #[] #[], .bool false, .func (.func 247) #[] #[], .bool false, .func (.func 248) #[] #[], .bool false, .func (.func 249) #[] #[], .bool true, .func (.func 250) #[] #[], .bool true, .func (.func 251) #[] #[], .bool true, .func (.func 252) #[] #[], .bool true]) Try.zeroValue270 Try.runUnderlying270 Try.sizeOf269 rfl rfl) ?_
  refine l_store (i := 0) (vs := [.nilFunc, .bool false, .func (.func 245) #[] #[], .bool false, .func (.func 246) #[] #[], .bool false, .func (.func 247) #[] #[], .bool false, .func (.func 248) #[] #[], .bool false, .func (.func 249) #[] #[], .bool true, .func (.func 250) #[] #[], .bool true, .func (.func 251) #[] #[], .bool true, .func (.func 252) #[] #[], .bool true]) (cs' := [.nilFunc, .bool false, .func (.func 245) #[] #[], .bool false, .func (.func 246) #[] #[], .bool false, .func (.func 247) #[] #[], .bool false, .func (.func 248) #[] #[], .bool false, .func (.func 249) #[] #[], .bool true, .func (.func 250) #[] #[], .bool true, .func (.func 251) #[] #[], .bool true, .func (.func 252) #[] #[], .bool true]) Try.sizeOf270 rfl rfl rfl rfl rfl rfl rfl rfl rfl ?_
  refine l_nil ?_
  refine c_ret ?_
  cases H
  refine retC (i := 0) (vs := [.nilFunc, .bool false, .func (.func 245) #[] #[], .bool false, .func (.func 246) #[] #[], .bool false, .func (.func 247) #[] #[], .bool false, .func (.func 248) #[] #[], .bool false, .func (.func 249) #[] #[], .bool true, .func (.func 250) #[] #[], .bool true, .func (.func 251) #[] #[], .bool true, .func (.func 252) #[] #[], .bool true]) Try.isAgg270 Try.sizeOf270 rfl rfl rfl rfl (fin rfl)
abbrev v237_0_0 : Nat → Value := ofL [.nilFunc, .func (.func 245) #[] #[], .func (.func 246) #[] #[], .func (.func 247) #[] #[], .func (.func 248) #[] #[], .func (.func 249) #[] #[], .func (.func 250) #[] #[], .func (.func 251) #[] #[], .func (.func 252) #[] #[]]
theorem h237_0_0 {k : Nat} (hk : k < 9) : FnV Try.prog (v237_0_0 k) (pix_turnings_tab0 k) (fun g => fnR_func_int_int_int_int_int_int g) :=
  match k, hk with
  | 0, _ => (show FnV Try.prog (v237_0_0 0) (pix_turnings_tab0 0) _ from FnV.nil)
  | 1, _ => (show FnV Try.prog (v237_0_0 1) (pix_turnings_tab0 1) _ from (FnV.mk (g := pix_turnings_1) (R := fun g => fnR_func_int_int_int_int_int_int g) (fun h_ => (FnH.mk ⟨245, #[], #[], rfl, Try.call245, fun args2 post2 w2 hk2 hR2 => by obtain ⟨a0_, a1_, a2_, a3_, r_, rfl, H_, rfl⟩ := hR2; exact k245 H_ w2⟩))))
  | 2, _ => (show FnV Try.prog (v237_0_0 2) (pix_turnings_tab0 2) _ from (FnV.mk (g := pix_turnings_2) (R := fun g => fnR_func_int_int_int_int_int_int g) (fun h_ => (FnH.mk ⟨246, #[], #[], rfl, Try.call246, fun args2 post2 w2 hk2 hR2 => by obtain ⟨a0_, a1_, a2_, a3_, r_, rfl, H_, rfl⟩ := hR2; exact k246 H_ w2⟩))))
  | 3, _ => (show FnV Try.prog (v237_0_0 3) (pix_turnings_tab0 3) _ from (FnV.mk (g := pix_turnings_3) (R := fun g => fnR_func_int_int_int_int_int_int g) (fun h_ => (FnH.mk ⟨247, #[], #[], rfl, Try.call247, fun args2 post2 w2 hk2 hR2 => by obtain ⟨a0_, a1_, a2_, a3_, r_, rfl, H_, rfl⟩ := hR2; exact k247 H_ w2⟩))))
  | 4, _ => (show FnV Try.prog (v237_0_0 4) (pix_turnings_tab0 4) _ from (FnV.mk (g := pix_turnings_4) (R := fun g => fnR_func_int_int_int_int_int_int g) (fun h_ => (FnH.mk ⟨248, #[], #[], rfl, Try.call248, fun args2 post2 w2 hk2 hR2 => by obtain ⟨a0_, a1_, a2_, a3_, r_, rfl, H_, rfl⟩ := hR2; exact k248 H_ w2⟩))))
  | 5, _ => (show FnV Try.prog (v237_0_0 5) (pix_turnings_tab0 5) _ from (FnV.mk (g := pix_turnings_5) (R := fun g => fnR_func_int_int_int_int_int_int g) (fun h_ => (FnH.mk ⟨249, #[], #[], rfl, Try.call249, fun args2 post2 w2 hk2 hR2 => by obtain ⟨a0_, a1_, a2_, a3_, r_, rfl, H_, rfl⟩ := hR2; exact k249 H_ w2⟩))))
  | 6, _ => (show FnV Try.prog (v237_0_0 6) (pix_turnings_tab0 6) _ from (FnV.mk (g := pix_turnings_6) (R := fun g => fnR_func_int_int_int_int_int_int g) (fun h_ => (FnH.mk ⟨250, #[], #[], rfl, Try.call250, fun args2 post2 w2 hk2 hR2 => by obtain ⟨a0_, a1_, a2_, a3_, r_, rfl, H_, rfl⟩ := hR2; exact k250 H_ w2⟩))))
  | 7, _ => (show FnV Try.prog (v237_0_0 7) (pix_turnings_tab0 7) _ from (FnV.mk (g := pix_turnings_7) (R := fun g => fnR_func_int_int_int_int_int_int g) (fun h_ => (FnH.mk ⟨251, #[], #[], rfl, Try.call251, fun args2 post2 w2 hk2 hR2 => by obtain ⟨a0_, a1_, a2_, a3_, r_, rfl, H_, rfl⟩ := hR2; exact k251 H_ w2⟩))))
  | 8, _ => (show FnV Try.prog (v237_0_0 8) (pix_turnings_tab0 8) _ from (FnV.mk (g := pix_turnings_8) (R := fun g => fnR_func_int_int_int_int_int_int g) (fun h_ => (FnH.mk ⟨252, #[], #[], rfl, Try.call252, fun args2 post2 w2 hk2 hR2 => by obtain ⟨a0_, a1_, a2_, a3_, r_, rfl, H_, rfl⟩ := hR2; exact k252 H_ w2⟩))))
  | k_ + 9, hk => absurd hk (by omega)

theorem k213 {a0 : Int} {a1 : Int} {a2 : Int} {r : Int × Int} (H : pix_Sides a0 a1 a2 = some r) : Ret Try.prog 213 [.int .i64 a0, .int .i64 a1, .int .i64 a2] (.tuple #[.int .i64 r.1, .int .i64 r.2]) := by
  refine enterRet (n := 16) Try.func213 rfl rfl rfl (fun wd => ?_)
  refine c_seq ?_
  refine c_region ?_
  refine l_val rfl rfl rfl (r_assign (v := .int .i64 0) rfl) ?_
  refine l_val rfl rfl rfl (r_assign (v := .int .i64 0) rfl) ?_
  refine l_nil ?_
  refine c_seq ?_
  refine c_seq ?_
  refine c_region ?_
  obtain ⟨t8, h_t8, H5⟩ := bnd_some H; clear H
  refine l_call (k237 h_t8) Try.call237 rfl rfl rfl ?_
  refine l_val rfl rfl rfl (r_move (v := .int .i64 a0) rfl) ?_
  obtain ⟨k10, h_k10, H6⟩ := bnd_some H5; clear H5
  refine l_val rfl rfl rfl (r_indexAN (f := fun j_ => [v237_0_0 j_, .bool (pix_turnings_tab1 j_)]) Try.runUnderlying270 Try.isAgg269 Try.sizeOf269 rfl rfl rfl (fun _ => rfl) h_k10) ?_
  refine l_val rfl rfl rfl (r_fieldV (v := .bool (pix_turnings_tab1 k10)) Try.runUnderlying269 Try.isAgg4 rfl rfl rfl) ?_
  refine l_nil ?_
  refine c_if (b := (pix_turnings_tab1 k10)) rfl (fun hb => ?_) (fun hb => ?_)
  · have H7 := cnd_t hb H6; clear H6
    refine c_seq ?_
    refine c_region ?_
    refine l_val rfl rfl rfl (r_move (v := .int .i64 a2) rfl) ?_
    refine l_val rfl rfl rfl (r_move (v := .int .i64 a1) rfl) ?_
    refine l_val rfl rfl rfl (r_assign (v := .int .i64 a2) rfl) ?_
    refine l_val rfl rfl rfl (r_assign (v := .int .i64 a1) rfl) ?_
    refine l_nil ?_
    refine c_ret ?_
    obtain rfl := Option.some.inj H7
    refine ret2 (v1 := .int .i64 a2) (v2 := .int .i64 a1) rfl rfl rfl (fin rfl)
  · have H8 := cnd_f hb H6; clear H6
    refine c_skip ?_
    refine c_seq ?_
    refine c_region ?_
    refine l_val rfl rfl rfl (r_move (v := .int .i64 a1) rfl) ?_
    refine l_val rfl rfl rfl (r_move (v := .int .i64 a2) rfl) ?_
    refine l_val rfl rfl rfl (r_assign (v := .int .i64 a1) rfl) ?_
    refine l_val rfl rfl rfl (r_assign (v := .int .i64 a2) rfl) ?_
    refine l_nil ?_
    refine c_ret ?_
    obtain rfl := Option.some.inj H8
    refine ret2 (v1 := .int .i64 a1) (v2 := .int .i64 a2) rfl rfl rfl (fin rfl)
theorem k236 {a0 : Int} {a1 : Int} {r : T_api_Image} {w : World} {h : Heap} (hw : Know h w noS) (H : pix_blank a0 a1 = some r) : Does Try.prog 236 (List.toArray [.int .i64 a0, .int .i64 a1]) w (fun v w' => ∃ x : (Option Addr × Nat), v = (.agg #[.int .i64 r.W, .int .i64 r.H, .slice x.1 r.Pixels.length x.2]) ∧ Turn w w' noS (rowV 5 1 (.slice x.1 r.Pixels.length x.2) r.Pixels.length (r.Pixels.map e_u8))) := by
  refine enter (n := 13) Try.func236 rfl rfl rfl noS [] (Sat.nil _ _) ?_
  refine c_seq ?_
  refine c_region ?_
  refine l_alloc (cs := [.int .i64 0, .int .i64 0, .slice none 0 0]) Try.zeroValue212 rfl rfl rfl (fun b1 => ?_)
  refine l_nil ?_
  refine c_seq ?_
  refine c_region ?_
  refine l_val rfl rfl rfl (r_move (v := .int .i64 a0) rfl) ?_
  refine l_val rfl rfl rfl (r_move (v := .int .i64 a1) rfl) ?_
  refine l_val rfl rfl rfl (r_move (v := .int .i64 a0) rfl) ?_
  obtain ⟨t8, h_t8, H4⟩ := bnd_some H; clear H
  refine l_val rfl rfl rfl (r_mulG rfl rfl h_t8) ?_
  refine l_val rfl rfl rfl (r_move (v := .int .i64 a1) rfl) ?_
  obtain ⟨t10, h_t10, H5⟩ := bnd_some H4; clear H4
  refine l_val rfl rfl rfl (r_mulG rfl rfl h_t10) ?_
  obtain ⟨t11, h_t11, H6⟩ := bnd_some H5; clear H5
  refine l_make (rds := []) (makes_makeG (E := 5) (sz := 1) (f := e_u8) (xs := t11) Try.underlying210 (info_of Try.typeInfo5) rfl rfl rfl rfl rfl rfl ⟨rfl, rfl⟩ h_t11) rfl rfl rfl (fun p => ?_)
  refine l_val rfl rfl rfl (r_build (pl := #[(0, 1), (1, 1), (2, 1)]) (ps := [(0, .int .i64 a0), (1, .int .i64 a1), (2, .slice p.1 t11.length p.2)]) (cells := #[.int .i64 a0, .int .i64 a1, .slice p.1 t11.length p.2]) Try.zeroValue212 Try.runUnderlying212 (fun w => by kernel_rfl) rfl rfl) ?_
  refine l_store (i := 0) (vs := [.int .i64 a0, .int .i64 a1, .slice p.1 t11.length p.2]) (cs' := [.int .i64 a0, .int .i64 a1, .slice p.1 t11.length p.2]) Try.sizeOf212 rfl rfl rfl rfl rfl rfl rfl rfl rfl ?_
  refine l_nil ?_
  refine c_ret ?_
  obtain rfl := Option.some.inj H6
  refine retC (i := 0) (vs := [.int .i64 a0, .int .i64 a1, .slice p.1 t11.length p.2]) Try.isAgg212 Try.sizeOf212 rfl rfl rfl rfl (finX p (i := 1) rfl rfl (Imp.refl _))
theorem k238 {a0 : T_api_Image} {p0_2 : Option Addr × Nat} {n0_2 : Nat} {a1 : Int} {a2 : Int} {a3 : (Nat → Int)} {r : (List Int)} {w : World} {h : Heap} {S : Nat → Prop} (hcs : (rowV 5 1 (.slice p0_2.1 n0_2 p0_2.2) n0_2 (a0.Pixels.map e_u8)).P S w) (hlt : ∀ b, S b → b < w.heap.size) (hw : Know h w S) (hn0_2 : n0_2 = a0.Pixels.length) (H : pix_set a0 a1 a2 a3 = some r) : Does Try.prog 238 (List.toArray [.agg #[.int .i64 a0.W, .int .i64 a0.H, .slice p0_2.1 n0_2 p0_2.2], .int .i64 a1, .int .i64 a2, .agg #[.int .u8 (a3 0), .int .u8 (a3 1), .int .u8 (a3 2)]]) w (fun v w' => ∃ x : Unit, v = (.tuple #[]) ∧ Turn w w' S (rowV 5 1 (.slice p0_2.1 n0_2 p0_2.2) n0_2 (r.map e_u8))) := by
  refine enter (n := 20) Try.func238 rfl rfl rfl S [rowV 5 1 (.slice p0_2.1 n0_2 p0_2.2) n0_2 (a0.Pixels.map e_u8)] (Sat.one hcs hlt) ?_
  refine c_seq ?_
  refine c_region ?_
  refine l_box (cs := [.int .i64 a0.W, .int .i64 a0.H, .slice p0_2.1 n0_2 p0_2.2]) rfl rfl rfl rfl (fun b2 => ?_)
  refine l_box (cs := [.int .u8 (a3 0), .int .u8 (a3 1), .int .u8 (a3 2)]) rfl rfl rfl rfl (fun b3 => ?_)
  refine l_nil ?_
  exact c_regionD (Kd.p :: Kd.d [1] _ :: Kd.p :: Kd.p :: Kd.d [1] _ :: Kd.p :: Kd.p :: Kd.p :: Kd.p :: Kd.d [0] _ :: Kd.p :: Kd.t 0 [2] _ _ :: []) 0 mixed (by
    refine d_val rfl rfl (r_field Try.runUnderlying212 rfl Try.sizeOf210 rfl rfl) ?_
    refine d_load1 (i := 1) (v := .slice p0_2.1 n0_2 p0_2.2) Try.isAgg210 rfl rfl rfl rfl ?_
    refine d_val rfl rfl (r_move (v := .int .i64 a2) rfl) ?_
    refine d_val rfl rfl (r_field Try.runUnderlying212 rfl Try.sizeOf3 rfl rfl) ?_
    refine d_load1 (i := 1) (v := .int .i64 a0.W) Try.isAgg3 rfl rfl rfl rfl ?_
    have h_t13 := bnd_val H
    have H5 := bnd_rest H
    refine d_val rfl rfl (r_mulG rfl rfl h_t13) ?_
    refine d_val rfl rfl (r_move (v := .int .i64 a1) rfl) ?_
    have h_t15 := bnd_val H5
    have H6 := bnd_rest H5
    refine d_val rfl rfl (r_addG rfl rfl h_t15) ?_
    have h_t16 := bnd_val H6
    have H7 := bnd_rest H6
    refine d_val rfl rfl (r_mulG rfl rfl h_t16) ?_
    have h_t17 := bnd_val H7
    have H8 := bnd_rest H7
    refine d_readD (v := .slice (cutA p0_2.1 (Int.toNat (val (gI (3 * (val (gI ((val (gI (a2 * a0.W))) + a1))))))) p0_2.2 1) (val (gCut a0.Pixels (val (gI (3 * (val (gI ((val (gI (a2 * a0.W))) + a1)))))) a0.Pixels.length)).length (p0_2.2 - Int.toNat (val (gI (3 * (val (gI ((val (gI (a2 * a0.W))) + a1)))))))) (fun w L' hF hS hi => run_sliceLO (xs := a0.Pixels) Try.underlying210 Try.sizeOf5 rfl rfl hn0_2 (capOf (i := 0) hS ((hi 0 (by simp)).trans rfl)) h_t17) rfl rfl ?_
    refine d_val rfl rfl (r_sliceArrAll Try.underlying274 Try.sizeOf5 rfl) ?_
    refine d_turn (Cv := fun _ => rowV 5 1 (.slice p0_2.1 n0_2 p0_2.2) n0_2 ((cpyL a0.Pixels (val (gI (3 * (val (gI ((val (gI (a2 * a0.W))) + a1)))))) (val (gCut a0.Pixels (val (gI (3 * (val (gI ((val (gI (a2 * a0.W))) + a1)))))) a0.Pixels.length)).length ((List.range 3).map a3)).map e_u8)) () (turns_copyG (i := 0) (rds := _) (p := p0_2) (f := e_u8) (xs := a0.Pixels) (ts := (val (gCut a0.Pixels (val (gI (3 * (val (gI ((val (gI (a2 * a0.W))) + a1)))))) a0.Pixels.length))) (ys := ((List.range 3).map a3)) hn0_2 Try.underlying210 (by rw [info_of Try.typeInfo5]; rfl) rfl rfl h_t17 rfl (by simp) (fun w L' hF hS hi => row_arr (f := e_u8) (i := 2) hS ((hi 2 (by simp)).trans rfl) rfl (fun _ => rfl) (gCutA_ok (n := 3) (f := a3) (q := 3) (by decide))) (fun _ => rfl) (fun _ => rfl)) (fun _ => rfl) rfl rfl (fun _ => ?_)
    refine d_nil ?_
    obtain rfl := Option.some.inj H8
    refine ret0n rfl (finX () (i := 0) rfl rfl (Imp.refl _))
    ) (by kernel_rfl)
theorem k239 {a0 : T_api_Image} {v0_2 : Value} {a1 : Int} {a2 : Int} {r : (Nat → Int)} {w : World} {h : Heap} (hw : Know h w noS) (f0_2 : FrS h 1 v0_2 (a0.Pixels.map e_u8)) (H : pix_at a0 a1 a2 = some r) : Does Try.prog 239 (List.toArray [.agg #[.int .i64 a0.W, .int .i64 a0.H, v0_2], .int .i64 a1, .int .i64 a2]) w (fun v w' => v = (.agg #[.int .u8 (r 0), .int .u8 (r 1), .int .u8 (r 2)]) ∧ Grow w w') := by
  refine enter (n := 19) Try.func239 rfl rfl rfl noS [] (Sat.nil _ _) ?_
  refine c_seq ?_
  refine c_region ?_
  refine l_box (cs := [.int .i64 a0.W, .int .i64 a0.H, v0_2]) rfl rfl rfl rfl (fun b2 => ?_)
  refine l_alloc (cs := [.int .u8 0, .int .u8 0, .int .u8 0]) Try.zeroValue274 rfl rfl rfl (fun b3 => ?_)
  refine l_nil ?_
  refine c_seq ?_
  refine c_region ?_
  refine l_val rfl rfl rfl (r_field Try.runUnderlying212 rfl Try.sizeOf210 rfl rfl) ?_
  refine l_load1 (i := 0) (v := v0_2) Try.isAgg210 rfl rfl rfl rfl rfl ?_
  refine l_val rfl rfl rfl (r_move (v := .int .i64 a2) rfl) ?_
  refine l_val rfl rfl rfl (r_field Try.runUnderlying212 rfl Try.sizeOf3 rfl rfl) ?_
  refine l_load1 (i := 0) (v := .int .i64 a0.W) Try.isAgg3 rfl rfl rfl rfl rfl ?_
  obtain ⟨t12, h_t12, H6⟩ := bnd_some H; clear H
  refine l_val rfl rfl rfl (r_mulG rfl rfl h_t12) ?_
  refine l_val rfl rfl rfl (r_move (v := .int .i64 a1) rfl) ?_
  obtain ⟨t14, h_t14, H7⟩ := bnd_some H6; clear H6
  refine l_val rfl rfl rfl (r_addG rfl rfl h_t14) ?_
  obtain ⟨t15, h_t15, H8⟩ := bnd_some H7; clear H7
  refine l_val rfl rfl rfl (r_mulG rfl rfl h_t15) ?_
  obtain ⟨t16, h_t16, H9⟩ := bnd_some H8; clear H8
  refine l_val rfl rfl rfl (r_sliceLF Try.underlying210 Try.sizeOf5 rfl rfl f0_2 h_t16) ?_
  obtain ⟨u17, h_u17, H10⟩ := bnd_some H9; clear H9
  refine l_val rfl rfl rfl (r_sap Try.runUnderlying274 (Eq.trans rfl (f0_2.cut h_t16).eq) (by simpa using gIf_some h_u17)) ?_
  refine l_read (fun w hF hS => run_loadSA (n := 3) (f := e_u8) (xs := t16) (vs := [.int .u8 ((ofL t16) 0), .int .u8 ((ofL t16) 1), .int .u8 ((ofL t16) 2)]) Try.isAgg274 Try.sizeOf274 rfl ((f0_2.cut h_t16).row (hw.now hF)) (gIf_some h_u17) rfl rfl (fun _ => rfl) rfl) rfl rfl rfl ?_
  refine l_store (i := 1) (vs := [.int .u8 ((ofL t16) 0), .int .u8 ((ofL t16) 1), .int .u8 ((ofL t16) 2)]) (cs' := [.int .u8 ((ofL t16) 0), .int .u8 ((ofL t16) 1), .int .u8 ((ofL t16) 2)]) Try.sizeOf274 rfl rfl rfl rfl rfl rfl rfl rfl rfl ?_
  refine l_nil ?_
  refine c_ret ?_
  obtain rfl := Option.some.inj H10
  refine retC (i := 1) (vs := [.int .u8 ((ofL t16) 0), .int .u8 ((ofL t16) 1), .int .u8 ((ofL t16) 2)]) Try.isAgg274 Try.sizeOf274 rfl rfl rfl rfl (fin rfl)
theorem k210 {a0 : T_api_Image} {v0_2 : Value} {a1 : Int} {r : T_api_Image} {w : World} {h : Heap} (hw : Know h w noS) (f0_2 : FrS h 1 v0_2 (a0.Pixels.map e_u8)) (H : pix_turned a0 a1 = some r) : Does Try.prog 210 (List.toArray [.agg #[.int .i64 a0.W, .int .i64 a0.H, v0_2], .int .i64 a1]) w (fun v w' => ∃ x : (Option Addr × Nat), v = (.agg #[.int .i64 r.W, .int .i64 r.H, .slice x.1 r.Pixels.length x.2]) ∧ Turn w w' noS (rowV 5 1 (.slice x.1 r.Pixels.length x.2) r.Pixels.length (r.Pixels.map e_u8))) := by
  refine enter (n := 56) Try.func210 rfl rfl rfl noS [] (Sat.nil _ _) ?_
  refine c_seq ?_
  refine c_region ?_
  refine l_box (cs := [.int .i64 a0.W, .int .i64 a0.H, v0_2]) rfl rfl rfl rfl (fun b3 => ?_)
  refine l_alloc (cs := [.int .i64 0, .int .i64 0, .slice none 0 0]) Try.zeroValue212 rfl rfl rfl (fun b4 => ?_)
  refine l_nil ?_
  refine c_seq ?_
  refine c_region ?_
  refine l_val rfl rfl rfl (r_move (v := .int .i64 a1) rfl) ?_
  refine l_val rfl rfl rfl (r_field Try.runUnderlying212 rfl Try.sizeOf3 rfl rfl) ?_
  refine l_load1 (i := 0) (v := .int .i64 a0.W) Try.isAgg3 rfl rfl rfl rfl rfl ?_
  refine l_val rfl rfl rfl (r_field Try.runUnderlying212 rfl Try.sizeOf3 rfl rfl) ?_
  refine l_load1 (i := 0) (v := .int .i64 a0.H) Try.isAgg3 rfl rfl rfl rfl rfl ?_
  obtain ⟨t16, h_t16, H19⟩ := bnd_some H; clear H
  refine l_call (k213 h_t16) Try.call213 rfl rfl rfl ?_
  refine l_val rfl rfl rfl (r_extract (v := .int .i64 t16.1) rfl rfl) ?_
  refine l_val rfl rfl rfl (r_extract (v := .int .i64 t16.2) rfl rfl) ?_
  obtain ⟨t19, h_t19, H20⟩ := bnd_some H19; clear H19
  refine l_make (makes_call (rds := []) (G := fun x : (Option Addr × Nat) => .agg #[.int .i64 t19.W, .int .i64 t19.H, .slice x.1 t19.Pixels.length x.2]) (C := fun x : (Option Addr × Nat) => rowV 5 1 (.slice x.1 t19.Pixels.length x.2) t19.Pixels.length (t19.Pixels.map e_u8)) (fun w L' hF hS hi => k236 (know_all w)  h_t19) Try.call236 rfl) rfl rfl rfl (fun p => ?_)
  refine l_alloc (cs := [.int .i64 0, .int .i64 0, .slice none 0 0]) Try.zeroValue212 rfl rfl rfl (fun b5 => ?_)
  refine l_store (i := 3) (vs := [.int .i64 t19.W, .int .i64 t19.H, .slice p.1 t19.Pixels.length p.2]) (cs' := [.int .i64 t19.W, .int .i64 t19.H, .slice p.1 t19.Pixels.length p.2]) Try.sizeOf212 rfl rfl rfl rfl rfl rfl rfl rfl rfl ?_
  refine l_nil ?_
  refine c_seq ?_
  refine c_region ?_
  obtain ⟨t20, h_t20, H21⟩ := bnd_some H20; clear H20
  refine l_call (k237 h_t20) Try.call237 rfl rfl rfl ?_
  refine l_val rfl rfl rfl (r_move (v := .int .i64 a1) rfl) ?_
  obtain ⟨k22, h_k22, H22⟩ := bnd_some H21; clear H21
  refine l_val rfl rfl rfl (r_indexAN (f := fun j_ => [v237_0_0 j_, .bool (pix_turnings_tab1 j_)]) Try.runUnderlying270 Try.isAgg269 Try.sizeOf269 rfl rfl rfl (fun _ => rfl) h_k22) ?_
  refine l_val rfl rfl rfl (r_fieldV (v := (v237_0_0 k22)) Try.runUnderlying269 Try.isAgg267 rfl rfl rfl) ?_
  refine l_val rfl rfl rfl (r_assign (v := (v237_0_0 k22)) rfl) ?_
  refine l_nil ?_
  refine c_meet (r := r) (σ := (List Int)) (τ := (Option Addr × Nat) × Nat) (fun s => pix_turned_j1 t19 s) (fun s t => [(4, .pointer (some ⟨b4, 0, none⟩)), (5, .pointer (some ⟨b5, 0, none⟩))]) (fun s t => [cellsC b4 [.int .i64 0, .int .i64 0, .slice none 0 0] 212, rowV 5 1 (.slice t.1.1 t.2 t.1.2) t.2 (s.map e_u8), cellsC b5 [.int .i64 t19.W, .int .i64 t19.H, .slice t.1.1 t.2 t.1.2] 212]) (fun s t => t.2 = s.length) ?_ ?_
  · refine c_seq ?_
    refine c_region ?_
    refine l_val rfl rfl rfl (r_field Try.runUnderlying212 rfl Try.sizeOf3 rfl rfl) ?_
    refine l_load1 (i := 3) (v := .int .i64 t19.H) Try.isAgg3 rfl rfl rfl rfl rfl ?_
    refine l_val rfl rfl rfl (r_move (v := .int .i64 0) rfl) ?_
    refine l_nil ?_
    refine c_block ?_
    refine c_fix (σ := Int × (List Int) × (List Int)) (τ := Value × (Option Addr × Nat) × Nat) (fun next2 s => pix_turned_l2 a0 t19 k22 next2 s.1 s.2.1 s.2.2) (fun s t => [(2, .pointer (some ⟨b3, 0, none⟩)), (4, .pointer (some ⟨b4, 0, none⟩)), (5, .pointer (some ⟨b5, 0, none⟩)), (6, (v237_0_0 k22)), (25, .int .i64 t19.H), (26, .int .i64 s.1)]) (fun s t => [cellsC b3 [.int .i64 a0.W, .int .i64 a0.H, t.1] 212, cellsC b4 [.int .i64 0, .int .i64 0, .slice none 0 0] 212, rowV 5 1 (.slice t.2.1.1 t.2.2 t.2.1.2) t.2.2 (s.2.2.map e_u8), cellsC b5 [.int .i64 t19.W, .int .i64 t19.H, .slice t.2.1.1 t.2.2 t.2.1.2] 212]) (fun s t => FrS h 1 t.1 (s.2.1.map e_u8) ∧ t.2.2 = s.2.2.length) (0, a0.Pixels, t19.Pixels) (v0_2, p, t19.Pixels.length) [0, 1, 2, 3] H22 (by exact ⟨f0_2, rfl⟩) (by exact ⟨rfl, rfl, rfl, rfl, rfl, rfl, trivial⟩) (by decide) rfl ?_
    rintro ⟨x26_2, m_2, l_3⟩ ⟨gv, p_3, n_2⟩ m2 gg H24 ⟨gf_2, hl_3⟩
    clear H22
    replace H24 : pix_turned_l2 a0 t19 k22 (it (fun next2 s => pix_turned_l2 a0 t19 k22 next2 s.1 s.2.1 s.2.2) m2) x26_2 m_2 l_3 = some r := H24
    generalize hn2 : it (fun next2 s => pix_turned_l2 a0 t19 k22 next2 s.1 s.2.1 s.2.2) m2 = next2 at H24
    refine c_tidyF [(2, .pointer (some ⟨b3, 0, none⟩)), (4, .pointer (some ⟨b4, 0, none⟩)), (5, .pointer (some ⟨b5, 0, none⟩)), (6, (v237_0_0 k22)), (25, .int .i64 t19.H), (26, .int .i64 x26_2)] [cellsC b3 [.int .i64 a0.W, .int .i64 a0.H, gv] 212, cellsC b4 [.int .i64 0, .int .i64 0, .slice none 0 0] 212, rowV 5 1 (.slice p_3.1 n_2 p_3.2) n_2 (l_3.map e_u8), cellsC b5 [.int .i64 t19.W, .int .i64 t19.H, .slice p_3.1 n_2 p_3.2] 212] rfl rfl ?_
    refine c_seq ?_
    refine c_region ?_
    refine l_val rfl rfl rfl (r_lss rfl rfl) ?_
    refine l_nil ?_
    refine c_seq ?_
    refine c_if (b := (decide (x26_2 < t19.H))) rfl (fun hb => ?_) (fun hb => ?_)
    · have H25 := cnd_t hb H24; clear H24
      refine c_skip ?_
      refine c_meet (r := r) (σ := (List Int)) (τ := Unit) (fun s => pix_turned_j3 x26_2 m_2 next2 s) (fun s t => [(2, .pointer (some ⟨b3, 0, none⟩)), (4, .pointer (some ⟨b4, 0, none⟩)), (5, .pointer (some ⟨b5, 0, none⟩)), (6, (v237_0_0 k22)), (25, .int .i64 t19.H), (26, .int .i64 x26_2)]) (fun s t => [cellsC b3 [.int .i64 a0.W, .int .i64 a0.H, gv] 212, cellsC b4 [.int .i64 0, .int .i64 0, .slice none 0 0] 212, rowV 5 1 (.slice p_3.1 n_2 p_3.2) n_2 (s.map e_u8), cellsC b5 [.int .i64 t19.W, .int .i64 t19.H, .slice p_3.1 n_2 p_3.2] 212]) (fun s t => n_2 = s.length) ?_ ?_
      · refine c_block ?_
        refine c_seq ?_
        refine c_region ?_
        refine l_val rfl rfl rfl (r_move (v := .int .i64 x26_2) rfl) ?_
        refine l_val rfl rfl rfl (r_assign (v := .int .i64 x26_2) rfl) ?_
        refine l_nil ?_
        refine c_seq ?_
        refine c_region ?_
        refine l_val rfl rfl rfl (r_field Try.runUnderlying212 rfl Try.sizeOf3 rfl rfl) ?_
        refine l_load1 (i := 3) (v := .int .i64 t19.W) Try.isAgg3 rfl rfl rfl rfl rfl ?_
        refine l_val rfl rfl rfl (r_move (v := .int .i64 0) rfl) ?_
        refine l_nil ?_
        refine c_block ?_
        refine c_fix (σ := Int × (List Int)) (τ := Unit) (fun next4 s => pix_turned_l4 a0 t19 k22 x26_2 m_2 next2 next4 s.1 s.2) (fun s t => [(2, .pointer (some ⟨b3, 0, none⟩)), (4, .pointer (some ⟨b4, 0, none⟩)), (5, .pointer (some ⟨b5, 0, none⟩)), (6, (v237_0_0 k22)), (7, .int .i64 x26_2), (25, .int .i64 t19.H), (26, .int .i64 x26_2), (30, .int .i64 t19.W), (31, .int .i64 s.1)]) (fun s t => [cellsC b3 [.int .i64 a0.W, .int .i64 a0.H, gv] 212, cellsC b4 [.int .i64 0, .int .i64 0, .slice none 0 0] 212, rowV 5 1 (.slice p_3.1 n_2 p_3.2) n_2 (s.2.map e_u8), cellsC b5 [.int .i64 t19.W, .int .i64 t19.H, .slice p_3.1 n_2 p_3.2] 212]) (fun s t => n_2 = s.2.length) (0, l_3) () [0, 1, 2, 3] H25 (by exact hl_3) (by exact ⟨rfl, rfl, rfl, rfl, rfl, rfl, rfl, rfl, rfl, trivial⟩) (by decide) rfl ?_
        rintro ⟨x31_2, l_6⟩ _ m4 gg H28 hl_6
        clear H25
        replace H28 : pix_turned_l4 a0 t19 k22 x26_2 m_2 next2 (it (fun next4 s => pix_turned_l4 a0 t19 k22 x26_2 m_2 next2 next4 s.1 s.2) m4) x31_2 l_6 = some r := H28
        generalize hn4 : it (fun next4 s => pix_turned_l4 a0 t19 k22 x26_2 m_2 next2 next4 s.1 s.2) m4 = next4 at H28
        refine c_tidyF [(2, .pointer (some ⟨b3, 0, none⟩)), (4, .pointer (some ⟨b4, 0, none⟩)), (5, .pointer (some ⟨b5, 0, none⟩)), (6, (v237_0_0 k22)), (7, .int .i64 x26_2), (25, .int .i64 t19.H), (26, .int .i64 x26_2), (30, .int .i64 t19.W), (31, .int .i64 x31_2)] [cellsC b3 [.int .i64 a0.W, .int .i64 a0.H, gv] 212, cellsC b4 [.int .i64 0, .int .i64 0, .slice none 0 0] 212, rowV 5 1 (.slice p_3.1 n_2 p_3.2) n_2 (l_6.map e_u8), cellsC b5 [.int .i64 t19.W, .int .i64 t19.H, .slice p_3.1 n_2 p_3.2] 212] rfl rfl ?_
        refine c_seq ?_
        refine c_region ?_
        refine l_val rfl rfl rfl (r_lss rfl rfl) ?_
        refine l_nil ?_
        refine c_seq ?_
        refine c_if (b := (decide (x31_2 < t19.W))) rfl (fun hb => ?_) (fun hb => ?_)
        · have H29 := cnd_t hb H28; clear H28
          refine c_skip ?_
          refine c_seq ?_
          refine c_block ?_
          refine c_seq ?_
          refine c_region ?_
          refine l_val rfl rfl rfl (r_move (v := .int .i64 x31_2) rfl) ?_
          refine l_val rfl rfl rfl (r_assign (v := .int .i64 x31_2) rfl) ?_
          refine l_nil ?_
          refine c_seq ?_
          refine c_region ?_
          refine l_val rfl rfl rfl (r_move (v := (v237_0_0 k22)) rfl) ?_
          refine l_val rfl rfl rfl (r_field Try.runUnderlying212 rfl Try.sizeOf3 rfl rfl) ?_
          refine l_load1 (i := 0) (v := .int .i64 a0.W) Try.isAgg3 rfl rfl rfl rfl rfl ?_
          refine l_val rfl rfl rfl (r_field Try.runUnderlying212 rfl Try.sizeOf3 rfl rfl) ?_
          refine l_load1 (i := 0) (v := .int .i64 a0.H) Try.isAgg3 rfl rfl rfl rfl rfl ?_
          refine l_val rfl rfl rfl (r_move (v := .int .i64 x31_2) rfl) ?_
          refine l_val rfl rfl rfl (r_move (v := .int .i64 x26_2) rfl) ?_
          obtain ⟨g42, h_g42, H30⟩ := bnd_some H29; clear H29
          obtain ⟨t42, h_t42, H31⟩ := bnd_some H30; clear H30
          refine l_callV (R := fnR_func_int_int_int_int_int_int g42) (r := .tuple #[.int .i64 t42.1, .int .i64 t42.2]) (v := (v237_0_0 k22)) (fun w hF hS => ⟨((h237_0_0 (gIx_lt h_k22)).fn (gFn_some h_g42) _), ⟨a0.W, a0.H, x31_2, x26_2, _, rfl, h_t42, rfl⟩⟩) rfl rfl rfl rfl ?_
          refine l_val rfl rfl rfl (r_move (v := .tuple #[.int .i64 t42.1, .int .i64 t42.2]) rfl) ?_
          refine l_val rfl rfl rfl (r_extract (v := .int .i64 t42.1) rfl rfl) ?_
          refine l_val rfl rfl rfl (r_extract (v := .int .i64 t42.2) rfl rfl) ?_
          refine l_val rfl rfl rfl (r_assign (v := .int .i64 t42.1) rfl) ?_
          refine l_val rfl rfl rfl (r_assign (v := .int .i64 t42.2) rfl) ?_
          refine l_nil ?_
          exact c_regionD (Kd.d [3] _ :: Kd.p :: Kd.p :: Kd.d [0] _ :: Kd.p :: Kd.p :: Kd.d [] _ :: Kd.t 2 [] _ _ :: []) 0 mixed (by
            refine d_loadN (i := 3) (vs := [.int .i64 t19.W, .int .i64 t19.H, .slice p_3.1 n_2 p_3.2]) Try.isAgg212 Try.sizeOf212 rfl rfl rfl rfl ?_
            refine d_val rfl rfl (r_move (v := .int .i64 x31_2) rfl) ?_
            refine d_val rfl rfl (r_move (v := .int .i64 x26_2) rfl) ?_
            refine d_loadN (i := 0) (vs := [.int .i64 a0.W, .int .i64 a0.H, gv]) Try.isAgg212 Try.sizeOf212 rfl rfl rfl rfl ?_
            refine d_val rfl rfl (r_move (v := .int .i64 t42.1) rfl) ?_
            refine d_val rfl rfl (r_move (v := .int .i64 t42.2) rfl) ?_
            have h_t51 := bnd_val H31
            have H32 := bnd_rest H31
            refine d_callD (fun w L' hF hS hi => k239 (know_all w) (gf_2.mono (hw.now hF)) h_t51) Try.call239 rfl rfl ?_
            have h_t52 := bnd_val H32
            have H33 := bnd_rest H32
            refine d_turn (Cv := fun _ => rowV 5 1 (.slice p_3.1 n_2 p_3.2) n_2 ((val (pix_set (⟨t19.W, t19.H, l_6⟩ : T_api_Image) x31_2 x26_2 (val (pix_at (⟨a0.W, a0.H, m_2⟩ : T_api_Image) t42.1 t42.2)))).map e_u8)) () (turns_callB (i := 2) (rds := _) (G := fun _ => .tuple #[]) (C := fun _ => rowV 5 1 (.slice p_3.1 n_2 p_3.2) n_2 ((val (pix_set (⟨t19.W, t19.H, l_6⟩ : T_api_Image) x31_2 x26_2 (val (pix_at (⟨a0.W, a0.H, m_2⟩ : T_api_Image) t42.1 t42.2)))).map e_u8)) rfl (fun w L' S hF hS hi hp hlt ho hA => (k238 hp hlt (know_but w S) hl_6 h_t52).mono (fun _ _ h => by obtain ⟨_, h⟩ := h; exact ⟨(), h⟩)) Try.call238 rfl) (fun _ => rfl) rfl rfl (fun _ => ?_)
            refine d_nil ?_
            refine c_know (fun w hF hS => lenOf (i := 2) hS rfl) (fun hl_7_ => ?_)
            have hl_7 : n_2 = (val (pix_set (⟨t19.W, t19.H, l_6⟩ : T_api_Image) x31_2 x26_2 (val (pix_at (⟨a0.W, a0.H, m_2⟩ : T_api_Image) t42.1 t42.2)))).length := by simpa using hl_7_.symm
            refine c_region ?_
            obtain ⟨t53, h_t53, H34⟩ := bnd_some H33; clear H33
            refine l_val rfl rfl rfl (r_addG rfl rfl h_t53) ?_
            refine l_val rfl rfl rfl (r_move (v := .int .i64 t53) rfl) ?_
            refine l_nil ?_
            refine c_close (t53, (val (pix_set (⟨t19.W, t19.H, l_6⟩ : T_api_Image) x31_2 x26_2 (val (pix_at (⟨a0.W, a0.H, m_2⟩ : T_api_Image) t42.1 t42.2))))) () m4 [0, 1, 2, 3] (by exact ⟨rfl, rfl, rfl, rfl, rfl, rfl, rfl, rfl, rfl, trivial⟩) (by decide) rfl (by exact ⟨(by subst hn4; exact H34), hl_7⟩) (Nat.lt_succ_self _)
            ) (by kernel_rfl)
        · have H35 := cnd_f hb H28; clear H28
          refine c_exit ?_
          refine c_close l_6 () 0 [0, 1, 2, 3] (by exact ⟨rfl, rfl, rfl, rfl, rfl, rfl, trivial⟩) (by decide) rfl (by exact ⟨H35, hl_6⟩) (Nat.lt_succ_self _)
      · rintro l_4 _ gg H26 hl_4
        replace H26 : pix_turned_j3 x26_2 m_2 next2 l_4 = some r := H26
        refine c_tidyF [(2, .pointer (some ⟨b3, 0, none⟩)), (4, .pointer (some ⟨b4, 0, none⟩)), (5, .pointer (some ⟨b5, 0, none⟩)), (6, (v237_0_0 k22)), (25, .int .i64 t19.H), (26, .int .i64 x26_2)] [cellsC b3 [.int .i64 a0.W, .int .i64 a0.H, gv] 212, cellsC b4 [.int .i64 0, .int .i64 0, .slice none 0 0] 212, rowV 5 1 (.slice p_3.1 n_2 p_3.2) n_2 (l_4.map e_u8), cellsC b5 [.int .i64 t19.W, .int .i64 t19.H, .slice p_3.1 n_2 p_3.2] 212] rfl rfl ?_
        refine c_region ?_
        obtain ⟨t54, h_t54, H27⟩ := bnd_some H26; clear H26
        refine l_val rfl rfl rfl (r_addG rfl rfl h_t54) ?_
        refine l_val rfl rfl rfl (r_move (v := .int .i64 t54) rfl) ?_
        refine l_nil ?_
        refine c_close (t54, m_2, l_4) (gv, p_3, n_2) m2 [0, 1, 2, 3] (by exact ⟨rfl, rfl, rfl, rfl, rfl, rfl, trivial⟩) (by decide) rfl (by exact ⟨(by subst hn2; exact H27), ⟨gf_2, hl_4⟩⟩) (Nat.lt_succ_self _)
    · have H36 := cnd_f hb H24; clear H24
      refine c_exit ?_
      refine c_close l_3 (p_3, n_2) 0 [1, 2, 3] (by exact ⟨rfl, rfl, trivial⟩) (by decide) rfl (by exact ⟨H36, hl_3⟩) (Nat.lt_succ_self _)
  · rintro l ⟨p_2, n⟩ gg H23 hl
    replace H23 : pix_turned_j1 t19 l = some r := H23
    refine c_tidyF [(4, .pointer (some ⟨b4, 0, none⟩)), (5, .pointer (some ⟨b5, 0, none⟩))] [cellsC b4 [.int .i64 0, .int .i64 0, .slice none 0 0] 212, rowV 5 1 (.slice p_2.1 n p_2.2) n (l.map e_u8), cellsC b5 [.int .i64 t19.W, .int .i64 t19.H, .slice p_2.1 n p_2.2] 212] rfl rfl ?_
    refine c_seq ?_
    refine c_region ?_
    refine l_loadN (i := 2) (vs := [.int .i64 t19.W, .int .i64 t19.H, .slice p_2.1 n p_2.2]) Try.isAgg212 Try.sizeOf212 rfl rfl rfl rfl rfl ?_
    refine l_store (i := 0) (vs := [.int .i64 t19.W, .int .i64 t19.H, .slice p_2.1 n p_2.2]) (cs' := [.int .i64 t19.W, .int .i64 t19.H, .slice p_2.1 n p_2.2]) Try.sizeOf212 rfl rfl rfl rfl rfl rfl rfl rfl rfl ?_
    refine l_nil ?_
    refine c_ret ?_
    obtain rfl := Option.some.inj H23
    refine retC (i := 0) (vs := [.int .i64 t19.W, .int .i64 t19.H, .slice p_2.1 n p_2.2]) Try.isAgg212 Try.sizeOf212 rfl rfl rfl rfl (finX p_2 (i := 1) rfl (by first | rfl | rw [(show n = l.length from hl)]) (by first | exact Imp.refl _ | exact Imp.of (by rw [(show n = l.length from hl)])))
theorem k211 {r : T_api_Image} {w : World} {h : Heap} (hw : Know h w noS) (H : pix_sample = some r) : Does Try.prog 211 (List.toArray []) w (fun v w' => ∃ x : (Option Addr × Nat), v = (.agg #[.int .i64 r.W, .int .i64 r.H, .slice x.1 r.Pixels.length x.2]) ∧ Turn w w' noS (rowV 5 1 (.slice x.1 r.Pixels.length x.2) r.Pixels.length (r.Pixels.map e_u8))) := by
  refine enter (n := 18) Try.func211 rfl rfl rfl noS [] (Sat.nil _ _) ?_
  refine c_seq ?_
  refine c_region ?_
  refine l_alloc (cs := [.int .i64 0, .int .i64 0, .slice none 0 0]) Try.zeroValue212 rfl rfl rfl (fun b2 => ?_)
  refine l_nil ?_
  refine c_seq ?_
  refine c_region ?_
  obtain ⟨t3, h_t3, H9⟩ := bnd_some H; clear H
  refine l_make (makes_call (rds := []) (G := fun x : (Option Addr × Nat) => .agg #[.int .i64 t3.W, .int .i64 t3.H, .slice x.1 t3.Pixels.length x.2]) (C := fun x : (Option Addr × Nat) => rowV 5 1 (.slice x.1 t3.Pixels.length x.2) t3.Pixels.length (t3.Pixels.map e_u8)) (fun w L' hF hS hi => k236 (know_all w)  h_t3) Try.call236 rfl) rfl rfl rfl (fun p => ?_)
  refine l_alloc (cs := [.int .i64 0, .int .i64 0, .slice none 0 0]) Try.zeroValue212 rfl rfl rfl (fun b3 => ?_)
  refine l_store (i := 2) (vs := [.int .i64 t3.W, .int .i64 t3.H, .slice p.1 t3.Pixels.length p.2]) (cs' := [.int .i64 t3.W, .int .i64 t3.H, .slice p.1 t3.Pixels.length p.2]) Try.sizeOf212 rfl rfl rfl rfl rfl rfl rfl rfl rfl ?_
  refine l_nil ?_
  refine c_meet (r := r) (σ := (List Int)) (τ := (Option Addr × Nat) × Nat) (fun s => pix_sample_j1 t3 s) (fun s t => [(0, .pointer (some ⟨b2, 0, none⟩)), (1, .pointer (some ⟨b3, 0, none⟩))]) (fun s t => [cellsC b2 [.int .i64 0, .int .i64 0, .slice none 0 0] 212, rowV 5 1 (.slice t.1.1 t.2 t.1.2) t.2 (s.map e_u8), cellsC b3 [.int .i64 t3.W, .int .i64 t3.H, .slice t.1.1 t.2 t.1.2] 212]) (fun s t => t.2 = s.length) ?_ ?_
  · refine c_seq ?_
    refine c_region ?_
    refine l_val rfl rfl rfl (r_field Try.runUnderlying212 rfl Try.sizeOf210 rfl rfl) ?_
    refine l_load1 (i := 2) (v := .slice p.1 t3.Pixels.length p.2) Try.isAgg210 rfl rfl rfl rfl rfl ?_
    refine l_val rfl rfl rfl (r_len Try.underlying210 rfl) ?_
    refine l_val rfl rfl rfl (r_move (v := .int .i64 0) rfl) ?_
    refine l_nil ?_
    refine c_block ?_
    refine c_fix (σ := Int × Int × (List Int)) (τ := (Option Addr × Nat) × Nat) (fun next2 s => pix_sample_l2 t3 next2 s.1 s.2.1 s.2.2) (fun s t => [(0, .pointer (some ⟨b2, 0, none⟩)), (1, .pointer (some ⟨b3, 0, none⟩)), (6, .int .i64 s.1), (7, .int .i64 s.2.1)]) (fun s t => [cellsC b2 [.int .i64 0, .int .i64 0, .slice none 0 0] 212, rowV 5 1 (.slice t.1.1 t.2 t.1.2) t.2 (s.2.2.map e_u8), cellsC b3 [.int .i64 t3.W, .int .i64 t3.H, .slice t.1.1 t.2 t.1.2] 212]) (fun s t => t.2 = s.2.2.length) ((t3.Pixels.length : Int), 0, t3.Pixels) (p, t3.Pixels.length) [0, 1, 2] H9 (by exact rfl) (by exact ⟨rfl, rfl, rfl, rfl, trivial⟩) (by decide) rfl ?_
    rintro ⟨x6_2, x7_2, l_3⟩ ⟨p_3, n_2⟩ m2 gg H11 hl_3
    clear H9
    replace H11 : pix_sample_l2 t3 (it (fun next2 s => pix_sample_l2 t3 next2 s.1 s.2.1 s.2.2) m2) x6_2 x7_2 l_3 = some r := H11
    generalize hn2 : it (fun next2 s => pix_sample_l2 t3 next2 s.1 s.2.1 s.2.2) m2 = next2 at H11
    refine c_tidyF [(0, .pointer (some ⟨b2, 0, none⟩)), (1, .pointer (some ⟨b3, 0, none⟩)), (6, .int .i64 x6_2), (7, .int .i64 x7_2)] [cellsC b2 [.int .i64 0, .int .i64 0, .slice none 0 0] 212, rowV 5 1 (.slice p_3.1 n_2 p_3.2) n_2 (l_3.map e_u8), cellsC b3 [.int .i64 t3.W, .int .i64 t3.H, .slice p_3.1 n_2 p_3.2] 212] rfl rfl ?_
    refine c_seq ?_
    refine c_region ?_
    refine l_val rfl rfl rfl (r_lss rfl rfl) ?_
    refine l_nil ?_
    refine c_seq ?_
    refine c_if (b := (decide (x7_2 < x6_2))) rfl (fun hb => ?_) (fun hb => ?_)
    · have H12 := cnd_t hb H11; clear H11
      refine c_skip ?_
      refine c_seq ?_
      refine c_block ?_
      refine c_seq ?_
      refine c_region ?_
      refine l_val rfl rfl rfl (r_move (v := .int .i64 x7_2) rfl) ?_
      refine l_val rfl rfl rfl (r_assign (v := .int .i64 x7_2) rfl) ?_
      refine l_nil ?_
      refine c_region ?_
      refine l_val rfl rfl rfl (r_field Try.runUnderlying212 rfl Try.sizeOf210 rfl rfl) ?_
      refine l_load1 (i := 2) (v := .slice p_3.1 n_2 p_3.2) Try.isAgg210 rfl rfl rfl rfl rfl ?_
      refine l_val rfl rfl rfl (r_move (v := .int .i64 x7_2) rfl) ?_
      refine l_val rfl rfl rfl (r_move (v := .int .i64 x7_2) rfl) ?_
      refine l_val rfl rfl rfl (r_convG Try.runUnderlying3 Try.runUnderlying5 rfl (wr_u8 _)) ?_
      obtain ⟨t15, h_t15, H13⟩ := bnd_some H12; clear H12
      refine l_read (fun w hF hS => run_indexO Try.underlying210 Try.sizeOf5 rfl rfl (rowOf (i := 1) hS rfl) hl_3 h_t15) rfl rfl rfl ?_
      obtain ⟨l1, h_l1, H14⟩ := bnd_some H13; clear H13
      refine l_storeG (q := 1) (j := 0) (i := x7_2) (sz := 1) (hm := hl_3) (f := e_u8) (vs := [.int .u8 (wU8 x7_2)]) Try.sizeOf5 rfl rfl rfl rfl rfl rfl rfl rfl rfl (fun y_ hy_ => by first | rfl | (cases hy_.symm.trans h_t15; rfl)) h_l1 ?_
      refine l_nil ?_
      refine c_region ?_
      obtain ⟨t16, h_t16, H15⟩ := bnd_some H14; clear H14
      refine l_val rfl rfl rfl (r_addG rfl rfl h_t16) ?_
      refine l_val rfl rfl rfl (r_move (v := .int .i64 t16) rfl) ?_
      refine l_nil ?_
      refine c_close (x6_2, t16, l1) (p_3, n_2) m2 [0, 1, 2] (by exact ⟨rfl, rfl, rfl, rfl, trivial⟩) (by decide) rfl (by exact ⟨(by subst hn2; exact H15), (gSet_n hl_3 h_l1)⟩) (Nat.lt_succ_self _)
    · have H16 := cnd_f hb H11; clear H11
      refine c_exit ?_
      refine c_close l_3 (p_3, n_2) 0 [0, 1, 2] (by exact ⟨rfl, rfl, trivial⟩) (by decide) rfl (by exact ⟨H16, hl_3⟩) (Nat.lt_succ_self _)
  · rintro l ⟨p_2, n⟩ gg H10 hl
    replace H10 : pix_sample_j1 t3 l = some r := H10
    refine c_tidyF [(0, .pointer (some ⟨b2, 0, none⟩)), (1, .pointer (some ⟨b3, 0, none⟩))] [cellsC b2 [.int .i64 0, .int .i64 0, .slice none 0 0] 212, rowV 5 1 (.slice p_2.1 n p_2.2) n (l.map e_u8), cellsC b3 [.int .i64 t3.W, .int .i64 t3.H, .slice p_2.1 n p_2.2] 212] rfl rfl ?_
    refine c_seq ?_
    refine c_region ?_
    refine l_loadN (i := 2) (vs := [.int .i64 t3.W, .int .i64 t3.H, .slice p_2.1 n p_2.2]) Try.isAgg212 Try.sizeOf212 rfl rfl rfl rfl rfl ?_
    refine l_store (i := 0) (vs := [.int .i64 t3.W, .int .i64 t3.H, .slice p_2.1 n p_2.2]) (cs' := [.int .i64 t3.W, .int .i64 t3.H, .slice p_2.1 n p_2.2]) Try.sizeOf212 rfl rfl rfl rfl rfl rfl rfl rfl rfl ?_
    refine l_nil ?_
    refine c_ret ?_
    obtain rfl := Option.some.inj H10
    refine retC (i := 0) (vs := [.int .i64 t3.W, .int .i64 t3.H, .slice p_2.1 n p_2.2]) Try.isAgg212 Try.sizeOf212 rfl rfl rfl rfl (finX p_2 (i := 1) rfl (by first | rfl | rw [(show n = l.length from hl)]) (by first | exact Imp.refl _ | exact Imp.of (by rw [(show n = l.length from hl)])))
theorem k212 {a0 : T_api_Image} {v0_2 : Value} {a1 : T_api_Image} {v1_2 : Value} {r : Bool} {w : World} {h : Heap} (hw : Know h w noS) (f0_2 : FrS h 1 v0_2 (a0.Pixels.map e_u8)) (f1_2 : FrS h 1 v1_2 (a1.Pixels.map e_u8)) (H : pix_Same a0 a1 = some r) : Does Try.prog 212 (List.toArray [.agg #[.int .i64 a0.W, .int .i64 a0.H, v0_2], .agg #[.int .i64 a1.W, .int .i64 a1.H, v1_2]]) w (fun v w' => v = (.bool r) ∧ Grow w w') := by
  refine enter (n := 24) Try.func212 rfl rfl rfl noS [] (Sat.nil _ _) ?_
  refine c_seq ?_
  refine c_region ?_
  refine l_box (cs := [.int .i64 a0.W, .int .i64 a0.H, v0_2]) rfl rfl rfl rfl (fun b2 => ?_)
  refine l_box (cs := [.int .i64 a1.W, .int .i64 a1.H, v1_2]) rfl rfl rfl rfl (fun b3 => ?_)
  refine l_val rfl rfl rfl (r_assign (v := .bool false) rfl) ?_
  refine l_nil ?_
  refine c_seq ?_
  refine c_region ?_
  refine l_val rfl rfl rfl (r_field Try.runUnderlying212 rfl Try.sizeOf3 rfl rfl) ?_
  refine l_load1 (i := 0) (v := .int .i64 a0.W) Try.isAgg3 rfl rfl rfl rfl rfl ?_
  refine l_val rfl rfl rfl (r_field Try.runUnderlying212 rfl Try.sizeOf3 rfl rfl) ?_
  refine l_load1 (i := 1) (v := .int .i64 a1.W) Try.isAgg3 rfl rfl rfl rfl rfl ?_
  refine l_val rfl rfl rfl (r_eql rfl rfl) ?_
  refine l_val rfl rfl rfl (r_move (v := .bool (decide (a0.W = a1.W))) rfl) ?_
  refine split (fun hb => ?_) (fun hb => ?_)
  · have H6 := cnd_t hb H; clear H
    refine l_val rfl rfl rfl (r_field Try.runUnderlying212 rfl Try.sizeOf3 rfl rfl) ?_
    refine l_load1 (i := 0) (v := .int .i64 a0.H) Try.isAgg3 rfl rfl rfl rfl rfl ?_
    refine l_val rfl rfl rfl (r_field Try.runUnderlying212 rfl Try.sizeOf3 rfl rfl) ?_
    refine l_load1 (i := 1) (v := .int .i64 a1.H) Try.isAgg3 rfl rfl rfl rfl rfl ?_
    refine l_val rfl rfl rfl (r_eql rfl rfl) ?_
    refine l_val rfl rfl rfl (r_pickT (v := .bool (decide (a0.H = a1.H))) rfl rfl) ?_
    refine l_val rfl rfl rfl (r_move (v := .bool (decide (a0.H = a1.H))) rfl) ?_
    refine split (fun hb => ?_) (fun hb => ?_)
    · have H7 := cnd_t hb H6; clear H6
      refine l_val rfl rfl rfl (r_field Try.runUnderlying212 rfl Try.sizeOf210 rfl rfl) ?_
      refine l_load1 (i := 0) (v := v0_2) Try.isAgg210 rfl rfl rfl rfl rfl ?_
      refine l_val rfl rfl rfl (r_field Try.runUnderlying212 rfl Try.sizeOf210 rfl rfl) ?_
      refine l_load1 (i := 1) (v := v1_2) Try.isAgg210 rfl rfl rfl rfl rfl ?_
      obtain ⟨t22, h_t22, H8⟩ := bnd_some H7; clear H7
      refine l_callG (fun w hF hS => k207 (know_all w) (f0_2.mono (hw.now hF)) (f1_2.mono (hw.now hF)) h_t22) Try.call207 rfl rfl rfl ?_
      refine l_val rfl rfl rfl (r_pickT (v := .bool t22) rfl rfl) ?_
      refine l_val rfl rfl rfl (r_assign (v := .bool t22) rfl) ?_
      refine l_nil ?_
      refine c_ret ?_
      obtain rfl := Option.some.inj H8
      refine ret1 (v := .bool t22) rfl rfl (fin rfl)
    · have H9 := cnd_f hb H6; clear H6
      refine l_passed rfl rfl rfl ?_
      refine l_passed rfl rfl rfl ?_
      refine l_passed rfl rfl rfl ?_
      refine l_passed rfl rfl rfl ?_
      refine l_passed rfl rfl rfl ?_
      refine l_val rfl rfl rfl (r_pickF (v := .bool false) rfl rfl) ?_
      refine l_val rfl rfl rfl (r_assign (v := .bool false) rfl) ?_
      refine l_nil ?_
      refine c_ret ?_
      obtain rfl := Option.some.inj H9
      refine ret1 (v := .bool false) rfl rfl (fin rfl)
  · have H10 := cnd_f hb H; clear H
    refine l_passed rfl rfl rfl ?_
    refine l_passed rfl rfl rfl ?_
    refine l_passed rfl rfl rfl ?_
    refine l_passed rfl rfl rfl ?_
    refine l_passed rfl rfl rfl ?_
    refine l_val rfl rfl rfl (r_pickF (v := .bool false) rfl rfl) ?_
    refine l_val rfl rfl rfl (r_move (v := .bool false) rfl) ?_
    refine l_passed rfl rfl rfl ?_
    refine l_passed rfl rfl rfl ?_
    refine l_passed rfl rfl rfl ?_
    refine l_passed rfl rfl rfl ?_
    refine l_passed rfl rfl rfl ?_
    refine l_val rfl rfl rfl (r_pickF (v := .bool false) rfl rfl) ?_
    refine l_val rfl rfl rfl (r_assign (v := .bool false) rfl) ?_
    refine l_nil ?_
    refine c_ret ?_
    obtain rfl := Option.some.inj H10
    refine ret1 (v := .bool false) rfl rfl (fin rfl)
theorem k172 {a0 : Int} {a1 : Int} {r : Int × Int} (H : pix_Then a0 a1 = some r) : Ret Try.prog 172 [.int .i64 a0, .int .i64 a1] (.tuple #[.int .i64 r.1, .int .i64 r.2]) := by
  refine enterRet (n := 29) Try.func172 rfl rfl rfl (fun wd => ?_)
  refine c_seq ?_
  refine c_region ?_
  refine l_val rfl rfl rfl (r_assign (v := .int .i64 0) rfl) ?_
  refine l_val rfl rfl rfl (r_assign (v := .int .i64 0) rfl) ?_
  refine l_nil ?_
  refine c_seq ?_
  refine c_seq ?_
  refine c_region ?_
  refine l_val rfl rfl rfl (r_move (v := .int .i64 a0) rfl) ?_
  obtain ⟨t9, h_t9, H19⟩ := bnd_some H; clear H
  refine l_call (k209 h_t9) Try.call209 rfl rfl rfl ?_
  refine l_val rfl rfl rfl (r_move (v := .bool t9) rfl) ?_
  refine split (fun hb => ?_) (fun hb => ?_)
  · have H20 := cnd_t hb H19; clear H19
    refine l_passed rfl rfl rfl ?_
    refine l_passed rfl rfl rfl ?_
    refine l_val rfl rfl rfl (r_pickT (v := .bool true) rfl rfl) ?_
    refine l_nil ?_
    refine c_true rfl ?_
    refine c_seq ?_
    refine c_region ?_
    refine l_val rfl rfl rfl (r_assign (v := .int .i64 0) rfl) ?_
    refine l_val rfl rfl rfl (r_assign (v := .int .i64 2) rfl) ?_
    refine l_nil ?_
    refine c_ret ?_
    obtain rfl := Option.some.inj H20
    refine ret2 (v1 := .int .i64 0) (v2 := .int .i64 2) rfl rfl rfl (fin rfl)
  · have H21 := cnd_f hb H19; clear H19
    refine l_val rfl rfl rfl (r_move (v := .int .i64 a1) rfl) ?_
    obtain ⟨t12, h_t12, H22⟩ := bnd_some H21; clear H21
    refine l_call (k209 h_t12) Try.call209 rfl rfl rfl ?_
    refine l_val rfl rfl rfl (r_pickF (v := .bool t12) rfl rfl) ?_
    refine l_nil ?_
    refine c_if (b := t12) rfl (fun hb => ?_) (fun hb => ?_)
    · have H23 := cnd_t hb H22; clear H22
      refine c_seq ?_
      refine c_region ?_
      refine l_val rfl rfl rfl (r_assign (v := .int .i64 0) rfl) ?_
      refine l_val rfl rfl rfl (r_assign (v := .int .i64 2) rfl) ?_
      refine l_nil ?_
      refine c_ret ?_
      obtain rfl := Option.some.inj H23
      refine ret2 (v1 := .int .i64 0) (v2 := .int .i64 2) rfl rfl rfl (fin rfl)
    · have H24 := cnd_f hb H22; clear H22
      refine c_skip ?_
      refine c_seq ?_
      refine c_region ?_
      obtain ⟨t14, h_t14, H25⟩ := bnd_some H24; clear H24
      refine l_make (makes_call (rds := []) (G := fun x : (Option Addr × Nat) => .agg #[.int .i64 t14.W, .int .i64 t14.H, .slice x.1 t14.Pixels.length x.2]) (C := fun x : (Option Addr × Nat) => rowV 5 1 (.slice x.1 t14.Pixels.length x.2) t14.Pixels.length (t14.Pixels.map e_u8)) (fun w L' hF hS hi => k211 (know_all w)  h_t14) Try.call211 rfl) rfl rfl rfl (fun p => ?_)
      refine l_val rfl rfl rfl (r_move (v := .int .i64 a0) rfl) ?_
      obtain ⟨t16, h_t16, H26⟩ := bnd_some H25; clear H25
      refine l_make (makes_call (rds := [0]) (G := fun x : (Option Addr × Nat) => .agg #[.int .i64 t16.W, .int .i64 t16.H, .slice x.1 t16.Pixels.length x.2]) (C := fun x : (Option Addr × Nat) => rowV 5 1 (.slice x.1 t16.Pixels.length x.2) t16.Pixels.length (t16.Pixels.map e_u8)) (fun w L' hF hS hi => k210 (know_all w) (frs_own (i := 0) rfl hS ((hi 0 (by simp)).trans rfl)) h_t16) Try.call210 rfl) rfl rfl rfl (fun p_2 => ?_)
      refine l_val rfl rfl rfl (r_move (v := .int .i64 a1) rfl) ?_
      obtain ⟨t18, h_t18, H27⟩ := bnd_some H26; clear H26
      refine l_make (makes_call (rds := [1]) (G := fun x : (Option Addr × Nat) => .agg #[.int .i64 t18.W, .int .i64 t18.H, .slice x.1 t18.Pixels.length x.2]) (C := fun x : (Option Addr × Nat) => rowV 5 1 (.slice x.1 t18.Pixels.length x.2) t18.Pixels.length (t18.Pixels.map e_u8)) (fun w L' hF hS hi => k210 (know_all w) (frs_own (i := 1) rfl hS ((hi 1 (by simp)).trans rfl)) h_t18) Try.call210 rfl) rfl rfl rfl (fun p_3 => ?_)
      refine l_alloc (cs := [.int .i64 0, .int .i64 0, .slice none 0 0]) Try.zeroValue212 rfl rfl rfl (fun b1 => ?_)
      refine l_store (i := 3) (vs := [.int .i64 t18.W, .int .i64 t18.H, .slice p_3.1 t18.Pixels.length p_3.2]) (cs' := [.int .i64 t18.W, .int .i64 t18.H, .slice p_3.1 t18.Pixels.length p_3.2]) Try.sizeOf212 rfl rfl rfl rfl rfl rfl rfl rfl rfl ?_
      refine l_nil ?_
      refine c_seq ?_
      refine c_seq ?_
      refine c_region ?_
      refine l_val rfl rfl rfl (r_assign (v := .int .i64 1) rfl) ?_
      refine l_nil ?_
      refine c_block ?_
      refine c_sel [2, 3] [rowV 5 1 (.slice p_3.1 t18.Pixels.length p_3.2) t18.Pixels.length (t18.Pixels.map e_u8), cellsC b1 [.int .i64 t18.W, .int .i64 t18.H, .slice p_3.1 t18.Pixels.length p_3.2] 212] rfl (by decide) ?_
      refine c_fix (σ := Int) (τ := Unit) (fun next1 s => pix_Then_l1 t18 next1 s) (fun s t => [(6, .pointer (some ⟨b1, 0, none⟩)), (7, .int .i64 s)]) (fun s t => [rowV 5 1 (.slice p_3.1 t18.Pixels.length p_3.2) t18.Pixels.length (t18.Pixels.map e_u8), cellsC b1 [.int .i64 t18.W, .int .i64 t18.H, .slice p_3.1 t18.Pixels.length p_3.2] 212]) (fun s t => True) 1 () [0, 1] H27 (by exact trivial) (by exact ⟨rfl, rfl, trivial⟩) (by decide) rfl ?_
      rintro x7_2 _ m1 gg H28 _
      clear H27
      replace H28 : pix_Then_l1 t18 (it (fun next1 s => pix_Then_l1 t18 next1 s) m1) x7_2 = some r := H28
      generalize hn1 : it (fun next1 s => pix_Then_l1 t18 next1 s) m1 = next1 at H28
      refine c_tidyF [(6, .pointer (some ⟨b1, 0, none⟩)), (7, .int .i64 x7_2)] [rowV 5 1 (.slice p_3.1 t18.Pixels.length p_3.2) t18.Pixels.length (t18.Pixels.map e_u8), cellsC b1 [.int .i64 t18.W, .int .i64 t18.H, .slice p_3.1 t18.Pixels.length p_3.2] 212] rfl rfl ?_
      refine c_seq ?_
      refine c_seq ?_
      refine c_region ?_
      refine l_val rfl rfl rfl (r_move (v := .int .i64 x7_2) rfl) ?_
      refine l_val rfl rfl rfl (r_leq rfl rfl) ?_
      refine l_nil ?_
      refine c_if (b := (decide (x7_2 ≤ 8))) rfl (fun hb => ?_) (fun hb => ?_)
      · have H29 := cnd_t hb H28; clear H28
        refine c_skip ?_
        refine c_seq ?_
        refine c_block ?_
        refine c_seq ?_
        exact c_regionD (Kd.t 2 [] _ _ :: Kd.p :: Kd.t 3 [2] _ _ :: Kd.d [1] _ :: Kd.d [3, 0] _ :: []) 2 mixed (by
          have h_t23 := bnd_val H29
          have H30 := bnd_rest H29
          refine d_make (Cv := fun v => rowV 5 1 (.slice (sa (vcell v 2)) (val pix_sample).Pixels.length (sc (vcell v 2))) (val pix_sample).Pixels.length ((val pix_sample).Pixels.map e_u8)) (none, 0) (makes_call (G := fun x : (Option Addr × Nat) => .agg #[.int .i64 (val pix_sample).W, .int .i64 (val pix_sample).H, .slice x.1 (val pix_sample).Pixels.length x.2]) (C := fun x : (Option Addr × Nat) => rowV 5 1 (.slice x.1 (val pix_sample).Pixels.length x.2) (val pix_sample).Pixels.length ((val pix_sample).Pixels.map e_u8)) (fun w L' hF hS hi => k211 (know_all w)  h_t23) Try.call211 rfl) (fun _ => rfl) rfl rfl rfl (fun p_4 => ?_)
          refine d_val rfl rfl (r_move (v := .int .i64 x7_2) rfl) ?_
          have h_t25 := bnd_val H30
          have H31 := bnd_rest H30
          refine d_make (Cv := fun v => rowV 5 1 (.slice (sa (vcell v 2)) (val (pix_turned (val pix_sample) x7_2)).Pixels.length (sc (vcell v 2))) (val (pix_turned (val pix_sample) x7_2)).Pixels.length ((val (pix_turned (val pix_sample) x7_2)).Pixels.map e_u8)) (none, 0) (makes_call (G := fun x : (Option Addr × Nat) => .agg #[.int .i64 (val (pix_turned (val pix_sample) x7_2)).W, .int .i64 (val (pix_turned (val pix_sample) x7_2)).H, .slice x.1 (val (pix_turned (val pix_sample) x7_2)).Pixels.length x.2]) (C := fun x : (Option Addr × Nat) => rowV 5 1 (.slice x.1 (val (pix_turned (val pix_sample) x7_2)).Pixels.length x.2) (val (pix_turned (val pix_sample) x7_2)).Pixels.length ((val (pix_turned (val pix_sample) x7_2)).Pixels.map e_u8)) (fun w L' hF hS hi => k210 (know_all w) (frs_own (i := 2) rfl hS ((hi 2 (by simp)).trans rfl)) h_t25) Try.call210 rfl) (fun _ => rfl) rfl rfl rfl (fun p_5 => ?_)
          refine d_loadN (i := 1) (vs := [.int .i64 t18.W, .int .i64 t18.H, .slice p_3.1 t18.Pixels.length p_3.2]) Try.isAgg212 Try.sizeOf212 rfl rfl rfl rfl ?_
          have h_t27 := bnd_val H31
          have H32 := bnd_rest H31
          refine d_callD (fun w L' hF hS hi => k212 (know_all w) (frs_own (i := 3) rfl hS ((hi 3 (by simp)).trans rfl)) (frs_own (i := 0) rfl hS ((hi 0 (by simp)).trans rfl)) h_t27) Try.call212 rfl rfl ?_
          refine d_nil ?_
          refine c_if (b := (val (pix_Same (val (pix_turned (val pix_sample) x7_2)) t18))) rfl (fun hb => ?_) (fun hb => ?_)
          · have H33 := cnd_t hb H32; clear H32
            refine c_seq ?_
            refine c_region ?_
            refine l_val rfl rfl rfl (r_move (v := .int .i64 x7_2) rfl) ?_
            refine l_val rfl rfl rfl (r_assign (v := .int .i64 x7_2) rfl) ?_
            refine l_val rfl rfl rfl (r_assign (v := .int .i64 0) rfl) ?_
            refine l_nil ?_
            refine c_ret ?_
            obtain rfl := Option.some.inj H33
            refine ret2 (v1 := .int .i64 x7_2) (v2 := .int .i64 0) rfl rfl rfl (fin rfl)
          · have H34 := cnd_f hb H32; clear H32
            refine c_skip ?_
            refine c_region ?_
            refine l_val rfl rfl rfl (r_move (v := .int .i64 x7_2) rfl) ?_
            obtain ⟨t22, h_t22, H35⟩ := bnd_some H34; clear H34
            refine l_val rfl rfl rfl (r_addG rfl rfl h_t22) ?_
            refine l_val rfl rfl rfl (r_assign (v := .int .i64 t22) rfl) ?_
            refine l_nil ?_
            refine c_close t22 () m1 [0, 1] (by exact ⟨rfl, rfl, trivial⟩) (by decide) rfl (by exact ⟨(by subst hn1; exact H35), trivial⟩) (Nat.lt_succ_self _)
          ) (by kernel_rfl)
      · have H36 := cnd_f hb H28; clear H28
        refine c_exit ?_
        refine c_seq ?_
        refine c_region ?_
        refine l_val rfl rfl rfl (r_assign (v := .int .i64 0) rfl) ?_
        refine l_val rfl rfl rfl (r_assign (v := .int .i64 2) rfl) ?_
        refine l_nil ?_
        refine c_ret ?_
        obtain rfl := Option.some.inj H36
        refine ret2 (v1 := .int .i64 0) (v2 := .int .i64 2) rfl rfl rfl (fin rfl)
theorem k119 {a0 : (List T_edit_Step)} {v0 : Value} {a1 : Int} {a2 : Int} {a3 : Int} {r : (List T_edit_Step) × Bool} {w : World} {h : Heap} (hw : Know h w noS) (f0 : FrS h 5 v0 (a0.map e_edit_Step)) (H : edit_joinTurns a0 a1 a2 a3 = some r) : Does Try.prog 119 (List.toArray [v0, .int .i64 a1, .int .i64 a2, .int .i64 a3]) w (fun v w' => ∃ x : (Option Addr × Nat), v = (.tuple #[.slice x.1 r.1.length x.2, .bool r.2]) ∧ Turn w w' noS (rowV 31 5 (.slice x.1 r.1.length x.2) r.1.length (r.1.map e_edit_Step))) := by
  refine enter (n := 37) Try.func119 rfl rfl rfl noS [] (Sat.nil _ _) ?_
  refine c_seq ?_
  refine c_region ?_
  refine l_val rfl rfl rfl (r_assign (v := .slice none 0 0) rfl) ?_
  refine l_val rfl rfl rfl (r_assign (v := .bool false) rfl) ?_
  refine l_nil ?_
  refine c_seq ?_
  refine c_seq ?_
  refine c_region ?_
  refine l_val rfl rfl rfl (r_move (v := v0) rfl) ?_
  refine l_val rfl rfl rfl (r_move (v := .int .i64 a1) rfl) ?_
  obtain ⟨t14, h_t14, H9⟩ := bnd_some H; clear H
  refine l_callG (fun w hF hS => k171 (know_all w) (f0.mono (hw.now hF)) h_t14) Try.call171 rfl rfl rfl ?_
  refine l_val rfl rfl rfl (r_not rfl) ?_
  refine l_nil ?_
  refine c_if (b := (!t14)) rfl (fun hb => ?_) (fun hb => ?_)
  · have H10 := cnd_t hb H9; clear H9
    refine c_seq ?_
    refine c_region ?_
    refine l_val rfl rfl rfl (r_assign (v := .slice none 0 0) rfl) ?_
    refine l_val rfl rfl rfl (r_assign (v := .bool false) rfl) ?_
    refine l_nil ?_
    refine c_ret ?_
    refine c_nilRow 31 5 ?_
    obtain rfl := Option.some.inj H10
    refine ret2 (v1 := .slice ((none, 0) : Option Addr × Nat).1 ([] : List T_edit_Step).length ((none, 0) : Option Addr × Nat).2) (v2 := .bool false) rfl rfl rfl (finX ((none, 0) : Option Addr × Nat) (i := 0) rfl rfl (Imp.refl _))
  · have H11 := cnd_f hb H9; clear H9
    refine c_skip ?_
    refine c_seq ?_
    exact c_regionD (Kd.p :: Kd.p :: Kd.p :: Kd.p :: Kd.d [] _ :: Kd.p :: Kd.p :: Kd.p :: Kd.p :: Kd.p :: Kd.d [] _ :: Kd.d [] _ :: Kd.p :: Kd.p :: Kd.p :: Kd.p :: Kd.p :: []) 0 mixed (by
      refine d_val rfl rfl (r_move (v := v0) rfl) ?_
      refine d_val rfl rfl (r_move (v := .int .i64 a1) rfl) ?_
      have h_t19 := bnd_val H11
      have H12 := bnd_rest H11
      refine d_val rfl rfl (r_indexF Try.underlying22 Try.sizeOf31 rfl rfl f0 h_t19) ?_
      refine d_val rfl rfl (r_fieldP Try.runUnderlying31 rfl Try.sizeOf3 rfl rfl (some_of_at f0 h_t19)) ?_
      refine d_read (fun w hF => run_loadG1 (f := e_edit_Step) (i := a1) (sz := 5) (j := 1) (v := .int .i64 (val (gAt a0 a1)).A) Try.isAgg3 rfl rfl (f0.row (hw.now hF)) h_t19 rfl) rfl rfl ?_
      refine d_val rfl rfl (r_move (v := v0) rfl) ?_
      refine d_val rfl rfl (r_move (v := .int .i64 a1) rfl) ?_
      have h_t24 := bnd_val H12
      have H13 := bnd_rest H12
      refine d_val rfl rfl (r_addG rfl rfl h_t24) ?_
      have h_t25 := bnd_val H13
      have H14 := bnd_rest H13
      refine d_val rfl rfl (r_indexF Try.underlying22 Try.sizeOf31 rfl rfl f0 h_t25) ?_
      refine d_val rfl rfl (r_fieldP Try.runUnderlying31 rfl Try.sizeOf3 rfl rfl (some_of_at f0 h_t25)) ?_
      refine d_read (fun w hF => run_loadG1 (f := e_edit_Step) (i := (val (gI (a1 + 1)))) (sz := 5) (j := 1) (v := .int .i64 (val (gAt a0 (val (gI (a1 + 1))))).A) Try.isAgg3 rfl rfl (f0.row (hw.now hF)) h_t25 rfl) rfl rfl ?_
      have h_t28 := bnd_val H14
      have H15 := bnd_rest H14
      refine d_call (k172 h_t28) Try.call172 rfl rfl ?_
      refine d_val rfl rfl (r_move (v := .tuple #[.int .i64 (val (pix_Then (val (gAt a0 a1)).A (val (gAt a0 (val (gI (a1 + 1))))).A)).1, .int .i64 (val (pix_Then (val (gAt a0 a1)).A (val (gAt a0 (val (gI (a1 + 1))))).A)).2]) rfl) ?_
      refine d_val rfl rfl (r_extract (v := .int .i64 (val (pix_Then (val (gAt a0 a1)).A (val (gAt a0 (val (gI (a1 + 1))))).A)).1) rfl rfl) ?_
      refine d_val rfl rfl (r_extract (v := .int .i64 (val (pix_Then (val (gAt a0 a1)).A (val (gAt a0 (val (gI (a1 + 1))))).A)).2) rfl rfl) ?_
      refine d_val rfl rfl (r_assign (v := .int .i64 (val (pix_Then (val (gAt a0 a1)).A (val (gAt a0 (val (gI (a1 + 1))))).A)).1) rfl) ?_
      refine d_val rfl rfl (r_assign (v := .int .i64 (val (pix_Then (val (gAt a0 a1)).A (val (gAt a0 (val (gI (a1 + 1))))).A)).2) rfl) ?_
      refine d_nil ?_
      refine c_seq ?_
      refine c_region ?_
      refine l_val rfl rfl rfl (r_move (v := v0) rfl) ?_
      refine l_val rfl rfl rfl (r_move (v := .int .i64 a1) rfl) ?_
      refine l_val rfl rfl rfl (r_move (v := .int .i64 (val (pix_Then (val (gAt a0 a1)).A (val (gAt a0 (val (gI (a1 + 1))))).A)).1) rfl) ?_
      refine l_val rfl rfl rfl (r_build (pl := #[(0, 1), (1, 1), (2, 1), (3, 1), (4, 1)]) (ps := [(0, .int .i64 1), (1, .int .i64 (val (pix_Then (val (gAt a0 a1)).A (val (gAt a0 (val (gI (a1 + 1))))).A)).1)]) (cells := #[.int .i64 1, .int .i64 (val (pix_Then (val (gAt a0 a1)).A (val (gAt a0 (val (gI (a1 + 1))))).A)).1, .int .i64 0, .int .i64 0, .int .i64 0]) Try.zeroValue31 Try.runUnderlying31 (fun w => by kernel_rfl) rfl rfl) ?_
      refine l_buildSlice (vs := [.agg #[.int .i64 1, .int .i64 (val (pix_Then (val (gAt a0 a1)).A (val (gAt a0 (val (gI (a1 + 1))))).A)).1, .int .i64 0, .int .i64 0, .int .i64 0]]) (cs := [.int .i64 1, .int .i64 (val (pix_Then (val (gAt a0 a1)).A (val (gAt a0 (val (gI (a1 + 1))))).A)).1, .int .i64 0, .int .i64 0, .int .i64 0]) Try.underlying22 Try.sizeOf31 Try.zeroValue31 rfl rfl rfl rfl rfl rfl rfl (fun b1 => ?_)
      obtain ⟨t36, h_t36, H16⟩ := bnd_some H15; clear H15
      refine l_make (makes_call (rds := [0]) (G := fun x : (Option Addr × Nat) => .slice x.1 t36.length x.2) (C := fun x : (Option Addr × Nat) => rowV 31 5 (.slice x.1 t36.length x.2) t36.length (t36.map e_edit_Step)) (fun w L' hF hS hi => k170 (know_all w) (f0.mono (hw.now hF)) (frs_box (i := 0) (xs := ([(⟨1, (val (pix_Then (val (gAt a0 a1)).A (val (gAt a0 (val (gI (a1 + 1))))).A)).1, 0, 0, 0⟩ : T_edit_Step)] : List T_edit_Step)) (f := e_edit_Step) hS ((hi 0 (by simp)).trans rfl) rfl rfl rfl rfl) h_t36) Try.call170 rfl) rfl rfl rfl (fun p => ?_)
      refine l_val rfl rfl rfl (r_assign (v := .slice p.1 t36.length p.2) rfl) ?_
      refine l_val rfl rfl rfl (r_assign (v := .bool true) rfl) ?_
      refine l_nil ?_
      refine c_ret ?_
      obtain rfl := Option.some.inj H16
      refine ret2 (v1 := .slice p.1 t36.length p.2) (v2 := .bool true) rfl rfl rfl (finX p (i := 1) rfl rfl (Imp.refl _))
      ) (by kernel_rfl)
theorem k120 {a0 : (List T_edit_Step)} {v0 : Value} {a1 : Int} {a2 : Int} {a3 : Int} {r : (List T_edit_Step) × Bool} {w : World} {h : Heap} (hw : Know h w noS) (f0 : FrS h 5 v0 (a0.map e_edit_Step)) (H : edit_joinCrops a0 a1 a2 a3 = some r) : Does Try.prog 120 (List.toArray [v0, .int .i64 a1, .int .i64 a2, .int .i64 a3]) w (fun v w' => ∃ x : (Option Addr × Nat), v = (.tuple #[.slice x.1 r.1.length x.2, .bool r.2]) ∧ Turn w w' noS (rowV 31 5 (.slice x.1 r.1.length x.2) r.1.length (r.1.map e_edit_Step))) := by
  refine enter (n := 44) Try.func120 rfl rfl rfl noS [] (Sat.nil _ _) ?_
  refine c_seq ?_
  refine c_region ?_
  refine l_val rfl rfl rfl (r_assign (v := .slice none 0 0) rfl) ?_
  refine l_val rfl rfl rfl (r_assign (v := .bool false) rfl) ?_
  refine l_nil ?_
  refine c_seq ?_
  refine c_seq ?_
  refine c_region ?_
  refine l_val rfl rfl rfl (r_move (v := v0) rfl) ?_
  refine l_val rfl rfl rfl (r_move (v := .int .i64 a1) rfl) ?_
  obtain ⟨t14, h_t14, H10⟩ := bnd_some H; clear H
  refine l_callG (fun w hF hS => k171 (know_all w) (f0.mono (hw.now hF)) h_t14) Try.call171 rfl rfl rfl ?_
  refine l_val rfl rfl rfl (r_not rfl) ?_
  refine l_nil ?_
  refine c_if (b := (!t14)) rfl (fun hb => ?_) (fun hb => ?_)
  · have H11 := cnd_t hb H10; clear H10
    refine c_seq ?_
    refine c_region ?_
    refine l_val rfl rfl rfl (r_assign (v := .slice none 0 0) rfl) ?_
    refine l_val rfl rfl rfl (r_assign (v := .bool false) rfl) ?_
    refine l_nil ?_
    refine c_ret ?_
    refine c_nilRow 31 5 ?_
    obtain rfl := Option.some.inj H11
    refine ret2 (v1 := .slice ((none, 0) : Option Addr × Nat).1 ([] : List T_edit_Step).length ((none, 0) : Option Addr × Nat).2) (v2 := .bool false) rfl rfl rfl (finX ((none, 0) : Option Addr × Nat) (i := 0) rfl rfl (Imp.refl _))
  · have H12 := cnd_f hb H10; clear H10
    refine c_skip ?_
    refine c_seq ?_
    exact c_regionD (Kd.p :: Kd.p :: Kd.p :: Kd.d [] _ :: Kd.p :: Kd.p :: Kd.p :: Kd.p :: Kd.d [] _ :: Kd.nw 0 [_, _, _, _, _] 31 :: Kd.nw 1 [_, _, _, _, _] 31 :: Kd.st 10 0 [_, _, _, _, _] 31 :: Kd.st 11 1 [_, _, _, _, _] 31 :: []) 2 mixed (by
      refine d_val rfl rfl (r_move (v := v0) rfl) ?_
      refine d_val rfl rfl (r_move (v := .int .i64 a1) rfl) ?_
      have h_t18 := bnd_val H12
      have H13 := bnd_rest H12
      refine d_val rfl rfl (r_indexF Try.underlying22 Try.sizeOf31 rfl rfl f0 h_t18) ?_
      refine d_read (fun w hF => run_loadGN (f := e_edit_Step) (i := a1) (sz := 5) (j := 0) (vs := [.int .i64 (val (gAt a0 a1)).Kind, .int .i64 (val (gAt a0 a1)).A, .int .i64 (val (gAt a0 a1)).B, .int .i64 (val (gAt a0 a1)).C, .int .i64 (val (gAt a0 a1)).D]) Try.isAgg31 Try.sizeOf31 rfl rfl (f0.row (hw.now hF)) h_t18 rfl) rfl rfl ?_
      refine d_val rfl rfl (r_move (v := v0) rfl) ?_
      refine d_val rfl rfl (r_move (v := .int .i64 a1) rfl) ?_
      have h_t22 := bnd_val H13
      have H14 := bnd_rest H13
      refine d_val rfl rfl (r_addG rfl rfl h_t22) ?_
      have h_t23 := bnd_val H14
      have H15 := bnd_rest H14
      refine d_val rfl rfl (r_indexF Try.underlying22 Try.sizeOf31 rfl rfl f0 h_t23) ?_
      refine d_read (fun w hF => run_loadGN (f := e_edit_Step) (i := (val (gI (a1 + 1)))) (sz := 5) (j := 0) (vs := [.int .i64 (val (gAt a0 (val (gI (a1 + 1))))).Kind, .int .i64 (val (gAt a0 (val (gI (a1 + 1))))).A, .int .i64 (val (gAt a0 (val (gI (a1 + 1))))).B, .int .i64 (val (gAt a0 (val (gI (a1 + 1))))).C, .int .i64 (val (gAt a0 (val (gI (a1 + 1))))).D]) Try.isAgg31 Try.sizeOf31 rfl rfl (f0.row (hw.now hF)) h_t23 rfl) rfl rfl ?_
      refine d_new rfl rfl (run_alloc (cs := [.int .i64 0, .int .i64 0, .int .i64 0, .int .i64 0, .int .i64 0]) Try.zeroValue31 rfl) rfl (fun b3 => ?_)
      refine d_new rfl rfl (run_alloc (cs := [.int .i64 0, .int .i64 0, .int .i64 0, .int .i64 0, .int .i64 0]) Try.zeroValue31 rfl) rfl (fun b4 => ?_)
      refine d_store (i := 0) (vs := [.int .i64 (val (gAt a0 a1)).Kind, .int .i64 (val (gAt a0 a1)).A, .int .i64 (val (gAt a0 a1)).B, .int .i64 (val (gAt a0 a1)).C, .int .i64 (val (gAt a0 a1)).D]) (cs' := [.int .i64 (val (gAt a0 a1)).Kind, .int .i64 (val (gAt a0 a1)).A, .int .i64 (val (gAt a0 a1)).B, .int .i64 (val (gAt a0 a1)).C, .int .i64 (val (gAt a0 a1)).D]) Try.sizeOf31 rfl rfl rfl rfl rfl rfl rfl rfl rfl ?_
      refine d_store (i := 1) (vs := [.int .i64 (val (gAt a0 (val (gI (a1 + 1))))).Kind, .int .i64 (val (gAt a0 (val (gI (a1 + 1))))).A, .int .i64 (val (gAt a0 (val (gI (a1 + 1))))).B, .int .i64 (val (gAt a0 (val (gI (a1 + 1))))).C, .int .i64 (val (gAt a0 (val (gI (a1 + 1))))).D]) (cs' := [.int .i64 (val (gAt a0 (val (gI (a1 + 1))))).Kind, .int .i64 (val (gAt a0 (val (gI (a1 + 1))))).A, .int .i64 (val (gAt a0 (val (gI (a1 + 1))))).B, .int .i64 (val (gAt a0 (val (gI (a1 + 1))))).C, .int .i64 (val (gAt a0 (val (gI (a1 + 1))))).D]) Try.sizeOf31 rfl rfl rfl rfl rfl rfl rfl rfl rfl ?_
      refine d_nil ?_
      refine c_seq ?_
      refine c_region ?_
      refine l_val rfl rfl rfl (r_move (v := v0) rfl) ?_
      refine l_val rfl rfl rfl (r_move (v := .int .i64 a1) rfl) ?_
      refine l_val rfl rfl rfl (r_field Try.runUnderlying31 rfl Try.sizeOf3 rfl rfl) ?_
      refine l_load1 (i := 0) (v := .int .i64 (val (gAt a0 a1)).A) Try.isAgg3 rfl rfl rfl rfl rfl ?_
      refine l_val rfl rfl rfl (r_field Try.runUnderlying31 rfl Try.sizeOf3 rfl rfl) ?_
      refine l_load1 (i := 1) (v := .int .i64 (val (gAt a0 (val (gI (a1 + 1))))).A) Try.isAgg3 rfl rfl rfl rfl rfl ?_
      obtain ⟨t31, h_t31, H16⟩ := bnd_some H15; clear H15
      refine l_val rfl rfl rfl (r_addG rfl rfl h_t31) ?_
      refine l_val rfl rfl rfl (r_field Try.runUnderlying31 rfl Try.sizeOf3 rfl rfl) ?_
      refine l_load1 (i := 0) (v := .int .i64 (val (gAt a0 a1)).B) Try.isAgg3 rfl rfl rfl rfl rfl ?_
      refine l_val rfl rfl rfl (r_field Try.runUnderlying31 rfl Try.sizeOf3 rfl rfl) ?_
      refine l_load1 (i := 1) (v := .int .i64 (val (gAt a0 (val (gI (a1 + 1))))).B) Try.isAgg3 rfl rfl rfl rfl rfl ?_
      obtain ⟨t36, h_t36, H17⟩ := bnd_some H16; clear H16
      refine l_val rfl rfl rfl (r_addG rfl rfl h_t36) ?_
      refine l_val rfl rfl rfl (r_field Try.runUnderlying31 rfl Try.sizeOf3 rfl rfl) ?_
      refine l_load1 (i := 1) (v := .int .i64 (val (gAt a0 (val (gI (a1 + 1))))).C) Try.isAgg3 rfl rfl rfl rfl rfl ?_
      refine l_val rfl rfl rfl (r_field Try.runUnderlying31 rfl Try.sizeOf3 rfl rfl) ?_
      refine l_load1 (i := 1) (v := .int .i64 (val (gAt a0 (val (gI (a1 + 1))))).D) Try.isAgg3 rfl rfl rfl rfl rfl ?_
      refine l_val rfl rfl rfl (r_build (pl := #[(0, 1), (1, 1), (2, 1), (3, 1), (4, 1)]) (ps := [(0, .int .i64 2), (1, .int .i64 t31), (2, .int .i64 t36), (3, .int .i64 (val (gAt a0 (val (gI (a1 + 1))))).C), (4, .int .i64 (val (gAt a0 (val (gI (a1 + 1))))).D)]) (cells := #[.int .i64 2, .int .i64 t31, .int .i64 t36, .int .i64 (val (gAt a0 (val (gI (a1 + 1))))).C, .int .i64 (val (gAt a0 (val (gI (a1 + 1))))).D]) Try.zeroValue31 Try.runUnderlying31 (fun w => by kernel_rfl) rfl rfl) ?_
      refine l_buildSlice (vs := [.agg #[.int .i64 2, .int .i64 t31, .int .i64 t36, .int .i64 (val (gAt a0 (val (gI (a1 + 1))))).C, .int .i64 (val (gAt a0 (val (gI (a1 + 1))))).D]]) (cs := [.int .i64 2, .int .i64 t31, .int .i64 t36, .int .i64 (val (gAt a0 (val (gI (a1 + 1))))).C, .int .i64 (val (gAt a0 (val (gI (a1 + 1))))).D]) Try.underlying22 Try.sizeOf31 Try.zeroValue31 rfl rfl rfl rfl rfl rfl rfl (fun b5 => ?_)
      obtain ⟨t43, h_t43, H18⟩ := bnd_some H17; clear H17
      refine l_make (makes_call (rds := [2]) (G := fun x : (Option Addr × Nat) => .slice x.1 t43.length x.2) (C := fun x : (Option Addr × Nat) => rowV 31 5 (.slice x.1 t43.length x.2) t43.length (t43.map e_edit_Step)) (fun w L' hF hS hi => k170 (know_all w) (f0.mono (hw.now hF)) (frs_box (i := 2) (xs := ([(⟨2, t31, t36, (val (gAt a0 (val (gI (a1 + 1))))).C, (val (gAt a0 (val (gI (a1 + 1))))).D⟩ : T_edit_Step)] : List T_edit_Step)) (f := e_edit_Step) hS ((hi 2 (by simp)).trans rfl) rfl rfl rfl rfl) h_t43) Try.call170 rfl) rfl rfl rfl (fun p => ?_)
      refine l_val rfl rfl rfl (r_assign (v := .slice p.1 t43.length p.2) rfl) ?_
      refine l_val rfl rfl rfl (r_assign (v := .bool true) rfl) ?_
      refine l_nil ?_
      refine c_ret ?_
      obtain rfl := Option.some.inj H18
      refine ret2 (v1 := .slice p.1 t43.length p.2) (v2 := .bool true) rfl rfl rfl (finX p (i := 3) rfl rfl (Imp.refl _))
      ) (by kernel_rfl)
theorem k214 {a0 : Int} {a1 : Int} {a2 : Int} {a3 : Int} {a4 : Int} {r : Int × Int} (H : pix_From a0 a1 a2 a3 a4 = some r) : Ret Try.prog 214 [.int .i64 a0, .int .i64 a1, .int .i64 a2, .int .i64 a3, .int .i64 a4] (.tuple #[.int .i64 r.1, .int .i64 r.2]) := by
  refine enterRet (n := 23) Try.func214 rfl rfl rfl (fun wd => ?_)
  refine c_seq ?_
  refine c_region ?_
  refine l_val rfl rfl rfl (r_assign (v := .int .i64 0) rfl) ?_
  refine l_val rfl rfl rfl (r_assign (v := .int .i64 0) rfl) ?_
  refine l_nil ?_
  refine c_seq ?_
  refine c_region ?_
  obtain ⟨t12, h_t12, H5⟩ := bnd_some H; clear H
  refine l_call (k237 h_t12) Try.call237 rfl rfl rfl ?_
  refine l_val rfl rfl rfl (r_move (v := .int .i64 a0) rfl) ?_
  obtain ⟨k14, h_k14, H6⟩ := bnd_some H5; clear H5
  refine l_val rfl rfl rfl (r_indexAN (f := fun j_ => [v237_0_0 j_, .bool (pix_turnings_tab1 j_)]) Try.runUnderlying270 Try.isAgg269 Try.sizeOf269 rfl rfl rfl (fun _ => rfl) h_k14) ?_
  refine l_val rfl rfl rfl (r_fieldV (v := (v237_0_0 k14)) Try.runUnderlying269 Try.isAgg267 rfl rfl rfl) ?_
  refine l_val rfl rfl rfl (r_move (v := .int .i64 a1) rfl) ?_
  refine l_val rfl rfl rfl (r_move (v := .int .i64 a2) rfl) ?_
  refine l_val rfl rfl rfl (r_move (v := .int .i64 a3) rfl) ?_
  refine l_val rfl rfl rfl (r_move (v := .int .i64 a4) rfl) ?_
  obtain ⟨g20, h_g20, H7⟩ := bnd_some H6; clear H6
  obtain ⟨t20, h_t20, H8⟩ := bnd_some H7; clear H7
  refine l_callV (R := fnR_func_int_int_int_int_int_int g20) (r := .tuple #[.int .i64 t20.1, .int .i64 t20.2]) (v := (v237_0_0 k14)) (fun w hF hS => ⟨((h237_0_0 (gIx_lt h_k14)).fn (gFn_some h_g20) _), ⟨a1, a2, a3, a4, _, rfl, h_t20, rfl⟩⟩) rfl rfl rfl rfl ?_
  refine l_val rfl rfl rfl (r_extract (v := .int .i64 t20.1) rfl rfl) ?_
  refine l_val rfl rfl rfl (r_extract (v := .int .i64 t20.2) rfl rfl) ?_
  refine l_val rfl rfl rfl (r_assign (v := .int .i64 t20.1) rfl) ?_
  refine l_val rfl rfl rfl (r_assign (v := .int .i64 t20.2) rfl) ?_
  refine l_nil ?_
  refine c_ret ?_
  obtain rfl := Option.some.inj H8
  refine ret2 (v1 := .int .i64 t20.1) (v2 := .int .i64 t20.2) rfl rfl rfl (fin rfl)
theorem k173 {a0 : T_edit_Step} {a1 : Int} {a2 : Int} {a3 : Int} {r : T_edit_Step} (H : edit_turnedCrop a0 a1 a2 a3 = some r) : Ret Try.prog 173 [.agg #[.int .i64 a0.Kind, .int .i64 a0.A, .int .i64 a0.B, .int .i64 a0.C, .int .i64 a0.D], .int .i64 a1, .int .i64 a2, .int .i64 a3] (.agg #[.int .i64 r.Kind, .int .i64 r.A, .int .i64 r.B, .int .i64 r.C, .int .i64 r.D]) := by
  refine enterRet (n := 91) Try.func173 rfl rfl rfl (fun wd => ?_)
  refine c_seq ?_
  refine c_region ?_
  refine l_box (cs := [.int .i64 a0.Kind, .int .i64 a0.A, .int .i64 a0.B, .int .i64 a0.C, .int .i64 a0.D]) rfl rfl rfl rfl (fun b2 => ?_)
  refine l_alloc (cs := [.int .i64 0, .int .i64 0, .int .i64 0, .int .i64 0, .int .i64 0]) Try.zeroValue31 rfl rfl rfl (fun b3 => ?_)
  refine l_nil ?_
  refine c_seq ?_
  refine c_region ?_
  refine l_val rfl rfl rfl (r_move (v := .int .i64 a1) rfl) ?_
  refine l_val rfl rfl rfl (r_move (v := .int .i64 a2) rfl) ?_
  refine l_val rfl rfl rfl (r_move (v := .int .i64 a3) rfl) ?_
  obtain ⟨t21, h_t21, H25⟩ := bnd_some H; clear H
  refine l_call (k213 h_t21) Try.call213 rfl rfl rfl ?_
  refine l_val rfl rfl rfl (r_move (v := .tuple #[.int .i64 t21.1, .int .i64 t21.2]) rfl) ?_
  refine l_val rfl rfl rfl (r_extract (v := .int .i64 t21.1) rfl rfl) ?_
  refine l_val rfl rfl rfl (r_extract (v := .int .i64 t21.2) rfl rfl) ?_
  refine l_val rfl rfl rfl (r_assign (v := .int .i64 t21.1) rfl) ?_
  refine l_val rfl rfl rfl (r_assign (v := .int .i64 t21.2) rfl) ?_
  refine l_nil ?_
  refine c_seq ?_
  refine c_region ?_
  refine l_val rfl rfl rfl (r_move (v := .int .i64 t21.1) rfl) ?_
  refine l_val rfl rfl rfl (r_move (v := .int .i64 t21.2) rfl) ?_
  refine l_val rfl rfl rfl (r_assign (v := .int .i64 t21.1) rfl) ?_
  refine l_val rfl rfl rfl (r_assign (v := .int .i64 t21.2) rfl) ?_
  refine l_nil ?_
  refine c_meet (r := r) (σ := Int × Int) (τ := Unit) (fun s => edit_turnedCrop_j1 a0 a1 s.1 s.2) (fun s t => [(1, .int .i64 a1), (4, .pointer (some ⟨b2, 0, none⟩)), (8, .pointer (some ⟨b3, 0, none⟩)), (11, .int .i64 s.1), (12, .int .i64 s.2)]) (fun s t => [cellsC b2 [.int .i64 a0.Kind, .int .i64 a0.A, .int .i64 a0.B, .int .i64 a0.C, .int .i64 a0.D] 31, cellsC b3 [.int .i64 0, .int .i64 0, .int .i64 0, .int .i64 0, .int .i64 0] 31]) (fun s t => True) ?_ ?_
  · refine c_seq ?_
    refine c_region ?_
    refine l_val rfl rfl rfl (r_move (v := .int .i64 t21.2) rfl) ?_
    refine l_val rfl rfl rfl (r_move (v := .int .i64 0) rfl) ?_
    refine l_nil ?_
    refine c_block ?_
    refine c_fix (σ := Int × Int × Int) (τ := Unit) (fun next2 s => edit_turnedCrop_l2 a0 a1 a2 a3 t21 next2 s.1 s.2.1 s.2.2) (fun s t => [(1, .int .i64 a1), (2, .int .i64 a2), (3, .int .i64 a3), (4, .pointer (some ⟨b2, 0, none⟩)), (8, .pointer (some ⟨b3, 0, none⟩)), (9, .int .i64 t21.1), (11, .int .i64 s.1), (12, .int .i64 s.2.1), (26, .int .i64 t21.2), (27, .int .i64 s.2.2)]) (fun s t => [cellsC b2 [.int .i64 a0.Kind, .int .i64 a0.A, .int .i64 a0.B, .int .i64 a0.C, .int .i64 a0.D] 31, cellsC b3 [.int .i64 0, .int .i64 0, .int .i64 0, .int .i64 0, .int .i64 0] 31]) (fun s t => True) (t21.1, t21.2, 0) () [0, 1] H25 (by exact trivial) (by exact ⟨rfl, rfl, rfl, rfl, rfl, rfl, rfl, rfl, rfl, rfl, trivial⟩) (by decide) rfl ?_
    rintro ⟨x11_3, x12_3, x27_2⟩ _ m2 gg H28 _
    clear H25
    replace H28 : edit_turnedCrop_l2 a0 a1 a2 a3 t21 (it (fun next2 s => edit_turnedCrop_l2 a0 a1 a2 a3 t21 next2 s.1 s.2.1 s.2.2) m2) x11_3 x12_3 x27_2 = some r := H28
    generalize hn2 : it (fun next2 s => edit_turnedCrop_l2 a0 a1 a2 a3 t21 next2 s.1 s.2.1 s.2.2) m2 = next2 at H28
    refine c_tidyF [(1, .int .i64 a1), (2, .int .i64 a2), (3, .int .i64 a3), (4, .pointer (some ⟨b2, 0, none⟩)), (8, .pointer (some ⟨b3, 0, none⟩)), (9, .int .i64 t21.1), (11, .int .i64 x11_3), (12, .int .i64 x12_3), (26, .int .i64 t21.2), (27, .int .i64 x27_2)] [cellsC b2 [.int .i64 a0.Kind, .int .i64 a0.A, .int .i64 a0.B, .int .i64 a0.C, .int .i64 a0.D] 31, cellsC b3 [.int .i64 0, .int .i64 0, .int .i64 0, .int .i64 0, .int .i64 0] 31] rfl rfl ?_
    refine c_seq ?_
    refine c_region ?_
    refine l_val rfl rfl rfl (r_lss rfl rfl) ?_
    refine l_nil ?_
    refine c_seq ?_
    refine c_if (b := (decide (x27_2 < t21.2))) rfl (fun hb => ?_) (fun hb => ?_)
    · have H29 := cnd_t hb H28; clear H28
      refine c_skip ?_
      refine c_meet (r := r) (σ := Int × Int) (τ := Unit) (fun s => edit_turnedCrop_j3 x27_2 next2 s.1 s.2) (fun s t => [(1, .int .i64 a1), (2, .int .i64 a2), (3, .int .i64 a3), (4, .pointer (some ⟨b2, 0, none⟩)), (8, .pointer (some ⟨b3, 0, none⟩)), (9, .int .i64 t21.1), (11, .int .i64 s.1), (12, .int .i64 s.2), (26, .int .i64 t21.2), (27, .int .i64 x27_2)]) (fun s t => [cellsC b2 [.int .i64 a0.Kind, .int .i64 a0.A, .int .i64 a0.B, .int .i64 a0.C, .int .i64 a0.D] 31, cellsC b3 [.int .i64 0, .int .i64 0, .int .i64 0, .int .i64 0, .int .i64 0] 31]) (fun s t => True) ?_ ?_
      · refine c_block ?_
        refine c_seq ?_
        refine c_region ?_
        refine l_val rfl rfl rfl (r_move (v := .int .i64 x27_2) rfl) ?_
        refine l_val rfl rfl rfl (r_assign (v := .int .i64 x27_2) rfl) ?_
        refine l_nil ?_
        refine c_seq ?_
        refine c_region ?_
        refine l_val rfl rfl rfl (r_move (v := .int .i64 t21.1) rfl) ?_
        refine l_val rfl rfl rfl (r_move (v := .int .i64 0) rfl) ?_
        refine l_nil ?_
        refine c_block ?_
        refine c_fix (σ := Int × Int × Int) (τ := Unit) (fun next4 s => edit_turnedCrop_l4 a0 a1 a2 a3 t21 x27_2 next2 next4 s.1 s.2.1 s.2.2) (fun s t => [(1, .int .i64 a1), (2, .int .i64 a2), (3, .int .i64 a3), (4, .pointer (some ⟨b2, 0, none⟩)), (8, .pointer (some ⟨b3, 0, none⟩)), (9, .int .i64 t21.1), (11, .int .i64 s.1), (12, .int .i64 s.2.1), (13, .int .i64 x27_2), (26, .int .i64 t21.2), (27, .int .i64 x27_2), (30, .int .i64 t21.1), (31, .int .i64 s.2.2)]) (fun s t => [cellsC b2 [.int .i64 a0.Kind, .int .i64 a0.A, .int .i64 a0.B, .int .i64 a0.C, .int .i64 a0.D] 31, cellsC b3 [.int .i64 0, .int .i64 0, .int .i64 0, .int .i64 0, .int .i64 0] 31]) (fun s t => True) (x11_3, x12_3, 0) () [0, 1] H29 (by exact trivial) (by exact ⟨rfl, rfl, rfl, rfl, rfl, rfl, rfl, rfl, rfl, rfl, rfl, rfl, rfl, trivial⟩) (by decide) rfl ?_
        rintro ⟨x11_6, x12_6, x31_2⟩ _ m4 gg H32 _
        clear H29
        replace H32 : edit_turnedCrop_l4 a0 a1 a2 a3 t21 x27_2 next2 (it (fun next4 s => edit_turnedCrop_l4 a0 a1 a2 a3 t21 x27_2 next2 next4 s.1 s.2.1 s.2.2) m4) x11_6 x12_6 x31_2 = some r := H32
        generalize hn4 : it (fun next4 s => edit_turnedCrop_l4 a0 a1 a2 a3 t21 x27_2 next2 next4 s.1 s.2.1 s.2.2) m4 = next4 at H32
        refine c_tidyF [(1, .int .i64 a1), (2, .int .i64 a2), (3, .int .i64 a3), (4, .pointer (some ⟨b2, 0, none⟩)), (8, .pointer (some ⟨b3, 0, none⟩)), (9, .int .i64 t21.1), (11, .int .i64 x11_6), (12, .int .i64 x12_6), (13, .int .i64 x27_2), (26, .int .i64 t21.2), (27, .int .i64 x27_2), (30, .int .i64 t21.1), (31, .int .i64 x31_2)] [cellsC b2 [.int .i64 a0.Kind, .int .i64 a0.A, .int .i64 a0.B, .int .i64 a0.C, .int .i64 a0.D] 31, cellsC b3 [.int .i64 0, .int .i64 0, .int .i64 0, .int .i64 0, .int .i64 0] 31] rfl rfl ?_
        refine c_seq ?_
        refine c_region ?_
        refine l_val rfl rfl rfl (r_lss rfl rfl) ?_
        refine l_nil ?_
        refine c_seq ?_
        refine c_if (b := (decide (x31_2 < t21.1))) rfl (fun hb => ?_) (fun hb => ?_)
        · have H33 := cnd_t hb H32; clear H32
          refine c_skip ?_
          refine c_meet (r := r) (σ := Int × Int) (τ := Unit) (fun s => edit_turnedCrop_j5 x31_2 next4 s.1 s.2) (fun s t => [(1, .int .i64 a1), (2, .int .i64 a2), (3, .int .i64 a3), (4, .pointer (some ⟨b2, 0, none⟩)), (8, .pointer (some ⟨b3, 0, none⟩)), (9, .int .i64 t21.1), (11, .int .i64 s.1), (12, .int .i64 s.2), (13, .int .i64 x27_2), (26, .int .i64 t21.2), (27, .int .i64 x27_2), (30, .int .i64 t21.1), (31, .int .i64 x31_2)]) (fun s t => [cellsC b2 [.int .i64 a0.Kind, .int .i64 a0.A, .int .i64 a0.B, .int .i64 a0.C, .int .i64 a0.D] 31, cellsC b3 [.int .i64 0, .int .i64 0, .int .i64 0, .int .i64 0, .int .i64 0] 31]) (fun s t => True) ?_ ?_
          · refine c_block ?_
            refine c_seq ?_
            refine c_region ?_
            refine l_val rfl rfl rfl (r_move (v := .int .i64 x31_2) rfl) ?_
            refine l_val rfl rfl rfl (r_assign (v := .int .i64 x31_2) rfl) ?_
            refine l_nil ?_
            refine c_seq ?_
            refine c_region ?_
            refine l_val rfl rfl rfl (r_move (v := .int .i64 a1) rfl) ?_
            refine l_val rfl rfl rfl (r_move (v := .int .i64 a2) rfl) ?_
            refine l_val rfl rfl rfl (r_move (v := .int .i64 a3) rfl) ?_
            refine l_val rfl rfl rfl (r_move (v := .int .i64 x31_2) rfl) ?_
            refine l_val rfl rfl rfl (r_move (v := .int .i64 x27_2) rfl) ?_
            obtain ⟨t40, h_t40, H36⟩ := bnd_some H33; clear H33
            refine l_call (k214 h_t40) Try.call214 rfl rfl rfl ?_
            refine l_val rfl rfl rfl (r_move (v := .tuple #[.int .i64 t40.1, .int .i64 t40.2]) rfl) ?_
            refine l_val rfl rfl rfl (r_extract (v := .int .i64 t40.1) rfl rfl) ?_
            refine l_val rfl rfl rfl (r_extract (v := .int .i64 t40.2) rfl rfl) ?_
            refine l_val rfl rfl rfl (r_assign (v := .int .i64 t40.1) rfl) ?_
            refine l_val rfl rfl rfl (r_assign (v := .int .i64 t40.2) rfl) ?_
            refine l_nil ?_
            refine c_seq ?_
            refine c_region ?_
            refine l_val rfl rfl rfl (r_move (v := .int .i64 t40.1) rfl) ?_
            refine l_val rfl rfl rfl (r_field Try.runUnderlying31 rfl Try.sizeOf3 rfl rfl) ?_
            refine l_load1 (i := 0) (v := .int .i64 a0.A) Try.isAgg3 rfl rfl rfl rfl rfl ?_
            refine l_val rfl rfl rfl (r_field Try.runUnderlying31 rfl Try.sizeOf3 rfl rfl) ?_
            refine l_load1 (i := 0) (v := .int .i64 a0.A) Try.isAgg3 rfl rfl rfl rfl rfl ?_
            refine l_val rfl rfl rfl (r_field Try.runUnderlying31 rfl Try.sizeOf3 rfl rfl) ?_
            refine l_load1 (i := 0) (v := .int .i64 a0.C) Try.isAgg3 rfl rfl rfl rfl rfl ?_
            obtain ⟨t50, h_t50, H37⟩ := bnd_some H36; clear H36
            refine l_val rfl rfl rfl (r_addG rfl rfl h_t50) ?_
            obtain ⟨t51, h_t51, H38⟩ := bnd_some H37; clear H37
            refine l_val rfl rfl rfl (r_subG rfl rfl h_t51) ?_
            obtain ⟨t52, h_t52, H39⟩ := bnd_some H38; clear H38
            refine l_call (k57 h_t52) Try.call57 rfl rfl rfl ?_
            refine l_val rfl rfl rfl (r_not rfl) ?_
            refine l_val rfl rfl rfl (r_move (v := .bool (!t52)) rfl) ?_
            refine split (fun hb => ?_) (fun hb => ?_)
            · have H40 := cnd_t hb H39; clear H39
              refine l_val rfl rfl rfl (r_move (v := .int .i64 t40.2) rfl) ?_
              refine l_val rfl rfl rfl (r_field Try.runUnderlying31 rfl Try.sizeOf3 rfl rfl) ?_
              refine l_load1 (i := 0) (v := .int .i64 a0.B) Try.isAgg3 rfl rfl rfl rfl rfl ?_
              refine l_val rfl rfl rfl (r_field Try.runUnderlying31 rfl Try.sizeOf3 rfl rfl) ?_
              refine l_load1 (i := 0) (v := .int .i64 a0.B) Try.isAgg3 rfl rfl rfl rfl rfl ?_
              refine l_val rfl rfl rfl (r_field Try.runUnderlying31 rfl Try.sizeOf3 rfl rfl) ?_
              refine l_load1 (i := 0) (v := .int .i64 a0.D) Try.isAgg3 rfl rfl rfl rfl rfl ?_
              obtain ⟨t62, h_t62, H41⟩ := bnd_some H40; clear H40
              refine l_val rfl rfl rfl (r_addG rfl rfl h_t62) ?_
              obtain ⟨t63, h_t63, H42⟩ := bnd_some H41; clear H41
              refine l_val rfl rfl rfl (r_subG rfl rfl h_t63) ?_
              obtain ⟨t64, h_t64, H43⟩ := bnd_some H42; clear H42
              refine l_call (k57 h_t64) Try.call57 rfl rfl rfl ?_
              refine l_val rfl rfl rfl (r_not rfl) ?_
              refine l_val rfl rfl rfl (r_pickT (v := .bool (!t64)) rfl rfl) ?_
              refine l_nil ?_
              refine c_if (b := (!t64)) rfl (fun hb => ?_) (fun hb => ?_)
              · have H44 := cnd_t hb H43; clear H43
                refine c_region ?_
                refine l_val rfl rfl rfl (r_move (v := .int .i64 x11_6) rfl) ?_
                refine l_val rfl rfl rfl (r_move (v := .int .i64 x31_2) rfl) ?_
                refine l_val rfl rfl rfl (r_min rfl rfl) ?_
                refine l_val rfl rfl rfl (r_move (v := .int .i64 x12_6) rfl) ?_
                refine l_val rfl rfl rfl (r_move (v := .int .i64 x27_2) rfl) ?_
                refine l_val rfl rfl rfl (r_min rfl rfl) ?_
                refine l_val rfl rfl rfl (r_assign (v := .int .i64 (min x11_6 x31_2)) rfl) ?_
                refine l_val rfl rfl rfl (r_assign (v := .int .i64 (min x12_6 x27_2)) rfl) ?_
                refine l_nil ?_
                refine c_close ((min x11_6 x31_2), (min x12_6 x27_2)) () 0 [0, 1] (by exact ⟨rfl, rfl, rfl, rfl, rfl, rfl, rfl, rfl, rfl, rfl, rfl, rfl, rfl, trivial⟩) (by decide) rfl (by exact ⟨H44, trivial⟩) (Nat.lt_succ_self _)
              · have H45 := cnd_f hb H43; clear H43
                refine c_skip ?_
                refine c_close (x11_6, x12_6) () 0 [0, 1] (by exact ⟨rfl, rfl, rfl, rfl, rfl, rfl, rfl, rfl, rfl, rfl, rfl, rfl, rfl, trivial⟩) (by decide) rfl (by exact ⟨H45, trivial⟩) (Nat.lt_succ_self _)
            · have H46 := cnd_f hb H39; clear H39
              refine l_passed rfl rfl rfl ?_
              refine l_passed rfl rfl rfl ?_
              refine l_passed rfl rfl rfl ?_
              refine l_passed rfl rfl rfl ?_
              refine l_passed rfl rfl rfl ?_
              refine l_passed rfl rfl rfl ?_
              refine l_passed rfl rfl rfl ?_
              refine l_passed rfl rfl rfl ?_
              refine l_passed rfl rfl rfl ?_
              refine l_passed rfl rfl rfl ?_
              refine l_passed rfl rfl rfl ?_
              refine l_val rfl rfl rfl (r_pickF (v := .bool false) rfl rfl) ?_
              refine l_nil ?_
              refine c_false rfl ?_
              refine c_skip ?_
              refine c_close (x11_6, x12_6) () 0 [0, 1] (by exact ⟨rfl, rfl, rfl, rfl, rfl, rfl, rfl, rfl, rfl, rfl, rfl, rfl, rfl, trivial⟩) (by decide) rfl (by exact ⟨H46, trivial⟩) (Nat.lt_succ_self _)
          · rintro ⟨x11_7, x12_7⟩ _ gg H34 _
            replace H34 : edit_turnedCrop_j5 x31_2 next4 x11_7 x12_7 = some r := H34
            refine c_tidyF [(1, .int .i64 a1), (2, .int .i64 a2), (3, .int .i64 a3), (4, .pointer (some ⟨b2, 0, none⟩)), (8, .pointer (some ⟨b3, 0, none⟩)), (9, .int .i64 t21.1), (11, .int .i64 x11_7), (12, .int .i64 x12_7), (13, .int .i64 x27_2), (26, .int .i64 t21.2), (27, .int .i64 x27_2), (30, .int .i64 t21.1), (31, .int .i64 x31_2)] [cellsC b2 [.int .i64 a0.Kind, .int .i64 a0.A, .int .i64 a0.B, .int .i64 a0.C, .int .i64 a0.D] 31, cellsC b3 [.int .i64 0, .int .i64 0, .int .i64 0, .int .i64 0, .int .i64 0] 31] rfl rfl ?_
            refine c_region ?_
            obtain ⟨t73, h_t73, H35⟩ := bnd_some H34; clear H34
            refine l_val rfl rfl rfl (r_addG rfl rfl h_t73) ?_
            refine l_val rfl rfl rfl (r_move (v := .int .i64 t73) rfl) ?_
            refine l_nil ?_
            refine c_close (x11_7, x12_7, t73) () m4 [0, 1] (by exact ⟨rfl, rfl, rfl, rfl, rfl, rfl, rfl, rfl, rfl, rfl, rfl, rfl, rfl, trivial⟩) (by decide) rfl (by exact ⟨(by subst hn4; exact H35), trivial⟩) (Nat.lt_succ_self _)
        · have H47 := cnd_f hb H32; clear H32
          refine c_exit ?_
          refine c_close (x11_6, x12_6) () 0 [0, 1] (by exact ⟨rfl, rfl, rfl, rfl, rfl, rfl, rfl, rfl, rfl, rfl, trivial⟩) (by decide) rfl (by exact ⟨H47, trivial⟩) (Nat.lt_succ_self _)
      · rintro ⟨x11_4, x12_4⟩ _ gg H30 _
        replace H30 : edit_turnedCrop_j3 x27_2 next2 x11_4 x12_4 = some r := H30
        refine c_tidyF [(1, .int .i64 a1), (2, .int .i64 a2), (3, .int .i64 a3), (4, .pointer (some ⟨b2, 0, none⟩)), (8, .pointer (some ⟨b3, 0, none⟩)), (9, .int .i64 t21.1), (11, .int .i64 x11_4), (12, .int .i64 x12_4), (26, .int .i64 t21.2), (27, .int .i64 x27_2)] [cellsC b2 [.int .i64 a0.Kind, .int .i64 a0.A, .int .i64 a0.B, .int .i64 a0.C, .int .i64 a0.D] 31, cellsC b3 [.int .i64 0, .int .i64 0, .int .i64 0, .int .i64 0, .int .i64 0] 31] rfl rfl ?_
        refine c_region ?_
        obtain ⟨t74, h_t74, H31⟩ := bnd_some H30; clear H30
        refine l_val rfl rfl rfl (r_addG rfl rfl h_t74) ?_
        refine l_val rfl rfl rfl (r_move (v := .int .i64 t74) rfl) ?_
        refine l_nil ?_
        refine c_close (x11_4, x12_4, t74) () m2 [0, 1] (by exact ⟨rfl, rfl, rfl, rfl, rfl, rfl, rfl, rfl, rfl, rfl, trivial⟩) (by decide) rfl (by exact ⟨(by subst hn2; exact H31), trivial⟩) (Nat.lt_succ_self _)
    · have H48 := cnd_f hb H28; clear H28
      refine c_exit ?_
      refine c_close (x11_3, x12_3) () 0 [0, 1] (by exact ⟨rfl, rfl, rfl, rfl, rfl, trivial⟩) (by decide) rfl (by exact ⟨H48, trivial⟩) (Nat.lt_succ_self _)
  · rintro ⟨x11, x12⟩ _ gg H26 _
    replace H26 : edit_turnedCrop_j1 a0 a1 x11 x12 = some r := H26
    refine c_tidyF [(1, .int .i64 a1), (4, .pointer (some ⟨b2, 0, none⟩)), (8, .pointer (some ⟨b3, 0, none⟩)), (11, .int .i64 x11), (12, .int .i64 x12)] [cellsC b2 [.int .i64 a0.Kind, .int .i64 a0.A, .int .i64 a0.B, .int .i64 a0.C, .int .i64 a0.D] 31, cellsC b3 [.int .i64 0, .int .i64 0, .int .i64 0, .int .i64 0, .int .i64 0] 31] rfl rfl ?_
    refine c_seq ?_
    refine c_region ?_
    refine l_val rfl rfl rfl (r_move (v := .int .i64 a1) rfl) ?_
    refine l_val rfl rfl rfl (r_field Try.runUnderlying31 rfl Try.sizeOf3 rfl rfl) ?_
    refine l_load1 (i := 0) (v := .int .i64 a0.C) Try.isAgg3 rfl rfl rfl rfl rfl ?_
    refine l_val rfl rfl rfl (r_field Try.runUnderlying31 rfl Try.sizeOf3 rfl rfl) ?_
    refine l_load1 (i := 0) (v := .int .i64 a0.D) Try.isAgg3 rfl rfl rfl rfl rfl ?_
    obtain ⟨t81, h_t81, H27⟩ := bnd_some H26; clear H26
    refine l_call (k213 h_t81) Try.call213 rfl rfl rfl ?_
    refine l_val rfl rfl rfl (r_move (v := .tuple #[.int .i64 t81.1, .int .i64 t81.2]) rfl) ?_
    refine l_val rfl rfl rfl (r_extract (v := .int .i64 t81.1) rfl rfl) ?_
    refine l_val rfl rfl rfl (r_extract (v := .int .i64 t81.2) rfl rfl) ?_
    refine l_val rfl rfl rfl (r_field Try.runUnderlying31 rfl Try.sizeOf3 rfl rfl) ?_
    refine l_store (i := 0) (vs := [.int .i64 t81.1]) (cs' := [.int .i64 a0.Kind, .int .i64 a0.A, .int .i64 a0.B, .int .i64 t81.1, .int .i64 a0.D]) Try.sizeOf3 rfl rfl rfl rfl rfl rfl rfl rfl rfl ?_
    refine l_val rfl rfl rfl (r_field Try.runUnderlying31 rfl Try.sizeOf3 rfl rfl) ?_
    refine l_store (i := 0) (vs := [.int .i64 t81.2]) (cs' := [.int .i64 a0.Kind, .int .i64 a0.A, .int .i64 a0.B, .int .i64 t81.1, .int .i64 t81.2]) Try.sizeOf3 rfl rfl rfl rfl rfl rfl rfl rfl rfl ?_
    refine l_nil ?_
    refine c_seq ?_
    refine c_region ?_
    refine l_val rfl rfl rfl (r_move (v := .int .i64 x11) rfl) ?_
    refine l_val rfl rfl rfl (r_move (v := .int .i64 x12) rfl) ?_
    refine l_val rfl rfl rfl (r_field Try.runUnderlying31 rfl Try.sizeOf3 rfl rfl) ?_
    refine l_store (i := 0) (vs := [.int .i64 x11]) (cs' := [.int .i64 a0.Kind, .int .i64 x11, .int .i64 a0.B, .int .i64 t81.1, .int .i64 t81.2]) Try.sizeOf3 rfl rfl rfl rfl rfl rfl rfl rfl rfl ?_
    refine l_val rfl rfl rfl (r_field Try.runUnderlying31 rfl Try.sizeOf3 rfl rfl) ?_
    refine l_store (i := 0) (vs := [.int .i64 x12]) (cs' := [.int .i64 a0.Kind, .int .i64 x11, .int .i64 x12, .int .i64 t81.1, .int .i64 t81.2]) Try.sizeOf3 rfl rfl rfl rfl rfl rfl rfl rfl rfl ?_
    refine l_nil ?_
    refine c_seq ?_
    refine c_region ?_
    refine l_loadN (i := 0) (vs := [.int .i64 a0.Kind, .int .i64 x11, .int .i64 x12, .int .i64 t81.1, .int .i64 t81.2]) Try.isAgg31 Try.sizeOf31 rfl rfl rfl rfl rfl ?_
    refine l_store (i := 1) (vs := [.int .i64 a0.Kind, .int .i64 x11, .int .i64 x12, .int .i64 t81.1, .int .i64 t81.2]) (cs' := [.int .i64 a0.Kind, .int .i64 x11, .int .i64 x12, .int .i64 t81.1, .int .i64 t81.2]) Try.sizeOf31 rfl rfl rfl rfl rfl rfl rfl rfl rfl ?_
    refine l_nil ?_
    refine c_ret ?_
    obtain rfl := Option.some.inj H27
    refine retC (i := 1) (vs := [.int .i64 a0.Kind, .int .i64 x11, .int .i64 x12, .int .i64 t81.1, .int .i64 t81.2]) Try.isAgg31 Try.sizeOf31 rfl rfl rfl rfl (fin rfl)
theorem k121 {a0 : (List T_edit_Step)} {v0 : Value} {a1 : Int} {a2 : Int} {a3 : Int} {r : (List T_edit_Step) × Bool} {w : World} {h : Heap} (hw : Know h w noS) (f0 : FrS h 5 v0 (a0.map e_edit_Step)) (H : edit_turnFirst a0 a1 a2 a3 = some r) : Does Try.prog 121 (List.toArray [v0, .int .i64 a1, .int .i64 a2, .int .i64 a3]) w (fun v w' => ∃ x : (Option Addr × Nat), v = (.tuple #[.slice x.1 r.1.length x.2, .bool r.2]) ∧ Turn w w' noS (rowV 31 5 (.slice x.1 r.1.length x.2) r.1.length (r.1.map e_edit_Step))) := by
  refine enter (n := 36) Try.func121 rfl rfl rfl noS [] (Sat.nil _ _) ?_
  refine c_seq ?_
  refine c_region ?_
  refine l_val rfl rfl rfl (r_assign (v := .slice none 0 0) rfl) ?_
  refine l_val rfl rfl rfl (r_assign (v := .bool false) rfl) ?_
  refine l_nil ?_
  refine c_seq ?_
  refine c_seq ?_
  refine c_region ?_
  refine l_val rfl rfl rfl (r_move (v := v0) rfl) ?_
  refine l_val rfl rfl rfl (r_move (v := .int .i64 a1) rfl) ?_
  obtain ⟨t12, h_t12, H11⟩ := bnd_some H; clear H
  refine l_callG (fun w hF hS => k171 (know_all w) (f0.mono (hw.now hF)) h_t12) Try.call171 rfl rfl rfl ?_
  refine l_val rfl rfl rfl (r_not rfl) ?_
  refine l_nil ?_
  refine c_if (b := (!t12)) rfl (fun hb => ?_) (fun hb => ?_)
  · have H12 := cnd_t hb H11; clear H11
    refine c_seq ?_
    refine c_region ?_
    refine l_val rfl rfl rfl (r_assign (v := .slice none 0 0) rfl) ?_
    refine l_val rfl rfl rfl (r_assign (v := .bool false) rfl) ?_
    refine l_nil ?_
    refine c_ret ?_
    refine c_nilRow 31 5 ?_
    obtain rfl := Option.some.inj H12
    refine ret2 (v1 := .slice ((none, 0) : Option Addr × Nat).1 ([] : List T_edit_Step).length ((none, 0) : Option Addr × Nat).2) (v2 := .bool false) rfl rfl rfl (finX ((none, 0) : Option Addr × Nat) (i := 0) rfl rfl (Imp.refl _))
  · have H13 := cnd_f hb H11; clear H11
    refine c_skip ?_
    refine c_seq ?_
    exact c_regionD (Kd.p :: Kd.p :: Kd.p :: Kd.p :: Kd.p :: Kd.p :: Kd.d [] _ :: Kd.p :: Kd.p :: Kd.p :: Kd.d [] _ :: Kd.p :: Kd.p :: Kd.p :: Kd.p :: Kd.p :: Kd.d [] _ :: Kd.p :: Kd.p :: Kd.d [] _ :: Kd.ns 0 [_, _, _, _, _, _, _, _, _, _] 31 2 :: Kd.t 1 [0] _ _ :: Kd.p :: Kd.p :: []) 2 mixed (by
      refine d_val rfl rfl (r_move (v := v0) rfl) ?_
      refine d_val rfl rfl (r_move (v := .int .i64 a1) rfl) ?_
      refine d_val rfl rfl (r_move (v := v0) rfl) ?_
      refine d_val rfl rfl (r_move (v := .int .i64 a1) rfl) ?_
      have h_t18 := bnd_val H13
      have H14 := bnd_rest H13
      refine d_val rfl rfl (r_addG rfl rfl h_t18) ?_
      have h_t19 := bnd_val H14
      have H15 := bnd_rest H14
      refine d_val rfl rfl (r_indexF Try.underlying22 Try.sizeOf31 rfl rfl f0 h_t19) ?_
      refine d_read (fun w hF => run_loadGN (f := e_edit_Step) (i := (val (gI (a1 + 1)))) (sz := 5) (j := 0) (vs := [.int .i64 (val (gAt a0 (val (gI (a1 + 1))))).Kind, .int .i64 (val (gAt a0 (val (gI (a1 + 1))))).A, .int .i64 (val (gAt a0 (val (gI (a1 + 1))))).B, .int .i64 (val (gAt a0 (val (gI (a1 + 1))))).C, .int .i64 (val (gAt a0 (val (gI (a1 + 1))))).D]) Try.isAgg31 Try.sizeOf31 rfl rfl (f0.row (hw.now hF)) h_t19 rfl) rfl rfl ?_
      refine d_val rfl rfl (r_move (v := v0) rfl) ?_
      refine d_val rfl rfl (r_move (v := .int .i64 a1) rfl) ?_
      have h_t23 := bnd_val H15
      have H16 := bnd_rest H15
      refine d_val rfl rfl (r_indexF Try.underlying22 Try.sizeOf31 rfl rfl f0 h_t23) ?_
      refine d_read (fun w hF => run_loadGN (f := e_edit_Step) (i := a1) (sz := 5) (j := 0) (vs := [.int .i64 (val (gAt a0 a1)).Kind, .int .i64 (val (gAt a0 a1)).A, .int .i64 (val (gAt a0 a1)).B, .int .i64 (val (gAt a0 a1)).C, .int .i64 (val (gAt a0 a1)).D]) Try.isAgg31 Try.sizeOf31 rfl rfl (f0.row (hw.now hF)) h_t23 rfl) rfl rfl ?_
      refine d_val rfl rfl (r_move (v := v0) rfl) ?_
      refine d_val rfl rfl (r_move (v := .int .i64 a1) rfl) ?_
      have h_t27 := bnd_val H16
      have H17 := bnd_rest H16
      refine d_val rfl rfl (r_addG rfl rfl h_t27) ?_
      have h_t28 := bnd_val H17
      have H18 := bnd_rest H17
      refine d_val rfl rfl (r_indexF Try.underlying22 Try.sizeOf31 rfl rfl f0 h_t28) ?_
      refine d_val rfl rfl (r_fieldP Try.runUnderlying31 rfl Try.sizeOf3 rfl rfl (some_of_at f0 h_t28)) ?_
      refine d_read (fun w hF => run_loadG1 (f := e_edit_Step) (i := (val (gI (a1 + 1)))) (sz := 5) (j := 1) (v := .int .i64 (val (gAt a0 (val (gI (a1 + 1))))).A) Try.isAgg3 rfl rfl (f0.row (hw.now hF)) h_t28 rfl) rfl rfl ?_
      refine d_val rfl rfl (r_move (v := .int .i64 a2) rfl) ?_
      refine d_val rfl rfl (r_move (v := .int .i64 a3) rfl) ?_
      have h_t33 := bnd_val H18
      have H19 := bnd_rest H18
      refine d_call (k173 h_t33) Try.call173 rfl rfl ?_
      refine d_newS rfl rfl (run_buildSlice (vs := [.agg #[.int .i64 (val (gAt a0 (val (gI (a1 + 1))))).Kind, .int .i64 (val (gAt a0 (val (gI (a1 + 1))))).A, .int .i64 (val (gAt a0 (val (gI (a1 + 1))))).B, .int .i64 (val (gAt a0 (val (gI (a1 + 1))))).C, .int .i64 (val (gAt a0 (val (gI (a1 + 1))))).D], .agg #[.int .i64 (val (edit_turnedCrop (val (gAt a0 a1)) (val (gAt a0 (val (gI (a1 + 1))))).A a2 a3)).Kind, .int .i64 (val (edit_turnedCrop (val (gAt a0 a1)) (val (gAt a0 (val (gI (a1 + 1))))).A a2 a3)).A, .int .i64 (val (edit_turnedCrop (val (gAt a0 a1)) (val (gAt a0 (val (gI (a1 + 1))))).A a2 a3)).B, .int .i64 (val (edit_turnedCrop (val (gAt a0 a1)) (val (gAt a0 (val (gI (a1 + 1))))).A a2 a3)).C, .int .i64 (val (edit_turnedCrop (val (gAt a0 a1)) (val (gAt a0 (val (gI (a1 + 1))))).A a2 a3)).D]]) (cs := [.int .i64 (val (gAt a0 (val (gI (a1 + 1))))).Kind, .int .i64 (val (gAt a0 (val (gI (a1 + 1))))).A, .int .i64 (val (gAt a0 (val (gI (a1 + 1))))).B, .int .i64 (val (gAt a0 (val (gI (a1 + 1))))).C, .int .i64 (val (gAt a0 (val (gI (a1 + 1))))).D, .int .i64 (val (edit_turnedCrop (val (gAt a0 a1)) (val (gAt a0 (val (gI (a1 + 1))))).A a2 a3)).Kind, .int .i64 (val (edit_turnedCrop (val (gAt a0 a1)) (val (gAt a0 (val (gI (a1 + 1))))).A a2 a3)).A, .int .i64 (val (edit_turnedCrop (val (gAt a0 a1)) (val (gAt a0 (val (gI (a1 + 1))))).A a2 a3)).B, .int .i64 (val (edit_turnedCrop (val (gAt a0 a1)) (val (gAt a0 (val (gI (a1 + 1))))).A a2 a3)).C, .int .i64 (val (edit_turnedCrop (val (gAt a0 a1)) (val (gAt a0 (val (gI (a1 + 1))))).A a2 a3)).D]) Try.underlying22 Try.sizeOf31 Try.zeroValue31 rfl rfl rfl rfl rfl) rfl (fun b1 => ?_)
      have h_t35 := bnd_val H19
      have H20 := bnd_rest H19
      refine d_make (Cv := fun v => rowV 31 5 v (val (edit_with a0 a1 2 ([(val (gAt a0 (val (gI (a1 + 1))))), (val (edit_turnedCrop (val (gAt a0 a1)) (val (gAt a0 (val (gI (a1 + 1))))).A a2 a3))] : List T_edit_Step))).length ((val (edit_with a0 a1 2 ([(val (gAt a0 (val (gI (a1 + 1))))), (val (edit_turnedCrop (val (gAt a0 a1)) (val (gAt a0 (val (gI (a1 + 1))))).A a2 a3))] : List T_edit_Step))).map e_edit_Step)) (none, 0) (makes_call (G := fun x : (Option Addr × Nat) => .slice x.1 (val (edit_with a0 a1 2 ([(val (gAt a0 (val (gI (a1 + 1))))), (val (edit_turnedCrop (val (gAt a0 a1)) (val (gAt a0 (val (gI (a1 + 1))))).A a2 a3))] : List T_edit_Step))).length x.2) (C := fun x : (Option Addr × Nat) => rowV 31 5 (.slice x.1 (val (edit_with a0 a1 2 ([(val (gAt a0 (val (gI (a1 + 1))))), (val (edit_turnedCrop (val (gAt a0 a1)) (val (gAt a0 (val (gI (a1 + 1))))).A a2 a3))] : List T_edit_Step))).length x.2) (val (edit_with a0 a1 2 ([(val (gAt a0 (val (gI (a1 + 1))))), (val (edit_turnedCrop (val (gAt a0 a1)) (val (gAt a0 (val (gI (a1 + 1))))).A a2 a3))] : List T_edit_Step))).length ((val (edit_with a0 a1 2 ([(val (gAt a0 (val (gI (a1 + 1))))), (val (edit_turnedCrop (val (gAt a0 a1)) (val (gAt a0 (val (gI (a1 + 1))))).A a2 a3))] : List T_edit_Step))).map e_edit_Step)) (fun w L' hF hS hi => k170 (know_all w) (f0.mono (hw.now hF)) (frs_box (i := 0) (xs := ([(val (gAt a0 (val (gI (a1 + 1))))), (val (edit_turnedCrop (val (gAt a0 a1)) (val (gAt a0 (val (gI (a1 + 1))))).A a2 a3))] : List T_edit_Step)) (f := e_edit_Step) hS ((hi 0 (by simp)).trans rfl) rfl rfl rfl rfl) h_t35) Try.call170 rfl) (fun _ => rfl) rfl rfl rfl (fun p => ?_)
      refine d_val rfl rfl (r_assign (v := .slice p.1 (val (edit_with a0 a1 2 ([(val (gAt a0 (val (gI (a1 + 1))))), (val (edit_turnedCrop (val (gAt a0 a1)) (val (gAt a0 (val (gI (a1 + 1))))).A a2 a3))] : List T_edit_Step))).length p.2) rfl) ?_
      refine d_val rfl rfl (r_assign (v := .bool true) rfl) ?_
      refine d_nil ?_
      refine c_ret ?_
      obtain rfl := Option.some.inj H20
      refine ret2 (v1 := .slice p.1 (val (edit_with a0 a1 2 ([(val (gAt a0 (val (gI (a1 + 1))))), (val (edit_turnedCrop (val (gAt a0 a1)) (val (gAt a0 (val (gI (a1 + 1))))).A a2 a3))] : List T_edit_Step))).length p.2) (v2 := .bool true) rfl rfl rfl (finX p (i := 1) rfl rfl (Imp.refl _))
      ) (by kernel_rfl)
theorem k122 {a0 : (List T_edit_Step)} {v0 : Value} {a1 : Int} {a2 : Int} {a3 : Int} {r : (List T_edit_Step) × Bool} {w : World} {h : Heap} (hw : Know h w noS) (f0 : FrS h 5 v0 (a0.map e_edit_Step)) (H : edit_leaveInverts a0 a1 a2 a3 = some r) : Does Try.prog 122 (List.toArray [v0, .int .i64 a1, .int .i64 a2, .int .i64 a3]) w (fun v w' => ∃ x : (Option Addr × Nat), v = (.tuple #[.slice x.1 r.1.length x.2, .bool r.2]) ∧ Turn w w' noS (rowV 31 5 (.slice x.1 r.1.length x.2) r.1.length (r.1.map e_edit_Step))) := by
  refine enter (n := 17) Try.func122 rfl rfl rfl noS [] (Sat.nil _ _) ?_
  refine c_seq ?_
  refine c_region ?_
  refine l_val rfl rfl rfl (r_assign (v := .slice none 0 0) rfl) ?_
  refine l_val rfl rfl rfl (r_assign (v := .bool false) rfl) ?_
  refine l_nil ?_
  refine c_seq ?_
  refine c_seq ?_
  refine c_region ?_
  refine l_val rfl rfl rfl (r_move (v := v0) rfl) ?_
  refine l_val rfl rfl rfl (r_move (v := .int .i64 a1) rfl) ?_
  obtain ⟨t12, h_t12, H5⟩ := bnd_some H; clear H
  refine l_callG (fun w hF hS => k171 (know_all w) (f0.mono (hw.now hF)) h_t12) Try.call171 rfl rfl rfl ?_
  refine l_val rfl rfl rfl (r_not rfl) ?_
  refine l_nil ?_
  refine c_if (b := (!t12)) rfl (fun hb => ?_) (fun hb => ?_)
  · have H6 := cnd_t hb H5; clear H5
    refine c_seq ?_
    refine c_region ?_
    refine l_val rfl rfl rfl (r_assign (v := .slice none 0 0) rfl) ?_
    refine l_val rfl rfl rfl (r_assign (v := .bool false) rfl) ?_
    refine l_nil ?_
    refine c_ret ?_
    refine c_nilRow 31 5 ?_
    obtain rfl := Option.some.inj H6
    refine ret2 (v1 := .slice ((none, 0) : Option Addr × Nat).1 ([] : List T_edit_Step).length ((none, 0) : Option Addr × Nat).2) (v2 := .bool false) rfl rfl rfl (finX ((none, 0) : Option Addr × Nat) (i := 0) rfl rfl (Imp.refl _))
  · have H7 := cnd_f hb H5; clear H5
    refine c_skip ?_
    refine c_seq ?_
    refine c_region ?_
    refine l_val rfl rfl rfl (r_move (v := v0) rfl) ?_
    refine l_val rfl rfl rfl (r_move (v := .int .i64 a1) rfl) ?_
    obtain ⟨t16, h_t16, H8⟩ := bnd_some H7; clear H7
    refine l_make (makes_call (rds := []) (G := fun x : (Option Addr × Nat) => .slice x.1 t16.length x.2) (C := fun x : (Option Addr × Nat) => rowV 31 5 (.slice x.1 t16.length x.2) t16.length (t16.map e_edit_Step)) (fun w L' hF hS hi => k170 (know_all w) (f0.mono (hw.now hF)) (FrS.nil _ _) h_t16) Try.call170 rfl) rfl rfl rfl (fun p => ?_)
    refine l_val rfl rfl rfl (r_assign (v := .slice p.1 t16.length p.2) rfl) ?_
    refine l_val rfl rfl rfl (r_assign (v := .bool true) rfl) ?_
    refine l_nil ?_
    refine c_ret ?_
    obtain rfl := Option.some.inj H8
    refine ret2 (v1 := .slice p.1 t16.length p.2) (v2 := .bool true) rfl rfl rfl (finX p (i := 0) rfl rfl (Imp.refl _))
theorem k123 {a0 : (List T_edit_Step)} {v0 : Value} {a1 : Int} {a2 : Int} {a3 : Int} {r : (List T_edit_Step) × Bool} {w : World} {h : Heap} (hw : Know h w noS) (f0 : FrS h 5 v0 (a0.map e_edit_Step)) (H : edit_shapeFirst a0 a1 a2 a3 = some r) : Does Try.prog 123 (List.toArray [v0, .int .i64 a1, .int .i64 a2, .int .i64 a3]) w (fun v w' => ∃ x : (Option Addr × Nat), v = (.tuple #[.slice x.1 r.1.length x.2, .bool r.2]) ∧ Turn w w' noS (rowV 31 5 (.slice x.1 r.1.length x.2) r.1.length (r.1.map e_edit_Step))) := by
  refine enter (n := 53) Try.func123 rfl rfl rfl noS [] (Sat.nil _ _) ?_
  refine c_seq ?_
  refine c_region ?_
  refine l_val rfl rfl rfl (r_assign (v := .slice none 0 0) rfl) ?_
  refine l_val rfl rfl rfl (r_assign (v := .bool false) rfl) ?_
  refine l_nil ?_
  refine c_seq ?_
  refine c_seq ?_
  refine c_region ?_
  refine l_val rfl rfl rfl (r_move (v := .int .i64 a1) rfl) ?_
  obtain ⟨t11, h_t11, H21⟩ := bnd_some H; clear H
  refine l_val rfl rfl rfl (r_addG rfl rfl h_t11) ?_
  refine l_val rfl rfl rfl (r_move (v := v0) rfl) ?_
  refine l_val rfl rfl rfl (r_lenF Try.underlying22 rfl f0 rfl) ?_
  refine l_val rfl rfl rfl (r_eql rfl rfl) ?_
  refine l_val rfl rfl rfl (r_move (v := .bool (decide (t11 = (a0.length : Int)))) rfl) ?_
  refine split (fun hb => ?_) (fun hb => ?_)
  · have H22 := cnd_t hb H21; clear H21
    refine l_passed rfl rfl rfl ?_
    refine l_passed rfl rfl rfl ?_
    refine l_passed rfl rfl rfl ?_
    refine l_passed rfl rfl rfl ?_
    refine l_passed rfl rfl rfl ?_
    refine l_val rfl rfl rfl (r_pickT (v := .bool true) rfl rfl) ?_
    refine l_val rfl rfl rfl (r_move (v := .bool true) rfl) ?_
    refine l_passed rfl rfl rfl ?_
    refine l_passed rfl rfl rfl ?_
    refine l_passed rfl rfl rfl ?_
    refine l_passed rfl rfl rfl ?_
    refine l_passed rfl rfl rfl ?_
    refine l_passed rfl rfl rfl ?_
    refine l_passed rfl rfl rfl ?_
    refine l_val rfl rfl rfl (r_pickT (v := .bool true) rfl rfl) ?_
    refine l_val rfl rfl rfl (r_move (v := .bool true) rfl) ?_
    refine l_passed rfl rfl rfl ?_
    refine l_passed rfl rfl rfl ?_
    refine l_passed rfl rfl rfl ?_
    refine l_passed rfl rfl rfl ?_
    refine l_passed rfl rfl rfl ?_
    refine l_passed rfl rfl rfl ?_
    refine l_passed rfl rfl rfl ?_
    refine l_val rfl rfl rfl (r_pickT (v := .bool true) rfl rfl) ?_
    refine l_nil ?_
    refine c_true rfl ?_
    refine c_seq ?_
    refine c_region ?_
    refine l_val rfl rfl rfl (r_assign (v := .slice none 0 0) rfl) ?_
    refine l_val rfl rfl rfl (r_assign (v := .bool false) rfl) ?_
    refine l_nil ?_
    refine c_ret ?_
    refine c_nilRow 31 5 ?_
    obtain rfl := Option.some.inj H22
    refine ret2 (v1 := .slice ((none, 0) : Option Addr × Nat).1 ([] : List T_edit_Step).length ((none, 0) : Option Addr × Nat).2) (v2 := .bool false) rfl rfl rfl (finX ((none, 0) : Option Addr × Nat) (i := 0) rfl rfl (Imp.refl _))
  · have H23 := cnd_f hb H21; clear H21
    refine l_val rfl rfl rfl (r_move (v := v0) rfl) ?_
    refine l_val rfl rfl rfl (r_move (v := .int .i64 a1) rfl) ?_
    obtain ⟨t18, h_t18, H24⟩ := bnd_some H23; clear H23
    refine l_val rfl rfl rfl (r_indexF Try.underlying22 Try.sizeOf31 rfl rfl f0 h_t18) ?_
    refine l_read (fun w hF hS => run_loadGN (f := e_edit_Step) (i := a1) (sz := 5) (j := 0) (vs := [.int .i64 t18.Kind, .int .i64 t18.A, .int .i64 t18.B, .int .i64 t18.C, .int .i64 t18.D]) Try.isAgg31 Try.sizeOf31 rfl rfl (f0.row (hw.now hF)) h_t18 rfl) rfl rfl rfl ?_
    obtain ⟨t20, h_t20, H25⟩ := bnd_some H24; clear H24
    refine l_call (k114 h_t20) Try.call114 rfl rfl rfl ?_
    refine l_val rfl rfl rfl (r_pickF (v := .bool t20) rfl rfl) ?_
    refine l_val rfl rfl rfl (r_move (v := .bool t20) rfl) ?_
    refine split (fun hb => ?_) (fun hb => ?_)
    · have H26 := cnd_t hb H25; clear H25
      refine l_passed rfl rfl rfl ?_
      refine l_passed rfl rfl rfl ?_
      refine l_passed rfl rfl rfl ?_
      refine l_passed rfl rfl rfl ?_
      refine l_passed rfl rfl rfl ?_
      refine l_passed rfl rfl rfl ?_
      refine l_passed rfl rfl rfl ?_
      refine l_val rfl rfl rfl (r_pickT (v := .bool true) rfl rfl) ?_
      refine l_val rfl rfl rfl (r_move (v := .bool true) rfl) ?_
      refine l_passed rfl rfl rfl ?_
      refine l_passed rfl rfl rfl ?_
      refine l_passed rfl rfl rfl ?_
      refine l_passed rfl rfl rfl ?_
      refine l_passed rfl rfl rfl ?_
      refine l_passed rfl rfl rfl ?_
      refine l_passed rfl rfl rfl ?_
      refine l_val rfl rfl rfl (r_pickT (v := .bool true) rfl rfl) ?_
      refine l_nil ?_
      refine c_true rfl ?_
      refine c_seq ?_
      refine c_region ?_
      refine l_val rfl rfl rfl (r_assign (v := .slice none 0 0) rfl) ?_
      refine l_val rfl rfl rfl (r_assign (v := .bool false) rfl) ?_
      refine l_nil ?_
      refine c_ret ?_
      refine c_nilRow 31 5 ?_
      obtain rfl := Option.some.inj H26
      refine ret2 (v1 := .slice ((none, 0) : Option Addr × Nat).1 ([] : List T_edit_Step).length ((none, 0) : Option Addr × Nat).2) (v2 := .bool false) rfl rfl rfl (finX ((none, 0) : Option Addr × Nat) (i := 0) rfl rfl (Imp.refl _))
    · have H27 := cnd_f hb H25; clear H25
      refine l_val rfl rfl rfl (r_move (v := v0) rfl) ?_
      refine l_val rfl rfl rfl (r_move (v := .int .i64 a1) rfl) ?_
      obtain ⟨t25, h_t25, H28⟩ := bnd_some H27; clear H27
      refine l_val rfl rfl rfl (r_addG rfl rfl h_t25) ?_
      obtain ⟨t26, h_t26, H29⟩ := bnd_some H28; clear H28
      refine l_val rfl rfl rfl (r_indexF Try.underlying22 Try.sizeOf31 rfl rfl f0 h_t26) ?_
      refine l_read (fun w hF hS => run_loadGN (f := e_edit_Step) (i := t25) (sz := 5) (j := 0) (vs := [.int .i64 t26.Kind, .int .i64 t26.A, .int .i64 t26.B, .int .i64 t26.C, .int .i64 t26.D]) Try.isAgg31 Try.sizeOf31 rfl rfl (f0.row (hw.now hF)) h_t26 rfl) rfl rfl rfl ?_
      obtain ⟨t28, h_t28, H30⟩ := bnd_some H29; clear H29
      refine l_call (k114 h_t28) Try.call114 rfl rfl rfl ?_
      refine l_val rfl rfl rfl (r_not rfl) ?_
      refine l_val rfl rfl rfl (r_pickF (v := .bool (!t28)) rfl rfl) ?_
      refine l_val rfl rfl rfl (r_move (v := .bool (!t28)) rfl) ?_
      refine split (fun hb => ?_) (fun hb => ?_)
      · have H31 := cnd_t hb H30; clear H30
        refine l_passed rfl rfl rfl ?_
        refine l_passed rfl rfl rfl ?_
        refine l_passed rfl rfl rfl ?_
        refine l_passed rfl rfl rfl ?_
        refine l_passed rfl rfl rfl ?_
        refine l_passed rfl rfl rfl ?_
        refine l_passed rfl rfl rfl ?_
        refine l_val rfl rfl rfl (r_pickT (v := .bool true) rfl rfl) ?_
        refine l_nil ?_
        refine c_true rfl ?_
        refine c_seq ?_
        refine c_region ?_
        refine l_val rfl rfl rfl (r_assign (v := .slice none 0 0) rfl) ?_
        refine l_val rfl rfl rfl (r_assign (v := .bool false) rfl) ?_
        refine l_nil ?_
        refine c_ret ?_
        refine c_nilRow 31 5 ?_
        obtain rfl := Option.some.inj H31
        refine ret2 (v1 := .slice ((none, 0) : Option Addr × Nat).1 ([] : List T_edit_Step).length ((none, 0) : Option Addr × Nat).2) (v2 := .bool false) rfl rfl rfl (finX ((none, 0) : Option Addr × Nat) (i := 0) rfl rfl (Imp.refl _))
      · have H32 := cnd_f hb H30; clear H30
        refine l_val rfl rfl rfl (r_move (v := v0) rfl) ?_
        refine l_val rfl rfl rfl (r_move (v := .int .i64 a1) rfl) ?_
        obtain ⟨t34, h_t34, H33⟩ := bnd_some H32; clear H32
        refine l_val rfl rfl rfl (r_addG rfl rfl h_t34) ?_
        obtain ⟨t35, h_t35, H34⟩ := bnd_some H33; clear H33
        refine l_val rfl rfl rfl (r_indexF Try.underlying22 Try.sizeOf31 rfl rfl f0 h_t35) ?_
        refine l_val rfl rfl rfl (r_fieldP Try.runUnderlying31 rfl Try.sizeOf3 rfl rfl (some_of_at f0 h_t35)) ?_
        refine l_read (fun w hF hS => run_loadG1 (f := e_edit_Step) (i := t34) (sz := 5) (j := 0) (v := .int .i64 t35.Kind) Try.isAgg3 rfl rfl (f0.row (hw.now hF)) h_t35 rfl) rfl rfl rfl ?_
        refine l_val rfl rfl rfl (r_eql rfl rfl) ?_
        refine l_val rfl rfl rfl (r_pickF (v := .bool (decide (t35.Kind = 3))) rfl rfl) ?_
        refine l_nil ?_
        refine c_if (b := (decide (t35.Kind = 3))) rfl (fun hb => ?_) (fun hb => ?_)
        · have H35 := cnd_t hb H34; clear H34
          refine c_seq ?_
          refine c_region ?_
          refine l_val rfl rfl rfl (r_assign (v := .slice none 0 0) rfl) ?_
          refine l_val rfl rfl rfl (r_assign (v := .bool false) rfl) ?_
          refine l_nil ?_
          refine c_ret ?_
          refine c_nilRow 31 5 ?_
          obtain rfl := Option.some.inj H35
          refine ret2 (v1 := .slice ((none, 0) : Option Addr × Nat).1 ([] : List T_edit_Step).length ((none, 0) : Option Addr × Nat).2) (v2 := .bool false) rfl rfl rfl (finX ((none, 0) : Option Addr × Nat) (i := 0) rfl rfl (Imp.refl _))
        · have H36 := cnd_f hb H34; clear H34
          refine c_skip ?_
          refine c_seq ?_
          exact c_regionD (Kd.p :: Kd.p :: Kd.p :: Kd.p :: Kd.p :: Kd.p :: Kd.d [] _ :: Kd.p :: Kd.p :: Kd.p :: Kd.d [] _ :: Kd.ns 0 [_, _, _, _, _, _, _, _, _, _] 31 2 :: Kd.t 1 [0] _ _ :: Kd.p :: Kd.p :: []) 2 mixed (by
            refine d_val rfl rfl (r_move (v := v0) rfl) ?_
            refine d_val rfl rfl (r_move (v := .int .i64 a1) rfl) ?_
            refine d_val rfl rfl (r_move (v := v0) rfl) ?_
            refine d_val rfl rfl (r_move (v := .int .i64 a1) rfl) ?_
            have h_t44 := bnd_val H36
            have H37 := bnd_rest H36
            refine d_val rfl rfl (r_addG rfl rfl h_t44) ?_
            have h_t45 := bnd_val H37
            have H38 := bnd_rest H37
            refine d_val rfl rfl (r_indexF Try.underlying22 Try.sizeOf31 rfl rfl f0 h_t45) ?_
            refine d_read (fun w hF => run_loadGN (f := e_edit_Step) (i := (val (gI (a1 + 1)))) (sz := 5) (j := 0) (vs := [.int .i64 (val (gAt a0 (val (gI (a1 + 1))))).Kind, .int .i64 (val (gAt a0 (val (gI (a1 + 1))))).A, .int .i64 (val (gAt a0 (val (gI (a1 + 1))))).B, .int .i64 (val (gAt a0 (val (gI (a1 + 1))))).C, .int .i64 (val (gAt a0 (val (gI (a1 + 1))))).D]) Try.isAgg31 Try.sizeOf31 rfl rfl (f0.row (hw.now hF)) h_t45 rfl) rfl rfl ?_
            refine d_val rfl rfl (r_move (v := v0) rfl) ?_
            refine d_val rfl rfl (r_move (v := .int .i64 a1) rfl) ?_
            have h_t49 := bnd_val H38
            have H39 := bnd_rest H38
            refine d_val rfl rfl (r_indexF Try.underlying22 Try.sizeOf31 rfl rfl f0 h_t49) ?_
            refine d_read (fun w hF => run_loadGN (f := e_edit_Step) (i := a1) (sz := 5) (j := 0) (vs := [.int .i64 (val (gAt a0 a1)).Kind, .int .i64 (val (gAt a0 a1)).A, .int .i64 (val (gAt a0 a1)).B, .int .i64 (val (gAt a0 a1)).C, .int .i64 (val (gAt a0 a1)).D]) Try.isAgg31 Try.sizeOf31 rfl rfl (f0.row (hw.now hF)) h_t49 rfl) rfl rfl ?_
            refine d_newS rfl rfl (run_buildSlice (vs := [.agg #[.int .i64 (val (gAt a0 (val (gI (a1 + 1))))).Kind, .int .i64 (val (gAt a0 (val (gI (a1 + 1))))).A, .int .i64 (val (gAt a0 (val (gI (a1 + 1))))).B, .int .i64 (val (gAt a0 (val (gI (a1 + 1))))).C, .int .i64 (val (gAt a0 (val (gI (a1 + 1))))).D], .agg #[.int .i64 (val (gAt a0 a1)).Kind, .int .i64 (val (gAt a0 a1)).A, .int .i64 (val (gAt a0 a1)).B, .int .i64 (val (gAt a0 a1)).C, .int .i64 (val (gAt a0 a1)).D]]) (cs := [.int .i64 (val (gAt a0 (val (gI (a1 + 1))))).Kind, .int .i64 (val (gAt a0 (val (gI (a1 + 1))))).A, .int .i64 (val (gAt a0 (val (gI (a1 + 1))))).B, .int .i64 (val (gAt a0 (val (gI (a1 + 1))))).C, .int .i64 (val (gAt a0 (val (gI (a1 + 1))))).D, .int .i64 (val (gAt a0 a1)).Kind, .int .i64 (val (gAt a0 a1)).A, .int .i64 (val (gAt a0 a1)).B, .int .i64 (val (gAt a0 a1)).C, .int .i64 (val (gAt a0 a1)).D]) Try.underlying22 Try.sizeOf31 Try.zeroValue31 rfl rfl rfl rfl rfl) rfl (fun b1 => ?_)
            have h_t52 := bnd_val H39
            have H40 := bnd_rest H39
            refine d_make (Cv := fun v => rowV 31 5 v (val (edit_with a0 a1 2 ([(val (gAt a0 (val (gI (a1 + 1))))), (val (gAt a0 a1))] : List T_edit_Step))).length ((val (edit_with a0 a1 2 ([(val (gAt a0 (val (gI (a1 + 1))))), (val (gAt a0 a1))] : List T_edit_Step))).map e_edit_Step)) (none, 0) (makes_call (G := fun x : (Option Addr × Nat) => .slice x.1 (val (edit_with a0 a1 2 ([(val (gAt a0 (val (gI (a1 + 1))))), (val (gAt a0 a1))] : List T_edit_Step))).length x.2) (C := fun x : (Option Addr × Nat) => rowV 31 5 (.slice x.1 (val (edit_with a0 a1 2 ([(val (gAt a0 (val (gI (a1 + 1))))), (val (gAt a0 a1))] : List T_edit_Step))).length x.2) (val (edit_with a0 a1 2 ([(val (gAt a0 (val (gI (a1 + 1))))), (val (gAt a0 a1))] : List T_edit_Step))).length ((val (edit_with a0 a1 2 ([(val (gAt a0 (val (gI (a1 + 1))))), (val (gAt a0 a1))] : List T_edit_Step))).map e_edit_Step)) (fun w L' hF hS hi => k170 (know_all w) (f0.mono (hw.now hF)) (frs_box (i := 0) (xs := ([(val (gAt a0 (val (gI (a1 + 1))))), (val (gAt a0 a1))] : List T_edit_Step)) (f := e_edit_Step) hS ((hi 0 (by simp)).trans rfl) rfl rfl rfl rfl) h_t52) Try.call170 rfl) (fun _ => rfl) rfl rfl rfl (fun p => ?_)
            refine d_val rfl rfl (r_assign (v := .slice p.1 (val (edit_with a0 a1 2 ([(val (gAt a0 (val (gI (a1 + 1))))), (val (gAt a0 a1))] : List T_edit_Step))).length p.2) rfl) ?_
            refine d_val rfl rfl (r_assign (v := .bool true) rfl) ?_
            refine d_nil ?_
            refine c_ret ?_
            obtain rfl := Option.some.inj H40
            refine ret2 (v1 := .slice p.1 (val (edit_with a0 a1 2 ([(val (gAt a0 (val (gI (a1 + 1))))), (val (gAt a0 a1))] : List T_edit_Step))).length p.2) (v2 := .bool true) rfl rfl rfl (finX p (i := 1) rfl rfl (Imp.refl _))
            ) (by kernel_rfl)
theorem hft175 (k : Nat) : FnV Try.prog (vft175 k) (mft175 k) (fun g => fnR_edit_rule g) :=
  match k with
  | 0 => (show FnV Try.prog (vft175 0) (mft175 0) _ from (FnV.mk (g := edit_leaveNeutral) (R := fun g => fnR_edit_rule g) (fun h_ => (FnH.mk ⟨118, #[], #[], rfl, Try.call118, fun args2 post2 w2 hk2 hR2 => by obtain ⟨a0_, v0_, a1_, a2_, a3_, r_, fa0_, rfl, H_, rfl⟩ := hR2; exact k118 (know_all w2) fa0_ H_⟩))))
  | 1 => (show FnV Try.prog (vft175 1) (mft175 1) _ from (FnV.mk (g := edit_joinTurns) (R := fun g => fnR_edit_rule g) (fun h_ => (FnH.mk ⟨119, #[], #[], rfl, Try.call119, fun args2 post2 w2 hk2 hR2 => by obtain ⟨a0_, v0_, a1_, a2_, a3_, r_, fa0_, rfl, H_, rfl⟩ := hR2; exact k119 (know_all w2) fa0_ H_⟩))))
  | 2 => (show FnV Try.prog (vft175 2) (mft175 2) _ from (FnV.mk (g := edit_joinCrops) (R := fun g => fnR_edit_rule g) (fun h_ => (FnH.mk ⟨120, #[], #[], rfl, Try.call120, fun args2 post2 w2 hk2 hR2 => by obtain ⟨a0_, v0_, a1_, a2_, a3_, r_, fa0_, rfl, H_, rfl⟩ := hR2; exact k120 (know_all w2) fa0_ H_⟩))))
  | 3 => (show FnV Try.prog (vft175 3) (mft175 3) _ from (FnV.mk (g := edit_turnFirst) (R := fun g => fnR_edit_rule g) (fun h_ => (FnH.mk ⟨121, #[], #[], rfl, Try.call121, fun args2 post2 w2 hk2 hR2 => by obtain ⟨a0_, v0_, a1_, a2_, a3_, r_, fa0_, rfl, H_, rfl⟩ := hR2; exact k121 (know_all w2) fa0_ H_⟩))))
  | 4 => (show FnV Try.prog (vft175 4) (mft175 4) _ from (FnV.mk (g := edit_leaveInverts) (R := fun g => fnR_edit_rule g) (fun h_ => (FnH.mk ⟨122, #[], #[], rfl, Try.call122, fun args2 post2 w2 hk2 hR2 => by obtain ⟨a0_, v0_, a1_, a2_, a3_, r_, fa0_, rfl, H_, rfl⟩ := hR2; exact k122 (know_all w2) fa0_ H_⟩))))
  | 5 => (show FnV Try.prog (vft175 5) (mft175 5) _ from (FnV.mk (g := edit_shapeFirst) (R := fun g => fnR_edit_rule g) (fun h_ => (FnH.mk ⟨123, #[], #[], rfl, Try.call123, fun args2 post2 w2 hk2 hR2 => by obtain ⟨a0_, v0_, a1_, a2_, a3_, r_, fa0_, rfl, H_, rfl⟩ := hR2; exact k123 (know_all w2) fa0_ H_⟩))))
  | _ + 6 => FnV.nil

theorem k64 {a0 : (List T_edit_Step)} {p0 : Option Addr × Nat} {n0 : Nat} {a1 : Int} {a2 : Int} {r : (List T_edit_Step) × Bool} {w : World} {h : Heap} {S : Nat → Prop} (hcs : (rowV 31 5 (.slice p0.1 n0 p0.2) n0 (a0.map e_edit_Step)).P S w) (hlt : ∀ b, S b → b < w.heap.size) (hw : Know h w S) (hn0 : n0 = a0.length) (H : edit_shorter a0 a1 a2 = some r) : Does Try.prog 64 (List.toArray [.slice p0.1 n0 p0.2, .int .i64 a1, .int .i64 a2]) w (fun v w' => ∃ x : (Option Addr × Nat), v = (.tuple #[.slice x.1 r.1.length x.2, .bool r.2]) ∧ Turn w w' S (rowV 31 5 (.slice x.1 r.1.length x.2) r.1.length (r.1.map e_edit_Step))) := by
  refine enter (n := 51) Try.func64 rfl rfl rfl S [rowV 31 5 (.slice p0.1 n0 p0.2) n0 (a0.map e_edit_Step)] (Sat.one hcs hlt) ?_
  refine c_seq ?_
  refine c_region ?_
  refine l_val rfl rfl rfl (r_assign (v := .slice none 0 0) rfl) ?_
  refine l_val rfl rfl rfl (r_assign (v := .bool false) rfl) ?_
  refine l_nil ?_
  refine c_seq ?_
  refine c_seq ?_
  refine c_region ?_
  refine l_buildSlice (vs := [(vft175 0), (vft175 1), (vft175 2), (vft175 3), (vft175 4), (vft175 5)]) (cs := [(vft175 0), (vft175 1), (vft175 2), (vft175 3), (vft175 4), (vft175 5)]) Try.underlying174 Try.sizeOf175 Try.zeroValue175 rfl rfl rfl rfl rfl rfl rfl (fun b1 => ?_)
  refine l_val rfl rfl rfl (r_len Try.underlying174 rfl) ?_
  refine l_val rfl rfl rfl (r_move (v := .int .i64 0) rfl) ?_
  refine l_nil ?_
  refine c_block ?_
  refine c_fix (σ := Int) (τ := Unit) (fun next1 s => edit_shorter_l1 a0 a1 a2 next1 s) (fun s t => [(0, .slice p0.1 n0 p0.2), (1, .int .i64 a1), (2, .int .i64 a2), (16, .slice (some ⟨b1, 0, none⟩) 6 6), (17, .int .i64 6), (18, .int .i64 s)]) (fun s t => [rowV 31 5 (.slice p0.1 n0 p0.2) n0 (a0.map e_edit_Step), cellsC b1 [(vft175 0), (vft175 1), (vft175 2), (vft175 3), (vft175 4), (vft175 5)] 175]) (fun s t => True) 0 () [0, 1] H (by exact trivial) (by exact ⟨rfl, rfl, rfl, rfl, rfl, rfl, trivial⟩) (by decide) rfl ?_
  rintro x18_2 _ m1 gg H17 _
  clear H
  replace H17 : edit_shorter_l1 a0 a1 a2 (it (fun next1 s => edit_shorter_l1 a0 a1 a2 next1 s) m1) x18_2 = some r := H17
  generalize hn1 : it (fun next1 s => edit_shorter_l1 a0 a1 a2 next1 s) m1 = next1 at H17
  refine c_tidyF [(0, .slice p0.1 n0 p0.2), (1, .int .i64 a1), (2, .int .i64 a2), (16, .slice (some ⟨b1, 0, none⟩) 6 6), (17, .int .i64 6), (18, .int .i64 x18_2)] [rowV 31 5 (.slice p0.1 n0 p0.2) n0 (a0.map e_edit_Step), cellsC b1 [(vft175 0), (vft175 1), (vft175 2), (vft175 3), (vft175 4), (vft175 5)] 175] rfl rfl ?_
  refine c_seq ?_
  refine c_region ?_
  refine l_val rfl rfl rfl (r_lss rfl rfl) ?_
  refine l_nil ?_
  refine c_seq ?_
  refine c_if (b := (decide (x18_2 < 6))) rfl (fun hb => ?_) (fun hb => ?_)
  · have H18 := cnd_t hb H17; clear H17
    refine c_skip ?_
    refine c_meet (r := r) (σ := Unit) (τ := Unit) (fun s => edit_shorter_j2 x18_2 next1) (fun s t => [(0, .slice p0.1 n0 p0.2), (1, .int .i64 a1), (2, .int .i64 a2), (16, .slice (some ⟨b1, 0, none⟩) 6 6), (17, .int .i64 6), (18, .int .i64 x18_2)]) (fun s t => [rowV 31 5 (.slice p0.1 n0 p0.2) n0 (a0.map e_edit_Step), cellsC b1 [(vft175 0), (vft175 1), (vft175 2), (vft175 3), (vft175 4), (vft175 5)] 175]) (fun s t => True) ?_ ?_
    · refine c_block ?_
      refine c_seq ?_
      refine c_region ?_
      obtain ⟨t20, h_t20, H21⟩ := bnd_some H18; clear H18
      refine l_val rfl rfl rfl (r_indexS Try.underlying174 Try.sizeOf175 rfl rfl h_t20 rfl) ?_
      refine l_read (fun w hF hS => run_loadG1 (f := e_ft175) (i := x18_2) (sz := 1) (j := 0) (v := (vft175 t20)) Try.isAgg175 rfl rfl (row_box (sz := 1) (xs := ([0, 1, 2, 3, 4, 5] : List Nat).map e_ft175) (i := 1) hS rfl rfl rfl) h_t20 rfl) rfl rfl rfl ?_
      refine l_val rfl rfl rfl (r_assign (v := (vft175 t20)) rfl) ?_
      refine l_nil ?_
      refine c_seq ?_
      refine c_region ?_
      refine l_val rfl rfl rfl (r_move (v := .slice p0.1 n0 p0.2) rfl) ?_
      refine l_val rfl rfl rfl (r_lenN Try.underlying22 rfl hn0) ?_
      refine l_val rfl rfl rfl (r_move (v := .int .i64 0) rfl) ?_
      refine l_nil ?_
      refine c_block ?_
      refine c_fix (σ := Int) (τ := Unit) (fun next3 s => edit_shorter_l3 a0 a1 a2 x18_2 next1 t20 next3 s) (fun s t => [(0, .slice p0.1 n0 p0.2), (1, .int .i64 a1), (2, .int .i64 a2), (9, (vft175 t20)), (16, .slice (some ⟨b1, 0, none⟩) 6 6), (17, .int .i64 6), (18, .int .i64 x18_2), (23, .int .i64 (a0.length : Int)), (24, .int .i64 s)]) (fun s t => [rowV 31 5 (.slice p0.1 n0 p0.2) n0 (a0.map e_edit_Step), cellsC b1 [(vft175 0), (vft175 1), (vft175 2), (vft175 3), (vft175 4), (vft175 5)] 175]) (fun s t => True) 0 () [0, 1] H21 (by exact trivial) (by exact ⟨rfl, rfl, rfl, rfl, rfl, rfl, rfl, rfl, rfl, trivial⟩) (by decide) rfl ?_
      rintro x24_2 _ m3 gg H22 _
      clear H21
      replace H22 : edit_shorter_l3 a0 a1 a2 x18_2 next1 t20 (it (fun next3 s => edit_shorter_l3 a0 a1 a2 x18_2 next1 t20 next3 s) m3) x24_2 = some r := H22
      generalize hn3 : it (fun next3 s => edit_shorter_l3 a0 a1 a2 x18_2 next1 t20 next3 s) m3 = next3 at H22
      refine c_tidyF [(0, .slice p0.1 n0 p0.2), (1, .int .i64 a1), (2, .int .i64 a2), (9, (vft175 t20)), (16, .slice (some ⟨b1, 0, none⟩) 6 6), (17, .int .i64 6), (18, .int .i64 x18_2), (23, .int .i64 (a0.length : Int)), (24, .int .i64 x24_2)] [rowV 31 5 (.slice p0.1 n0 p0.2) n0 (a0.map e_edit_Step), cellsC b1 [(vft175 0), (vft175 1), (vft175 2), (vft175 3), (vft175 4), (vft175 5)] 175] rfl rfl ?_
      refine c_seq ?_
      refine c_region ?_
      refine l_val rfl rfl rfl (r_lss rfl rfl) ?_
      refine l_nil ?_
      refine c_seq ?_
      refine c_if (b := (decide (x24_2 < (a0.length : Int)))) rfl (fun hb => ?_) (fun hb => ?_)
      · have H23 := cnd_t hb H22; clear H22
        refine c_skip ?_
        refine c_seq ?_
        refine c_block ?_
        refine c_seq ?_
        refine c_region ?_
        refine l_val rfl rfl rfl (r_move (v := .int .i64 x24_2) rfl) ?_
        refine l_val rfl rfl rfl (r_assign (v := .int .i64 x24_2) rfl) ?_
        refine l_nil ?_
        refine c_seq ?_
        refine c_region ?_
        refine l_val rfl rfl rfl (r_move (v := .slice p0.1 n0 p0.2) rfl) ?_
        refine l_val rfl rfl rfl (r_move (v := .int .i64 x24_2) rfl) ?_
        obtain ⟨t30, h_t30, H24⟩ := bnd_some H23; clear H23
        refine l_read (v := .slice p0.1 t30.length p0.2) (fun w hF hS => run_sliceHO0 (xs := a0) Try.underlying22 Try.sizeOf31 rfl rfl hn0 (capOf (i := 0) hS rfl) h_t30) rfl rfl rfl ?_
        refine l_val rfl rfl rfl (r_move (v := .int .i64 a1) rfl) ?_
        refine l_val rfl rfl rfl (r_move (v := .int .i64 a2) rfl) ?_
        obtain ⟨t33, h_t33, H25⟩ := bnd_some H24; clear H24
        refine l_callG (fun w hF hS => k59 (know_all w) (FrS.cut0 (frs_own (i := 0) hn0 hS rfl) h_t30) h_t33) Try.call59 rfl rfl rfl ?_
        refine l_val rfl rfl rfl (r_move (v := .tuple #[.int .i64 t33.1, .int .i64 t33.2.1, .int .i64 t33.2.2]) rfl) ?_
        refine l_val rfl rfl rfl (r_extract (v := .int .i64 t33.1) rfl rfl) ?_
        refine l_val rfl rfl rfl (r_extract (v := .int .i64 t33.2.1) rfl rfl) ?_
        refine l_val rfl rfl rfl (r_extract (v := .int .i64 t33.2.2) rfl rfl) ?_
        refine l_val rfl rfl rfl (r_assign (v := .int .i64 t33.1) rfl) ?_
        refine l_val rfl rfl rfl (r_assign (v := .int .i64 t33.2.1) rfl) ?_
        refine l_val rfl rfl rfl (r_assign (v := .int .i64 t33.2.2) rfl) ?_
        refine l_nil ?_
        refine c_seq ?_
        refine c_region ?_
        refine l_val rfl rfl rfl (r_move (v := (vft175 t20)) rfl) ?_
        refine l_val rfl rfl rfl (r_move (v := .slice p0.1 n0 p0.2) rfl) ?_
        refine l_val rfl rfl rfl (r_move (v := .int .i64 x24_2) rfl) ?_
        refine l_val rfl rfl rfl (r_move (v := .int .i64 t33.1) rfl) ?_
        refine l_val rfl rfl rfl (r_move (v := .int .i64 t33.2.1) rfl) ?_
        obtain ⟨g43, h_g43, H26⟩ := bnd_some H25; clear H25
        obtain ⟨t43, h_t43, H27⟩ := bnd_some H26; clear H26
        refine l_make (makes_callV (R := fnR_edit_rule g43) (v := (vft175 t20)) (rds := [0]) (G := fun x : (Option Addr × Nat) => .tuple #[.slice x.1 t43.1.length x.2, .bool t43.2]) (C := fun x : (Option Addr × Nat) => rowV 31 5 (.slice x.1 t43.1.length x.2) t43.1.length (t43.1.map e_edit_Step)) (fun w L' hF hS hi => ⟨((hft175 t20).fn (gFn_some h_g43) _), ⟨a0, _, x24_2, t33.1, t33.2.1, _, (frs_own (i := 0) hn0 hS ((hi 0 (by simp)).trans rfl)), rfl, h_t43, rfl⟩⟩) rfl rfl) rfl rfl rfl (fun p => ?_)
        refine l_val rfl rfl rfl (r_move (v := .tuple #[.slice p.1 t43.1.length p.2, .bool t43.2]) rfl) ?_
        refine l_val rfl rfl rfl (r_extract (v := .slice p.1 t43.1.length p.2) rfl rfl) ?_
        refine l_val rfl rfl rfl (r_extract (v := .bool t43.2) rfl rfl) ?_
        refine l_val rfl rfl rfl (r_assign (v := .slice p.1 t43.1.length p.2) rfl) ?_
        refine l_val rfl rfl rfl (r_assign (v := .bool t43.2) rfl) ?_
        refine l_nil ?_
        refine c_seq ?_
        refine c_region ?_
        refine l_val rfl rfl rfl (r_move (v := .bool t43.2) rfl) ?_
        refine l_nil ?_
        refine c_if (b := t43.2) rfl (fun hb => ?_) (fun hb => ?_)
        · have H28 := cnd_t hb H27; clear H27
          refine c_seq ?_
          refine c_region ?_
          refine l_val rfl rfl rfl (r_move (v := .slice p.1 t43.1.length p.2) rfl) ?_
          refine l_val rfl rfl rfl (r_assign (v := .slice p.1 t43.1.length p.2) rfl) ?_
          refine l_val rfl rfl rfl (r_assign (v := .bool true) rfl) ?_
          refine l_nil ?_
          refine c_ret ?_
          obtain rfl := Option.some.inj H28
          refine ret2 (v1 := .slice p.1 t43.1.length p.2) (v2 := .bool true) rfl rfl rfl (finX p (i := 2) rfl rfl (Imp.refl _))
        · have H29 := cnd_f hb H27; clear H27
          refine c_skip ?_
          refine c_region ?_
          obtain ⟨t48, h_t48, H30⟩ := bnd_some H29; clear H29
          refine l_val rfl rfl rfl (r_addG rfl rfl h_t48) ?_
          refine l_val rfl rfl rfl (r_move (v := .int .i64 t48) rfl) ?_
          refine l_nil ?_
          refine c_close t48 () m3 [0, 1] (by exact ⟨rfl, rfl, rfl, rfl, rfl, rfl, rfl, rfl, rfl, trivial⟩) (by decide) rfl (by exact ⟨(by subst hn3; exact H30), trivial⟩) (Nat.lt_succ_self _)
      · have H31 := cnd_f hb H22; clear H22
        refine c_exit ?_
        refine c_close () () 0 [0, 1] (by exact ⟨rfl, rfl, rfl, rfl, rfl, rfl, trivial⟩) (by decide) rfl (by exact ⟨H31, trivial⟩) (Nat.lt_succ_self _)
    · rintro _ _ gg H19 _
      replace H19 : edit_shorter_j2 x18_2 next1 = some r := H19
      refine c_tidyF [(0, .slice p0.1 n0 p0.2), (1, .int .i64 a1), (2, .int .i64 a2), (16, .slice (some ⟨b1, 0, none⟩) 6 6), (17, .int .i64 6), (18, .int .i64 x18_2)] [rowV 31 5 (.slice p0.1 n0 p0.2) n0 (a0.map e_edit_Step), cellsC b1 [(vft175 0), (vft175 1), (vft175 2), (vft175 3), (vft175 4), (vft175 5)] 175] rfl rfl ?_
      refine c_region ?_
      obtain ⟨t49, h_t49, H20⟩ := bnd_some H19; clear H19
      refine l_val rfl rfl rfl (r_addG rfl rfl h_t49) ?_
      refine l_val rfl rfl rfl (r_move (v := .int .i64 t49) rfl) ?_
      refine l_nil ?_
      refine c_close t49 () m1 [0, 1] (by exact ⟨rfl, rfl, rfl, rfl, rfl, rfl, trivial⟩) (by decide) rfl (by exact ⟨(by subst hn1; exact H20), trivial⟩) (Nat.lt_succ_self _)
  · have H32 := cnd_f hb H17; clear H17
    refine c_exit ?_
    refine c_seq ?_
    refine c_region ?_
    refine l_val rfl rfl rfl (r_move (v := .slice p0.1 n0 p0.2) rfl) ?_
    refine l_val rfl rfl rfl (r_assign (v := .slice p0.1 n0 p0.2) rfl) ?_
    refine l_val rfl rfl rfl (r_assign (v := .bool false) rfl) ?_
    refine l_nil ?_
    refine c_ret ?_
    obtain rfl := Option.some.inj H32
    refine ret2 (v1 := .slice p0.1 n0 p0.2) (v2 := .bool false) rfl rfl rfl (finX p0 (i := 0) rfl (by first | rfl | rw [(show n0 = a0.length from hn0)]) (by first | exact Imp.refl _ | exact Imp.of (by rw [(show n0 = a0.length from hn0)])))
end Go.Proofs.Ytllnhnnpmmnomaa
