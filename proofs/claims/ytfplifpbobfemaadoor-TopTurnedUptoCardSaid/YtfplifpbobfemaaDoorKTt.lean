/- TopTurned: the walks, printed by our generator; each follows its model. Conditions: the model yields a value. -/
import Derived.Test.YtfplifpbobfemaaDoorKTa
namespace Go.Proofs.YtfplifpbobfemaaDoor
open Go Go.Vc Go.Md Go.M Go.Lx
set_option maxRecDepth 100000
set_option maxHeartbeats 4000000
set_option linter.unusedVariables false

theorem k4 {r : Bool} {w : World} {h : Heap} (hw : Know h w noS) (tb_pow10 : TabH Tryd.prog h "internal/strconv.uint64pow10" .u64 Lib.pow10Tab) (H : Top_awakeEdit = some r) : Does Tryd.prog 4 (List.toArray []) w (fun v w' => v = (.bool r) ∧ Grow w w') := by
  refine enter (n := 15) Tryd.func4 rfl rfl rfl noS [] (Sat.nil _ _) ?_
  refine c_seq ?_
  refine c_region ?_
  refine l_val rfl rfl rfl (r_assign (v := .bool false) rfl) ?_
  refine l_nil ?_
  refine c_seq ?_
  refine c_region ?_
  refine l_val rfl rfl rfl (r_build (pl := #[(0, 1), (1, 1), (2, 1), (3, 1), (4, 1)]) (ps := [(0, .int .i64 9)]) (cells := #[.int .i64 9, .int .i64 0, .int .i64 0, .int .i64 0, .int .i64 0]) Tryd.zeroValue29 Tryd.runUnderlying29 (fun w => by kernel_rfl) rfl rfl) ?_
  refine l_buildSlice (vs := [.agg #[.int .i64 9, .int .i64 0, .int .i64 0, .int .i64 0, .int .i64 0]]) (cs := [.int .i64 9, .int .i64 0, .int .i64 0, .int .i64 0, .int .i64 0]) Tryd.underlying27 Tryd.sizeOf29 Tryd.zeroValue29 rfl rfl rfl rfl rfl rfl rfl (fun b1 => ?_)
  obtain ⟨t6, h_t6, H4⟩ := bnd_some H; clear H
  refine l_callG (fun w hF hS => k9 (know_all w) (frs_box (i := 0) (xs := ([(⟨9, 0, 0, 0, 0⟩ : T_edit_Step)] : List T_edit_Step)) (f := e_edit_Step) hS rfl rfl rfl rfl rfl) (tb_pow10.mono (hw.now hF)) h_t6) Tryd.call9 rfl rfl rfl ?_
  refine l_val rfl rfl rfl (r_move (v := .tuple #[str t6.1, .int .i64 t6.2]) rfl) ?_
  refine l_val rfl rfl rfl (r_extract (v := str t6.1) rfl rfl) ?_
  refine l_val rfl rfl rfl (r_extract (v := .int .i64 t6.2) rfl rfl) ?_
  refine l_val rfl rfl rfl (r_assign (v := str t6.1) rfl) ?_
  refine l_val rfl rfl rfl (r_assign (v := .int .i64 t6.2) rfl) ?_
  refine l_nil ?_
  refine c_seq ?_
  refine c_region ?_
  refine l_val rfl rfl rfl (r_move (v := .int .i64 t6.2) rfl) ?_
  refine l_val rfl rfl rfl (r_eql rfl rfl) ?_
  refine l_val rfl rfl rfl (r_move (v := .bool (decide (t6.2 = 0))) rfl) ?_
  refine split (fun hb => ?_) (fun hb => ?_)
  · have H5 := cnd_t hb H4; clear H4
    refine l_val rfl rfl rfl (r_move (v := str t6.1) rfl) ?_
    refine l_val rfl rfl rfl (r_eqlT rfl rfl) ?_
    refine l_val rfl rfl rfl (r_pickT (v := .bool (decide (t6.1 = [105, 110, 118, 101, 114, 116, 10]))) rfl rfl) ?_
    refine l_val rfl rfl rfl (r_assign (v := .bool (decide (t6.1 = [105, 110, 118, 101, 114, 116, 10]))) rfl) ?_
    refine l_nil ?_
    refine c_ret ?_
    obtain rfl := Option.some.inj H5
    refine ret1 (v := .bool (decide (t6.1 = [105, 110, 118, 101, 114, 116, 10]))) rfl rfl (fin rfl)
  · have H6 := cnd_f hb H4; clear H4
    refine l_passed rfl rfl rfl ?_
    refine l_passed rfl rfl rfl ?_
    refine l_val rfl rfl rfl (r_pickF (v := .bool false) rfl rfl) ?_
    refine l_val rfl rfl rfl (r_assign (v := .bool false) rfl) ?_
    refine l_nil ?_
    refine c_ret ?_
    obtain rfl := Option.some.inj H6
    refine ret1 (v := .bool false) rfl rfl (fin rfl)
theorem k26 {a0 : T_edit_Step} {a1 : Int} {a2 : Int} {r : Int × Int × Bool} (H : edit_Step_size a0 a1 a2 = some r) : Ret Tryd.prog 26 [.agg #[.int .i64 a0.Kind, .int .i64 a0.A, .int .i64 a0.B, .int .i64 a0.C, .int .i64 a0.D], .int .i64 a1, .int .i64 a2] (.tuple #[.int .i64 r.1, .int .i64 r.2.1, .bool r.2.2]) := by
  refine enterRet (n := 48) Tryd.func26 rfl rfl rfl (fun wd => ?_)
  refine c_seq ?_
  refine c_region ?_
  refine l_box (cs := [.int .i64 a0.Kind, .int .i64 a0.A, .int .i64 a0.B, .int .i64 a0.C, .int .i64 a0.D]) rfl rfl rfl rfl (fun b1 => ?_)
  refine l_val rfl rfl rfl (r_assign (v := .int .i64 0) rfl) ?_
  refine l_val rfl rfl rfl (r_assign (v := .int .i64 0) rfl) ?_
  refine l_val rfl rfl rfl (r_assign (v := .bool false) rfl) ?_
  refine l_nil ?_
  refine c_meet (r := r) (σ := Unit) (τ := Unit) (fun s => edit_Step_size_j1 a1 a2) (fun s t => [(1, .int .i64 a1), (2, .int .i64 a2)]) (fun s t => []) (fun s t => True) ?_ ?_
  · refine c_seq ?_
    refine c_region ?_
    refine l_val rfl rfl rfl (r_field Tryd.runUnderlying29 rfl Tryd.sizeOf3 rfl rfl) ?_
    refine l_load1 (i := 0) (v := .int .i64 a0.Kind) Tryd.isAgg3 rfl rfl rfl rfl rfl ?_
    refine l_nil ?_
    refine c_block ?_
    refine c_seq ?_
    refine c_region ?_
    refine l_val rfl rfl rfl (r_eql rfl rfl) ?_
    refine l_val rfl rfl rfl (r_assign (v := .bool (decide (a0.Kind = 1))) rfl) ?_
    refine l_nil ?_
    refine c_if (b := (decide (a0.Kind = 1))) rfl (fun hb => ?_) (fun hb => ?_)
    · have H15 := cnd_t hb H; clear H
      refine c_seq ?_
      refine c_region ?_
      refine l_val rfl rfl rfl (r_field Tryd.runUnderlying29 rfl Tryd.sizeOf3 rfl rfl) ?_
      refine l_load1 (i := 0) (v := .int .i64 a0.A) Tryd.isAgg3 rfl rfl rfl rfl rfl ?_
      refine l_val rfl rfl rfl (r_geq rfl rfl) ?_
      refine l_nil ?_
      refine c_if (b := (decide (5 ≤ a0.A))) rfl (fun hb => ?_) (fun hb => ?_)
      · have H16 := cnd_t hb H15; clear H15
        refine c_seq ?_
        refine c_region ?_
        refine l_val rfl rfl rfl (r_move (v := .int .i64 a2) rfl) ?_
        refine l_val rfl rfl rfl (r_move (v := .int .i64 a1) rfl) ?_
        refine l_val rfl rfl rfl (r_assign (v := .int .i64 a2) rfl) ?_
        refine l_val rfl rfl rfl (r_assign (v := .int .i64 a1) rfl) ?_
        refine l_val rfl rfl rfl (r_assign (v := .bool true) rfl) ?_
        refine l_nil ?_
        refine c_ret ?_
        obtain rfl := Option.some.inj H16
        refine ret3 (v1 := .int .i64 a2) (v2 := .int .i64 a1) (v3 := .bool true) rfl rfl rfl rfl (fin rfl)
      · have H17 := cnd_f hb H15; clear H15
        refine c_skip ?_
        refine c_close () () 0 [] (by exact ⟨rfl, rfl, trivial⟩) (by decide) rfl (by exact ⟨H17, trivial⟩) (Nat.lt_succ_self _)
    · have H18 := cnd_f hb H; clear H
      refine c_seq ?_
      refine c_region ?_
      refine l_val rfl rfl rfl (r_eql rfl rfl) ?_
      refine l_val rfl rfl rfl (r_assign (v := .bool (decide (a0.Kind = 2))) rfl) ?_
      refine l_nil ?_
      refine c_if (b := (decide (a0.Kind = 2))) rfl (fun hb => ?_) (fun hb => ?_)
      · have H19 := cnd_t hb H18; clear H18
        refine c_seq ?_
        exact c_regionD (Kd.p :: Kd.d [0] _ :: Kd.p :: Kd.d [0] _ :: Kd.p :: Kd.d [0] _ :: Kd.p :: Kd.d [0] _ :: Kd.p :: Kd.p :: Kd.p :: Kd.p :: Kd.p :: Kd.d [0] _ :: Kd.p :: Kd.d [0] _ :: Kd.p :: Kd.p :: Kd.p :: Kd.p :: Kd.p :: Kd.p :: Kd.p :: []) 0 mixed (by
          refine d_val rfl rfl (r_field Tryd.runUnderlying29 rfl Tryd.sizeOf3 rfl rfl) ?_
          refine d_load1 (i := 0) (v := .int .i64 a0.C) Tryd.isAgg3 rfl rfl rfl rfl ?_
          refine d_val rfl rfl (r_field Tryd.runUnderlying29 rfl Tryd.sizeOf3 rfl rfl) ?_
          refine d_load1 (i := 0) (v := .int .i64 a0.D) Tryd.isAgg3 rfl rfl rfl rfl ?_
          refine d_val rfl rfl (r_field Tryd.runUnderlying29 rfl Tryd.sizeOf3 rfl rfl) ?_
          refine d_load1 (i := 0) (v := .int .i64 a0.A) Tryd.isAgg3 rfl rfl rfl rfl ?_
          refine d_val rfl rfl (r_field Tryd.runUnderlying29 rfl Tryd.sizeOf3 rfl rfl) ?_
          refine d_load1 (i := 0) (v := .int .i64 a0.C) Tryd.isAgg3 rfl rfl rfl rfl ?_
          have h_t28 := bnd_val H19
          have H20 := bnd_rest H19
          refine d_val rfl rfl (r_addG rfl rfl h_t28) ?_
          refine d_val rfl rfl (r_move (v := .int .i64 a1) rfl) ?_
          refine d_val rfl rfl (r_leq rfl rfl) ?_
          refine d_val rfl rfl (r_move (v := .bool (decide ((val (gI (a0.A + a0.C))) ≤ a1))) rfl) ?_
          refine splitS (fun hb => ?_) (fun hb => ?_)
          · have H21 := cnd_t hb H20
            refine d_val rfl rfl (r_field Tryd.runUnderlying29 rfl Tryd.sizeOf3 rfl rfl) ?_
            refine d_load1 (i := 0) (v := .int .i64 a0.B) Tryd.isAgg3 rfl rfl rfl rfl ?_
            refine d_val rfl rfl (r_field Tryd.runUnderlying29 rfl Tryd.sizeOf3 rfl rfl) ?_
            refine d_load1 (i := 0) (v := .int .i64 a0.D) Tryd.isAgg3 rfl rfl rfl rfl ?_
            have h_t36 := bnd_val H21
            have H22 := bnd_rest H21
            refine d_val rfl rfl (r_addG rfl rfl h_t36) ?_
            refine d_val rfl rfl (r_move (v := .int .i64 a2) rfl) ?_
            refine d_val rfl rfl (r_leq rfl rfl) ?_
            refine d_val rfl rfl (r_pickT (v := .bool (decide ((val (gI (a0.B + a0.D))) ≤ a2))) rfl rfl) ?_
            refine d_val rfl rfl (r_assign (v := .int .i64 a0.C) rfl) ?_
            refine d_val rfl rfl (r_assign (v := .int .i64 a0.D) rfl) ?_
            refine d_val rfl rfl (r_assign (v := .bool (decide ((val (gI (a0.B + a0.D))) ≤ a2))) rfl) ?_
            refine d_nil ?_
            refine c_ret ?_
            obtain rfl := Option.some.inj H22
            refine ret3 (v1 := .int .i64 a0.C) (v2 := .int .i64 a0.D) (v3 := .bool (decide ((val (gI (a0.B + a0.D))) ≤ a2))) rfl rfl rfl rfl (fin rfl)
          · have H23 := cnd_f hb H20
            refine d_pass rfl rfl ?_
            refine d_pass rfl rfl ?_
            refine d_pass rfl rfl ?_
            refine d_pass rfl rfl ?_
            refine d_pass rfl rfl ?_
            refine d_pass rfl rfl ?_
            refine d_pass rfl rfl ?_
            refine d_val rfl rfl (r_pickF (v := .bool false) rfl rfl) ?_
            refine d_val rfl rfl (r_assign (v := .int .i64 a0.C) rfl) ?_
            refine d_val rfl rfl (r_assign (v := .int .i64 a0.D) rfl) ?_
            refine d_val rfl rfl (r_assign (v := .bool false) rfl) ?_
            refine d_nil ?_
            refine c_ret ?_
            obtain rfl := Option.some.inj H23
            refine ret3 (v1 := .int .i64 a0.C) (v2 := .int .i64 a0.D) (v3 := .bool false) rfl rfl rfl rfl (fin rfl)
          ) (by kernel_rfl)
      · have H24 := cnd_f hb H18; clear H18
        refine c_seq ?_
        refine c_region ?_
        refine l_val rfl rfl rfl (r_eql rfl rfl) ?_
        refine l_val rfl rfl rfl (r_assign (v := .bool (decide (a0.Kind = 3))) rfl) ?_
        refine l_nil ?_
        refine c_if (b := (decide (a0.Kind = 3))) rfl (fun hb => ?_) (fun hb => ?_)
        · have H25 := cnd_t hb H24; clear H24
          refine c_seq ?_
          exact c_regionD (Kd.p :: Kd.d [0] _ :: Kd.p :: Kd.d [0] _ :: Kd.p :: Kd.p :: Kd.p :: []) 0 mixed (by
            refine d_val rfl rfl (r_field Tryd.runUnderlying29 rfl Tryd.sizeOf3 rfl rfl) ?_
            refine d_load1 (i := 0) (v := .int .i64 a0.A) Tryd.isAgg3 rfl rfl rfl rfl ?_
            refine d_val rfl rfl (r_field Tryd.runUnderlying29 rfl Tryd.sizeOf3 rfl rfl) ?_
            refine d_load1 (i := 0) (v := .int .i64 a0.B) Tryd.isAgg3 rfl rfl rfl rfl ?_
            refine d_val rfl rfl (r_assign (v := .int .i64 a0.A) rfl) ?_
            refine d_val rfl rfl (r_assign (v := .int .i64 a0.B) rfl) ?_
            refine d_val rfl rfl (r_assign (v := .bool true) rfl) ?_
            refine d_nil ?_
            refine c_ret ?_
            obtain rfl := Option.some.inj H25
            refine ret3 (v1 := .int .i64 a0.A) (v2 := .int .i64 a0.B) (v3 := .bool true) rfl rfl rfl rfl (fin rfl)
            ) (by kernel_rfl)
        · have H26 := cnd_f hb H24; clear H24
          refine c_skip ?_
          refine c_close () () 0 [] (by exact ⟨rfl, rfl, trivial⟩) (by decide) rfl (by exact ⟨H26, trivial⟩) (Nat.lt_succ_self _)
  · rintro _ _ gg H14 _
    replace H14 : edit_Step_size_j1 a1 a2 = some r := H14
    refine c_tidyF [(1, .int .i64 a1), (2, .int .i64 a2)] [] rfl rfl ?_
    refine c_seq ?_
    refine c_region ?_
    refine l_val rfl rfl rfl (r_move (v := .int .i64 a1) rfl) ?_
    refine l_val rfl rfl rfl (r_move (v := .int .i64 a2) rfl) ?_
    refine l_val rfl rfl rfl (r_assign (v := .int .i64 a1) rfl) ?_
    refine l_val rfl rfl rfl (r_assign (v := .int .i64 a2) rfl) ?_
    refine l_val rfl rfl rfl (r_assign (v := .bool true) rfl) ?_
    refine l_nil ?_
    refine c_ret ?_
    obtain rfl := Option.some.inj H14
    refine ret3 (v1 := .int .i64 a1) (v2 := .int .i64 a2) (v3 := .bool true) rfl rfl rfl rfl (fin rfl)
theorem k12 {a0 : (List T_edit_Step)} {v0 : Value} {a1 : Int} {a2 : Int} {r : Int × Int × Int} {w : World} {h : Heap} (hw : Know h w noS) (f0 : FrS h 5 v0 (a0.map e_edit_Step)) (H : edit_size a0 a1 a2 = some r) : Does Tryd.prog 12 (List.toArray [v0, .int .i64 a1, .int .i64 a2]) w (fun v w' => v = (.tuple #[.int .i64 r.1, .int .i64 r.2.1, .int .i64 r.2.2]) ∧ Grow w w') := by
  refine enter (n := 37) Tryd.func12 rfl rfl rfl noS [] (Sat.nil _ _) ?_
  refine c_seq ?_
  refine c_region ?_
  refine l_val rfl rfl rfl (r_assign (v := .int .i64 0) rfl) ?_
  refine l_val rfl rfl rfl (r_assign (v := .int .i64 0) rfl) ?_
  refine l_val rfl rfl rfl (r_assign (v := .int .i64 0) rfl) ?_
  refine l_nil ?_
  refine c_seq ?_
  refine c_seq ?_
  refine c_region ?_
  refine l_val rfl rfl rfl (r_move (v := .int .i64 a1) rfl) ?_
  obtain ⟨t13, h_t13, H16⟩ := bnd_some H; clear H
  refine l_call (k25 h_t13) Tryd.call25 rfl rfl rfl ?_
  refine l_val rfl rfl rfl (r_move (v := .bool t13) rfl) ?_
  refine split (fun hb => ?_) (fun hb => ?_)
  · have H17 := cnd_t hb H16; clear H16
    refine l_passed rfl rfl rfl ?_
    refine l_passed rfl rfl rfl ?_
    refine l_val rfl rfl rfl (r_pickT (v := .bool true) rfl rfl) ?_
    refine l_nil ?_
    refine c_true rfl ?_
    refine c_seq ?_
    refine c_region ?_
    refine l_val rfl rfl rfl (r_assign (v := .int .i64 0) rfl) ?_
    refine l_val rfl rfl rfl (r_assign (v := .int .i64 0) rfl) ?_
    refine l_val rfl rfl rfl (r_assign (v := .int .i64 2) rfl) ?_
    refine l_nil ?_
    refine c_ret ?_
    obtain rfl := Option.some.inj H17
    refine ret3 (v1 := .int .i64 0) (v2 := .int .i64 0) (v3 := .int .i64 2) rfl rfl rfl rfl (fin rfl)
  · have H18 := cnd_f hb H16; clear H16
    refine l_val rfl rfl rfl (r_move (v := .int .i64 a2) rfl) ?_
    obtain ⟨t16, h_t16, H19⟩ := bnd_some H18; clear H18
    refine l_call (k25 h_t16) Tryd.call25 rfl rfl rfl ?_
    refine l_val rfl rfl rfl (r_pickF (v := .bool t16) rfl rfl) ?_
    refine l_nil ?_
    refine c_if (b := t16) rfl (fun hb => ?_) (fun hb => ?_)
    · have H20 := cnd_t hb H19; clear H19
      refine c_seq ?_
      refine c_region ?_
      refine l_val rfl rfl rfl (r_assign (v := .int .i64 0) rfl) ?_
      refine l_val rfl rfl rfl (r_assign (v := .int .i64 0) rfl) ?_
      refine l_val rfl rfl rfl (r_assign (v := .int .i64 2) rfl) ?_
      refine l_nil ?_
      refine c_ret ?_
      obtain rfl := Option.some.inj H20
      refine ret3 (v1 := .int .i64 0) (v2 := .int .i64 0) (v3 := .int .i64 2) rfl rfl rfl rfl (fin rfl)
    · have H21 := cnd_f hb H19; clear H19
      refine c_skip ?_
      refine c_meet (r := r) (σ := Int × Int) (τ := Unit) (fun s => edit_size_j1 s.1 s.2) (fun s t => [(1, .int .i64 s.1), (2, .int .i64 s.2)]) (fun s t => []) (fun s t => True) ?_ ?_
      · refine c_seq ?_
        refine c_region ?_
        refine l_val rfl rfl rfl (r_move (v := v0) rfl) ?_
        refine l_val rfl rfl rfl (r_lenF Tryd.underlying27 rfl f0 rfl) ?_
        refine l_val rfl rfl rfl (r_move (v := .int .i64 0) rfl) ?_
        refine l_nil ?_
        refine c_block ?_
        refine c_fix (σ := Int × Int × Int) (τ := Unit) (fun next2 s => edit_size_l2 a0 next2 s.1 s.2.1 s.2.2) (fun s t => [(1, .int .i64 s.1), (2, .int .i64 s.2.1), (18, v0), (19, .int .i64 (a0.length : Int)), (20, .int .i64 s.2.2)]) (fun s t => []) (fun s t => True) (a1, a2, 0) () [] H21 (by exact trivial) (by exact ⟨rfl, rfl, rfl, rfl, rfl, trivial⟩) (by decide) rfl ?_
        rintro ⟨x1_3, x2_3, x20_2⟩ _ m2 gg H23 _
        clear H21
        replace H23 : edit_size_l2 a0 (it (fun next2 s => edit_size_l2 a0 next2 s.1 s.2.1 s.2.2) m2) x1_3 x2_3 x20_2 = some r := H23
        generalize hn2 : it (fun next2 s => edit_size_l2 a0 next2 s.1 s.2.1 s.2.2) m2 = next2 at H23
        refine c_tidyF [(1, .int .i64 x1_3), (2, .int .i64 x2_3), (18, v0), (19, .int .i64 (a0.length : Int)), (20, .int .i64 x20_2)] [] rfl rfl ?_
        refine c_seq ?_
        refine c_region ?_
        refine l_val rfl rfl rfl (r_lss rfl rfl) ?_
        refine l_nil ?_
        refine c_seq ?_
        refine c_if (b := (decide (x20_2 < (a0.length : Int)))) rfl (fun hb => ?_) (fun hb => ?_)
        · have H24 := cnd_t hb H23; clear H23
          refine c_skip ?_
          refine c_seq ?_
          refine c_block ?_
          refine c_seq ?_
          refine c_region ?_
          obtain ⟨t22, h_t22, H25⟩ := bnd_some H24; clear H24
          refine l_val rfl rfl rfl (r_indexF Tryd.underlying27 Tryd.sizeOf29 rfl rfl f0 h_t22) ?_
          refine l_read (fun w hF hS => run_loadGN (f := e_edit_Step) (i := x20_2) (sz := 5) (j := 0) (vs := [.int .i64 t22.Kind, .int .i64 t22.A, .int .i64 t22.B, .int .i64 t22.C, .int .i64 t22.D]) Tryd.isAgg29 Tryd.sizeOf29 rfl rfl (f0.row (hw.now hF)) h_t22 rfl) rfl rfl rfl ?_
          refine l_alloc (cs := [.int .i64 0, .int .i64 0, .int .i64 0, .int .i64 0, .int .i64 0]) Tryd.zeroValue29 rfl rfl rfl (fun b1 => ?_)
          refine l_store (i := 0) (vs := [.int .i64 t22.Kind, .int .i64 t22.A, .int .i64 t22.B, .int .i64 t22.C, .int .i64 t22.D]) (cs' := [.int .i64 t22.Kind, .int .i64 t22.A, .int .i64 t22.B, .int .i64 t22.C, .int .i64 t22.D]) Tryd.sizeOf29 rfl rfl rfl rfl rfl rfl rfl rfl rfl ?_
          refine l_nil ?_
          refine c_seq ?_
          refine c_region ?_
          refine l_val rfl rfl rfl (r_assign (v := .bool false) rfl) ?_
          refine l_nil ?_
          refine c_seq ?_
          refine c_region ?_
          refine l_loadN (i := 0) (vs := [.int .i64 t22.Kind, .int .i64 t22.A, .int .i64 t22.B, .int .i64 t22.C, .int .i64 t22.D]) Tryd.isAgg29 Tryd.sizeOf29 rfl rfl rfl rfl rfl ?_
          refine l_val rfl rfl rfl (r_move (v := .int .i64 x1_3) rfl) ?_
          refine l_val rfl rfl rfl (r_move (v := .int .i64 x2_3) rfl) ?_
          obtain ⟨t28, h_t28, H26⟩ := bnd_some H25; clear H25
          refine l_call (k26 h_t28) Tryd.call26 rfl rfl rfl ?_
          refine l_val rfl rfl rfl (r_move (v := .tuple #[.int .i64 t28.1, .int .i64 t28.2.1, .bool t28.2.2]) rfl) ?_
          refine l_val rfl rfl rfl (r_extract (v := .int .i64 t28.1) rfl rfl) ?_
          refine l_val rfl rfl rfl (r_extract (v := .int .i64 t28.2.1) rfl rfl) ?_
          refine l_val rfl rfl rfl (r_extract (v := .bool t28.2.2) rfl rfl) ?_
          refine l_val rfl rfl rfl (r_assign (v := .int .i64 t28.1) rfl) ?_
          refine l_val rfl rfl rfl (r_assign (v := .int .i64 t28.2.1) rfl) ?_
          refine l_val rfl rfl rfl (r_assign (v := .bool t28.2.2) rfl) ?_
          refine l_nil ?_
          refine c_seq ?_
          refine c_region ?_
          refine l_val rfl rfl rfl (r_move (v := .bool t28.2.2) rfl) ?_
          refine l_val rfl rfl rfl (r_not rfl) ?_
          refine l_nil ?_
          refine c_if (b := (!t28.2.2)) rfl (fun hb => ?_) (fun hb => ?_)
          · have H27 := cnd_t hb H26; clear H26
            refine c_seq ?_
            refine c_region ?_
            refine l_val rfl rfl rfl (r_assign (v := .int .i64 0) rfl) ?_
            refine l_val rfl rfl rfl (r_assign (v := .int .i64 0) rfl) ?_
            refine l_val rfl rfl rfl (r_assign (v := .int .i64 7) rfl) ?_
            refine l_nil ?_
            refine c_ret ?_
            obtain rfl := Option.some.inj H27
            refine ret3 (v1 := .int .i64 0) (v2 := .int .i64 0) (v3 := .int .i64 7) rfl rfl rfl rfl (fin rfl)
          · have H28 := cnd_f hb H26; clear H26
            refine c_skip ?_
            refine c_region ?_
            obtain ⟨t34, h_t34, H29⟩ := bnd_some H28; clear H28
            refine l_val rfl rfl rfl (r_addG rfl rfl h_t34) ?_
            refine l_val rfl rfl rfl (r_move (v := .int .i64 t34) rfl) ?_
            refine l_nil ?_
            refine c_close (t28.1, t28.2.1, t34) () m2 [] (by exact ⟨rfl, rfl, rfl, rfl, rfl, trivial⟩) (by decide) rfl (by exact ⟨(by subst hn2; exact H29), trivial⟩) (Nat.lt_succ_self _)
        · have H30 := cnd_f hb H23; clear H23
          refine c_exit ?_
          refine c_close (x1_3, x2_3) () 0 [] (by exact ⟨rfl, rfl, trivial⟩) (by decide) rfl (by exact ⟨H30, trivial⟩) (Nat.lt_succ_self _)
      · rintro ⟨x1, x2⟩ _ gg H22 _
        replace H22 : edit_size_j1 x1 x2 = some r := H22
        refine c_tidyF [(1, .int .i64 x1), (2, .int .i64 x2)] [] rfl rfl ?_
        refine c_seq ?_
        refine c_region ?_
        refine l_val rfl rfl rfl (r_move (v := .int .i64 x1) rfl) ?_
        refine l_val rfl rfl rfl (r_move (v := .int .i64 x2) rfl) ?_
        refine l_val rfl rfl rfl (r_assign (v := .int .i64 x1) rfl) ?_
        refine l_val rfl rfl rfl (r_assign (v := .int .i64 x2) rfl) ?_
        refine l_val rfl rfl rfl (r_assign (v := .int .i64 0) rfl) ?_
        refine l_nil ?_
        refine c_ret ?_
        obtain rfl := Option.some.inj H22
        refine ret3 (v1 := .int .i64 x1) (v2 := .int .i64 x2) (v3 := .int .i64 0) rfl rfl rfl rfl (fin rfl)
theorem k13 {a0 : T_api_Image} {v0_2 : Value} {a1 : Int} {r : T_api_Image × Int} {w : World} {h : Heap} (hw : Know h w noS) (f0_2 : FrS h 1 v0_2 (a0.Pixels.map e_u8)) (H : pix_Turn a0 a1 = some r) : Does Tryd.prog 13 (List.toArray [.agg #[.int .i64 a0.W, .int .i64 a0.H, v0_2], .int .i64 a1]) w (fun v w' => ∃ x : (Option Addr × Nat), v = (.tuple #[.agg #[.int .i64 r.1.W, .int .i64 r.1.H, .slice x.1 r.1.Pixels.length x.2], .int .i64 r.2]) ∧ Turn w w' noS (rowV 5 1 (.slice x.1 r.1.Pixels.length x.2) r.1.Pixels.length (r.1.Pixels.map e_u8))) := by
  refine enter (n := 19) Tryd.func13 rfl rfl rfl noS [] (Sat.nil _ _) ?_
  refine c_seq ?_
  refine c_region ?_
  refine l_box (cs := [.int .i64 a0.W, .int .i64 a0.H, v0_2]) rfl rfl rfl rfl (fun b2 => ?_)
  refine l_alloc (cs := [.int .i64 0, .int .i64 0, .slice none 0 0]) Tryd.zeroValue24 rfl rfl rfl (fun b3 => ?_)
  refine l_val rfl rfl rfl (r_assign (v := .int .i64 0) rfl) ?_
  refine l_nil ?_
  refine c_seq ?_
  refine c_seq ?_
  refine c_region ?_
  refine l_loadN (i := 0) (vs := [.int .i64 a0.W, .int .i64 a0.H, v0_2]) Tryd.isAgg24 Tryd.sizeOf24 rfl rfl rfl rfl rfl ?_
  obtain ⟨t8, h_t8, H8⟩ := bnd_some H; clear H
  refine l_callG (fun w hF hS => k11 (know_all w) (f0_2.mono (hw.now hF)) h_t8) Tryd.call11 rfl rfl rfl ?_
  refine l_val rfl rfl rfl (r_assign (v := .int .i64 t8) rfl) ?_
  refine l_nil ?_
  refine c_seq ?_
  refine c_region ?_
  refine l_val rfl rfl rfl (r_move (v := .int .i64 t8) rfl) ?_
  refine l_val rfl rfl rfl (r_neq rfl rfl) ?_
  refine l_nil ?_
  refine c_if (b := (decide (t8 ≠ 0))) rfl (fun hb => ?_) (fun hb => ?_)
  · have H9 := cnd_t hb H8; clear H8
    refine c_seq ?_
    refine c_region ?_
    refine l_val rfl rfl rfl (r_build (pl := #[(0, 1), (1, 1), (2, 1)]) (ps := []) (cells := #[.int .i64 0, .int .i64 0, .slice none 0 0]) Tryd.zeroValue24 Tryd.runUnderlying24 (fun w => by kernel_rfl) rfl rfl) ?_
    refine l_val rfl rfl rfl (r_move (v := .int .i64 t8) rfl) ?_
    refine l_store (i := 1) (vs := [.int .i64 0, .int .i64 0, .slice none 0 0]) (cs' := [.int .i64 0, .int .i64 0, .slice none 0 0]) Tryd.sizeOf24 rfl rfl rfl rfl rfl rfl rfl rfl rfl ?_
    refine l_val rfl rfl rfl (r_assign (v := .int .i64 t8) rfl) ?_
    refine l_nil ?_
    refine c_ret ?_
    refine c_nilRow 5 1 ?_
    obtain rfl := Option.some.inj H9
    refine retCt (i := 1) (vs := [.int .i64 0, .int .i64 0, .slice ((none, 0) : Option Addr × Nat).1 ([] : List Int).length ((none, 0) : Option Addr × Nat).2]) (v2 := .int .i64 t8) Tryd.isAgg24 Tryd.sizeOf24 rfl rfl rfl rfl rfl (finX ((none, 0) : Option Addr × Nat) (i := 2) rfl rfl (Imp.refl _))
  · have H10 := cnd_f hb H8; clear H8
    refine c_skip ?_
    refine c_seq ?_
    refine c_seq ?_
    refine c_region ?_
    refine l_val rfl rfl rfl (r_move (v := .int .i64 a1) rfl) ?_
    obtain ⟨t14, h_t14, H11⟩ := bnd_some H10; clear H10
    refine l_call (k24 h_t14) Tryd.call24 rfl rfl rfl ?_
    refine l_nil ?_
    refine c_if (b := t14) rfl (fun hb => ?_) (fun hb => ?_)
    · have H12 := cnd_t hb H11; clear H11
      refine c_seq ?_
      refine c_region ?_
      refine l_val rfl rfl rfl (r_build (pl := #[(0, 1), (1, 1), (2, 1)]) (ps := []) (cells := #[.int .i64 0, .int .i64 0, .slice none 0 0]) Tryd.zeroValue24 Tryd.runUnderlying24 (fun w => by kernel_rfl) rfl rfl) ?_
      refine l_store (i := 1) (vs := [.int .i64 0, .int .i64 0, .slice none 0 0]) (cs' := [.int .i64 0, .int .i64 0, .slice none 0 0]) Tryd.sizeOf24 rfl rfl rfl rfl rfl rfl rfl rfl rfl ?_
      refine l_val rfl rfl rfl (r_assign (v := .int .i64 2) rfl) ?_
      refine l_nil ?_
      refine c_ret ?_
      refine c_nilRow 5 1 ?_
      obtain rfl := Option.some.inj H12
      refine retCt (i := 1) (vs := [.int .i64 0, .int .i64 0, .slice ((none, 0) : Option Addr × Nat).1 ([] : List Int).length ((none, 0) : Option Addr × Nat).2]) (v2 := .int .i64 2) Tryd.isAgg24 Tryd.sizeOf24 rfl rfl rfl rfl rfl (finX ((none, 0) : Option Addr × Nat) (i := 2) rfl rfl (Imp.refl _))
    · have H13 := cnd_f hb H11; clear H11
      refine c_skip ?_
      refine c_seq ?_
      refine c_region ?_
      refine l_loadN (i := 0) (vs := [.int .i64 a0.W, .int .i64 a0.H, v0_2]) Tryd.isAgg24 Tryd.sizeOf24 rfl rfl rfl rfl rfl ?_
      refine l_val rfl rfl rfl (r_move (v := .int .i64 a1) rfl) ?_
      obtain ⟨t18, h_t18, H14⟩ := bnd_some H13; clear H13
      refine l_make (makes_call (rds := []) (G := fun x : (Option Addr × Nat) => .agg #[.int .i64 t18.W, .int .i64 t18.H, .slice x.1 t18.Pixels.length x.2]) (C := fun x : (Option Addr × Nat) => rowV 5 1 (.slice x.1 t18.Pixels.length x.2) t18.Pixels.length (t18.Pixels.map e_u8)) (fun w L' hF hS hi => k18 (know_all w) (f0_2.mono (hw.now hF)) h_t18) Tryd.call18 rfl) rfl rfl rfl (fun p => ?_)
      refine l_store (i := 1) (vs := [.int .i64 t18.W, .int .i64 t18.H, .slice p.1 t18.Pixels.length p.2]) (cs' := [.int .i64 t18.W, .int .i64 t18.H, .slice p.1 t18.Pixels.length p.2]) Tryd.sizeOf24 rfl rfl rfl rfl rfl rfl rfl rfl rfl ?_
      refine l_val rfl rfl rfl (r_assign (v := .int .i64 0) rfl) ?_
      refine l_nil ?_
      refine c_ret ?_
      obtain rfl := Option.some.inj H14
      refine retCt (i := 1) (vs := [.int .i64 t18.W, .int .i64 t18.H, .slice p.1 t18.Pixels.length p.2]) (v2 := .int .i64 0) Tryd.isAgg24 Tryd.sizeOf24 rfl rfl rfl rfl rfl (finX p (i := 2) rfl rfl (Imp.refl _))
theorem k40 {a0 : Int} {a1 : Int} {a2 : Int} {r : (List T_pix_share)} {w : World} {h : Heap} (hw : Know h w noS) (H : pix_shares a0 a1 a2 = some r) : Does Tryd.prog 40 (List.toArray [.int .i64 a0, .int .i64 a1, .int .i64 a2]) w (fun v w' => ∃ x : (Option Addr × Nat), v = (.slice x.1 r.length x.2) ∧ Turn w w' noS (rowV 94 2 (.slice x.1 r.length x.2) r.length (r.map e_pix_share))) := by
  refine enter (n := 42) Tryd.func40 rfl rfl rfl noS [] (Sat.nil _ _) ?_
  refine c_seq ?_
  refine c_region ?_
  refine l_val rfl rfl rfl (r_assign (v := .slice none 0 0) rfl) ?_
  refine l_nil ?_
  refine c_seq ?_
  refine c_region ?_
  refine l_val rfl rfl rfl (r_assign (v := .slice none 0 0) rfl) ?_
  refine l_nil ?_
  refine c_seq ?_
  refine c_seq ?_
  refine c_region ?_
  refine l_val rfl rfl rfl (r_move (v := .int .i64 a0) rfl) ?_
  refine l_val rfl rfl rfl (r_move (v := .int .i64 a2) rfl) ?_
  obtain ⟨t13, h_t13, H14⟩ := bnd_some H; clear H
  refine l_val rfl rfl rfl (r_mulG rfl rfl h_t13) ?_
  refine l_val rfl rfl rfl (r_assign (v := .int .i64 t13) rfl) ?_
  refine l_nil ?_
  refine c_block ?_
  refine c_nilRow 94 2 ?_
  refine c_fix (σ := Int × (List T_pix_share)) (τ := (Option Addr × Nat)) (fun next1 s => pix_shares_l1 a0 a1 a2 next1 s.1 s.2) (fun s t => [(0, .int .i64 a0), (1, .int .i64 a1), (2, .int .i64 a2), (7, .slice t.1 s.2.length t.2), (8, .int .i64 s.1)]) (fun s t => [rowV 94 2 (.slice t.1 s.2.length t.2) s.2.length (s.2.map e_pix_share)]) (fun s t => True) (t13, ([] : List T_pix_share)) ((none, 0) : Option Addr × Nat) [0] H14 (by exact trivial) (by exact ⟨rfl, rfl, rfl, rfl, rfl, trivial⟩) (by decide) rfl ?_
  rintro ⟨x8_2, l_2⟩ p m1 gg H15 _
  clear H14
  replace H15 : pix_shares_l1 a0 a1 a2 (it (fun next1 s => pix_shares_l1 a0 a1 a2 next1 s.1 s.2) m1) x8_2 l_2 = some r := H15
  generalize hn1 : it (fun next1 s => pix_shares_l1 a0 a1 a2 next1 s.1 s.2) m1 = next1 at H15
  refine c_tidyF [(0, .int .i64 a0), (1, .int .i64 a1), (2, .int .i64 a2), (7, .slice p.1 l_2.length p.2), (8, .int .i64 x8_2)] [rowV 94 2 (.slice p.1 l_2.length p.2) l_2.length (l_2.map e_pix_share)] rfl rfl ?_
  refine c_seq ?_
  refine c_seq ?_
  refine c_region ?_
  refine l_val rfl rfl rfl (r_move (v := .int .i64 x8_2) rfl) ?_
  refine l_val rfl rfl rfl (r_move (v := .int .i64 a0) rfl) ?_
  refine l_val rfl rfl rfl (r_move (v := .int .i64 a2) rfl) ?_
  obtain ⟨t17, h_t17, H16⟩ := bnd_some H15; clear H15
  refine l_val rfl rfl rfl (r_addG rfl rfl h_t17) ?_
  obtain ⟨t18, h_t18, H17⟩ := bnd_some H16; clear H16
  refine l_val rfl rfl rfl (r_mulG rfl rfl h_t18) ?_
  refine l_val rfl rfl rfl (r_lss rfl rfl) ?_
  refine l_nil ?_
  refine c_if (b := (decide (x8_2 < t18))) rfl (fun hb => ?_) (fun hb => ?_)
  · have H18 := cnd_t hb H17; clear H17
    refine c_skip ?_
    refine c_block ?_
    refine c_seq ?_
    refine c_region ?_
    refine l_val rfl rfl rfl (r_move (v := .int .i64 x8_2) rfl) ?_
    refine l_val rfl rfl rfl (r_move (v := .int .i64 a1) rfl) ?_
    obtain ⟨t22, h_t22, H19⟩ := bnd_some H18; clear H18
    refine l_val rfl rfl rfl (r_quoG rfl rfl h_t22) ?_
    refine l_val rfl rfl rfl (r_assign (v := .int .i64 t22) rfl) ?_
    refine l_nil ?_
    refine c_seq ?_
    refine c_region ?_
    refine l_val rfl rfl rfl (r_move (v := .int .i64 t22) rfl) ?_
    obtain ⟨t24, h_t24, H20⟩ := bnd_some H19; clear H19
    refine l_val rfl rfl rfl (r_addG rfl rfl h_t24) ?_
    refine l_val rfl rfl rfl (r_move (v := .int .i64 a1) rfl) ?_
    obtain ⟨t26, h_t26, H21⟩ := bnd_some H20; clear H20
    refine l_val rfl rfl rfl (r_mulG rfl rfl h_t26) ?_
    refine l_val rfl rfl rfl (r_move (v := .int .i64 a0) rfl) ?_
    refine l_val rfl rfl rfl (r_move (v := .int .i64 a2) rfl) ?_
    obtain ⟨t29, h_t29, H22⟩ := bnd_some H21; clear H21
    refine l_val rfl rfl rfl (r_addG rfl rfl h_t29) ?_
    obtain ⟨t30, h_t30, H23⟩ := bnd_some H22; clear H22
    refine l_val rfl rfl rfl (r_mulG rfl rfl h_t30) ?_
    refine l_val rfl rfl rfl (r_min rfl rfl) ?_
    refine l_val rfl rfl rfl (r_assign (v := .int .i64 (min t26 t30)) rfl) ?_
    refine l_nil ?_
    refine c_seq ?_
    refine c_region ?_
    refine l_val rfl rfl rfl (r_move (v := .slice p.1 l_2.length p.2) rfl) ?_
    refine l_val rfl rfl rfl (r_move (v := .int .i64 t22) rfl) ?_
    refine l_val rfl rfl rfl (r_move (v := .int .i64 (min t26 t30)) rfl) ?_
    refine l_val rfl rfl rfl (r_move (v := .int .i64 x8_2) rfl) ?_
    obtain ⟨t36, h_t36, H24⟩ := bnd_some H23; clear H23
    refine l_val rfl rfl rfl (r_subG rfl rfl h_t36) ?_
    refine l_val rfl rfl rfl (r_build (pl := #[(0, 1), (1, 1)]) (ps := [(0, .int .i64 t22), (1, .int .i64 t36)]) (cells := #[.int .i64 t22, .int .i64 t36]) Tryd.zeroValue94 Tryd.runUnderlying94 (fun w => by kernel_rfl) rfl rfl) ?_
    refine l_buildSlice (vs := [.agg #[.int .i64 t22, .int .i64 t36]]) (cs := [.int .i64 t22, .int .i64 t36]) Tryd.underlying90 Tryd.sizeOf94 Tryd.zeroValue94 rfl rfl rfl rfl rfl rfl rfl (fun b1 => ?_)
    obtain ⟨l39, h_l39, H25⟩ := bnd_some H24; clear H24
    refine l_turn (turns_appG (i := 0) (hn := rfl) (rds := [1]) (p := p) (sz := 2) (by_ := 16) (f := e_pix_share) (ys := l_2) (ls := ([(⟨t22, t36⟩ : T_pix_share)] : List T_pix_share)) (V := .slice (some ⟨b1, 0, none⟩) 1 1) Tryd.underlying90 (info_of Tryd.typeInfo94) rfl rfl rfl rfl rfl rfl rfl rfl rfl rfl (fun w L' hF hS hi => row_box (i := 1) hS ((hi 1 (by simp)).trans rfl) rfl rfl) (fun _ => rfl) (fun _ => rfl) h_l39) rfl rfl rfl (fun p_2 => ?_)
    refine l_val rfl rfl rfl (r_assign (v := .slice p_2.1 l39.length p_2.2) rfl) ?_
    refine l_nil ?_
    refine c_region ?_
    refine l_val rfl rfl rfl (r_move (v := .int .i64 (min t26 t30)) rfl) ?_
    refine l_val rfl rfl rfl (r_assign (v := .int .i64 (min t26 t30)) rfl) ?_
    refine l_nil ?_
    refine c_close ((min t26 t30), l39) p_2 m1 [0] (by exact ⟨rfl, rfl, rfl, rfl, rfl, trivial⟩) (by decide) rfl (by exact ⟨(by subst hn1; exact H25), trivial⟩) (Nat.lt_succ_self _)
  · have H26 := cnd_f hb H17; clear H17
    refine c_exit ?_
    refine c_seq ?_
    refine c_region ?_
    refine l_val rfl rfl rfl (r_move (v := .slice p.1 l_2.length p.2) rfl) ?_
    refine l_val rfl rfl rfl (r_assign (v := .slice p.1 l_2.length p.2) rfl) ?_
    refine l_nil ?_
    refine c_ret ?_
    obtain rfl := Option.some.inj H26
    refine ret1 (v := .slice p.1 l_2.length p.2) rfl rfl (finX p (i := 0) rfl rfl (Imp.refl _))
theorem k30 {a0 : T_api_Image} {v0_2 : Value} {a1 : Int} {a2 : Int} {r : T_api_Image} {w : World} {h : Heap} (hw : Know h w noS) (f0_2 : FrS h 1 v0_2 (a0.Pixels.map e_u8)) (H : pix_scaled a0 a1 a2 = some r) : Does Tryd.prog 30 (List.toArray [.agg #[.int .i64 a0.W, .int .i64 a0.H, v0_2], .int .i64 a1, .int .i64 a2]) w (fun v w' => ∃ x : (Option Addr × Nat), v = (.agg #[.int .i64 r.W, .int .i64 r.H, .slice x.1 r.Pixels.length x.2]) ∧ Turn w w' noS (rowV 5 1 (.slice x.1 r.Pixels.length x.2) r.Pixels.length (r.Pixels.map e_u8))) := by
  refine enter (n := 111) Tryd.func30 rfl rfl rfl noS [] (Sat.nil _ _) ?_
  refine c_seq ?_
  refine c_region ?_
  refine l_box (cs := [.int .i64 a0.W, .int .i64 a0.H, v0_2]) rfl rfl rfl rfl (fun b7 => ?_)
  refine l_alloc (cs := [.int .i64 0, .int .i64 0, .slice none 0 0]) Tryd.zeroValue24 rfl rfl rfl (fun b8 => ?_)
  refine l_nil ?_
  refine c_seq ?_
  refine c_region ?_
  refine l_val rfl rfl rfl (r_move (v := .int .i64 a1) rfl) ?_
  refine l_val rfl rfl rfl (r_move (v := .int .i64 a2) rfl) ?_
  obtain ⟨t25, h_t25, H53⟩ := bnd_some H; clear H
  refine l_make (makes_call (rds := []) (G := fun x : (Option Addr × Nat) => .agg #[.int .i64 t25.W, .int .i64 t25.H, .slice x.1 t25.Pixels.length x.2]) (C := fun x : (Option Addr × Nat) => rowV 5 1 (.slice x.1 t25.Pixels.length x.2) t25.Pixels.length (t25.Pixels.map e_u8)) (fun w L' hF hS hi => k27 (know_all w)  h_t25) Tryd.call27 rfl) rfl rfl rfl (fun p => ?_)
  refine l_alloc (cs := [.int .i64 0, .int .i64 0, .slice none 0 0]) Tryd.zeroValue24 rfl rfl rfl (fun b9 => ?_)
  refine l_store (i := 3) (vs := [.int .i64 t25.W, .int .i64 t25.H, .slice p.1 t25.Pixels.length p.2]) (cs' := [.int .i64 t25.W, .int .i64 t25.H, .slice p.1 t25.Pixels.length p.2]) Tryd.sizeOf24 rfl rfl rfl rfl rfl rfl rfl rfl rfl ?_
  refine l_nil ?_
  refine c_seq ?_
  refine c_region ?_
  refine l_val rfl rfl rfl (r_field Tryd.runUnderlying24 rfl Tryd.sizeOf3 rfl rfl) ?_
  refine l_load1 (i := 0) (v := .int .i64 a0.W) Tryd.isAgg3 rfl rfl rfl rfl rfl ?_
  refine l_val rfl rfl rfl (r_field Tryd.runUnderlying24 rfl Tryd.sizeOf3 rfl rfl) ?_
  refine l_load1 (i := 0) (v := .int .i64 a0.H) Tryd.isAgg3 rfl rfl rfl rfl rfl ?_
  obtain ⟨t30, h_t30, H54⟩ := bnd_some H53; clear H53
  refine l_val rfl rfl rfl (r_mulG rfl rfl h_t30) ?_
  refine l_val rfl rfl rfl (r_assign (v := .int .i64 t30) rfl) ?_
  refine l_nil ?_
  refine c_meet (r := r) (σ := (List Int)) (τ := (Option Addr × Nat) × Nat) (fun s => pix_scaled_j1 t25 s) (fun s t => [(6, .pointer (some ⟨b8, 0, none⟩)), (7, .pointer (some ⟨b9, 0, none⟩))]) (fun s t => [cellsC b8 [.int .i64 0, .int .i64 0, .slice none 0 0] 24, rowV 5 1 (.slice t.1.1 t.2 t.1.2) t.2 (s.map e_u8), cellsC b9 [.int .i64 t25.W, .int .i64 t25.H, .slice t.1.1 t.2 t.1.2] 24]) (fun s t => t.2 = s.length) ?_ ?_
  · refine c_seq ?_
    refine c_region ?_
    refine l_val rfl rfl rfl (r_move (v := .int .i64 a2) rfl) ?_
    refine l_val rfl rfl rfl (r_move (v := .int .i64 0) rfl) ?_
    refine l_nil ?_
    refine c_block ?_
    refine c_fix (σ := Int × (List Int) × (List Int)) (τ := Value × (Option Addr × Nat) × Nat) (fun next2 s => pix_scaled_l2 a0 a1 a2 t25 t30 next2 s.1 s.2.1 s.2.2) (fun s t => [(1, .int .i64 a1), (2, .int .i64 a2), (3, .pointer (some ⟨b7, 0, none⟩)), (6, .pointer (some ⟨b8, 0, none⟩)), (7, .pointer (some ⟨b9, 0, none⟩)), (8, .int .i64 t30), (31, .int .i64 a2), (32, .int .i64 s.1)]) (fun s t => [cellsC b7 [.int .i64 a0.W, .int .i64 a0.H, t.1] 24, cellsC b8 [.int .i64 0, .int .i64 0, .slice none 0 0] 24, rowV 5 1 (.slice t.2.1.1 t.2.2 t.2.1.2) t.2.2 (s.2.2.map e_u8), cellsC b9 [.int .i64 t25.W, .int .i64 t25.H, .slice t.2.1.1 t.2.2 t.2.1.2] 24]) (fun s t => FrS h 1 t.1 (s.2.1.map e_u8) ∧ t.2.2 = s.2.2.length) (0, a0.Pixels, t25.Pixels) (v0_2, p, t25.Pixels.length) [0, 1, 2, 3] H54 (by exact ⟨f0_2, rfl⟩) (by exact ⟨rfl, rfl, rfl, rfl, rfl, rfl, rfl, rfl, trivial⟩) (by decide) rfl ?_
    rintro ⟨x32_2, m_2, l_3⟩ ⟨gv, p_3, n_2⟩ m2 gg H56 ⟨gf_2, hl_3⟩
    clear H54
    replace H56 : pix_scaled_l2 a0 a1 a2 t25 t30 (it (fun next2 s => pix_scaled_l2 a0 a1 a2 t25 t30 next2 s.1 s.2.1 s.2.2) m2) x32_2 m_2 l_3 = some r := H56
    generalize hn2 : it (fun next2 s => pix_scaled_l2 a0 a1 a2 t25 t30 next2 s.1 s.2.1 s.2.2) m2 = next2 at H56
    refine c_tidyF [(1, .int .i64 a1), (2, .int .i64 a2), (3, .pointer (some ⟨b7, 0, none⟩)), (6, .pointer (some ⟨b8, 0, none⟩)), (7, .pointer (some ⟨b9, 0, none⟩)), (8, .int .i64 t30), (31, .int .i64 a2), (32, .int .i64 x32_2)] [cellsC b7 [.int .i64 a0.W, .int .i64 a0.H, gv] 24, cellsC b8 [.int .i64 0, .int .i64 0, .slice none 0 0] 24, rowV 5 1 (.slice p_3.1 n_2 p_3.2) n_2 (l_3.map e_u8), cellsC b9 [.int .i64 t25.W, .int .i64 t25.H, .slice p_3.1 n_2 p_3.2] 24] rfl rfl ?_
    refine c_seq ?_
    refine c_region ?_
    refine l_val rfl rfl rfl (r_lss rfl rfl) ?_
    refine l_nil ?_
    refine c_seq ?_
    refine c_if (b := (decide (x32_2 < a2))) rfl (fun hb => ?_) (fun hb => ?_)
    · have H57 := cnd_t hb H56; clear H56
      refine c_skip ?_
      refine c_meet (r := r) (σ := (List Int)) (τ := Unit) (fun s => pix_scaled_j3 x32_2 m_2 next2 s) (fun s t => [(1, .int .i64 a1), (2, .int .i64 a2), (3, .pointer (some ⟨b7, 0, none⟩)), (6, .pointer (some ⟨b8, 0, none⟩)), (7, .pointer (some ⟨b9, 0, none⟩)), (8, .int .i64 t30), (31, .int .i64 a2), (32, .int .i64 x32_2)]) (fun s t => [cellsC b7 [.int .i64 a0.W, .int .i64 a0.H, gv] 24, cellsC b8 [.int .i64 0, .int .i64 0, .slice none 0 0] 24, rowV 5 1 (.slice p_3.1 n_2 p_3.2) n_2 (s.map e_u8), cellsC b9 [.int .i64 t25.W, .int .i64 t25.H, .slice p_3.1 n_2 p_3.2] 24]) (fun s t => n_2 = s.length) ?_ ?_
      · refine c_block ?_
        refine c_seq ?_
        refine c_region ?_
        refine l_val rfl rfl rfl (r_move (v := .int .i64 x32_2) rfl) ?_
        refine l_val rfl rfl rfl (r_assign (v := .int .i64 x32_2) rfl) ?_
        refine l_nil ?_
        refine c_seq ?_
        refine c_region ?_
        refine l_val rfl rfl rfl (r_field Tryd.runUnderlying24 rfl Tryd.sizeOf3 rfl rfl) ?_
        refine l_load1 (i := 0) (v := .int .i64 a0.H) Tryd.isAgg3 rfl rfl rfl rfl rfl ?_
        refine l_val rfl rfl rfl (r_move (v := .int .i64 a2) rfl) ?_
        refine l_val rfl rfl rfl (r_move (v := .int .i64 x32_2) rfl) ?_
        obtain ⟨t39, h_t39, H60⟩ := bnd_some H57; clear H57
        refine l_make (makes_call (rds := []) (G := fun x : (Option Addr × Nat) => .slice x.1 t39.length x.2) (C := fun x : (Option Addr × Nat) => rowV 94 2 (.slice x.1 t39.length x.2) t39.length (t39.map e_pix_share)) (fun w L' hF hS hi => k40 (know_all w)  h_t39) Tryd.call40 rfl) rfl rfl rfl (fun p_4 => ?_)
        refine l_val rfl rfl rfl (r_assign (v := .slice p_4.1 t39.length p_4.2) rfl) ?_
        refine l_nil ?_
        refine c_seq ?_
        refine c_region ?_
        refine l_val rfl rfl rfl (r_move (v := .int .i64 a1) rfl) ?_
        refine l_val rfl rfl rfl (r_move (v := .int .i64 0) rfl) ?_
        refine l_nil ?_
        refine c_block ?_
        refine c_fix (σ := Int × (List Int)) (τ := Unit) (fun next4 s => pix_scaled_l4 a0 a1 t25 t30 x32_2 m_2 next2 t39 next4 s.1 s.2) (fun s t => [(1, .int .i64 a1), (2, .int .i64 a2), (3, .pointer (some ⟨b7, 0, none⟩)), (6, .pointer (some ⟨b8, 0, none⟩)), (7, .pointer (some ⟨b9, 0, none⟩)), (8, .int .i64 t30), (9, .int .i64 x32_2), (10, .slice p_4.1 t39.length p_4.2), (31, .int .i64 a2), (32, .int .i64 x32_2), (40, .int .i64 a1), (41, .int .i64 s.1)]) (fun s t => [cellsC b7 [.int .i64 a0.W, .int .i64 a0.H, gv] 24, cellsC b8 [.int .i64 0, .int .i64 0, .slice none 0 0] 24, rowV 5 1 (.slice p_3.1 n_2 p_3.2) n_2 (s.2.map e_u8), cellsC b9 [.int .i64 t25.W, .int .i64 t25.H, .slice p_3.1 n_2 p_3.2] 24, rowV 94 2 (.slice p_4.1 t39.length p_4.2) t39.length (t39.map e_pix_share)]) (fun s t => n_2 = s.2.length) (0, l_3) () [0, 1, 2, 3, 4] H60 (by exact hl_3) (by exact ⟨rfl, rfl, rfl, rfl, rfl, rfl, rfl, rfl, rfl, rfl, rfl, rfl, trivial⟩) (by decide) rfl ?_
        rintro ⟨x41_2, l_6⟩ _ m4 gg H61 hl_6
        clear H60
        replace H61 : pix_scaled_l4 a0 a1 t25 t30 x32_2 m_2 next2 t39 (it (fun next4 s => pix_scaled_l4 a0 a1 t25 t30 x32_2 m_2 next2 t39 next4 s.1 s.2) m4) x41_2 l_6 = some r := H61
        generalize hn4 : it (fun next4 s => pix_scaled_l4 a0 a1 t25 t30 x32_2 m_2 next2 t39 next4 s.1 s.2) m4 = next4 at H61
        refine c_tidyF [(1, .int .i64 a1), (2, .int .i64 a2), (3, .pointer (some ⟨b7, 0, none⟩)), (6, .pointer (some ⟨b8, 0, none⟩)), (7, .pointer (some ⟨b9, 0, none⟩)), (8, .int .i64 t30), (9, .int .i64 x32_2), (10, .slice p_4.1 t39.length p_4.2), (31, .int .i64 a2), (32, .int .i64 x32_2), (40, .int .i64 a1), (41, .int .i64 x41_2)] [cellsC b7 [.int .i64 a0.W, .int .i64 a0.H, gv] 24, cellsC b8 [.int .i64 0, .int .i64 0, .slice none 0 0] 24, rowV 5 1 (.slice p_3.1 n_2 p_3.2) n_2 (l_6.map e_u8), cellsC b9 [.int .i64 t25.W, .int .i64 t25.H, .slice p_3.1 n_2 p_3.2] 24, rowV 94 2 (.slice p_4.1 t39.length p_4.2) t39.length (t39.map e_pix_share)] rfl rfl ?_
        refine c_seq ?_
        refine c_region ?_
        refine l_val rfl rfl rfl (r_lss rfl rfl) ?_
        refine l_nil ?_
        refine c_seq ?_
        refine c_if (b := (decide (x41_2 < a1))) rfl (fun hb => ?_) (fun hb => ?_)
        · have H62 := cnd_t hb H61; clear H61
          refine c_skip ?_
          refine c_meet (r := r) (σ := (List Int)) (τ := Unit) (fun s => pix_scaled_j5 x41_2 next4 s) (fun s t => [(1, .int .i64 a1), (2, .int .i64 a2), (3, .pointer (some ⟨b7, 0, none⟩)), (6, .pointer (some ⟨b8, 0, none⟩)), (7, .pointer (some ⟨b9, 0, none⟩)), (8, .int .i64 t30), (9, .int .i64 x32_2), (10, .slice p_4.1 t39.length p_4.2), (31, .int .i64 a2), (32, .int .i64 x32_2), (40, .int .i64 a1), (41, .int .i64 x41_2)]) (fun s t => [cellsC b7 [.int .i64 a0.W, .int .i64 a0.H, gv] 24, cellsC b8 [.int .i64 0, .int .i64 0, .slice none 0 0] 24, rowV 5 1 (.slice p_3.1 n_2 p_3.2) n_2 (s.map e_u8), cellsC b9 [.int .i64 t25.W, .int .i64 t25.H, .slice p_3.1 n_2 p_3.2] 24, rowV 94 2 (.slice p_4.1 t39.length p_4.2) t39.length (t39.map e_pix_share)]) (fun s t => n_2 = s.length) ?_ ?_
          · refine c_block ?_
            refine c_seq ?_
            refine c_region ?_
            refine l_val rfl rfl rfl (r_move (v := .int .i64 x41_2) rfl) ?_
            refine l_val rfl rfl rfl (r_assign (v := .int .i64 x41_2) rfl) ?_
            refine l_nil ?_
            refine c_seq ?_
            refine c_region ?_
            refine l_alloc (cs := [.int .i64 0, .int .i64 0, .int .i64 0]) Tryd.zeroValue92 rfl rfl rfl (fun b10 => ?_)
            refine l_nil ?_
            refine c_seq ?_
            refine c_region ?_
            refine l_val rfl rfl rfl (r_field Tryd.runUnderlying24 rfl Tryd.sizeOf3 rfl rfl) ?_
            refine l_load1 (i := 0) (v := .int .i64 a0.W) Tryd.isAgg3 rfl rfl rfl rfl rfl ?_
            refine l_val rfl rfl rfl (r_move (v := .int .i64 a1) rfl) ?_
            refine l_val rfl rfl rfl (r_move (v := .int .i64 x41_2) rfl) ?_
            obtain ⟨t48, h_t48, H65⟩ := bnd_some H62; clear H62
            refine l_make (makes_call (rds := []) (G := fun x : (Option Addr × Nat) => .slice x.1 t48.length x.2) (C := fun x : (Option Addr × Nat) => rowV 94 2 (.slice x.1 t48.length x.2) t48.length (t48.map e_pix_share)) (fun w L' hF hS hi => k40 (know_all w)  h_t48) Tryd.call40 rfl) rfl rfl rfl (fun p_5 => ?_)
            refine l_val rfl rfl rfl (r_assign (v := .slice p_5.1 t48.length p_5.2) rfl) ?_
            refine l_nil ?_
            refine c_meet (r := r) (σ := (Nat → Int)) (τ := Unit) (fun s => pix_scaled_j6 t25 t30 x32_2 x41_2 l_6 next4 s) (fun s t => [(1, .int .i64 a1), (2, .int .i64 a2), (3, .pointer (some ⟨b7, 0, none⟩)), (6, .pointer (some ⟨b8, 0, none⟩)), (7, .pointer (some ⟨b9, 0, none⟩)), (8, .int .i64 t30), (9, .int .i64 x32_2), (10, .slice p_4.1 t39.length p_4.2), (11, .int .i64 x41_2), (12, .pointer (some ⟨b10, 0, none⟩)), (31, .int .i64 a2), (32, .int .i64 x32_2), (40, .int .i64 a1), (41, .int .i64 x41_2)]) (fun s t => [cellsC b7 [.int .i64 a0.W, .int .i64 a0.H, gv] 24, cellsC b8 [.int .i64 0, .int .i64 0, .slice none 0 0] 24, rowV 5 1 (.slice p_3.1 n_2 p_3.2) n_2 (l_6.map e_u8), cellsC b9 [.int .i64 t25.W, .int .i64 t25.H, .slice p_3.1 n_2 p_3.2] 24, rowV 94 2 (.slice p_4.1 t39.length p_4.2) t39.length (t39.map e_pix_share), cellsC b10 [.int .i64 (s 0), .int .i64 (s 1), .int .i64 (s 2)] 92]) (fun s t => True) ?_ ?_
            · refine c_seq ?_
              refine c_region ?_
              refine l_val rfl rfl rfl (r_move (v := .slice p_4.1 t39.length p_4.2) rfl) ?_
              refine l_val rfl rfl rfl (r_len Tryd.underlying90 rfl) ?_
              refine l_val rfl rfl rfl (r_move (v := .int .i64 0) rfl) ?_
              refine l_nil ?_
              refine c_block ?_
              refine c_fix (σ := Int × (Nat → Int)) (τ := Unit) (fun next9 s => pix_scaled_l9 a0 t25 t30 x32_2 m_2 t39 x41_2 l_6 next4 t48 next9 s.1 s.2) (fun s t => [(1, .int .i64 a1), (2, .int .i64 a2), (3, .pointer (some ⟨b7, 0, none⟩)), (6, .pointer (some ⟨b8, 0, none⟩)), (7, .pointer (some ⟨b9, 0, none⟩)), (8, .int .i64 t30), (9, .int .i64 x32_2), (10, .slice p_4.1 t39.length p_4.2), (11, .int .i64 x41_2), (12, .pointer (some ⟨b10, 0, none⟩)), (13, .slice p_5.1 t48.length p_5.2), (31, .int .i64 a2), (32, .int .i64 x32_2), (40, .int .i64 a1), (41, .int .i64 x41_2), (49, .slice p_4.1 t39.length p_4.2), (50, .int .i64 (t39.length : Int)), (51, .int .i64 s.1)]) (fun s t => [cellsC b7 [.int .i64 a0.W, .int .i64 a0.H, gv] 24, cellsC b8 [.int .i64 0, .int .i64 0, .slice none 0 0] 24, rowV 5 1 (.slice p_3.1 n_2 p_3.2) n_2 (l_6.map e_u8), cellsC b9 [.int .i64 t25.W, .int .i64 t25.H, .slice p_3.1 n_2 p_3.2] 24, rowV 94 2 (.slice p_4.1 t39.length p_4.2) t39.length (t39.map e_pix_share), cellsC b10 [.int .i64 (s.2 0), .int .i64 (s.2 1), .int .i64 (s.2 2)] 92, rowV 94 2 (.slice p_5.1 t48.length p_5.2) t48.length (t48.map e_pix_share)]) (fun s t => True) (0, (fun _ => 0)) () [0, 1, 2, 3, 4, 5, 6] H65 (by exact trivial) (by exact ⟨rfl, rfl, rfl, rfl, rfl, rfl, rfl, rfl, rfl, rfl, rfl, rfl, rfl, rfl, rfl, rfl, rfl, rfl, trivial⟩) (by decide) rfl ?_
              rintro ⟨x51_2, m_8⟩ _ m9 gg H79 _
              clear H65
              replace H79 : pix_scaled_l9 a0 t25 t30 x32_2 m_2 t39 x41_2 l_6 next4 t48 (it (fun next9 s => pix_scaled_l9 a0 t25 t30 x32_2 m_2 t39 x41_2 l_6 next4 t48 next9 s.1 s.2) m9) x51_2 m_8 = some r := H79
              generalize hn9 : it (fun next9 s => pix_scaled_l9 a0 t25 t30 x32_2 m_2 t39 x41_2 l_6 next4 t48 next9 s.1 s.2) m9 = next9 at H79
              refine c_tidyF [(1, .int .i64 a1), (2, .int .i64 a2), (3, .pointer (some ⟨b7, 0, none⟩)), (6, .pointer (some ⟨b8, 0, none⟩)), (7, .pointer (some ⟨b9, 0, none⟩)), (8, .int .i64 t30), (9, .int .i64 x32_2), (10, .slice p_4.1 t39.length p_4.2), (11, .int .i64 x41_2), (12, .pointer (some ⟨b10, 0, none⟩)), (13, .slice p_5.1 t48.length p_5.2), (31, .int .i64 a2), (32, .int .i64 x32_2), (40, .int .i64 a1), (41, .int .i64 x41_2), (49, .slice p_4.1 t39.length p_4.2), (50, .int .i64 (t39.length : Int)), (51, .int .i64 x51_2)] [cellsC b7 [.int .i64 a0.W, .int .i64 a0.H, gv] 24, cellsC b8 [.int .i64 0, .int .i64 0, .slice none 0 0] 24, rowV 5 1 (.slice p_3.1 n_2 p_3.2) n_2 (l_6.map e_u8), cellsC b9 [.int .i64 t25.W, .int .i64 t25.H, .slice p_3.1 n_2 p_3.2] 24, rowV 94 2 (.slice p_4.1 t39.length p_4.2) t39.length (t39.map e_pix_share), cellsC b10 [.int .i64 (m_8 0), .int .i64 (m_8 1), .int .i64 (m_8 2)] 92, rowV 94 2 (.slice p_5.1 t48.length p_5.2) t48.length (t48.map e_pix_share)] rfl rfl ?_
              refine c_seq ?_
              refine c_region ?_
              refine l_val rfl rfl rfl (r_lss rfl rfl) ?_
              refine l_nil ?_
              refine c_seq ?_
              refine c_if (b := (decide (x51_2 < (t39.length : Int)))) rfl (fun hb => ?_) (fun hb => ?_)
              · have H80 := cnd_t hb H79; clear H79
                refine c_skip ?_
                refine c_meet (r := r) (σ := (Nat → Int)) (τ := Unit) (fun s => pix_scaled_j10 x51_2 next9 s) (fun s t => [(1, .int .i64 a1), (2, .int .i64 a2), (3, .pointer (some ⟨b7, 0, none⟩)), (6, .pointer (some ⟨b8, 0, none⟩)), (7, .pointer (some ⟨b9, 0, none⟩)), (8, .int .i64 t30), (9, .int .i64 x32_2), (10, .slice p_4.1 t39.length p_4.2), (11, .int .i64 x41_2), (12, .pointer (some ⟨b10, 0, none⟩)), (13, .slice p_5.1 t48.length p_5.2), (31, .int .i64 a2), (32, .int .i64 x32_2), (40, .int .i64 a1), (41, .int .i64 x41_2), (49, .slice p_4.1 t39.length p_4.2), (50, .int .i64 (t39.length : Int)), (51, .int .i64 x51_2)]) (fun s t => [cellsC b7 [.int .i64 a0.W, .int .i64 a0.H, gv] 24, cellsC b8 [.int .i64 0, .int .i64 0, .slice none 0 0] 24, rowV 5 1 (.slice p_3.1 n_2 p_3.2) n_2 (l_6.map e_u8), cellsC b9 [.int .i64 t25.W, .int .i64 t25.H, .slice p_3.1 n_2 p_3.2] 24, rowV 94 2 (.slice p_4.1 t39.length p_4.2) t39.length (t39.map e_pix_share), cellsC b10 [.int .i64 (s 0), .int .i64 (s 1), .int .i64 (s 2)] 92, rowV 94 2 (.slice p_5.1 t48.length p_5.2) t48.length (t48.map e_pix_share)]) (fun s t => True) ?_ ?_
                · refine c_block ?_
                  refine c_seq ?_
                  refine c_region ?_
                  obtain ⟨t53, h_t53, H83⟩ := bnd_some H80; clear H80
                  refine l_read (fun w hF hS => run_indexO Tryd.underlying90 Tryd.sizeOf94 rfl rfl (rowOf (i := 4) hS rfl) rfl h_t53) rfl rfl rfl ?_
                  refine l_read (fun w hF hS => run_loadGN (f := e_pix_share) (i := x51_2) (sz := 2) (j := 0) (vs := [.int .i64 t53.at_, .int .i64 t53.parts_]) Tryd.isAgg94 Tryd.sizeOf94 rfl rfl (rowOf (i := 4) hS rfl) h_t53 rfl) rfl rfl rfl ?_
                  refine l_alloc (cs := [.int .i64 0, .int .i64 0]) Tryd.zeroValue94 rfl rfl rfl (fun b12 => ?_)
                  refine l_store (i := 7) (vs := [.int .i64 t53.at_, .int .i64 t53.parts_]) (cs' := [.int .i64 t53.at_, .int .i64 t53.parts_]) Tryd.sizeOf94 rfl rfl rfl rfl rfl rfl rfl rfl rfl ?_
                  refine l_nil ?_
                  refine c_seq ?_
                  refine c_region ?_
                  refine l_val rfl rfl rfl (r_move (v := .slice p_5.1 t48.length p_5.2) rfl) ?_
                  refine l_val rfl rfl rfl (r_len Tryd.underlying90 rfl) ?_
                  refine l_val rfl rfl rfl (r_move (v := .int .i64 0) rfl) ?_
                  refine l_nil ?_
                  refine c_block ?_
                  refine c_fix (σ := Int × (Nat → Int)) (τ := Unit) (fun next11 s => pix_scaled_l11 a0 m_2 t48 x51_2 next9 t53 next11 s.1 s.2) (fun s t => [(1, .int .i64 a1), (2, .int .i64 a2), (3, .pointer (some ⟨b7, 0, none⟩)), (6, .pointer (some ⟨b8, 0, none⟩)), (7, .pointer (some ⟨b9, 0, none⟩)), (8, .int .i64 t30), (9, .int .i64 x32_2), (10, .slice p_4.1 t39.length p_4.2), (11, .int .i64 x41_2), (12, .pointer (some ⟨b10, 0, none⟩)), (13, .slice p_5.1 t48.length p_5.2), (15, .pointer (some ⟨b12, 0, none⟩)), (31, .int .i64 a2), (32, .int .i64 x32_2), (40, .int .i64 a1), (41, .int .i64 x41_2), (49, .slice p_4.1 t39.length p_4.2), (50, .int .i64 (t39.length : Int)), (51, .int .i64 x51_2), (55, .slice p_5.1 t48.length p_5.2), (56, .int .i64 (t48.length : Int)), (57, .int .i64 s.1)]) (fun s t => [cellsC b7 [.int .i64 a0.W, .int .i64 a0.H, gv] 24, cellsC b8 [.int .i64 0, .int .i64 0, .slice none 0 0] 24, rowV 5 1 (.slice p_3.1 n_2 p_3.2) n_2 (l_6.map e_u8), cellsC b9 [.int .i64 t25.W, .int .i64 t25.H, .slice p_3.1 n_2 p_3.2] 24, rowV 94 2 (.slice p_4.1 t39.length p_4.2) t39.length (t39.map e_pix_share), cellsC b10 [.int .i64 (s.2 0), .int .i64 (s.2 1), .int .i64 (s.2 2)] 92, rowV 94 2 (.slice p_5.1 t48.length p_5.2) t48.length (t48.map e_pix_share), cellsC b12 [.int .i64 t53.at_, .int .i64 t53.parts_] 94]) (fun s t => True) (0, m_8) () [0, 1, 2, 3, 4, 5, 6, 7] H83 (by exact trivial) (by exact ⟨rfl, rfl, rfl, rfl, rfl, rfl, rfl, rfl, rfl, rfl, rfl, rfl, rfl, rfl, rfl, rfl, rfl, rfl, rfl, rfl, rfl, rfl, trivial⟩) (by decide) rfl ?_
                  rintro ⟨x57_2, m_11⟩ _ m11 gg H84 _
                  clear H83
                  replace H84 : pix_scaled_l11 a0 m_2 t48 x51_2 next9 t53 (it (fun next11 s => pix_scaled_l11 a0 m_2 t48 x51_2 next9 t53 next11 s.1 s.2) m11) x57_2 m_11 = some r := H84
                  generalize hn11 : it (fun next11 s => pix_scaled_l11 a0 m_2 t48 x51_2 next9 t53 next11 s.1 s.2) m11 = next11 at H84
                  refine c_tidyF [(1, .int .i64 a1), (2, .int .i64 a2), (3, .pointer (some ⟨b7, 0, none⟩)), (6, .pointer (some ⟨b8, 0, none⟩)), (7, .pointer (some ⟨b9, 0, none⟩)), (8, .int .i64 t30), (9, .int .i64 x32_2), (10, .slice p_4.1 t39.length p_4.2), (11, .int .i64 x41_2), (12, .pointer (some ⟨b10, 0, none⟩)), (13, .slice p_5.1 t48.length p_5.2), (15, .pointer (some ⟨b12, 0, none⟩)), (31, .int .i64 a2), (32, .int .i64 x32_2), (40, .int .i64 a1), (41, .int .i64 x41_2), (49, .slice p_4.1 t39.length p_4.2), (50, .int .i64 (t39.length : Int)), (51, .int .i64 x51_2), (55, .slice p_5.1 t48.length p_5.2), (56, .int .i64 (t48.length : Int)), (57, .int .i64 x57_2)] [cellsC b7 [.int .i64 a0.W, .int .i64 a0.H, gv] 24, cellsC b8 [.int .i64 0, .int .i64 0, .slice none 0 0] 24, rowV 5 1 (.slice p_3.1 n_2 p_3.2) n_2 (l_6.map e_u8), cellsC b9 [.int .i64 t25.W, .int .i64 t25.H, .slice p_3.1 n_2 p_3.2] 24, rowV 94 2 (.slice p_4.1 t39.length p_4.2) t39.length (t39.map e_pix_share), cellsC b10 [.int .i64 (m_11 0), .int .i64 (m_11 1), .int .i64 (m_11 2)] 92, rowV 94 2 (.slice p_5.1 t48.length p_5.2) t48.length (t48.map e_pix_share), cellsC b12 [.int .i64 t53.at_, .int .i64 t53.parts_] 94] rfl rfl ?_
                  refine c_seq ?_
                  refine c_region ?_
                  refine l_val rfl rfl rfl (r_lss rfl rfl) ?_
                  refine l_nil ?_
                  refine c_seq ?_
                  refine c_if (b := (decide (x57_2 < (t48.length : Int)))) rfl (fun hb => ?_) (fun hb => ?_)
                  · have H85 := cnd_t hb H84; clear H84
                    refine c_skip ?_
                    refine c_meet (r := r) (σ := (Nat → Int)) (τ := Unit) (fun s => pix_scaled_j12 x57_2 next11 s) (fun s t => [(1, .int .i64 a1), (2, .int .i64 a2), (3, .pointer (some ⟨b7, 0, none⟩)), (6, .pointer (some ⟨b8, 0, none⟩)), (7, .pointer (some ⟨b9, 0, none⟩)), (8, .int .i64 t30), (9, .int .i64 x32_2), (10, .slice p_4.1 t39.length p_4.2), (11, .int .i64 x41_2), (12, .pointer (some ⟨b10, 0, none⟩)), (13, .slice p_5.1 t48.length p_5.2), (15, .pointer (some ⟨b12, 0, none⟩)), (31, .int .i64 a2), (32, .int .i64 x32_2), (40, .int .i64 a1), (41, .int .i64 x41_2), (49, .slice p_4.1 t39.length p_4.2), (50, .int .i64 (t39.length : Int)), (51, .int .i64 x51_2), (55, .slice p_5.1 t48.length p_5.2), (56, .int .i64 (t48.length : Int)), (57, .int .i64 x57_2)]) (fun s t => [cellsC b7 [.int .i64 a0.W, .int .i64 a0.H, gv] 24, cellsC b8 [.int .i64 0, .int .i64 0, .slice none 0 0] 24, rowV 5 1 (.slice p_3.1 n_2 p_3.2) n_2 (l_6.map e_u8), cellsC b9 [.int .i64 t25.W, .int .i64 t25.H, .slice p_3.1 n_2 p_3.2] 24, rowV 94 2 (.slice p_4.1 t39.length p_4.2) t39.length (t39.map e_pix_share), cellsC b10 [.int .i64 (s 0), .int .i64 (s 1), .int .i64 (s 2)] 92, rowV 94 2 (.slice p_5.1 t48.length p_5.2) t48.length (t48.map e_pix_share), cellsC b12 [.int .i64 t53.at_, .int .i64 t53.parts_] 94]) (fun s t => True) ?_ ?_
                    · refine c_block ?_
                      refine c_seq ?_
                      refine c_region ?_
                      obtain ⟨t59, h_t59, H88⟩ := bnd_some H85; clear H85
                      refine l_read (fun w hF hS => run_indexO Tryd.underlying90 Tryd.sizeOf94 rfl rfl (rowOf (i := 6) hS rfl) rfl h_t59) rfl rfl rfl ?_
                      refine l_read (fun w hF hS => run_loadGN (f := e_pix_share) (i := x57_2) (sz := 2) (j := 0) (vs := [.int .i64 t59.at_, .int .i64 t59.parts_]) Tryd.isAgg94 Tryd.sizeOf94 rfl rfl (rowOf (i := 6) hS rfl) h_t59 rfl) rfl rfl rfl ?_
                      refine l_alloc (cs := [.int .i64 0, .int .i64 0]) Tryd.zeroValue94 rfl rfl rfl (fun b13 => ?_)
                      refine l_store (i := 8) (vs := [.int .i64 t59.at_, .int .i64 t59.parts_]) (cs' := [.int .i64 t59.at_, .int .i64 t59.parts_]) Tryd.sizeOf94 rfl rfl rfl rfl rfl rfl rfl rfl rfl ?_
                      refine l_nil ?_
                      refine c_seq ?_
                      refine c_region ?_
                      refine l_loadN (i := 0) (vs := [.int .i64 a0.W, .int .i64 a0.H, gv]) Tryd.isAgg24 Tryd.sizeOf24 rfl rfl rfl rfl rfl ?_
                      refine l_val rfl rfl rfl (r_field Tryd.runUnderlying94 rfl Tryd.sizeOf3 rfl rfl) ?_
                      refine l_load1 (i := 8) (v := .int .i64 t59.at_) Tryd.isAgg3 rfl rfl rfl rfl rfl ?_
                      refine l_val rfl rfl rfl (r_field Tryd.runUnderlying94 rfl Tryd.sizeOf3 rfl rfl) ?_
                      refine l_load1 (i := 7) (v := .int .i64 t53.at_) Tryd.isAgg3 rfl rfl rfl rfl rfl ?_
                      obtain ⟨t66, h_t66, H89⟩ := bnd_some H88; clear H88
                      refine l_callG (fun w hF hS => k29 (know_all w) (gf_2.mono (hw.now hF)) h_t66) Tryd.call29 rfl rfl rfl ?_
                      refine l_val rfl rfl rfl (r_move (v := .int .i64 0) rfl) ?_
                      refine l_nil ?_
                      refine c_block ?_
                      refine c_fix (σ := Int × (Nat → Int)) (τ := Unit) (fun next13 s => pix_scaled_l13 t53 x57_2 next11 t59 t66 next13 s.1 s.2) (fun s t => [(1, .int .i64 a1), (2, .int .i64 a2), (3, .pointer (some ⟨b7, 0, none⟩)), (6, .pointer (some ⟨b8, 0, none⟩)), (7, .pointer (some ⟨b9, 0, none⟩)), (8, .int .i64 t30), (9, .int .i64 x32_2), (10, .slice p_4.1 t39.length p_4.2), (11, .int .i64 x41_2), (12, .pointer (some ⟨b10, 0, none⟩)), (13, .slice p_5.1 t48.length p_5.2), (15, .pointer (some ⟨b12, 0, none⟩)), (17, .pointer (some ⟨b13, 0, none⟩)), (31, .int .i64 a2), (32, .int .i64 x32_2), (40, .int .i64 a1), (41, .int .i64 x41_2), (49, .slice p_4.1 t39.length p_4.2), (50, .int .i64 (t39.length : Int)), (51, .int .i64 x51_2), (55, .slice p_5.1 t48.length p_5.2), (56, .int .i64 (t48.length : Int)), (57, .int .i64 x57_2), (66, .agg #[.int .u8 (t66 0), .int .u8 (t66 1), .int .u8 (t66 2)]), (67, .int .i64 s.1)]) (fun s t => [cellsC b7 [.int .i64 a0.W, .int .i64 a0.H, gv] 24, cellsC b8 [.int .i64 0, .int .i64 0, .slice none 0 0] 24, rowV 5 1 (.slice p_3.1 n_2 p_3.2) n_2 (l_6.map e_u8), cellsC b9 [.int .i64 t25.W, .int .i64 t25.H, .slice p_3.1 n_2 p_3.2] 24, rowV 94 2 (.slice p_4.1 t39.length p_4.2) t39.length (t39.map e_pix_share), cellsC b10 [.int .i64 (s.2 0), .int .i64 (s.2 1), .int .i64 (s.2 2)] 92, rowV 94 2 (.slice p_5.1 t48.length p_5.2) t48.length (t48.map e_pix_share), cellsC b12 [.int .i64 t53.at_, .int .i64 t53.parts_] 94, cellsC b13 [.int .i64 t59.at_, .int .i64 t59.parts_] 94]) (fun s t => True) (0, m_11) () [0, 1, 2, 3, 4, 5, 6, 7, 8] H89 (by exact trivial) (by exact ⟨rfl, rfl, rfl, rfl, rfl, rfl, rfl, rfl, rfl, rfl, rfl, rfl, rfl, rfl, rfl, rfl, rfl, rfl, rfl, rfl, rfl, rfl, rfl, rfl, rfl, trivial⟩) (by decide) rfl ?_
                      rintro ⟨x67_2, m_14⟩ _ m13 gg H90 _
                      clear H89
                      replace H90 : pix_scaled_l13 t53 x57_2 next11 t59 t66 (it (fun next13 s => pix_scaled_l13 t53 x57_2 next11 t59 t66 next13 s.1 s.2) m13) x67_2 m_14 = some r := H90
                      generalize hn13 : it (fun next13 s => pix_scaled_l13 t53 x57_2 next11 t59 t66 next13 s.1 s.2) m13 = next13 at H90
                      refine c_tidyF [(1, .int .i64 a1), (2, .int .i64 a2), (3, .pointer (some ⟨b7, 0, none⟩)), (6, .pointer (some ⟨b8, 0, none⟩)), (7, .pointer (some ⟨b9, 0, none⟩)), (8, .int .i64 t30), (9, .int .i64 x32_2), (10, .slice p_4.1 t39.length p_4.2), (11, .int .i64 x41_2), (12, .pointer (some ⟨b10, 0, none⟩)), (13, .slice p_5.1 t48.length p_5.2), (15, .pointer (some ⟨b12, 0, none⟩)), (17, .pointer (some ⟨b13, 0, none⟩)), (31, .int .i64 a2), (32, .int .i64 x32_2), (40, .int .i64 a1), (41, .int .i64 x41_2), (49, .slice p_4.1 t39.length p_4.2), (50, .int .i64 (t39.length : Int)), (51, .int .i64 x51_2), (55, .slice p_5.1 t48.length p_5.2), (56, .int .i64 (t48.length : Int)), (57, .int .i64 x57_2), (66, .agg #[.int .u8 (t66 0), .int .u8 (t66 1), .int .u8 (t66 2)]), (67, .int .i64 x67_2)] [cellsC b7 [.int .i64 a0.W, .int .i64 a0.H, gv] 24, cellsC b8 [.int .i64 0, .int .i64 0, .slice none 0 0] 24, rowV 5 1 (.slice p_3.1 n_2 p_3.2) n_2 (l_6.map e_u8), cellsC b9 [.int .i64 t25.W, .int .i64 t25.H, .slice p_3.1 n_2 p_3.2] 24, rowV 94 2 (.slice p_4.1 t39.length p_4.2) t39.length (t39.map e_pix_share), cellsC b10 [.int .i64 (m_14 0), .int .i64 (m_14 1), .int .i64 (m_14 2)] 92, rowV 94 2 (.slice p_5.1 t48.length p_5.2) t48.length (t48.map e_pix_share), cellsC b12 [.int .i64 t53.at_, .int .i64 t53.parts_] 94, cellsC b13 [.int .i64 t59.at_, .int .i64 t59.parts_] 94] rfl rfl ?_
                      refine c_seq ?_
                      refine c_region ?_
                      refine l_val rfl rfl rfl (r_lss rfl rfl) ?_
                      refine l_nil ?_
                      refine c_seq ?_
                      refine c_if (b := (decide (x67_2 < 3))) rfl (fun hb => ?_) (fun hb => ?_)
                      · have H91 := cnd_t hb H90; clear H90
                        refine c_skip ?_
                        refine c_seq ?_
                        refine c_block ?_
                        refine c_seq ?_
                        refine c_region ?_
                        refine l_val rfl rfl rfl (r_move (v := .int .i64 x67_2) rfl) ?_
                        obtain ⟨k70, h_k70, H92⟩ := bnd_some H91; clear H91
                        refine l_val rfl rfl rfl (r_indexAG (f := fun j_ => .int .u8 (t66 j_)) Tryd.runUnderlying69 Tryd.isAgg5 Tryd.sizeOf5 rfl rfl rfl h_k70) ?_
                        refine l_val rfl rfl rfl (r_assign (v := .int .i64 x67_2) rfl) ?_
                        refine l_val rfl rfl rfl (r_assign (v := .int .u8 (t66 k70)) rfl) ?_
                        refine l_nil ?_
                        exact c_regionD (Kd.p :: Kd.p :: Kd.d [5] _ :: Kd.p :: Kd.p :: Kd.p :: Kd.d [7] _ :: Kd.p :: Kd.p :: Kd.d [8] _ :: Kd.p :: Kd.p :: Kd.p :: Kd.st 83 5 [_, _, _] 92 :: []) 0 mixed (by
                          refine d_val rfl rfl (r_move (v := .int .i64 x67_2) rfl) ?_
                          have h_k72 := bnd_val H92
                          have H93 := bnd_rest H92
                          refine d_val rfl rfl (r_indexPG Tryd.runUnderlying92 Tryd.sizeOf3 rfl rfl h_k72) ?_
                          refine d_load1 (i := 5) (v := .int .i64 (m_14 (val (gIx 3 x67_2)))) Tryd.isAgg3 rfl rfl rfl (rg_arr (pre := []) (post := []) (f := fun j_ => [.int .i64 (m_14 j_)]) (n := 3) (sz := 1) (q := 0) rfl rfl (fun _ => rfl) (gIx_lt h_k72) rfl) ?_
                          refine d_val rfl rfl (r_move (v := .int .u8 (t66 k70)) rfl) ?_
                          have h_t75 := bnd_val H93
                          have H94 := bnd_rest H93
                          refine d_val rfl rfl (r_convG Tryd.runUnderlying5 Tryd.runUnderlying3 rfl (gK_i64 h_t75)) ?_
                          refine d_val rfl rfl (r_field Tryd.runUnderlying94 rfl Tryd.sizeOf3 rfl rfl) ?_
                          refine d_load1 (i := 7) (v := .int .i64 t53.parts_) Tryd.isAgg3 rfl rfl rfl rfl ?_
                          have h_t78 := bnd_val H94
                          have H95 := bnd_rest H94
                          refine d_val rfl rfl (r_mulG rfl rfl h_t78) ?_
                          refine d_val rfl rfl (r_field Tryd.runUnderlying94 rfl Tryd.sizeOf3 rfl rfl) ?_
                          refine d_load1 (i := 8) (v := .int .i64 t59.parts_) Tryd.isAgg3 rfl rfl rfl rfl ?_
                          have h_t81 := bnd_val H95
                          have H96 := bnd_rest H95
                          refine d_val rfl rfl (r_mulG rfl rfl h_t81) ?_
                          have h_t82 := bnd_val H96
                          have H97 := bnd_rest H96
                          refine d_val rfl rfl (r_addG rfl rfl h_t82) ?_
                          have h_k83 := bnd_val H97
                          have H98 := bnd_rest H97
                          refine d_val rfl rfl (r_indexPG Tryd.runUnderlying92 Tryd.sizeOf3 rfl rfl h_k83) ?_
                          refine d_store (i := 5) (vs := [.int .i64 (val (gI ((m_14 (val (gIx 3 x67_2))) + (val (gI ((val (gI ((val (gK (-9223372036854775808) 9223372036854775807 (t66 k70))) * t53.parts_))) * t59.parts_))))))]) (cs' := [.int .i64 ((setA m_14 (val (gIx 3 x67_2)) (val (gI ((m_14 (val (gIx 3 x67_2))) + (val (gI ((val (gI ((val (gK (-9223372036854775808) 9223372036854775807 (t66 k70))) * t53.parts_))) * t59.parts_))))))) 0), .int .i64 ((setA m_14 (val (gIx 3 x67_2)) (val (gI ((m_14 (val (gIx 3 x67_2))) + (val (gI ((val (gI ((val (gK (-9223372036854775808) 9223372036854775807 (t66 k70))) * t53.parts_))) * t59.parts_))))))) 1), .int .i64 ((setA m_14 (val (gIx 3 x67_2)) (val (gI ((m_14 (val (gIx 3 x67_2))) + (val (gI ((val (gI ((val (gK (-9223372036854775808) 9223372036854775807 (t66 k70))) * t53.parts_))) * t59.parts_))))))) 2)]) Tryd.sizeOf3 rfl rfl rfl rfl rfl rfl rfl rfl (wr_arr (pre := []) (post := []) (f := fun (j_ : Int) => [.int .i64 j_]) (n := 3) (sz := 1) (a := m_14) (x := (val (gI ((m_14 (val (gIx 3 x67_2))) + (val (gI ((val (gI ((val (gK (-9223372036854775808) 9223372036854775807 (t66 k70))) * t53.parts_))) * t59.parts_))))))) rfl rfl (fun _ => rfl) (gIx_lt h_k83) rfl rfl) ?_
                          refine d_nil ?_
                          refine c_region ?_
                          obtain ⟨t84, h_t84, H99⟩ := bnd_some H98; clear H98
                          refine l_val rfl rfl rfl (r_addG rfl rfl h_t84) ?_
                          refine l_val rfl rfl rfl (r_move (v := .int .i64 t84) rfl) ?_
                          refine l_nil ?_
                          refine c_close (t84, (setA m_14 (val (gIx 3 x67_2)) (val (gI ((m_14 (val (gIx 3 x67_2))) + (val (gI ((val (gI ((val (gK (-9223372036854775808) 9223372036854775807 (t66 k70))) * t53.parts_))) * t59.parts_)))))))) () m13 [0, 1, 2, 3, 4, 5, 6, 7, 8] (by exact ⟨rfl, rfl, rfl, rfl, rfl, rfl, rfl, rfl, rfl, rfl, rfl, rfl, rfl, rfl, rfl, rfl, rfl, rfl, rfl, rfl, rfl, rfl, rfl, rfl, rfl, trivial⟩) (by decide) rfl (by exact ⟨(by subst hn13; exact H99), trivial⟩) (Nat.lt_succ_self _)
                          ) (by kernel_rfl)
                      · have H100 := cnd_f hb H90; clear H90
                        refine c_exit ?_
                        refine c_close m_14 () 0 [0, 1, 2, 3, 4, 5, 6, 7] (by exact ⟨rfl, rfl, rfl, rfl, rfl, rfl, rfl, rfl, rfl, rfl, rfl, rfl, rfl, rfl, rfl, rfl, rfl, rfl, rfl, rfl, rfl, rfl, trivial⟩) (by decide) rfl (by exact ⟨H100, trivial⟩) (Nat.lt_succ_self _)
                    · rintro m_12 _ gg H86 _
                      replace H86 : pix_scaled_j12 x57_2 next11 m_12 = some r := H86
                      refine c_tidyF [(1, .int .i64 a1), (2, .int .i64 a2), (3, .pointer (some ⟨b7, 0, none⟩)), (6, .pointer (some ⟨b8, 0, none⟩)), (7, .pointer (some ⟨b9, 0, none⟩)), (8, .int .i64 t30), (9, .int .i64 x32_2), (10, .slice p_4.1 t39.length p_4.2), (11, .int .i64 x41_2), (12, .pointer (some ⟨b10, 0, none⟩)), (13, .slice p_5.1 t48.length p_5.2), (15, .pointer (some ⟨b12, 0, none⟩)), (31, .int .i64 a2), (32, .int .i64 x32_2), (40, .int .i64 a1), (41, .int .i64 x41_2), (49, .slice p_4.1 t39.length p_4.2), (50, .int .i64 (t39.length : Int)), (51, .int .i64 x51_2), (55, .slice p_5.1 t48.length p_5.2), (56, .int .i64 (t48.length : Int)), (57, .int .i64 x57_2)] [cellsC b7 [.int .i64 a0.W, .int .i64 a0.H, gv] 24, cellsC b8 [.int .i64 0, .int .i64 0, .slice none 0 0] 24, rowV 5 1 (.slice p_3.1 n_2 p_3.2) n_2 (l_6.map e_u8), cellsC b9 [.int .i64 t25.W, .int .i64 t25.H, .slice p_3.1 n_2 p_3.2] 24, rowV 94 2 (.slice p_4.1 t39.length p_4.2) t39.length (t39.map e_pix_share), cellsC b10 [.int .i64 (m_12 0), .int .i64 (m_12 1), .int .i64 (m_12 2)] 92, rowV 94 2 (.slice p_5.1 t48.length p_5.2) t48.length (t48.map e_pix_share), cellsC b12 [.int .i64 t53.at_, .int .i64 t53.parts_] 94] rfl rfl ?_
                      refine c_region ?_
                      obtain ⟨t85, h_t85, H87⟩ := bnd_some H86; clear H86
                      refine l_val rfl rfl rfl (r_addG rfl rfl h_t85) ?_
                      refine l_val rfl rfl rfl (r_move (v := .int .i64 t85) rfl) ?_
                      refine l_nil ?_
                      refine c_close (t85, m_12) () m11 [0, 1, 2, 3, 4, 5, 6, 7] (by exact ⟨rfl, rfl, rfl, rfl, rfl, rfl, rfl, rfl, rfl, rfl, rfl, rfl, rfl, rfl, rfl, rfl, rfl, rfl, rfl, rfl, rfl, rfl, trivial⟩) (by decide) rfl (by exact ⟨(by subst hn11; exact H87), trivial⟩) (Nat.lt_succ_self _)
                  · have H101 := cnd_f hb H84; clear H84
                    refine c_exit ?_
                    refine c_close m_11 () 0 [0, 1, 2, 3, 4, 5, 6] (by exact ⟨rfl, rfl, rfl, rfl, rfl, rfl, rfl, rfl, rfl, rfl, rfl, rfl, rfl, rfl, rfl, rfl, rfl, rfl, trivial⟩) (by decide) rfl (by exact ⟨H101, trivial⟩) (Nat.lt_succ_self _)
                · rintro m_9 _ gg H81 _
                  replace H81 : pix_scaled_j10 x51_2 next9 m_9 = some r := H81
                  refine c_tidyF [(1, .int .i64 a1), (2, .int .i64 a2), (3, .pointer (some ⟨b7, 0, none⟩)), (6, .pointer (some ⟨b8, 0, none⟩)), (7, .pointer (some ⟨b9, 0, none⟩)), (8, .int .i64 t30), (9, .int .i64 x32_2), (10, .slice p_4.1 t39.length p_4.2), (11, .int .i64 x41_2), (12, .pointer (some ⟨b10, 0, none⟩)), (13, .slice p_5.1 t48.length p_5.2), (31, .int .i64 a2), (32, .int .i64 x32_2), (40, .int .i64 a1), (41, .int .i64 x41_2), (49, .slice p_4.1 t39.length p_4.2), (50, .int .i64 (t39.length : Int)), (51, .int .i64 x51_2)] [cellsC b7 [.int .i64 a0.W, .int .i64 a0.H, gv] 24, cellsC b8 [.int .i64 0, .int .i64 0, .slice none 0 0] 24, rowV 5 1 (.slice p_3.1 n_2 p_3.2) n_2 (l_6.map e_u8), cellsC b9 [.int .i64 t25.W, .int .i64 t25.H, .slice p_3.1 n_2 p_3.2] 24, rowV 94 2 (.slice p_4.1 t39.length p_4.2) t39.length (t39.map e_pix_share), cellsC b10 [.int .i64 (m_9 0), .int .i64 (m_9 1), .int .i64 (m_9 2)] 92, rowV 94 2 (.slice p_5.1 t48.length p_5.2) t48.length (t48.map e_pix_share)] rfl rfl ?_
                  refine c_region ?_
                  obtain ⟨t86, h_t86, H82⟩ := bnd_some H81; clear H81
                  refine l_val rfl rfl rfl (r_addG rfl rfl h_t86) ?_
                  refine l_val rfl rfl rfl (r_move (v := .int .i64 t86) rfl) ?_
                  refine l_nil ?_
                  refine c_close (t86, m_9) () m9 [0, 1, 2, 3, 4, 5, 6] (by exact ⟨rfl, rfl, rfl, rfl, rfl, rfl, rfl, rfl, rfl, rfl, rfl, rfl, rfl, rfl, rfl, rfl, rfl, rfl, trivial⟩) (by decide) rfl (by exact ⟨(by subst hn9; exact H82), trivial⟩) (Nat.lt_succ_self _)
              · have H102 := cnd_f hb H79; clear H79
                refine c_exit ?_
                refine c_close m_8 () 0 [0, 1, 2, 3, 4, 5] (by exact ⟨rfl, rfl, rfl, rfl, rfl, rfl, rfl, rfl, rfl, rfl, rfl, rfl, rfl, rfl, trivial⟩) (by decide) rfl (by exact ⟨H102, trivial⟩) (Nat.lt_succ_self _)
            · rintro m_3 _ gg H66 _
              replace H66 : pix_scaled_j6 t25 t30 x32_2 x41_2 l_6 next4 m_3 = some r := H66
              refine c_tidyF [(1, .int .i64 a1), (2, .int .i64 a2), (3, .pointer (some ⟨b7, 0, none⟩)), (6, .pointer (some ⟨b8, 0, none⟩)), (7, .pointer (some ⟨b9, 0, none⟩)), (8, .int .i64 t30), (9, .int .i64 x32_2), (10, .slice p_4.1 t39.length p_4.2), (11, .int .i64 x41_2), (12, .pointer (some ⟨b10, 0, none⟩)), (31, .int .i64 a2), (32, .int .i64 x32_2), (40, .int .i64 a1), (41, .int .i64 x41_2)] [cellsC b7 [.int .i64 a0.W, .int .i64 a0.H, gv] 24, cellsC b8 [.int .i64 0, .int .i64 0, .slice none 0 0] 24, rowV 5 1 (.slice p_3.1 n_2 p_3.2) n_2 (l_6.map e_u8), cellsC b9 [.int .i64 t25.W, .int .i64 t25.H, .slice p_3.1 n_2 p_3.2] 24, rowV 94 2 (.slice p_4.1 t39.length p_4.2) t39.length (t39.map e_pix_share), cellsC b10 [.int .i64 (m_3 0), .int .i64 (m_3 1), .int .i64 (m_3 2)] 92] rfl rfl ?_
              refine c_seq ?_
              refine c_region ?_
              refine l_alloc (cs := [.int .u8 0, .int .u8 0, .int .u8 0]) Tryd.zeroValue69 rfl rfl rfl (fun b11 => ?_)
              refine l_nil ?_
              refine c_meet (r := r) (σ := (Nat → Int)) (τ := Unit) (fun s => pix_scaled_j7 t25 x32_2 x41_2 l_6 next4 s) (fun s t => [(1, .int .i64 a1), (2, .int .i64 a2), (3, .pointer (some ⟨b7, 0, none⟩)), (6, .pointer (some ⟨b8, 0, none⟩)), (7, .pointer (some ⟨b9, 0, none⟩)), (8, .int .i64 t30), (9, .int .i64 x32_2), (10, .slice p_4.1 t39.length p_4.2), (11, .int .i64 x41_2), (20, .pointer (some ⟨b11, 0, none⟩)), (31, .int .i64 a2), (32, .int .i64 x32_2), (40, .int .i64 a1), (41, .int .i64 x41_2)]) (fun s t => [cellsC b7 [.int .i64 a0.W, .int .i64 a0.H, gv] 24, cellsC b8 [.int .i64 0, .int .i64 0, .slice none 0 0] 24, rowV 5 1 (.slice p_3.1 n_2 p_3.2) n_2 (l_6.map e_u8), cellsC b9 [.int .i64 t25.W, .int .i64 t25.H, .slice p_3.1 n_2 p_3.2] 24, rowV 94 2 (.slice p_4.1 t39.length p_4.2) t39.length (t39.map e_pix_share), cellsC b11 [.int .u8 (s 0), .int .u8 (s 1), .int .u8 (s 2)] 69]) (fun s t => True) ?_ ?_
              · refine c_seq ?_
                refine c_region ?_
                refine l_loadN (i := 5) (vs := [.int .i64 (m_3 0), .int .i64 (m_3 1), .int .i64 (m_3 2)]) Tryd.isAgg92 Tryd.sizeOf92 rfl rfl rfl rfl rfl ?_
                refine l_val rfl rfl rfl (r_move (v := .int .i64 0) rfl) ?_
                refine l_nil ?_
                refine c_block ?_
                refine c_sel [0, 1, 2, 3, 4, 6] [cellsC b7 [.int .i64 a0.W, .int .i64 a0.H, gv] 24, cellsC b8 [.int .i64 0, .int .i64 0, .slice none 0 0] 24, rowV 5 1 (.slice p_3.1 n_2 p_3.2) n_2 (l_6.map e_u8), cellsC b9 [.int .i64 t25.W, .int .i64 t25.H, .slice p_3.1 n_2 p_3.2] 24, rowV 94 2 (.slice p_4.1 t39.length p_4.2) t39.length (t39.map e_pix_share), cellsC b11 [.int .u8 0, .int .u8 0, .int .u8 0] 69] rfl (by decide) ?_
                refine c_fix (σ := Int × (Nat → Int)) (τ := Unit) (fun next8 s => pix_scaled_l8 t25 t30 x32_2 x41_2 l_6 next4 m_3 next8 s.1 s.2) (fun s t => [(1, .int .i64 a1), (2, .int .i64 a2), (3, .pointer (some ⟨b7, 0, none⟩)), (6, .pointer (some ⟨b8, 0, none⟩)), (7, .pointer (some ⟨b9, 0, none⟩)), (8, .int .i64 t30), (9, .int .i64 x32_2), (10, .slice p_4.1 t39.length p_4.2), (11, .int .i64 x41_2), (20, .pointer (some ⟨b11, 0, none⟩)), (31, .int .i64 a2), (32, .int .i64 x32_2), (40, .int .i64 a1), (41, .int .i64 x41_2), (87, .agg #[.int .i64 (m_3 0), .int .i64 (m_3 1), .int .i64 (m_3 2)]), (88, .int .i64 s.1)]) (fun s t => [cellsC b7 [.int .i64 a0.W, .int .i64 a0.H, gv] 24, cellsC b8 [.int .i64 0, .int .i64 0, .slice none 0 0] 24, rowV 5 1 (.slice p_3.1 n_2 p_3.2) n_2 (l_6.map e_u8), cellsC b9 [.int .i64 t25.W, .int .i64 t25.H, .slice p_3.1 n_2 p_3.2] 24, rowV 94 2 (.slice p_4.1 t39.length p_4.2) t39.length (t39.map e_pix_share), cellsC b11 [.int .u8 (s.2 0), .int .u8 (s.2 1), .int .u8 (s.2 2)] 69]) (fun s t => True) (0, (fun _ => 0)) () [0, 1, 2, 3, 4, 5] H66 (by exact trivial) (by exact ⟨rfl, rfl, rfl, rfl, rfl, rfl, rfl, rfl, rfl, rfl, rfl, rfl, rfl, rfl, rfl, rfl, trivial⟩) (by decide) rfl ?_
                rintro ⟨x88_2, m_6⟩ _ m8 gg H69 _
                clear H66
                replace H69 : pix_scaled_l8 t25 t30 x32_2 x41_2 l_6 next4 m_3 (it (fun next8 s => pix_scaled_l8 t25 t30 x32_2 x41_2 l_6 next4 m_3 next8 s.1 s.2) m8) x88_2 m_6 = some r := H69
                generalize hn8 : it (fun next8 s => pix_scaled_l8 t25 t30 x32_2 x41_2 l_6 next4 m_3 next8 s.1 s.2) m8 = next8 at H69
                refine c_tidyF [(1, .int .i64 a1), (2, .int .i64 a2), (3, .pointer (some ⟨b7, 0, none⟩)), (6, .pointer (some ⟨b8, 0, none⟩)), (7, .pointer (some ⟨b9, 0, none⟩)), (8, .int .i64 t30), (9, .int .i64 x32_2), (10, .slice p_4.1 t39.length p_4.2), (11, .int .i64 x41_2), (20, .pointer (some ⟨b11, 0, none⟩)), (31, .int .i64 a2), (32, .int .i64 x32_2), (40, .int .i64 a1), (41, .int .i64 x41_2), (87, .agg #[.int .i64 (m_3 0), .int .i64 (m_3 1), .int .i64 (m_3 2)]), (88, .int .i64 x88_2)] [cellsC b7 [.int .i64 a0.W, .int .i64 a0.H, gv] 24, cellsC b8 [.int .i64 0, .int .i64 0, .slice none 0 0] 24, rowV 5 1 (.slice p_3.1 n_2 p_3.2) n_2 (l_6.map e_u8), cellsC b9 [.int .i64 t25.W, .int .i64 t25.H, .slice p_3.1 n_2 p_3.2] 24, rowV 94 2 (.slice p_4.1 t39.length p_4.2) t39.length (t39.map e_pix_share), cellsC b11 [.int .u8 (m_6 0), .int .u8 (m_6 1), .int .u8 (m_6 2)] 69] rfl rfl ?_
                refine c_seq ?_
                refine c_region ?_
                refine l_val rfl rfl rfl (r_lss rfl rfl) ?_
                refine l_nil ?_
                refine c_seq ?_
                refine c_if (b := (decide (x88_2 < 3))) rfl (fun hb => ?_) (fun hb => ?_)
                · have H70 := cnd_t hb H69; clear H69
                  refine c_skip ?_
                  refine c_seq ?_
                  refine c_block ?_
                  refine c_seq ?_
                  refine c_region ?_
                  refine l_val rfl rfl rfl (r_move (v := .int .i64 x88_2) rfl) ?_
                  obtain ⟨k91, h_k91, H71⟩ := bnd_some H70; clear H70
                  refine l_val rfl rfl rfl (r_indexAG (f := fun j_ => .int .i64 (m_3 j_)) Tryd.runUnderlying92 Tryd.isAgg3 Tryd.sizeOf3 rfl rfl rfl h_k91) ?_
                  refine l_val rfl rfl rfl (r_assign (v := .int .i64 x88_2) rfl) ?_
                  refine l_val rfl rfl rfl (r_assign (v := .int .i64 (m_3 k91)) rfl) ?_
                  refine l_nil ?_
                  refine c_region ?_
                  refine l_val rfl rfl rfl (r_move (v := .int .i64 x88_2) rfl) ?_
                  refine l_val rfl rfl rfl (r_move (v := .int .i64 (m_3 k91)) rfl) ?_
                  obtain ⟨t94, h_t94, H72⟩ := bnd_some H71; clear H71
                  refine l_val rfl rfl rfl (r_mulG rfl rfl h_t94) ?_
                  refine l_val rfl rfl rfl (r_move (v := .int .i64 t30) rfl) ?_
                  obtain ⟨t96, h_t96, H73⟩ := bnd_some H72; clear H72
                  refine l_val rfl rfl rfl (r_addG rfl rfl h_t96) ?_
                  refine l_val rfl rfl rfl (r_move (v := .int .i64 t30) rfl) ?_
                  obtain ⟨t98, h_t98, H74⟩ := bnd_some H73; clear H73
                  refine l_val rfl rfl rfl (r_mulG rfl rfl h_t98) ?_
                  obtain ⟨t99, h_t99, H75⟩ := bnd_some H74; clear H74
                  refine l_val rfl rfl rfl (r_quoG rfl rfl h_t99) ?_
                  refine l_val rfl rfl rfl (r_convG Tryd.runUnderlying3 Tryd.runUnderlying5 rfl (wr_u8 _)) ?_
                  obtain ⟨k101, h_k101, H76⟩ := bnd_some H75; clear H75
                  refine l_val rfl rfl rfl (r_indexPG Tryd.runUnderlying69 Tryd.sizeOf5 rfl rfl h_k101) ?_
                  refine l_store (i := 5) (vs := [.int .u8 (wU8 t99)]) (cs' := [.int .u8 ((setA m_6 k101 (wU8 t99)) 0), .int .u8 ((setA m_6 k101 (wU8 t99)) 1), .int .u8 ((setA m_6 k101 (wU8 t99)) 2)]) Tryd.sizeOf5 rfl rfl rfl rfl rfl rfl rfl rfl (wr_arr (pre := []) (post := []) (f := fun (j_ : Int) => [.int .u8 j_]) (n := 3) (sz := 1) (a := m_6) (x := (wU8 t99)) rfl rfl (fun _ => rfl) (gIx_lt h_k101) rfl rfl) ?_
                  refine l_nil ?_
                  refine c_region ?_
                  obtain ⟨t102, h_t102, H77⟩ := bnd_some H76; clear H76
                  refine l_val rfl rfl rfl (r_addG rfl rfl h_t102) ?_
                  refine l_val rfl rfl rfl (r_move (v := .int .i64 t102) rfl) ?_
                  refine l_nil ?_
                  refine c_close (t102, (setA m_6 k101 (wU8 t99))) () m8 [0, 1, 2, 3, 4, 5] (by exact ⟨rfl, rfl, rfl, rfl, rfl, rfl, rfl, rfl, rfl, rfl, rfl, rfl, rfl, rfl, rfl, rfl, trivial⟩) (by decide) rfl (by exact ⟨(by subst hn8; exact H77), trivial⟩) (Nat.lt_succ_self _)
                · have H78 := cnd_f hb H69; clear H69
                  refine c_exit ?_
                  refine c_close m_6 () 0 [0, 1, 2, 3, 4, 5] (by exact ⟨rfl, rfl, rfl, rfl, rfl, rfl, rfl, rfl, rfl, rfl, rfl, rfl, rfl, rfl, trivial⟩) (by decide) rfl (by exact ⟨H78, trivial⟩) (Nat.lt_succ_self _)
              · rintro m_4 _ gg H67 _
                replace H67 : pix_scaled_j7 t25 x32_2 x41_2 l_6 next4 m_4 = some r := H67
                refine c_tidyF [(1, .int .i64 a1), (2, .int .i64 a2), (3, .pointer (some ⟨b7, 0, none⟩)), (6, .pointer (some ⟨b8, 0, none⟩)), (7, .pointer (some ⟨b9, 0, none⟩)), (8, .int .i64 t30), (9, .int .i64 x32_2), (10, .slice p_4.1 t39.length p_4.2), (11, .int .i64 x41_2), (20, .pointer (some ⟨b11, 0, none⟩)), (31, .int .i64 a2), (32, .int .i64 x32_2), (40, .int .i64 a1), (41, .int .i64 x41_2)] [cellsC b7 [.int .i64 a0.W, .int .i64 a0.H, gv] 24, cellsC b8 [.int .i64 0, .int .i64 0, .slice none 0 0] 24, rowV 5 1 (.slice p_3.1 n_2 p_3.2) n_2 (l_6.map e_u8), cellsC b9 [.int .i64 t25.W, .int .i64 t25.H, .slice p_3.1 n_2 p_3.2] 24, rowV 94 2 (.slice p_4.1 t39.length p_4.2) t39.length (t39.map e_pix_share), cellsC b11 [.int .u8 (m_4 0), .int .u8 (m_4 1), .int .u8 (m_4 2)] 69] rfl rfl ?_
                refine c_region ?_
                refine l_loadN (i := 3) (vs := [.int .i64 t25.W, .int .i64 t25.H, .slice p_3.1 n_2 p_3.2]) Tryd.isAgg24 Tryd.sizeOf24 rfl rfl rfl rfl rfl ?_
                refine l_val rfl rfl rfl (r_move (v := .int .i64 x41_2) rfl) ?_
                refine l_val rfl rfl rfl (r_move (v := .int .i64 x32_2) rfl) ?_
                refine l_loadN (i := 5) (vs := [.int .u8 (m_4 0), .int .u8 (m_4 1), .int .u8 (m_4 2)]) Tryd.isAgg69 Tryd.sizeOf69 rfl rfl rfl rfl rfl ?_
                obtain ⟨t107, h_t107, H68⟩ := bnd_some H67; clear H67
                refine l_turn (turns_callB (i := 2) (rds := []) (G := fun x : Unit => .tuple #[]) (C := fun x : Unit => rowV 5 1 (.slice p_3.1 n_2 p_3.2) n_2 (t107.map e_u8)) rfl (fun w L' S hF hS hi hp hlt ho hA => k28 hp hlt (know_but w S) hl_6 h_t107) Tryd.call28 rfl) rfl rfl rfl (fun _ => ?_)
                refine c_know (fun w hF hS => lenOf (i := 2) hS rfl) (fun hl_8_ => ?_)
                have hl_8 : n_2 = t107.length := by simpa using hl_8_.symm
                refine l_nil ?_
                refine c_close t107 () 0 [0, 1, 2, 3, 4] (by exact ⟨rfl, rfl, rfl, rfl, rfl, rfl, rfl, rfl, rfl, rfl, rfl, rfl, trivial⟩) (by decide) rfl (by exact ⟨H68, hl_8⟩) (Nat.lt_succ_self _)
          · rintro l_7 _ gg H63 hl_7
            replace H63 : pix_scaled_j5 x41_2 next4 l_7 = some r := H63
            refine c_tidyF [(1, .int .i64 a1), (2, .int .i64 a2), (3, .pointer (some ⟨b7, 0, none⟩)), (6, .pointer (some ⟨b8, 0, none⟩)), (7, .pointer (some ⟨b9, 0, none⟩)), (8, .int .i64 t30), (9, .int .i64 x32_2), (10, .slice p_4.1 t39.length p_4.2), (31, .int .i64 a2), (32, .int .i64 x32_2), (40, .int .i64 a1), (41, .int .i64 x41_2)] [cellsC b7 [.int .i64 a0.W, .int .i64 a0.H, gv] 24, cellsC b8 [.int .i64 0, .int .i64 0, .slice none 0 0] 24, rowV 5 1 (.slice p_3.1 n_2 p_3.2) n_2 (l_7.map e_u8), cellsC b9 [.int .i64 t25.W, .int .i64 t25.H, .slice p_3.1 n_2 p_3.2] 24, rowV 94 2 (.slice p_4.1 t39.length p_4.2) t39.length (t39.map e_pix_share)] rfl rfl ?_
            refine c_region ?_
            obtain ⟨t108, h_t108, H64⟩ := bnd_some H63; clear H63
            refine l_val rfl rfl rfl (r_addG rfl rfl h_t108) ?_
            refine l_val rfl rfl rfl (r_move (v := .int .i64 t108) rfl) ?_
            refine l_nil ?_
            refine c_close (t108, l_7) () m4 [0, 1, 2, 3, 4] (by exact ⟨rfl, rfl, rfl, rfl, rfl, rfl, rfl, rfl, rfl, rfl, rfl, rfl, trivial⟩) (by decide) rfl (by exact ⟨(by subst hn4; exact H64), hl_7⟩) (Nat.lt_succ_self _)
        · have H103 := cnd_f hb H61; clear H61
          refine c_exit ?_
          refine c_close l_6 () 0 [0, 1, 2, 3] (by exact ⟨rfl, rfl, rfl, rfl, rfl, rfl, rfl, rfl, trivial⟩) (by decide) rfl (by exact ⟨H103, hl_6⟩) (Nat.lt_succ_self _)
      · rintro l_4 _ gg H58 hl_4
        replace H58 : pix_scaled_j3 x32_2 m_2 next2 l_4 = some r := H58
        refine c_tidyF [(1, .int .i64 a1), (2, .int .i64 a2), (3, .pointer (some ⟨b7, 0, none⟩)), (6, .pointer (some ⟨b8, 0, none⟩)), (7, .pointer (some ⟨b9, 0, none⟩)), (8, .int .i64 t30), (31, .int .i64 a2), (32, .int .i64 x32_2)] [cellsC b7 [.int .i64 a0.W, .int .i64 a0.H, gv] 24, cellsC b8 [.int .i64 0, .int .i64 0, .slice none 0 0] 24, rowV 5 1 (.slice p_3.1 n_2 p_3.2) n_2 (l_4.map e_u8), cellsC b9 [.int .i64 t25.W, .int .i64 t25.H, .slice p_3.1 n_2 p_3.2] 24] rfl rfl ?_
        refine c_region ?_
        obtain ⟨t109, h_t109, H59⟩ := bnd_some H58; clear H58
        refine l_val rfl rfl rfl (r_addG rfl rfl h_t109) ?_
        refine l_val rfl rfl rfl (r_move (v := .int .i64 t109) rfl) ?_
        refine l_nil ?_
        refine c_close (t109, m_2, l_4) (gv, p_3, n_2) m2 [0, 1, 2, 3] (by exact ⟨rfl, rfl, rfl, rfl, rfl, rfl, rfl, rfl, trivial⟩) (by decide) rfl (by exact ⟨(by subst hn2; exact H59), ⟨gf_2, hl_4⟩⟩) (Nat.lt_succ_self _)
    · have H104 := cnd_f hb H56; clear H56
      refine c_exit ?_
      refine c_close l_3 (p_3, n_2) 0 [1, 2, 3] (by exact ⟨rfl, rfl, trivial⟩) (by decide) rfl (by exact ⟨H104, hl_3⟩) (Nat.lt_succ_self _)
  · rintro l ⟨p_2, n⟩ gg H55 hl
    replace H55 : pix_scaled_j1 t25 l = some r := H55
    refine c_tidyF [(6, .pointer (some ⟨b8, 0, none⟩)), (7, .pointer (some ⟨b9, 0, none⟩))] [cellsC b8 [.int .i64 0, .int .i64 0, .slice none 0 0] 24, rowV 5 1 (.slice p_2.1 n p_2.2) n (l.map e_u8), cellsC b9 [.int .i64 t25.W, .int .i64 t25.H, .slice p_2.1 n p_2.2] 24] rfl rfl ?_
    refine c_seq ?_
    refine c_region ?_
    refine l_loadN (i := 2) (vs := [.int .i64 t25.W, .int .i64 t25.H, .slice p_2.1 n p_2.2]) Tryd.isAgg24 Tryd.sizeOf24 rfl rfl rfl rfl rfl ?_
    refine l_store (i := 0) (vs := [.int .i64 t25.W, .int .i64 t25.H, .slice p_2.1 n p_2.2]) (cs' := [.int .i64 t25.W, .int .i64 t25.H, .slice p_2.1 n p_2.2]) Tryd.sizeOf24 rfl rfl rfl rfl rfl rfl rfl rfl rfl ?_
    refine l_nil ?_
    refine c_ret ?_
    obtain rfl := Option.some.inj H55
    refine retC (i := 0) (vs := [.int .i64 t25.W, .int .i64 t25.H, .slice p_2.1 n p_2.2]) Tryd.isAgg24 Tryd.sizeOf24 rfl rfl rfl rfl (finX p_2 (i := 1) rfl (by first | rfl | rw [(show n = l.length from hl)]) (by first | exact Imp.refl _ | exact Imp.of (by rw [(show n = l.length from hl)])))
theorem k15 {a0 : T_api_Image} {v0_2 : Value} {a1 : Int} {a2 : Int} {r : T_api_Image × Int} {w : World} {h : Heap} (hw : Know h w noS) (f0_2 : FrS h 1 v0_2 (a0.Pixels.map e_u8)) (H : pix_Scale a0 a1 a2 = some r) : Does Tryd.prog 15 (List.toArray [.agg #[.int .i64 a0.W, .int .i64 a0.H, v0_2], .int .i64 a1, .int .i64 a2]) w (fun v w' => ∃ x : (Option Addr × Nat), v = (.tuple #[.agg #[.int .i64 r.1.W, .int .i64 r.1.H, .slice x.1 r.1.Pixels.length x.2], .int .i64 r.2]) ∧ Turn w w' noS (rowV 5 1 (.slice x.1 r.1.Pixels.length x.2) r.1.Pixels.length (r.1.Pixels.map e_u8))) := by
  refine enter (n := 26) Tryd.func15 rfl rfl rfl noS [] (Sat.nil _ _) ?_
  refine c_seq ?_
  refine c_region ?_
  refine l_box (cs := [.int .i64 a0.W, .int .i64 a0.H, v0_2]) rfl rfl rfl rfl (fun b2 => ?_)
  refine l_alloc (cs := [.int .i64 0, .int .i64 0, .slice none 0 0]) Tryd.zeroValue24 rfl rfl rfl (fun b3 => ?_)
  refine l_val rfl rfl rfl (r_assign (v := .int .i64 0) rfl) ?_
  refine l_nil ?_
  refine c_seq ?_
  refine c_seq ?_
  refine c_region ?_
  refine l_loadN (i := 0) (vs := [.int .i64 a0.W, .int .i64 a0.H, v0_2]) Tryd.isAgg24 Tryd.sizeOf24 rfl rfl rfl rfl rfl ?_
  obtain ⟨t10, h_t10, H11⟩ := bnd_some H; clear H
  refine l_callG (fun w hF hS => k11 (know_all w) (f0_2.mono (hw.now hF)) h_t10) Tryd.call11 rfl rfl rfl ?_
  refine l_val rfl rfl rfl (r_assign (v := .int .i64 t10) rfl) ?_
  refine l_nil ?_
  refine c_seq ?_
  refine c_region ?_
  refine l_val rfl rfl rfl (r_move (v := .int .i64 t10) rfl) ?_
  refine l_val rfl rfl rfl (r_neq rfl rfl) ?_
  refine l_nil ?_
  refine c_if (b := (decide (t10 ≠ 0))) rfl (fun hb => ?_) (fun hb => ?_)
  · have H12 := cnd_t hb H11; clear H11
    refine c_seq ?_
    refine c_region ?_
    refine l_val rfl rfl rfl (r_build (pl := #[(0, 1), (1, 1), (2, 1)]) (ps := []) (cells := #[.int .i64 0, .int .i64 0, .slice none 0 0]) Tryd.zeroValue24 Tryd.runUnderlying24 (fun w => by kernel_rfl) rfl rfl) ?_
    refine l_val rfl rfl rfl (r_move (v := .int .i64 t10) rfl) ?_
    refine l_store (i := 1) (vs := [.int .i64 0, .int .i64 0, .slice none 0 0]) (cs' := [.int .i64 0, .int .i64 0, .slice none 0 0]) Tryd.sizeOf24 rfl rfl rfl rfl rfl rfl rfl rfl rfl ?_
    refine l_val rfl rfl rfl (r_assign (v := .int .i64 t10) rfl) ?_
    refine l_nil ?_
    refine c_ret ?_
    refine c_nilRow 5 1 ?_
    obtain rfl := Option.some.inj H12
    refine retCt (i := 1) (vs := [.int .i64 0, .int .i64 0, .slice ((none, 0) : Option Addr × Nat).1 ([] : List Int).length ((none, 0) : Option Addr × Nat).2]) (v2 := .int .i64 t10) Tryd.isAgg24 Tryd.sizeOf24 rfl rfl rfl rfl rfl (finX ((none, 0) : Option Addr × Nat) (i := 2) rfl rfl (Imp.refl _))
  · have H13 := cnd_f hb H11; clear H11
    refine c_skip ?_
    refine c_seq ?_
    refine c_seq ?_
    refine c_region ?_
    refine l_val rfl rfl rfl (r_move (v := .int .i64 a1) rfl) ?_
    obtain ⟨t16, h_t16, H14⟩ := bnd_some H13; clear H13
    refine l_call (k24 h_t16) Tryd.call24 rfl rfl rfl ?_
    refine l_val rfl rfl rfl (r_move (v := .bool t16) rfl) ?_
    refine split (fun hb => ?_) (fun hb => ?_)
    · have H15 := cnd_t hb H14; clear H14
      refine l_passed rfl rfl rfl ?_
      refine l_passed rfl rfl rfl ?_
      refine l_val rfl rfl rfl (r_pickT (v := .bool true) rfl rfl) ?_
      refine l_nil ?_
      refine c_true rfl ?_
      refine c_seq ?_
      refine c_region ?_
      refine l_val rfl rfl rfl (r_build (pl := #[(0, 1), (1, 1), (2, 1)]) (ps := []) (cells := #[.int .i64 0, .int .i64 0, .slice none 0 0]) Tryd.zeroValue24 Tryd.runUnderlying24 (fun w => by kernel_rfl) rfl rfl) ?_
      refine l_store (i := 1) (vs := [.int .i64 0, .int .i64 0, .slice none 0 0]) (cs' := [.int .i64 0, .int .i64 0, .slice none 0 0]) Tryd.sizeOf24 rfl rfl rfl rfl rfl rfl rfl rfl rfl ?_
      refine l_val rfl rfl rfl (r_assign (v := .int .i64 2) rfl) ?_
      refine l_nil ?_
      refine c_ret ?_
      refine c_nilRow 5 1 ?_
      obtain rfl := Option.some.inj H15
      refine retCt (i := 1) (vs := [.int .i64 0, .int .i64 0, .slice ((none, 0) : Option Addr × Nat).1 ([] : List Int).length ((none, 0) : Option Addr × Nat).2]) (v2 := .int .i64 2) Tryd.isAgg24 Tryd.sizeOf24 rfl rfl rfl rfl rfl (finX ((none, 0) : Option Addr × Nat) (i := 2) rfl rfl (Imp.refl _))
    · have H16 := cnd_f hb H14; clear H14
      refine l_val rfl rfl rfl (r_move (v := .int .i64 a2) rfl) ?_
      obtain ⟨t19, h_t19, H17⟩ := bnd_some H16; clear H16
      refine l_call (k24 h_t19) Tryd.call24 rfl rfl rfl ?_
      refine l_val rfl rfl rfl (r_pickF (v := .bool t19) rfl rfl) ?_
      refine l_nil ?_
      refine c_if (b := t19) rfl (fun hb => ?_) (fun hb => ?_)
      · have H18 := cnd_t hb H17; clear H17
        refine c_seq ?_
        refine c_region ?_
        refine l_val rfl rfl rfl (r_build (pl := #[(0, 1), (1, 1), (2, 1)]) (ps := []) (cells := #[.int .i64 0, .int .i64 0, .slice none 0 0]) Tryd.zeroValue24 Tryd.runUnderlying24 (fun w => by kernel_rfl) rfl rfl) ?_
        refine l_store (i := 1) (vs := [.int .i64 0, .int .i64 0, .slice none 0 0]) (cs' := [.int .i64 0, .int .i64 0, .slice none 0 0]) Tryd.sizeOf24 rfl rfl rfl rfl rfl rfl rfl rfl rfl ?_
        refine l_val rfl rfl rfl (r_assign (v := .int .i64 2) rfl) ?_
        refine l_nil ?_
        refine c_ret ?_
        refine c_nilRow 5 1 ?_
        obtain rfl := Option.some.inj H18
        refine retCt (i := 1) (vs := [.int .i64 0, .int .i64 0, .slice ((none, 0) : Option Addr × Nat).1 ([] : List Int).length ((none, 0) : Option Addr × Nat).2]) (v2 := .int .i64 2) Tryd.isAgg24 Tryd.sizeOf24 rfl rfl rfl rfl rfl (finX ((none, 0) : Option Addr × Nat) (i := 2) rfl rfl (Imp.refl _))
      · have H19 := cnd_f hb H17; clear H17
        refine c_skip ?_
        refine c_seq ?_
        refine c_region ?_
        refine l_loadN (i := 0) (vs := [.int .i64 a0.W, .int .i64 a0.H, v0_2]) Tryd.isAgg24 Tryd.sizeOf24 rfl rfl rfl rfl rfl ?_
        refine l_val rfl rfl rfl (r_move (v := .int .i64 a1) rfl) ?_
        refine l_val rfl rfl rfl (r_move (v := .int .i64 a2) rfl) ?_
        obtain ⟨t25, h_t25, H20⟩ := bnd_some H19; clear H19
        refine l_make (makes_call (rds := []) (G := fun x : (Option Addr × Nat) => .agg #[.int .i64 t25.W, .int .i64 t25.H, .slice x.1 t25.Pixels.length x.2]) (C := fun x : (Option Addr × Nat) => rowV 5 1 (.slice x.1 t25.Pixels.length x.2) t25.Pixels.length (t25.Pixels.map e_u8)) (fun w L' hF hS hi => k30 (know_all w) (f0_2.mono (hw.now hF)) h_t25) Tryd.call30 rfl) rfl rfl rfl (fun p => ?_)
        refine l_store (i := 1) (vs := [.int .i64 t25.W, .int .i64 t25.H, .slice p.1 t25.Pixels.length p.2]) (cs' := [.int .i64 t25.W, .int .i64 t25.H, .slice p.1 t25.Pixels.length p.2]) Tryd.sizeOf24 rfl rfl rfl rfl rfl rfl rfl rfl rfl ?_
        refine l_val rfl rfl rfl (r_assign (v := .int .i64 0) rfl) ?_
        refine l_nil ?_
        refine c_ret ?_
        obtain rfl := Option.some.inj H20
        refine retCt (i := 1) (vs := [.int .i64 t25.W, .int .i64 t25.H, .slice p.1 t25.Pixels.length p.2]) (v2 := .int .i64 0) Tryd.isAgg24 Tryd.sizeOf24 rfl rfl rfl rfl rfl (finX p (i := 2) rfl rfl (Imp.refl _))
theorem k5 {a0 : T_api_Image} {v0_2 : Value} {a1 : (List T_edit_Step)} {v1 : Value} {r : T_api_Image × Int} {w : World} {h : Heap} (hw : Know h w noS) (f0_2 : FrS h 1 v0_2 (a0.Pixels.map e_u8)) (f1 : FrS h 5 v1 (a1.map e_edit_Step)) (H : edit_Render a0 a1 = some r) : Does Tryd.prog 5 (List.toArray [.agg #[.int .i64 a0.W, .int .i64 a0.H, v0_2], v1]) w (fun v w' => ∃ x : (Option Addr × Nat), v = (.tuple #[.agg #[.int .i64 r.1.W, .int .i64 r.1.H, .slice x.1 r.1.Pixels.length x.2], .int .i64 r.2]) ∧ Turn w w' noS (rowV 5 1 (.slice x.1 r.1.Pixels.length x.2) r.1.Pixels.length (r.1.Pixels.map e_u8))) := by
  refine enter (n := 92) Tryd.func5 rfl rfl rfl noS [] (Sat.nil _ _) ?_
  refine c_seq ?_
  refine c_region ?_
  refine l_box (cs := [.int .i64 a0.W, .int .i64 a0.H, v0_2]) rfl rfl rfl rfl (fun b3 => ?_)
  refine l_alloc (cs := [.int .i64 0, .int .i64 0, .slice none 0 0]) Tryd.zeroValue24 rfl rfl rfl (fun b4 => ?_)
  refine l_val rfl rfl rfl (r_assign (v := .int .i64 0) rfl) ?_
  refine l_nil ?_
  refine c_seq ?_
  refine c_seq ?_
  refine c_region ?_
  refine l_val rfl rfl rfl (r_move (v := v1) rfl) ?_
  obtain ⟨t14, h_t14, H28⟩ := bnd_some H; clear H
  refine l_callG (fun w hF hS => k10 (know_all w) (f1.mono (hw.now hF)) h_t14) Tryd.call10 rfl rfl rfl ?_
  refine l_val rfl rfl rfl (r_assign (v := .int .i64 t14) rfl) ?_
  refine l_nil ?_
  refine c_seq ?_
  refine c_region ?_
  refine l_val rfl rfl rfl (r_move (v := .int .i64 t14) rfl) ?_
  refine l_val rfl rfl rfl (r_neq rfl rfl) ?_
  refine l_nil ?_
  refine c_if (b := (decide (t14 ≠ 0))) rfl (fun hb => ?_) (fun hb => ?_)
  · have H29 := cnd_t hb H28; clear H28
    refine c_seq ?_
    refine c_region ?_
    refine l_val rfl rfl rfl (r_build (pl := #[(0, 1), (1, 1), (2, 1)]) (ps := []) (cells := #[.int .i64 0, .int .i64 0, .slice none 0 0]) Tryd.zeroValue24 Tryd.runUnderlying24 (fun w => by kernel_rfl) rfl rfl) ?_
    refine l_val rfl rfl rfl (r_move (v := .int .i64 t14) rfl) ?_
    refine l_store (i := 1) (vs := [.int .i64 0, .int .i64 0, .slice none 0 0]) (cs' := [.int .i64 0, .int .i64 0, .slice none 0 0]) Tryd.sizeOf24 rfl rfl rfl rfl rfl rfl rfl rfl rfl ?_
    refine l_val rfl rfl rfl (r_assign (v := .int .i64 t14) rfl) ?_
    refine l_nil ?_
    refine c_ret ?_
    refine c_nilRow 5 1 ?_
    obtain rfl := Option.some.inj H29
    refine retCt (i := 1) (vs := [.int .i64 0, .int .i64 0, .slice ((none, 0) : Option Addr × Nat).1 ([] : List Int).length ((none, 0) : Option Addr × Nat).2]) (v2 := .int .i64 t14) Tryd.isAgg24 Tryd.sizeOf24 rfl rfl rfl rfl rfl (finX ((none, 0) : Option Addr × Nat) (i := 2) rfl rfl (Imp.refl _))
  · have H30 := cnd_f hb H28; clear H28
    refine c_skip ?_
    refine c_seq ?_
    refine c_seq ?_
    refine c_region ?_
    refine l_loadN (i := 0) (vs := [.int .i64 a0.W, .int .i64 a0.H, v0_2]) Tryd.isAgg24 Tryd.sizeOf24 rfl rfl rfl rfl rfl ?_
    obtain ⟨t20, h_t20, H31⟩ := bnd_some H30; clear H30
    refine l_callG (fun w hF hS => k11 (know_all w) (f0_2.mono (hw.now hF)) h_t20) Tryd.call11 rfl rfl rfl ?_
    refine l_val rfl rfl rfl (r_assign (v := .int .i64 t20) rfl) ?_
    refine l_nil ?_
    refine c_seq ?_
    refine c_region ?_
    refine l_val rfl rfl rfl (r_move (v := .int .i64 t20) rfl) ?_
    refine l_val rfl rfl rfl (r_neq rfl rfl) ?_
    refine l_nil ?_
    refine c_if (b := (decide (t20 ≠ 0))) rfl (fun hb => ?_) (fun hb => ?_)
    · have H32 := cnd_t hb H31; clear H31
      refine c_seq ?_
      refine c_region ?_
      refine l_val rfl rfl rfl (r_build (pl := #[(0, 1), (1, 1), (2, 1)]) (ps := []) (cells := #[.int .i64 0, .int .i64 0, .slice none 0 0]) Tryd.zeroValue24 Tryd.runUnderlying24 (fun w => by kernel_rfl) rfl rfl) ?_
      refine l_val rfl rfl rfl (r_move (v := .int .i64 t20) rfl) ?_
      refine l_store (i := 1) (vs := [.int .i64 0, .int .i64 0, .slice none 0 0]) (cs' := [.int .i64 0, .int .i64 0, .slice none 0 0]) Tryd.sizeOf24 rfl rfl rfl rfl rfl rfl rfl rfl rfl ?_
      refine l_val rfl rfl rfl (r_assign (v := .int .i64 t20) rfl) ?_
      refine l_nil ?_
      refine c_ret ?_
      refine c_nilRow 5 1 ?_
      obtain rfl := Option.some.inj H32
      refine retCt (i := 1) (vs := [.int .i64 0, .int .i64 0, .slice ((none, 0) : Option Addr × Nat).1 ([] : List Int).length ((none, 0) : Option Addr × Nat).2]) (v2 := .int .i64 t20) Tryd.isAgg24 Tryd.sizeOf24 rfl rfl rfl rfl rfl (finX ((none, 0) : Option Addr × Nat) (i := 2) rfl rfl (Imp.refl _))
    · have H33 := cnd_f hb H31; clear H31
      refine c_skip ?_
      refine c_seq ?_
      refine c_seq ?_
      refine c_region ?_
      refine l_val rfl rfl rfl (r_move (v := v1) rfl) ?_
      refine l_val rfl rfl rfl (r_field Tryd.runUnderlying24 rfl Tryd.sizeOf3 rfl rfl) ?_
      refine l_load1 (i := 0) (v := .int .i64 a0.W) Tryd.isAgg3 rfl rfl rfl rfl rfl ?_
      refine l_val rfl rfl rfl (r_field Tryd.runUnderlying24 rfl Tryd.sizeOf3 rfl rfl) ?_
      refine l_load1 (i := 0) (v := .int .i64 a0.H) Tryd.isAgg3 rfl rfl rfl rfl rfl ?_
      obtain ⟨t31, h_t31, H34⟩ := bnd_some H33; clear H33
      refine l_callG (fun w hF hS => k12 (know_all w) (f1.mono (hw.now hF)) h_t31) Tryd.call12 rfl rfl rfl ?_
      refine l_val rfl rfl rfl (r_move (v := .tuple #[.int .i64 t31.1, .int .i64 t31.2.1, .int .i64 t31.2.2]) rfl) ?_
      refine l_val rfl rfl rfl (r_extract (v := .int .i64 t31.1) rfl rfl) ?_
      refine l_val rfl rfl rfl (r_extract (v := .int .i64 t31.2.1) rfl rfl) ?_
      refine l_val rfl rfl rfl (r_extract (v := .int .i64 t31.2.2) rfl rfl) ?_
      refine l_val rfl rfl rfl (r_assign (v := .int .i64 t31.1) rfl) ?_
      refine l_val rfl rfl rfl (r_assign (v := .int .i64 t31.2.1) rfl) ?_
      refine l_val rfl rfl rfl (r_assign (v := .int .i64 t31.2.2) rfl) ?_
      refine l_nil ?_
      refine c_seq ?_
      refine c_region ?_
      refine l_val rfl rfl rfl (r_move (v := .int .i64 t31.2.2) rfl) ?_
      refine l_val rfl rfl rfl (r_neq rfl rfl) ?_
      refine l_nil ?_
      refine c_if (b := (decide (t31.2.2 ≠ 0))) rfl (fun hb => ?_) (fun hb => ?_)
      · have H35 := cnd_t hb H34; clear H34
        refine c_seq ?_
        refine c_region ?_
        refine l_val rfl rfl rfl (r_build (pl := #[(0, 1), (1, 1), (2, 1)]) (ps := []) (cells := #[.int .i64 0, .int .i64 0, .slice none 0 0]) Tryd.zeroValue24 Tryd.runUnderlying24 (fun w => by kernel_rfl) rfl rfl) ?_
        refine l_val rfl rfl rfl (r_move (v := .int .i64 t31.2.2) rfl) ?_
        refine l_store (i := 1) (vs := [.int .i64 0, .int .i64 0, .slice none 0 0]) (cs' := [.int .i64 0, .int .i64 0, .slice none 0 0]) Tryd.sizeOf24 rfl rfl rfl rfl rfl rfl rfl rfl rfl ?_
        refine l_val rfl rfl rfl (r_assign (v := .int .i64 t31.2.2) rfl) ?_
        refine l_nil ?_
        refine c_ret ?_
        refine c_nilRow 5 1 ?_
        obtain rfl := Option.some.inj H35
        refine retCt (i := 1) (vs := [.int .i64 0, .int .i64 0, .slice ((none, 0) : Option Addr × Nat).1 ([] : List Int).length ((none, 0) : Option Addr × Nat).2]) (v2 := .int .i64 t31.2.2) Tryd.isAgg24 Tryd.sizeOf24 rfl rfl rfl rfl rfl (finX ((none, 0) : Option Addr × Nat) (i := 2) rfl rfl (Imp.refl _))
      · have H36 := cnd_f hb H34; clear H34
        refine c_skip ?_
        refine c_seq ?_
        refine c_region ?_
        refine l_loadN (i := 0) (vs := [.int .i64 a0.W, .int .i64 a0.H, v0_2]) Tryd.isAgg24 Tryd.sizeOf24 rfl rfl rfl rfl rfl ?_
        obtain ⟨t41, h_t41, H37⟩ := bnd_some H36; clear H36
        refine l_make (makes_call (rds := []) (G := fun x : (Option Addr × Nat) => .tuple #[.agg #[.int .i64 t41.1.W, .int .i64 t41.1.H, .slice x.1 t41.1.Pixels.length x.2], .int .i64 t41.2]) (C := fun x : (Option Addr × Nat) => rowV 5 1 (.slice x.1 t41.1.Pixels.length x.2) t41.1.Pixels.length (t41.1.Pixels.map e_u8)) (fun w L' hF hS hi => k13 (know_all w) (f0_2.mono (hw.now hF)) h_t41) Tryd.call13 rfl) rfl rfl rfl (fun p => ?_)
        refine l_val rfl rfl rfl (r_move (v := .tuple #[.agg #[.int .i64 t41.1.W, .int .i64 t41.1.H, .slice p.1 t41.1.Pixels.length p.2], .int .i64 t41.2]) rfl) ?_
        refine l_val rfl rfl rfl (r_extract (v := .agg #[.int .i64 t41.1.W, .int .i64 t41.1.H, .slice p.1 t41.1.Pixels.length p.2]) rfl rfl) ?_
        refine l_val rfl rfl rfl (r_extract (v := .int .i64 t41.2) rfl rfl) ?_
        refine l_store (i := 0) (vs := [.int .i64 t41.1.W, .int .i64 t41.1.H, .slice p.1 t41.1.Pixels.length p.2]) (cs' := [.int .i64 t41.1.W, .int .i64 t41.1.H, .slice p.1 t41.1.Pixels.length p.2]) Tryd.sizeOf24 rfl rfl rfl rfl rfl rfl rfl rfl rfl ?_
        refine l_nil ?_
        refine c_meet (r := r) (σ := Int × Int × (List Int)) (τ := (Option Addr × Nat) × Nat) (fun s => edit_Render_j1 s.1 s.2.1 s.2.2) (fun s t => [(2, .pointer (some ⟨b3, 0, none⟩)), (4, .pointer (some ⟨b4, 0, none⟩))]) (fun s t => [cellsC b3 [.int .i64 s.1, .int .i64 s.2.1, .slice t.1.1 t.2 t.1.2] 24, cellsC b4 [.int .i64 0, .int .i64 0, .slice none 0 0] 24, rowV 5 1 (.slice t.1.1 t.2 t.1.2) t.2 (s.2.2.map e_u8)]) (fun s t => t.2 = s.2.2.length) ?_ ?_
        · refine c_seq ?_
          refine c_region ?_
          refine l_val rfl rfl rfl (r_move (v := v1) rfl) ?_
          refine l_val rfl rfl rfl (r_lenF Tryd.underlying27 rfl f1 rfl) ?_
          refine l_val rfl rfl rfl (r_move (v := .int .i64 0) rfl) ?_
          refine l_nil ?_
          refine c_block ?_
          refine c_fix (σ := Int × Int × Int × (List Int)) (τ := (Option Addr × Nat) × Nat) (fun next2 s => edit_Render_l2 a1 next2 s.1 s.2.1 s.2.2.1 s.2.2.2) (fun s t => [(2, .pointer (some ⟨b3, 0, none⟩)), (4, .pointer (some ⟨b4, 0, none⟩)), (44, v1), (45, .int .i64 (a1.length : Int)), (46, .int .i64 s.1)]) (fun s t => [cellsC b3 [.int .i64 s.2.1, .int .i64 s.2.2.1, .slice t.1.1 t.2 t.1.2] 24, cellsC b4 [.int .i64 0, .int .i64 0, .slice none 0 0] 24, rowV 5 1 (.slice t.1.1 t.2 t.1.2) t.2 (s.2.2.2.map e_u8)]) (fun s t => t.2 = s.2.2.2.length) (0, t41.1.W, t41.1.H, t41.1.Pixels) (p, t41.1.Pixels.length) [0, 1, 2] H37 (by exact rfl) (by exact ⟨rfl, rfl, rfl, rfl, rfl, trivial⟩) (by decide) rfl ?_
          rintro ⟨x46_2, m_5, m_6, l_3⟩ ⟨p_3, n_2⟩ m2 gg H39 hl_3
          clear H37
          replace H39 : edit_Render_l2 a1 (it (fun next2 s => edit_Render_l2 a1 next2 s.1 s.2.1 s.2.2.1 s.2.2.2) m2) x46_2 m_5 m_6 l_3 = some r := H39
          generalize hn2 : it (fun next2 s => edit_Render_l2 a1 next2 s.1 s.2.1 s.2.2.1 s.2.2.2) m2 = next2 at H39
          refine c_tidyF [(2, .pointer (some ⟨b3, 0, none⟩)), (4, .pointer (some ⟨b4, 0, none⟩)), (44, v1), (45, .int .i64 (a1.length : Int)), (46, .int .i64 x46_2)] [cellsC b3 [.int .i64 m_5, .int .i64 m_6, .slice p_3.1 n_2 p_3.2] 24, cellsC b4 [.int .i64 0, .int .i64 0, .slice none 0 0] 24, rowV 5 1 (.slice p_3.1 n_2 p_3.2) n_2 (l_3.map e_u8)] rfl rfl ?_
          refine c_seq ?_
          refine c_region ?_
          refine l_val rfl rfl rfl (r_lss rfl rfl) ?_
          refine l_nil ?_
          refine c_seq ?_
          refine c_if (b := (decide (x46_2 < (a1.length : Int)))) rfl (fun hb => ?_) (fun hb => ?_)
          · have H40 := cnd_t hb H39; clear H39
            refine c_skip ?_
            refine c_meet (r := r) (σ := Int × Int × (List Int)) (τ := (Option Addr × Nat) × Nat) (fun s => edit_Render_j3 x46_2 next2 s.1 s.2.1 s.2.2) (fun s t => [(2, .pointer (some ⟨b3, 0, none⟩)), (4, .pointer (some ⟨b4, 0, none⟩)), (44, v1), (45, .int .i64 (a1.length : Int)), (46, .int .i64 x46_2)]) (fun s t => [cellsC b3 [.int .i64 s.1, .int .i64 s.2.1, .slice t.1.1 t.2 t.1.2] 24, cellsC b4 [.int .i64 0, .int .i64 0, .slice none 0 0] 24, rowV 5 1 (.slice t.1.1 t.2 t.1.2) t.2 (s.2.2.map e_u8)]) (fun s t => t.2 = s.2.2.length) ?_ ?_
            · refine c_block ?_
              refine c_seq ?_
              refine c_region ?_
              obtain ⟨t48, h_t48, H43⟩ := bnd_some H40; clear H40
              refine l_val rfl rfl rfl (r_indexF Tryd.underlying27 Tryd.sizeOf29 rfl rfl f1 h_t48) ?_
              refine l_read (fun w hF hS => run_loadGN (f := e_edit_Step) (i := x46_2) (sz := 5) (j := 0) (vs := [.int .i64 t48.Kind, .int .i64 t48.A, .int .i64 t48.B, .int .i64 t48.C, .int .i64 t48.D]) Tryd.isAgg29 Tryd.sizeOf29 rfl rfl (f1.row (hw.now hF)) h_t48 rfl) rfl rfl rfl ?_
              refine l_alloc (cs := [.int .i64 0, .int .i64 0, .int .i64 0, .int .i64 0, .int .i64 0]) Tryd.zeroValue29 rfl rfl rfl (fun b5 => ?_)
              refine l_store (i := 3) (vs := [.int .i64 t48.Kind, .int .i64 t48.A, .int .i64 t48.B, .int .i64 t48.C, .int .i64 t48.D]) (cs' := [.int .i64 t48.Kind, .int .i64 t48.A, .int .i64 t48.B, .int .i64 t48.C, .int .i64 t48.D]) Tryd.sizeOf29 rfl rfl rfl rfl rfl rfl rfl rfl rfl ?_
              refine l_nil ?_
              refine c_seq ?_
              refine c_region ?_
              refine l_val rfl rfl rfl (r_field Tryd.runUnderlying29 rfl Tryd.sizeOf3 rfl rfl) ?_
              refine l_load1 (i := 3) (v := .int .i64 t48.Kind) Tryd.isAgg3 rfl rfl rfl rfl rfl ?_
              refine l_nil ?_
              refine c_block ?_
              refine c_seq ?_
              refine c_region ?_
              refine l_val rfl rfl rfl (r_eql rfl rfl) ?_
              refine l_val rfl rfl rfl (r_assign (v := .bool (decide (t48.Kind = 1))) rfl) ?_
              refine l_nil ?_
              refine c_if (b := (decide (t48.Kind = 1))) rfl (fun hb => ?_) (fun hb => ?_)
              · have H44 := cnd_t hb H43; clear H43
                refine c_region ?_
                refine l_loadN (i := 0) (vs := [.int .i64 m_5, .int .i64 m_6, .slice p_3.1 n_2 p_3.2]) Tryd.isAgg24 Tryd.sizeOf24 rfl rfl rfl rfl rfl ?_
                refine l_val rfl rfl rfl (r_field Tryd.runUnderlying29 rfl Tryd.sizeOf3 rfl rfl) ?_
                refine l_load1 (i := 3) (v := .int .i64 t48.A) Tryd.isAgg3 rfl rfl rfl rfl rfl ?_
                obtain ⟨t61, h_t61, H45⟩ := bnd_some H44; clear H44
                refine l_make (makes_call (rds := [2]) (G := fun x : (Option Addr × Nat) => .tuple #[.agg #[.int .i64 t61.1.W, .int .i64 t61.1.H, .slice x.1 t61.1.Pixels.length x.2], .int .i64 t61.2]) (C := fun x : (Option Addr × Nat) => rowV 5 1 (.slice x.1 t61.1.Pixels.length x.2) t61.1.Pixels.length (t61.1.Pixels.map e_u8)) (fun w L' hF hS hi => k13 (know_all w) (frs_own (i := 2) hl_3 hS ((hi 2 (by simp)).trans rfl)) h_t61) Tryd.call13 rfl) rfl rfl rfl (fun p_5 => ?_)
                refine l_val rfl rfl rfl (r_move (v := .tuple #[.agg #[.int .i64 t61.1.W, .int .i64 t61.1.H, .slice p_5.1 t61.1.Pixels.length p_5.2], .int .i64 t61.2]) rfl) ?_
                refine l_val rfl rfl rfl (r_extract (v := .agg #[.int .i64 t61.1.W, .int .i64 t61.1.H, .slice p_5.1 t61.1.Pixels.length p_5.2]) rfl rfl) ?_
                refine l_val rfl rfl rfl (r_extract (v := .int .i64 t61.2) rfl rfl) ?_
                refine l_store (i := 0) (vs := [.int .i64 t61.1.W, .int .i64 t61.1.H, .slice p_5.1 t61.1.Pixels.length p_5.2]) (cs' := [.int .i64 t61.1.W, .int .i64 t61.1.H, .slice p_5.1 t61.1.Pixels.length p_5.2]) Tryd.sizeOf24 rfl rfl rfl rfl rfl rfl rfl rfl rfl ?_
                refine l_nil ?_
                refine c_close (t61.1.W, t61.1.H, t61.1.Pixels) (p_5, t61.1.Pixels.length) 0 [0, 1, 4] (by exact ⟨rfl, rfl, rfl, rfl, rfl, trivial⟩) (by decide) rfl (by exact ⟨H45, rfl⟩) (Nat.lt_succ_self _)
              · have H46 := cnd_f hb H43; clear H43
                refine c_seq ?_
                refine c_region ?_
                refine l_val rfl rfl rfl (r_eql rfl rfl) ?_
                refine l_val rfl rfl rfl (r_assign (v := .bool (decide (t48.Kind = 2))) rfl) ?_
                refine l_nil ?_
                refine c_if (b := (decide (t48.Kind = 2))) rfl (fun hb => ?_) (fun hb => ?_)
                · have H47 := cnd_t hb H46; clear H46
                  refine c_region ?_
                  refine l_loadN (i := 0) (vs := [.int .i64 m_5, .int .i64 m_6, .slice p_3.1 n_2 p_3.2]) Tryd.isAgg24 Tryd.sizeOf24 rfl rfl rfl rfl rfl ?_
                  refine l_val rfl rfl rfl (r_field Tryd.runUnderlying29 rfl Tryd.sizeOf3 rfl rfl) ?_
                  refine l_load1 (i := 3) (v := .int .i64 t48.A) Tryd.isAgg3 rfl rfl rfl rfl rfl ?_
                  refine l_val rfl rfl rfl (r_field Tryd.runUnderlying29 rfl Tryd.sizeOf3 rfl rfl) ?_
                  refine l_load1 (i := 3) (v := .int .i64 t48.B) Tryd.isAgg3 rfl rfl rfl rfl rfl ?_
                  refine l_val rfl rfl rfl (r_field Tryd.runUnderlying29 rfl Tryd.sizeOf3 rfl rfl) ?_
                  refine l_load1 (i := 3) (v := .int .i64 t48.C) Tryd.isAgg3 rfl rfl rfl rfl rfl ?_
                  refine l_val rfl rfl rfl (r_field Tryd.runUnderlying29 rfl Tryd.sizeOf3 rfl rfl) ?_
                  refine l_load1 (i := 3) (v := .int .i64 t48.D) Tryd.isAgg3 rfl rfl rfl rfl rfl ?_
                  obtain ⟨t76, h_t76, H48⟩ := bnd_some H47; clear H47
                  refine l_make (makes_call (rds := [2]) (G := fun x : (Option Addr × Nat) => .tuple #[.agg #[.int .i64 t76.1.W, .int .i64 t76.1.H, .slice x.1 t76.1.Pixels.length x.2], .int .i64 t76.2]) (C := fun x : (Option Addr × Nat) => rowV 5 1 (.slice x.1 t76.1.Pixels.length x.2) t76.1.Pixels.length (t76.1.Pixels.map e_u8)) (fun w L' hF hS hi => k14 (know_all w) (frs_own (i := 2) hl_3 hS ((hi 2 (by simp)).trans rfl)) h_t76) Tryd.call14 rfl) rfl rfl rfl (fun p_6 => ?_)
                  refine l_val rfl rfl rfl (r_move (v := .tuple #[.agg #[.int .i64 t76.1.W, .int .i64 t76.1.H, .slice p_6.1 t76.1.Pixels.length p_6.2], .int .i64 t76.2]) rfl) ?_
                  refine l_val rfl rfl rfl (r_extract (v := .agg #[.int .i64 t76.1.W, .int .i64 t76.1.H, .slice p_6.1 t76.1.Pixels.length p_6.2]) rfl rfl) ?_
                  refine l_val rfl rfl rfl (r_extract (v := .int .i64 t76.2) rfl rfl) ?_
                  refine l_store (i := 0) (vs := [.int .i64 t76.1.W, .int .i64 t76.1.H, .slice p_6.1 t76.1.Pixels.length p_6.2]) (cs' := [.int .i64 t76.1.W, .int .i64 t76.1.H, .slice p_6.1 t76.1.Pixels.length p_6.2]) Tryd.sizeOf24 rfl rfl rfl rfl rfl rfl rfl rfl rfl ?_
                  refine l_nil ?_
                  refine c_close (t76.1.W, t76.1.H, t76.1.Pixels) (p_6, t76.1.Pixels.length) 0 [0, 1, 4] (by exact ⟨rfl, rfl, rfl, rfl, rfl, trivial⟩) (by decide) rfl (by exact ⟨H48, rfl⟩) (Nat.lt_succ_self _)
                · have H49 := cnd_f hb H46; clear H46
                  refine c_seq ?_
                  refine c_region ?_
                  refine l_val rfl rfl rfl (r_eql rfl rfl) ?_
                  refine l_val rfl rfl rfl (r_assign (v := .bool (decide (t48.Kind = 3))) rfl) ?_
                  refine l_nil ?_
                  refine c_if (b := (decide (t48.Kind = 3))) rfl (fun hb => ?_) (fun hb => ?_)
                  · have H50 := cnd_t hb H49; clear H49
                    refine c_region ?_
                    refine l_loadN (i := 0) (vs := [.int .i64 m_5, .int .i64 m_6, .slice p_3.1 n_2 p_3.2]) Tryd.isAgg24 Tryd.sizeOf24 rfl rfl rfl rfl rfl ?_
                    refine l_val rfl rfl rfl (r_field Tryd.runUnderlying29 rfl Tryd.sizeOf3 rfl rfl) ?_
                    refine l_load1 (i := 3) (v := .int .i64 t48.A) Tryd.isAgg3 rfl rfl rfl rfl rfl ?_
                    refine l_val rfl rfl rfl (r_field Tryd.runUnderlying29 rfl Tryd.sizeOf3 rfl rfl) ?_
                    refine l_load1 (i := 3) (v := .int .i64 t48.B) Tryd.isAgg3 rfl rfl rfl rfl rfl ?_
                    obtain ⟨t87, h_t87, H51⟩ := bnd_some H50; clear H50
                    refine l_make (makes_call (rds := [2]) (G := fun x : (Option Addr × Nat) => .tuple #[.agg #[.int .i64 t87.1.W, .int .i64 t87.1.H, .slice x.1 t87.1.Pixels.length x.2], .int .i64 t87.2]) (C := fun x : (Option Addr × Nat) => rowV 5 1 (.slice x.1 t87.1.Pixels.length x.2) t87.1.Pixels.length (t87.1.Pixels.map e_u8)) (fun w L' hF hS hi => k15 (know_all w) (frs_own (i := 2) hl_3 hS ((hi 2 (by simp)).trans rfl)) h_t87) Tryd.call15 rfl) rfl rfl rfl (fun p_7 => ?_)
                    refine l_val rfl rfl rfl (r_move (v := .tuple #[.agg #[.int .i64 t87.1.W, .int .i64 t87.1.H, .slice p_7.1 t87.1.Pixels.length p_7.2], .int .i64 t87.2]) rfl) ?_
                    refine l_val rfl rfl rfl (r_extract (v := .agg #[.int .i64 t87.1.W, .int .i64 t87.1.H, .slice p_7.1 t87.1.Pixels.length p_7.2]) rfl rfl) ?_
                    refine l_val rfl rfl rfl (r_extract (v := .int .i64 t87.2) rfl rfl) ?_
                    refine l_store (i := 0) (vs := [.int .i64 t87.1.W, .int .i64 t87.1.H, .slice p_7.1 t87.1.Pixels.length p_7.2]) (cs' := [.int .i64 t87.1.W, .int .i64 t87.1.H, .slice p_7.1 t87.1.Pixels.length p_7.2]) Tryd.sizeOf24 rfl rfl rfl rfl rfl rfl rfl rfl rfl ?_
                    refine l_nil ?_
                    refine c_close (t87.1.W, t87.1.H, t87.1.Pixels) (p_7, t87.1.Pixels.length) 0 [0, 1, 4] (by exact ⟨rfl, rfl, rfl, rfl, rfl, trivial⟩) (by decide) rfl (by exact ⟨H51, rfl⟩) (Nat.lt_succ_self _)
                  · have H52 := cnd_f hb H49; clear H49
                    refine c_region ?_
                    refine l_loadN (i := 3) (vs := [.int .i64 t48.Kind, .int .i64 t48.A, .int .i64 t48.B, .int .i64 t48.C, .int .i64 t48.D]) Tryd.isAgg29 Tryd.sizeOf29 rfl rfl rfl rfl rfl ?_
                    refine l_loadN (i := 0) (vs := [.int .i64 m_5, .int .i64 m_6, .slice p_3.1 n_2 p_3.2]) Tryd.isAgg24 Tryd.sizeOf24 rfl rfl rfl rfl rfl ?_
                    obtain ⟨t54, h_t54, H53⟩ := bnd_some H52; clear H52
                    refine l_turn (turns_callB (i := 2) (rds := []) (G := fun x : Unit => .tuple #[]) (C := fun x : Unit => rowV 5 1 (.slice p_3.1 n_2 p_3.2) n_2 (t54.map e_u8)) rfl (fun w L' S hF hS hi hp hlt ho hA => k16 hp hlt (know_but w S) hl_3 h_t54) Tryd.call16 rfl) rfl rfl rfl (fun _ => ?_)
                    refine c_know (fun w hF hS => lenOf (i := 2) hS rfl) (fun hl_5_ => ?_)
                    have hl_5 : n_2 = t54.length := by simpa using hl_5_.symm
                    refine l_nil ?_
                    refine c_close (m_5, m_6, t54) (p_3, n_2) 0 [0, 1, 2] (by exact ⟨rfl, rfl, rfl, rfl, rfl, trivial⟩) (by decide) rfl (by exact ⟨H53, hl_5⟩) (Nat.lt_succ_self _)
            · rintro ⟨m_7, m_8, l_4⟩ ⟨p_4, n_3⟩ gg H41 hl_4
              replace H41 : edit_Render_j3 x46_2 next2 m_7 m_8 l_4 = some r := H41
              refine c_tidyF [(2, .pointer (some ⟨b3, 0, none⟩)), (4, .pointer (some ⟨b4, 0, none⟩)), (44, v1), (45, .int .i64 (a1.length : Int)), (46, .int .i64 x46_2)] [cellsC b3 [.int .i64 m_7, .int .i64 m_8, .slice p_4.1 n_3 p_4.2] 24, cellsC b4 [.int .i64 0, .int .i64 0, .slice none 0 0] 24, rowV 5 1 (.slice p_4.1 n_3 p_4.2) n_3 (l_4.map e_u8)] rfl rfl ?_
              refine c_region ?_
              obtain ⟨t90, h_t90, H42⟩ := bnd_some H41; clear H41
              refine l_val rfl rfl rfl (r_addG rfl rfl h_t90) ?_
              refine l_val rfl rfl rfl (r_move (v := .int .i64 t90) rfl) ?_
              refine l_nil ?_
              refine c_close (t90, m_7, m_8, l_4) (p_4, n_3) m2 [0, 1, 2] (by exact ⟨rfl, rfl, rfl, rfl, rfl, trivial⟩) (by decide) rfl (by exact ⟨(by subst hn2; exact H42), hl_4⟩) (Nat.lt_succ_self _)
          · have H54 := cnd_f hb H39; clear H39
            refine c_exit ?_
            refine c_close (m_5, m_6, l_3) (p_3, n_2) 0 [0, 1, 2] (by exact ⟨rfl, rfl, trivial⟩) (by decide) rfl (by exact ⟨H54, hl_3⟩) (Nat.lt_succ_self _)
        · rintro ⟨m, m_2, l⟩ ⟨p_2, n⟩ gg H38 hl
          replace H38 : edit_Render_j1 m m_2 l = some r := H38
          refine c_tidyF [(2, .pointer (some ⟨b3, 0, none⟩)), (4, .pointer (some ⟨b4, 0, none⟩))] [cellsC b3 [.int .i64 m, .int .i64 m_2, .slice p_2.1 n p_2.2] 24, cellsC b4 [.int .i64 0, .int .i64 0, .slice none 0 0] 24, rowV 5 1 (.slice p_2.1 n p_2.2) n (l.map e_u8)] rfl rfl ?_
          refine c_seq ?_
          refine c_region ?_
          refine l_loadN (i := 0) (vs := [.int .i64 m, .int .i64 m_2, .slice p_2.1 n p_2.2]) Tryd.isAgg24 Tryd.sizeOf24 rfl rfl rfl rfl rfl ?_
          refine l_store (i := 1) (vs := [.int .i64 m, .int .i64 m_2, .slice p_2.1 n p_2.2]) (cs' := [.int .i64 m, .int .i64 m_2, .slice p_2.1 n p_2.2]) Tryd.sizeOf24 rfl rfl rfl rfl rfl rfl rfl rfl rfl ?_
          refine l_val rfl rfl rfl (r_assign (v := .int .i64 0) rfl) ?_
          refine l_nil ?_
          refine c_ret ?_
          obtain rfl := Option.some.inj H38
          refine retCt (i := 1) (vs := [.int .i64 m, .int .i64 m_2, .slice p_2.1 n p_2.2]) (v2 := .int .i64 0) Tryd.isAgg24 Tryd.sizeOf24 rfl rfl rfl rfl rfl (finX p_2 (i := 2) rfl (by first | rfl | rw [(show n = l.length from hl)]) (by first | exact Imp.refl _ | exact Imp.of (by rw [(show n = l.length from hl)])))
theorem k32 {a0 : T_api_Image} {v0_2 : Value} {r : T_api_Image} {w : World} {h : Heap} (hw : Know h w noS) (f0_2 : FrS h 1 v0_2 (a0.Pixels.map e_u8)) (H : pix_grey a0 = some r) : Does Tryd.prog 32 (List.toArray [.agg #[.int .i64 a0.W, .int .i64 a0.H, v0_2]]) w (fun v w' => ∃ x : (Option Addr × Nat), v = (.agg #[.int .i64 r.W, .int .i64 r.H, .slice x.1 r.Pixels.length x.2]) ∧ Turn w w' noS (rowV 5 1 (.slice x.1 r.Pixels.length x.2) r.Pixels.length (r.Pixels.map e_u8))) := by
  refine enter (n := 55) Tryd.func32 rfl rfl rfl noS [] (Sat.nil _ _) ?_
  refine c_seq ?_
  refine c_region ?_
  refine l_box (cs := [.int .i64 a0.W, .int .i64 a0.H, v0_2]) rfl rfl rfl rfl (fun b4 => ?_)
  refine l_alloc (cs := [.int .i64 0, .int .i64 0, .slice none 0 0]) Tryd.zeroValue24 rfl rfl rfl (fun b5 => ?_)
  refine l_nil ?_
  refine c_seq ?_
  refine c_region ?_
  refine l_val rfl rfl rfl (r_field Tryd.runUnderlying24 rfl Tryd.sizeOf3 rfl rfl) ?_
  refine l_load1 (i := 0) (v := .int .i64 a0.W) Tryd.isAgg3 rfl rfl rfl rfl rfl ?_
  refine l_val rfl rfl rfl (r_field Tryd.runUnderlying24 rfl Tryd.sizeOf3 rfl rfl) ?_
  refine l_load1 (i := 0) (v := .int .i64 a0.H) Tryd.isAgg3 rfl rfl rfl rfl rfl ?_
  obtain ⟨t12, h_t12, H24⟩ := bnd_some H; clear H
  refine l_make (makes_call (rds := []) (G := fun x : (Option Addr × Nat) => .agg #[.int .i64 t12.W, .int .i64 t12.H, .slice x.1 t12.Pixels.length x.2]) (C := fun x : (Option Addr × Nat) => rowV 5 1 (.slice x.1 t12.Pixels.length x.2) t12.Pixels.length (t12.Pixels.map e_u8)) (fun w L' hF hS hi => k27 (know_all w)  h_t12) Tryd.call27 rfl) rfl rfl rfl (fun p => ?_)
  refine l_alloc (cs := [.int .i64 0, .int .i64 0, .slice none 0 0]) Tryd.zeroValue24 rfl rfl rfl (fun b6 => ?_)
  refine l_store (i := 3) (vs := [.int .i64 t12.W, .int .i64 t12.H, .slice p.1 t12.Pixels.length p.2]) (cs' := [.int .i64 t12.W, .int .i64 t12.H, .slice p.1 t12.Pixels.length p.2]) Tryd.sizeOf24 rfl rfl rfl rfl rfl rfl rfl rfl rfl ?_
  refine l_nil ?_
  refine c_meet (r := r) (σ := (List Int)) (τ := (Option Addr × Nat) × Nat) (fun s => pix_grey_j1 t12 s) (fun s t => [(2, .pointer (some ⟨b5, 0, none⟩)), (3, .pointer (some ⟨b6, 0, none⟩))]) (fun s t => [cellsC b5 [.int .i64 0, .int .i64 0, .slice none 0 0] 24, rowV 5 1 (.slice t.1.1 t.2 t.1.2) t.2 (s.map e_u8), cellsC b6 [.int .i64 t12.W, .int .i64 t12.H, .slice t.1.1 t.2 t.1.2] 24]) (fun s t => t.2 = s.length) ?_ ?_
  · refine c_seq ?_
    refine c_region ?_
    refine l_val rfl rfl rfl (r_field Tryd.runUnderlying24 rfl Tryd.sizeOf3 rfl rfl) ?_
    refine l_load1 (i := 0) (v := .int .i64 a0.H) Tryd.isAgg3 rfl rfl rfl rfl rfl ?_
    refine l_val rfl rfl rfl (r_move (v := .int .i64 0) rfl) ?_
    refine l_nil ?_
    refine c_block ?_
    refine c_fix (σ := Int × (List Int) × (List Int)) (τ := Value × (Option Addr × Nat) × Nat) (fun next2 s => pix_grey_l2 a0 t12 next2 s.1 s.2.1 s.2.2) (fun s t => [(1, .pointer (some ⟨b4, 0, none⟩)), (2, .pointer (some ⟨b5, 0, none⟩)), (3, .pointer (some ⟨b6, 0, none⟩)), (14, .int .i64 a0.H), (15, .int .i64 s.1)]) (fun s t => [cellsC b4 [.int .i64 a0.W, .int .i64 a0.H, t.1] 24, cellsC b5 [.int .i64 0, .int .i64 0, .slice none 0 0] 24, rowV 5 1 (.slice t.2.1.1 t.2.2 t.2.1.2) t.2.2 (s.2.2.map e_u8), cellsC b6 [.int .i64 t12.W, .int .i64 t12.H, .slice t.2.1.1 t.2.2 t.2.1.2] 24]) (fun s t => FrS h 1 t.1 (s.2.1.map e_u8) ∧ t.2.2 = s.2.2.length) (0, a0.Pixels, t12.Pixels) (v0_2, p, t12.Pixels.length) [0, 1, 2, 3] H24 (by exact ⟨f0_2, rfl⟩) (by exact ⟨rfl, rfl, rfl, rfl, rfl, trivial⟩) (by decide) rfl ?_
    rintro ⟨x15_2, m_2, l_3⟩ ⟨gv, p_3, n_2⟩ m2 gg H26 ⟨gf_2, hl_3⟩
    clear H24
    replace H26 : pix_grey_l2 a0 t12 (it (fun next2 s => pix_grey_l2 a0 t12 next2 s.1 s.2.1 s.2.2) m2) x15_2 m_2 l_3 = some r := H26
    generalize hn2 : it (fun next2 s => pix_grey_l2 a0 t12 next2 s.1 s.2.1 s.2.2) m2 = next2 at H26
    refine c_tidyF [(1, .pointer (some ⟨b4, 0, none⟩)), (2, .pointer (some ⟨b5, 0, none⟩)), (3, .pointer (some ⟨b6, 0, none⟩)), (14, .int .i64 a0.H), (15, .int .i64 x15_2)] [cellsC b4 [.int .i64 a0.W, .int .i64 a0.H, gv] 24, cellsC b5 [.int .i64 0, .int .i64 0, .slice none 0 0] 24, rowV 5 1 (.slice p_3.1 n_2 p_3.2) n_2 (l_3.map e_u8), cellsC b6 [.int .i64 t12.W, .int .i64 t12.H, .slice p_3.1 n_2 p_3.2] 24] rfl rfl ?_
    refine c_seq ?_
    refine c_region ?_
    refine l_val rfl rfl rfl (r_lss rfl rfl) ?_
    refine l_nil ?_
    refine c_seq ?_
    refine c_if (b := (decide (x15_2 < a0.H))) rfl (fun hb => ?_) (fun hb => ?_)
    · have H27 := cnd_t hb H26; clear H26
      refine c_skip ?_
      refine c_meet (r := r) (σ := (List Int)) (τ := Unit) (fun s => pix_grey_j3 x15_2 m_2 next2 s) (fun s t => [(1, .pointer (some ⟨b4, 0, none⟩)), (2, .pointer (some ⟨b5, 0, none⟩)), (3, .pointer (some ⟨b6, 0, none⟩)), (14, .int .i64 a0.H), (15, .int .i64 x15_2)]) (fun s t => [cellsC b4 [.int .i64 a0.W, .int .i64 a0.H, gv] 24, cellsC b5 [.int .i64 0, .int .i64 0, .slice none 0 0] 24, rowV 5 1 (.slice p_3.1 n_2 p_3.2) n_2 (s.map e_u8), cellsC b6 [.int .i64 t12.W, .int .i64 t12.H, .slice p_3.1 n_2 p_3.2] 24]) (fun s t => n_2 = s.length) ?_ ?_
      · refine c_block ?_
        refine c_seq ?_
        refine c_region ?_
        refine l_val rfl rfl rfl (r_move (v := .int .i64 x15_2) rfl) ?_
        refine l_val rfl rfl rfl (r_assign (v := .int .i64 x15_2) rfl) ?_
        refine l_nil ?_
        refine c_seq ?_
        refine c_region ?_
        refine l_val rfl rfl rfl (r_field Tryd.runUnderlying24 rfl Tryd.sizeOf3 rfl rfl) ?_
        refine l_load1 (i := 0) (v := .int .i64 a0.W) Tryd.isAgg3 rfl rfl rfl rfl rfl ?_
        refine l_val rfl rfl rfl (r_move (v := .int .i64 0) rfl) ?_
        refine l_nil ?_
        refine c_block ?_
        refine c_fix (σ := Int × (List Int)) (τ := Unit) (fun next4 s => pix_grey_l4 a0 t12 x15_2 m_2 next2 next4 s.1 s.2) (fun s t => [(1, .pointer (some ⟨b4, 0, none⟩)), (2, .pointer (some ⟨b5, 0, none⟩)), (3, .pointer (some ⟨b6, 0, none⟩)), (4, .int .i64 x15_2), (14, .int .i64 a0.H), (15, .int .i64 x15_2), (19, .int .i64 a0.W), (20, .int .i64 s.1)]) (fun s t => [cellsC b4 [.int .i64 a0.W, .int .i64 a0.H, gv] 24, cellsC b5 [.int .i64 0, .int .i64 0, .slice none 0 0] 24, rowV 5 1 (.slice p_3.1 n_2 p_3.2) n_2 (s.2.map e_u8), cellsC b6 [.int .i64 t12.W, .int .i64 t12.H, .slice p_3.1 n_2 p_3.2] 24]) (fun s t => n_2 = s.2.length) (0, l_3) () [0, 1, 2, 3] H27 (by exact hl_3) (by exact ⟨rfl, rfl, rfl, rfl, rfl, rfl, rfl, rfl, trivial⟩) (by decide) rfl ?_
        rintro ⟨x20_2, l_6⟩ _ m4 gg H30 hl_6
        clear H27
        replace H30 : pix_grey_l4 a0 t12 x15_2 m_2 next2 (it (fun next4 s => pix_grey_l4 a0 t12 x15_2 m_2 next2 next4 s.1 s.2) m4) x20_2 l_6 = some r := H30
        generalize hn4 : it (fun next4 s => pix_grey_l4 a0 t12 x15_2 m_2 next2 next4 s.1 s.2) m4 = next4 at H30
        refine c_tidyF [(1, .pointer (some ⟨b4, 0, none⟩)), (2, .pointer (some ⟨b5, 0, none⟩)), (3, .pointer (some ⟨b6, 0, none⟩)), (4, .int .i64 x15_2), (14, .int .i64 a0.H), (15, .int .i64 x15_2), (19, .int .i64 a0.W), (20, .int .i64 x20_2)] [cellsC b4 [.int .i64 a0.W, .int .i64 a0.H, gv] 24, cellsC b5 [.int .i64 0, .int .i64 0, .slice none 0 0] 24, rowV 5 1 (.slice p_3.1 n_2 p_3.2) n_2 (l_6.map e_u8), cellsC b6 [.int .i64 t12.W, .int .i64 t12.H, .slice p_3.1 n_2 p_3.2] 24] rfl rfl ?_
        refine c_seq ?_
        refine c_region ?_
        refine l_val rfl rfl rfl (r_lss rfl rfl) ?_
        refine l_nil ?_
        refine c_seq ?_
        refine c_if (b := (decide (x20_2 < a0.W))) rfl (fun hb => ?_) (fun hb => ?_)
        · have H31 := cnd_t hb H30; clear H30
          refine c_skip ?_
          refine c_seq ?_
          refine c_block ?_
          refine c_seq ?_
          refine c_region ?_
          refine l_val rfl rfl rfl (r_move (v := .int .i64 x20_2) rfl) ?_
          refine l_val rfl rfl rfl (r_assign (v := .int .i64 x20_2) rfl) ?_
          refine l_nil ?_
          refine c_seq ?_
          refine c_region ?_
          refine l_loadN (i := 0) (vs := [.int .i64 a0.W, .int .i64 a0.H, gv]) Tryd.isAgg24 Tryd.sizeOf24 rfl rfl rfl rfl rfl ?_
          refine l_val rfl rfl rfl (r_move (v := .int .i64 x20_2) rfl) ?_
          refine l_val rfl rfl rfl (r_move (v := .int .i64 x15_2) rfl) ?_
          obtain ⟨t26, h_t26, H32⟩ := bnd_some H31; clear H31
          refine l_callG (fun w hF hS => k29 (know_all w) (gf_2.mono (hw.now hF)) h_t26) Tryd.call29 rfl rfl rfl ?_
          refine l_alloc (cs := [.int .u8 0, .int .u8 0, .int .u8 0]) Tryd.zeroValue69 rfl rfl rfl (fun b7 => ?_)
          refine l_store (i := 4) (vs := [.int .u8 (t26 0), .int .u8 (t26 1), .int .u8 (t26 2)]) (cs' := [.int .u8 (t26 0), .int .u8 (t26 1), .int .u8 (t26 2)]) Tryd.sizeOf69 rfl rfl rfl rfl rfl rfl rfl rfl rfl ?_
          refine l_nil ?_
          refine c_seq ?_
          refine c_region ?_
          refine l_val rfl rfl rfl (r_indexPA Tryd.runUnderlying69 Tryd.sizeOf5 rfl rfl (by decide) (by decide)) ?_
          refine l_load1 (i := 4) (v := .int .u8 (t26 0)) Tryd.isAgg5 rfl rfl rfl rfl rfl ?_
          obtain ⟨t29, h_t29, H33⟩ := bnd_some H32; clear H32
          refine l_val rfl rfl rfl (r_convG Tryd.runUnderlying5 Tryd.runUnderlying3 rfl (gK_i64 h_t29)) ?_
          obtain ⟨t30, h_t30, H34⟩ := bnd_some H33; clear H33
          refine l_val rfl rfl rfl (r_mulG rfl rfl h_t30) ?_
          refine l_val rfl rfl rfl (r_indexPA Tryd.runUnderlying69 Tryd.sizeOf5 rfl rfl (by decide) (by decide)) ?_
          refine l_load1 (i := 4) (v := .int .u8 (t26 1)) Tryd.isAgg5 rfl rfl rfl rfl rfl ?_
          obtain ⟨t33, h_t33, H35⟩ := bnd_some H34; clear H34
          refine l_val rfl rfl rfl (r_convG Tryd.runUnderlying5 Tryd.runUnderlying3 rfl (gK_i64 h_t33)) ?_
          obtain ⟨t34, h_t34, H36⟩ := bnd_some H35; clear H35
          refine l_val rfl rfl rfl (r_mulG rfl rfl h_t34) ?_
          obtain ⟨t35, h_t35, H37⟩ := bnd_some H36; clear H36
          refine l_val rfl rfl rfl (r_addG rfl rfl h_t35) ?_
          refine l_val rfl rfl rfl (r_indexPA Tryd.runUnderlying69 Tryd.sizeOf5 rfl rfl (by decide) (by decide)) ?_
          refine l_load1 (i := 4) (v := .int .u8 (t26 2)) Tryd.isAgg5 rfl rfl rfl rfl rfl ?_
          obtain ⟨t38, h_t38, H38⟩ := bnd_some H37; clear H37
          refine l_val rfl rfl rfl (r_convG Tryd.runUnderlying5 Tryd.runUnderlying3 rfl (gK_i64 h_t38)) ?_
          obtain ⟨t39, h_t39, H39⟩ := bnd_some H38; clear H38
          refine l_val rfl rfl rfl (r_mulG rfl rfl h_t39) ?_
          obtain ⟨t40, h_t40, H40⟩ := bnd_some H39; clear H39
          refine l_val rfl rfl rfl (r_addG rfl rfl h_t40) ?_
          obtain ⟨t41, h_t41, H41⟩ := bnd_some H40; clear H40
          refine l_val rfl rfl rfl (r_addG rfl rfl h_t41) ?_
          obtain ⟨t42, h_t42, H42⟩ := bnd_some H41; clear H41
          refine l_val rfl rfl rfl (r_quoG rfl rfl h_t42) ?_
          refine l_val rfl rfl rfl (r_convG Tryd.runUnderlying3 Tryd.runUnderlying5 rfl (wr_u8 _)) ?_
          refine l_val rfl rfl rfl (r_assign (v := .int .u8 (wU8 t42)) rfl) ?_
          refine l_nil ?_
          refine c_region ?_
          refine l_loadN (i := 3) (vs := [.int .i64 t12.W, .int .i64 t12.H, .slice p_3.1 n_2 p_3.2]) Tryd.isAgg24 Tryd.sizeOf24 rfl rfl rfl rfl rfl ?_
          refine l_val rfl rfl rfl (r_move (v := .int .i64 x20_2) rfl) ?_
          refine l_val rfl rfl rfl (r_move (v := .int .i64 x15_2) rfl) ?_
          refine l_val rfl rfl rfl (r_move (v := .int .u8 (wU8 t42)) rfl) ?_
          refine l_val rfl rfl rfl (r_move (v := .int .u8 (wU8 t42)) rfl) ?_
          refine l_val rfl rfl rfl (r_move (v := .int .u8 (wU8 t42)) rfl) ?_
          refine l_val rfl rfl rfl (r_buildA (ps := [(0, .int .u8 (wU8 t42)), (1, .int .u8 (wU8 t42)), (2, .int .u8 (wU8 t42))]) (cells := #[.int .u8 (wU8 t42), .int .u8 (wU8 t42), .int .u8 (wU8 t42)]) Tryd.zeroValue69 Tryd.runUnderlying69 Tryd.sizeOf5 rfl rfl) ?_
          obtain ⟨t51, h_t51, H43⟩ := bnd_some H42; clear H42
          refine l_turn (turns_callB (i := 2) (rds := []) (G := fun x : Unit => .tuple #[]) (C := fun x : Unit => rowV 5 1 (.slice p_3.1 n_2 p_3.2) n_2 (t51.map e_u8)) rfl (fun w L' S hF hS hi hp hlt ho hA => k28 hp hlt (know_but w S) hl_6 h_t51) Tryd.call28 rfl) rfl rfl rfl (fun _ => ?_)
          refine c_know (fun w hF hS => lenOf (i := 2) hS rfl) (fun hl_7_ => ?_)
          have hl_7 : n_2 = t51.length := by simpa using hl_7_.symm
          refine l_nil ?_
          refine c_region ?_
          obtain ⟨t52, h_t52, H44⟩ := bnd_some H43; clear H43
          refine l_val rfl rfl rfl (r_addG rfl rfl h_t52) ?_
          refine l_val rfl rfl rfl (r_move (v := .int .i64 t52) rfl) ?_
          refine l_nil ?_
          refine c_close (t52, t51) () m4 [0, 1, 2, 3] (by exact ⟨rfl, rfl, rfl, rfl, rfl, rfl, rfl, rfl, trivial⟩) (by decide) rfl (by exact ⟨(by subst hn4; exact H44), hl_7⟩) (Nat.lt_succ_self _)
        · have H45 := cnd_f hb H30; clear H30
          refine c_exit ?_
          refine c_close l_6 () 0 [0, 1, 2, 3] (by exact ⟨rfl, rfl, rfl, rfl, rfl, trivial⟩) (by decide) rfl (by exact ⟨H45, hl_6⟩) (Nat.lt_succ_self _)
      · rintro l_4 _ gg H28 hl_4
        replace H28 : pix_grey_j3 x15_2 m_2 next2 l_4 = some r := H28
        refine c_tidyF [(1, .pointer (some ⟨b4, 0, none⟩)), (2, .pointer (some ⟨b5, 0, none⟩)), (3, .pointer (some ⟨b6, 0, none⟩)), (14, .int .i64 a0.H), (15, .int .i64 x15_2)] [cellsC b4 [.int .i64 a0.W, .int .i64 a0.H, gv] 24, cellsC b5 [.int .i64 0, .int .i64 0, .slice none 0 0] 24, rowV 5 1 (.slice p_3.1 n_2 p_3.2) n_2 (l_4.map e_u8), cellsC b6 [.int .i64 t12.W, .int .i64 t12.H, .slice p_3.1 n_2 p_3.2] 24] rfl rfl ?_
        refine c_region ?_
        obtain ⟨t53, h_t53, H29⟩ := bnd_some H28; clear H28
        refine l_val rfl rfl rfl (r_addG rfl rfl h_t53) ?_
        refine l_val rfl rfl rfl (r_move (v := .int .i64 t53) rfl) ?_
        refine l_nil ?_
        refine c_close (t53, m_2, l_4) (gv, p_3, n_2) m2 [0, 1, 2, 3] (by exact ⟨rfl, rfl, rfl, rfl, rfl, trivial⟩) (by decide) rfl (by exact ⟨(by subst hn2; exact H29), ⟨gf_2, hl_4⟩⟩) (Nat.lt_succ_self _)
    · have H46 := cnd_f hb H26; clear H26
      refine c_exit ?_
      refine c_close l_3 (p_3, n_2) 0 [1, 2, 3] (by exact ⟨rfl, rfl, trivial⟩) (by decide) rfl (by exact ⟨H46, hl_3⟩) (Nat.lt_succ_self _)
  · rintro l ⟨p_2, n⟩ gg H25 hl
    replace H25 : pix_grey_j1 t12 l = some r := H25
    refine c_tidyF [(2, .pointer (some ⟨b5, 0, none⟩)), (3, .pointer (some ⟨b6, 0, none⟩))] [cellsC b5 [.int .i64 0, .int .i64 0, .slice none 0 0] 24, rowV 5 1 (.slice p_2.1 n p_2.2) n (l.map e_u8), cellsC b6 [.int .i64 t12.W, .int .i64 t12.H, .slice p_2.1 n p_2.2] 24] rfl rfl ?_
    refine c_seq ?_
    refine c_region ?_
    refine l_loadN (i := 2) (vs := [.int .i64 t12.W, .int .i64 t12.H, .slice p_2.1 n p_2.2]) Tryd.isAgg24 Tryd.sizeOf24 rfl rfl rfl rfl rfl ?_
    refine l_store (i := 0) (vs := [.int .i64 t12.W, .int .i64 t12.H, .slice p_2.1 n p_2.2]) (cs' := [.int .i64 t12.W, .int .i64 t12.H, .slice p_2.1 n p_2.2]) Tryd.sizeOf24 rfl rfl rfl rfl rfl rfl rfl rfl rfl ?_
    refine l_nil ?_
    refine c_ret ?_
    obtain rfl := Option.some.inj H25
    refine retC (i := 0) (vs := [.int .i64 t12.W, .int .i64 t12.H, .slice p_2.1 n p_2.2]) Tryd.isAgg24 Tryd.sizeOf24 rfl rfl rfl rfl (finX p_2 (i := 1) rfl (by first | rfl | rw [(show n = l.length from hl)]) (by first | exact Imp.refl _ | exact Imp.of (by rw [(show n = l.length from hl)])))
theorem k17 {a0 : T_api_Image} {v0_2 : Value} {r : Int} {w : World} {h : Heap} (hw : Know h w noS) (f0_2 : FrS h 1 v0_2 (a0.Pixels.map e_u8)) (H : pix_hash a0 = some r) : Does Tryd.prog 17 (List.toArray [.agg #[.int .i64 a0.W, .int .i64 a0.H, v0_2]]) w (fun v w' => v = (.int .u64 r) ∧ Grow w w') := by
  refine enter (n := 37) Tryd.func17 rfl rfl rfl noS [] (Sat.nil _ _) ?_
  refine c_seq ?_
  refine c_region ?_
  refine l_box (cs := [.int .i64 a0.W, .int .i64 a0.H, v0_2]) rfl rfl rfl rfl (fun b1 => ?_)
  refine l_val rfl rfl rfl (r_assign (v := .int .u64 0) rfl) ?_
  refine l_nil ?_
  refine c_seq ?_
  refine c_region ?_
  refine l_loadN (i := 0) (vs := [.int .i64 a0.W, .int .i64 a0.H, v0_2]) Tryd.isAgg24 Tryd.sizeOf24 rfl rfl rfl rfl rfl ?_
  obtain ⟨t7, h_t7, H21⟩ := bnd_some H; clear H
  refine l_make (makes_call (rds := []) (G := fun x : (Option Addr × Nat) => .agg #[.int .i64 t7.W, .int .i64 t7.H, .slice x.1 t7.Pixels.length x.2]) (C := fun x : (Option Addr × Nat) => rowV 5 1 (.slice x.1 t7.Pixels.length x.2) t7.Pixels.length (t7.Pixels.map e_u8)) (fun w L' hF hS hi => k32 (know_all w) (f0_2.mono (hw.now hF)) h_t7) Tryd.call32 rfl) rfl rfl rfl (fun p => ?_)
  obtain ⟨t8, h_t8, H22⟩ := bnd_some H21; clear H21
  refine l_make (makes_call (rds := [1]) (G := fun x : (Option Addr × Nat) => .agg #[.int .i64 t8.W, .int .i64 t8.H, .slice x.1 t8.Pixels.length x.2]) (C := fun x : (Option Addr × Nat) => rowV 5 1 (.slice x.1 t8.Pixels.length x.2) t8.Pixels.length (t8.Pixels.map e_u8)) (fun w L' hF hS hi => k30 (know_all w) (frs_own (i := 1) rfl hS ((hi 1 (by simp)).trans rfl)) h_t8) Tryd.call30 rfl) rfl rfl rfl (fun p_2 => ?_)
  refine l_store (i := 0) (vs := [.int .i64 t8.W, .int .i64 t8.H, .slice p_2.1 t8.Pixels.length p_2.2]) (cs' := [.int .i64 t8.W, .int .i64 t8.H, .slice p_2.1 t8.Pixels.length p_2.2]) Tryd.sizeOf24 rfl rfl rfl rfl rfl rfl rfl rfl rfl ?_
  refine l_nil ?_
  refine c_seq ?_
  refine c_region ?_
  refine l_val rfl rfl rfl (r_assign (v := .int .u64 0) rfl) ?_
  refine l_nil ?_
  refine c_seq ?_
  refine c_seq ?_
  refine c_region ?_
  refine l_val rfl rfl rfl (r_move (v := .int .i64 0) rfl) ?_
  refine l_nil ?_
  refine c_block ?_
  refine c_sel [0, 2] [cellsC b1 [.int .i64 t8.W, .int .i64 t8.H, .slice p_2.1 t8.Pixels.length p_2.2] 24, rowV 5 1 (.slice p_2.1 t8.Pixels.length p_2.2) t8.Pixels.length (t8.Pixels.map e_u8)] rfl (by decide) ?_
  refine c_fix (σ := Int × Int) (τ := Unit) (fun next1 s => pix_hash_l1 t8 next1 s.1 s.2) (fun s t => [(1, .pointer (some ⟨b1, 0, none⟩)), (3, .int .u64 s.1), (9, .int .i64 s.2)]) (fun s t => [cellsC b1 [.int .i64 t8.W, .int .i64 t8.H, .slice p_2.1 t8.Pixels.length p_2.2] 24, rowV 5 1 (.slice p_2.1 t8.Pixels.length p_2.2) t8.Pixels.length (t8.Pixels.map e_u8)]) (fun s t => True) (0, 0) () [0, 1] H22 (by exact trivial) (by exact ⟨rfl, rfl, rfl, trivial⟩) (by decide) rfl ?_
  rintro ⟨x3_2, x9_2⟩ _ m1 gg H23 _
  clear H22
  replace H23 : pix_hash_l1 t8 (it (fun next1 s => pix_hash_l1 t8 next1 s.1 s.2) m1) x3_2 x9_2 = some r := H23
  generalize hn1 : it (fun next1 s => pix_hash_l1 t8 next1 s.1 s.2) m1 = next1 at H23
  refine c_tidyF [(1, .pointer (some ⟨b1, 0, none⟩)), (3, .int .u64 x3_2), (9, .int .i64 x9_2)] [cellsC b1 [.int .i64 t8.W, .int .i64 t8.H, .slice p_2.1 t8.Pixels.length p_2.2] 24, rowV 5 1 (.slice p_2.1 t8.Pixels.length p_2.2) t8.Pixels.length (t8.Pixels.map e_u8)] rfl rfl ?_
  refine c_seq ?_
  refine c_region ?_
  refine l_val rfl rfl rfl (r_lss rfl rfl) ?_
  refine l_nil ?_
  refine c_seq ?_
  refine c_if (b := (decide (x9_2 < 8))) rfl (fun hb => ?_) (fun hb => ?_)
  · have H24 := cnd_t hb H23; clear H23
    refine c_skip ?_
    refine c_meet (r := r) (σ := Int) (τ := Unit) (fun s => pix_hash_j2 x9_2 next1 s) (fun s t => [(1, .pointer (some ⟨b1, 0, none⟩)), (3, .int .u64 s), (9, .int .i64 x9_2)]) (fun s t => [cellsC b1 [.int .i64 t8.W, .int .i64 t8.H, .slice p_2.1 t8.Pixels.length p_2.2] 24, rowV 5 1 (.slice p_2.1 t8.Pixels.length p_2.2) t8.Pixels.length (t8.Pixels.map e_u8)]) (fun s t => True) ?_ ?_
    · refine c_block ?_
      refine c_seq ?_
      refine c_region ?_
      refine l_val rfl rfl rfl (r_move (v := .int .i64 x9_2) rfl) ?_
      refine l_val rfl rfl rfl (r_assign (v := .int .i64 x9_2) rfl) ?_
      refine l_nil ?_
      refine c_seq ?_
      refine c_region ?_
      refine l_val rfl rfl rfl (r_move (v := .int .i64 0) rfl) ?_
      refine l_nil ?_
      refine c_block ?_
      refine c_fix (σ := Int × Int) (τ := Unit) (fun next3 s => pix_hash_l3 t8 x9_2 next1 next3 s.1 s.2) (fun s t => [(1, .pointer (some ⟨b1, 0, none⟩)), (3, .int .u64 s.1), (4, .int .i64 x9_2), (9, .int .i64 x9_2), (12, .int .i64 s.2)]) (fun s t => [cellsC b1 [.int .i64 t8.W, .int .i64 t8.H, .slice p_2.1 t8.Pixels.length p_2.2] 24, rowV 5 1 (.slice p_2.1 t8.Pixels.length p_2.2) t8.Pixels.length (t8.Pixels.map e_u8)]) (fun s t => True) (x3_2, 0) () [0, 1] H24 (by exact trivial) (by exact ⟨rfl, rfl, rfl, rfl, rfl, trivial⟩) (by decide) rfl ?_
      rintro ⟨x3_5, x12_2⟩ _ m3 gg H27 _
      clear H24
      replace H27 : pix_hash_l3 t8 x9_2 next1 (it (fun next3 s => pix_hash_l3 t8 x9_2 next1 next3 s.1 s.2) m3) x3_5 x12_2 = some r := H27
      generalize hn3 : it (fun next3 s => pix_hash_l3 t8 x9_2 next1 next3 s.1 s.2) m3 = next3 at H27
      refine c_tidyF [(1, .pointer (some ⟨b1, 0, none⟩)), (3, .int .u64 x3_5), (4, .int .i64 x9_2), (9, .int .i64 x9_2), (12, .int .i64 x12_2)] [cellsC b1 [.int .i64 t8.W, .int .i64 t8.H, .slice p_2.1 t8.Pixels.length p_2.2] 24, rowV 5 1 (.slice p_2.1 t8.Pixels.length p_2.2) t8.Pixels.length (t8.Pixels.map e_u8)] rfl rfl ?_
      refine c_seq ?_
      refine c_region ?_
      refine l_val rfl rfl rfl (r_lss rfl rfl) ?_
      refine l_nil ?_
      refine c_seq ?_
      refine c_if (b := (decide (x12_2 < 8))) rfl (fun hb => ?_) (fun hb => ?_)
      · have H28 := cnd_t hb H27; clear H27
        refine c_skip ?_
        refine c_meet (r := r) (σ := Int) (τ := Unit) (fun s => pix_hash_j4 x12_2 next3 s) (fun s t => [(1, .pointer (some ⟨b1, 0, none⟩)), (3, .int .u64 s), (4, .int .i64 x9_2), (9, .int .i64 x9_2), (12, .int .i64 x12_2)]) (fun s t => [cellsC b1 [.int .i64 t8.W, .int .i64 t8.H, .slice p_2.1 t8.Pixels.length p_2.2] 24, rowV 5 1 (.slice p_2.1 t8.Pixels.length p_2.2) t8.Pixels.length (t8.Pixels.map e_u8)]) (fun s t => True) ?_ ?_
        · refine c_block ?_
          refine c_seq ?_
          refine c_region ?_
          refine l_val rfl rfl rfl (r_move (v := .int .i64 x12_2) rfl) ?_
          refine l_val rfl rfl rfl (r_assign (v := .int .i64 x12_2) rfl) ?_
          refine l_nil ?_
          refine c_seq ?_
          exact c_regionD (Kd.d [0] _ :: Kd.p :: Kd.p :: Kd.d [1] _ :: Kd.p :: Kd.d [0] _ :: Kd.p :: Kd.p :: Kd.p :: Kd.d [1] _ :: Kd.p :: Kd.p :: []) 0 mixed (by
            refine d_loadN (i := 0) (vs := [.int .i64 t8.W, .int .i64 t8.H, .slice p_2.1 t8.Pixels.length p_2.2]) Tryd.isAgg24 Tryd.sizeOf24 rfl rfl rfl rfl ?_
            refine d_val rfl rfl (r_move (v := .int .i64 x12_2) rfl) ?_
            refine d_val rfl rfl (r_move (v := .int .i64 x9_2) rfl) ?_
            have h_t18 := bnd_val H28
            have H31 := bnd_rest H28
            refine d_callD (fun w L' hF hS hi => k29 (know_all w) (frs_own (i := 1) rfl hS ((hi 1 (by simp)).trans rfl)) h_t18) Tryd.call29 rfl rfl ?_
            refine d_val rfl rfl (r_indexA (v := .int .u8 ((val (pix_at t8 x12_2 x9_2)) 0)) Tryd.runUnderlying69 Tryd.isAgg5 Tryd.sizeOf5 rfl rfl (by decide) (by decide) rfl) ?_
            refine d_loadN (i := 0) (vs := [.int .i64 t8.W, .int .i64 t8.H, .slice p_2.1 t8.Pixels.length p_2.2]) Tryd.isAgg24 Tryd.sizeOf24 rfl rfl rfl rfl ?_
            refine d_val rfl rfl (r_move (v := .int .i64 x12_2) rfl) ?_
            have h_t22 := bnd_val H31
            have H32 := bnd_rest H31
            refine d_val rfl rfl (r_addG rfl rfl h_t22) ?_
            refine d_val rfl rfl (r_move (v := .int .i64 x9_2) rfl) ?_
            have h_t24 := bnd_val H32
            have H33 := bnd_rest H32
            refine d_callD (fun w L' hF hS hi => k29 (know_all w) (frs_own (i := 1) rfl hS ((hi 1 (by simp)).trans rfl)) h_t24) Tryd.call29 rfl rfl ?_
            refine d_val rfl rfl (r_indexA (v := .int .u8 ((val (pix_at t8 (val (gI (x12_2 + 1))) x9_2)) 0)) Tryd.runUnderlying69 Tryd.isAgg5 Tryd.sizeOf5 rfl rfl (by decide) (by decide) rfl) ?_
            refine d_val rfl rfl (r_lss rfl rfl) ?_
            refine d_nil ?_
            refine c_if (b := (decide (((val (pix_at t8 x12_2 x9_2)) 0) < ((val (pix_at t8 (val (gI (x12_2 + 1))) x9_2)) 0)))) rfl (fun hb => ?_) (fun hb => ?_)
            · have H34 := cnd_t hb H33; clear H33
              refine c_region ?_
              refine l_val rfl rfl rfl (r_move (v := .int .u64 x3_5) rfl) ?_
              refine l_val rfl rfl rfl (r_move (v := .int .i64 x12_2) rfl) ?_
              refine l_val rfl rfl rfl (r_move (v := .int .i64 x9_2) rfl) ?_
              obtain ⟨t30, h_t30, H35⟩ := bnd_some H34; clear H34
              refine l_val rfl rfl rfl (r_mulG rfl rfl h_t30) ?_
              obtain ⟨t31, h_t31, H36⟩ := bnd_some H35; clear H35
              refine l_val rfl rfl rfl (r_addG rfl rfl h_t31) ?_
              obtain ⟨t32, h_t32, H37⟩ := bnd_some H36; clear H36
              refine l_val rfl rfl rfl (r_shlW rfl rfl rfl h_t32 (wr_u64 _)) ?_
              refine l_val rfl rfl rfl (r_bitsOr (bits := 64) rfl rfl rfl (wr_u64 _)) ?_
              refine l_val rfl rfl rfl (r_assign (v := .int .u64 (wU64 (bOr 64 x3_5 (wU64 t32)))) rfl) ?_
              refine l_nil ?_
              refine c_close (wU64 (bOr 64 x3_5 (wU64 t32))) () 0 [0, 1] (by exact ⟨rfl, rfl, rfl, rfl, rfl, trivial⟩) (by decide) rfl (by exact ⟨H37, trivial⟩) (Nat.lt_succ_self _)
            · have H38 := cnd_f hb H33; clear H33
              refine c_skip ?_
              refine c_close x3_5 () 0 [0, 1] (by exact ⟨rfl, rfl, rfl, rfl, rfl, trivial⟩) (by decide) rfl (by exact ⟨H38, trivial⟩) (Nat.lt_succ_self _)
            ) (by kernel_rfl)
        · rintro x3_6 _ gg H29 _
          replace H29 : pix_hash_j4 x12_2 next3 x3_6 = some r := H29
          refine c_tidyF [(1, .pointer (some ⟨b1, 0, none⟩)), (3, .int .u64 x3_6), (4, .int .i64 x9_2), (9, .int .i64 x9_2), (12, .int .i64 x12_2)] [cellsC b1 [.int .i64 t8.W, .int .i64 t8.H, .slice p_2.1 t8.Pixels.length p_2.2] 24, rowV 5 1 (.slice p_2.1 t8.Pixels.length p_2.2) t8.Pixels.length (t8.Pixels.map e_u8)] rfl rfl ?_
          refine c_region ?_
          obtain ⟨t34, h_t34, H30⟩ := bnd_some H29; clear H29
          refine l_val rfl rfl rfl (r_addG rfl rfl h_t34) ?_
          refine l_val rfl rfl rfl (r_move (v := .int .i64 t34) rfl) ?_
          refine l_nil ?_
          refine c_close (x3_6, t34) () m3 [0, 1] (by exact ⟨rfl, rfl, rfl, rfl, rfl, trivial⟩) (by decide) rfl (by exact ⟨(by subst hn3; exact H30), trivial⟩) (Nat.lt_succ_self _)
      · have H39 := cnd_f hb H27; clear H27
        refine c_exit ?_
        refine c_close x3_5 () 0 [0, 1] (by exact ⟨rfl, rfl, rfl, trivial⟩) (by decide) rfl (by exact ⟨H39, trivial⟩) (Nat.lt_succ_self _)
    · rintro x3_3 _ gg H25 _
      replace H25 : pix_hash_j2 x9_2 next1 x3_3 = some r := H25
      refine c_tidyF [(1, .pointer (some ⟨b1, 0, none⟩)), (3, .int .u64 x3_3), (9, .int .i64 x9_2)] [cellsC b1 [.int .i64 t8.W, .int .i64 t8.H, .slice p_2.1 t8.Pixels.length p_2.2] 24, rowV 5 1 (.slice p_2.1 t8.Pixels.length p_2.2) t8.Pixels.length (t8.Pixels.map e_u8)] rfl rfl ?_
      refine c_region ?_
      obtain ⟨t35, h_t35, H26⟩ := bnd_some H25; clear H25
      refine l_val rfl rfl rfl (r_addG rfl rfl h_t35) ?_
      refine l_val rfl rfl rfl (r_move (v := .int .i64 t35) rfl) ?_
      refine l_nil ?_
      refine c_close (x3_3, t35) () m1 [0, 1] (by exact ⟨rfl, rfl, rfl, trivial⟩) (by decide) rfl (by exact ⟨(by subst hn1; exact H26), trivial⟩) (Nat.lt_succ_self _)
  · have H40 := cnd_f hb H23; clear H23
    refine c_exit ?_
    refine c_seq ?_
    refine c_region ?_
    refine l_val rfl rfl rfl (r_move (v := .int .u64 x3_2) rfl) ?_
    refine l_val rfl rfl rfl (r_assign (v := .int .u64 x3_2) rfl) ?_
    refine l_nil ?_
    refine c_ret ?_
    obtain rfl := Option.some.inj H40
    refine ret1 (v := .int .u64 x3_2) rfl rfl (fin rfl)
theorem k6 {a0 : T_api_Image} {v0_2 : Value} {r : (List Int) × Int} {w : World} {h : Heap} (hw : Know h w noS) (f0_2 : FrS h 1 v0_2 (a0.Pixels.map e_u8)) (H : pix_HashTurned a0 = some r) : Does Tryd.prog 6 (List.toArray [.agg #[.int .i64 a0.W, .int .i64 a0.H, v0_2]]) w (fun v w' => ∃ x : (Option Addr × Nat), v = (.tuple #[.slice x.1 r.1.length x.2, .int .i64 r.2]) ∧ Turn w w' noS (rowV 36 1 (.slice x.1 r.1.length x.2) r.1.length (r.1.map e_u64))) := by
  refine enter (n := 28) Tryd.func6 rfl rfl rfl noS [] (Sat.nil _ _) ?_
  refine c_seq ?_
  refine c_region ?_
  refine l_box (cs := [.int .i64 a0.W, .int .i64 a0.H, v0_2]) rfl rfl rfl rfl (fun b1 => ?_)
  refine l_val rfl rfl rfl (r_assign (v := .slice none 0 0) rfl) ?_
  refine l_val rfl rfl rfl (r_assign (v := .int .i64 0) rfl) ?_
  refine l_nil ?_
  refine c_seq ?_
  refine c_seq ?_
  refine c_region ?_
  refine l_loadN (i := 0) (vs := [.int .i64 a0.W, .int .i64 a0.H, v0_2]) Tryd.isAgg24 Tryd.sizeOf24 rfl rfl rfl rfl rfl ?_
  obtain ⟨t8, h_t8, H14⟩ := bnd_some H; clear H
  refine l_callG (fun w hF hS => k11 (know_all w) (f0_2.mono (hw.now hF)) h_t8) Tryd.call11 rfl rfl rfl ?_
  refine l_val rfl rfl rfl (r_assign (v := .int .i64 t8) rfl) ?_
  refine l_nil ?_
  refine c_seq ?_
  refine c_region ?_
  refine l_val rfl rfl rfl (r_move (v := .int .i64 t8) rfl) ?_
  refine l_val rfl rfl rfl (r_neq rfl rfl) ?_
  refine l_nil ?_
  refine c_if (b := (decide (t8 ≠ 0))) rfl (fun hb => ?_) (fun hb => ?_)
  · have H15 := cnd_t hb H14; clear H14
    refine c_seq ?_
    refine c_region ?_
    refine l_val rfl rfl rfl (r_move (v := .int .i64 t8) rfl) ?_
    refine l_val rfl rfl rfl (r_assign (v := .slice none 0 0) rfl) ?_
    refine l_val rfl rfl rfl (r_assign (v := .int .i64 t8) rfl) ?_
    refine l_nil ?_
    refine c_ret ?_
    refine c_nilRow 36 1 ?_
    obtain rfl := Option.some.inj H15
    refine ret2 (v1 := .slice ((none, 0) : Option Addr × Nat).1 ([] : List Int).length ((none, 0) : Option Addr × Nat).2) (v2 := .int .i64 t8) rfl rfl rfl (finX ((none, 0) : Option Addr × Nat) (i := 1) rfl rfl (Imp.refl _))
  · have H16 := cnd_f hb H14; clear H14
    refine c_skip ?_
    refine c_seq ?_
    refine c_region ?_
    obtain ⟨t12, h_t12, H17⟩ := bnd_some H16; clear H16
    refine l_make (rds := []) (makes_makeG (E := 36) (sz := 1) (f := e_u64) (xs := t12) Tryd.underlying33 (info_of Tryd.typeInfo36) rfl rfl rfl rfl rfl rfl ⟨rfl, rfl⟩ h_t12) rfl rfl rfl (fun p => ?_)
    refine l_val rfl rfl rfl (r_assign (v := .slice p.1 t12.length p.2) rfl) ?_
    refine l_nil ?_
    refine c_seq ?_
    refine c_seq ?_
    refine c_region ?_
    refine l_val rfl rfl rfl (r_move (v := .slice p.1 t12.length p.2) rfl) ?_
    refine l_val rfl rfl rfl (r_len Tryd.underlying33 rfl) ?_
    refine l_val rfl rfl rfl (r_move (v := .int .i64 0) rfl) ?_
    refine l_nil ?_
    refine c_block ?_
    refine c_fix (σ := Int × (List Int)) (τ := Unit) (fun next1 s => pix_HashTurned_l1 a0 t12 next1 s.1 s.2) (fun s t => [(1, .pointer (some ⟨b1, 0, none⟩)), (5, .slice p.1 t12.length p.2), (14, .int .i64 (t12.length : Int)), (15, .int .i64 s.1)]) (fun s t => [cellsC b1 [.int .i64 a0.W, .int .i64 a0.H, v0_2] 24, rowV 36 1 (.slice p.1 t12.length p.2) t12.length (s.2.map e_u64)]) (fun s t => t12.length = s.2.length) (0, t12) () [0, 1] H17 (by exact rfl) (by exact ⟨rfl, rfl, rfl, rfl, trivial⟩) (by decide) rfl ?_
    rintro ⟨x15_2, l_2⟩ _ m1 gg H18 hl_2
    clear H17
    replace H18 : pix_HashTurned_l1 a0 t12 (it (fun next1 s => pix_HashTurned_l1 a0 t12 next1 s.1 s.2) m1) x15_2 l_2 = some r := H18
    generalize hn1 : it (fun next1 s => pix_HashTurned_l1 a0 t12 next1 s.1 s.2) m1 = next1 at H18
    refine c_tidyF [(1, .pointer (some ⟨b1, 0, none⟩)), (5, .slice p.1 t12.length p.2), (14, .int .i64 (t12.length : Int)), (15, .int .i64 x15_2)] [cellsC b1 [.int .i64 a0.W, .int .i64 a0.H, v0_2] 24, rowV 36 1 (.slice p.1 t12.length p.2) t12.length (l_2.map e_u64)] rfl rfl ?_
    refine c_seq ?_
    refine c_region ?_
    refine l_val rfl rfl rfl (r_lss rfl rfl) ?_
    refine l_nil ?_
    refine c_seq ?_
    refine c_if (b := (decide (x15_2 < (t12.length : Int)))) rfl (fun hb => ?_) (fun hb => ?_)
    · have H19 := cnd_t hb H18; clear H18
      refine c_skip ?_
      refine c_seq ?_
      refine c_block ?_
      refine c_seq ?_
      refine c_region ?_
      refine l_val rfl rfl rfl (r_move (v := .int .i64 x15_2) rfl) ?_
      refine l_val rfl rfl rfl (r_assign (v := .int .i64 x15_2) rfl) ?_
      refine l_nil ?_
      refine c_region ?_
      refine l_val rfl rfl rfl (r_move (v := .slice p.1 t12.length p.2) rfl) ?_
      refine l_val rfl rfl rfl (r_move (v := .int .i64 x15_2) rfl) ?_
      refine l_loadN (i := 0) (vs := [.int .i64 a0.W, .int .i64 a0.H, v0_2]) Tryd.isAgg24 Tryd.sizeOf24 rfl rfl rfl rfl rfl ?_
      refine l_val rfl rfl rfl (r_move (v := .int .i64 x15_2) rfl) ?_
      obtain ⟨t22, h_t22, H20⟩ := bnd_some H19; clear H19
      refine l_val rfl rfl rfl (r_addG rfl rfl h_t22) ?_
      obtain ⟨t23, h_t23, H21⟩ := bnd_some H20; clear H20
      refine l_make (makes_call (rds := []) (G := fun x : (Option Addr × Nat) => .agg #[.int .i64 t23.W, .int .i64 t23.H, .slice x.1 t23.Pixels.length x.2]) (C := fun x : (Option Addr × Nat) => rowV 5 1 (.slice x.1 t23.Pixels.length x.2) t23.Pixels.length (t23.Pixels.map e_u8)) (fun w L' hF hS hi => k18 (know_all w) (f0_2.mono (hw.now hF)) h_t23) Tryd.call18 rfl) rfl rfl rfl (fun p_2 => ?_)
      obtain ⟨t24, h_t24, H22⟩ := bnd_some H21; clear H21
      refine l_callG (fun w hF hS => k17 (know_all w) (frs_own (i := 2) rfl hS rfl) h_t24) Tryd.call17 rfl rfl rfl ?_
      obtain ⟨t25, h_t25, H23⟩ := bnd_some H22; clear H22
      refine l_read (fun w hF hS => run_indexO Tryd.underlying33 Tryd.sizeOf36 rfl rfl (rowOf (i := 1) hS rfl) hl_2 h_t25) rfl rfl rfl ?_
      obtain ⟨l1, h_l1, H24⟩ := bnd_some H23; clear H23
      refine l_storeG (q := 1) (j := 0) (i := x15_2) (sz := 1) (hm := hl_2) (f := e_u64) (vs := [.int .u64 t24]) Tryd.sizeOf36 rfl rfl rfl rfl rfl rfl rfl rfl rfl (fun y_ hy_ => by first | rfl | (cases hy_.symm.trans h_t25; rfl)) h_l1 ?_
      refine l_nil ?_
      refine c_region ?_
      obtain ⟨t26, h_t26, H25⟩ := bnd_some H24; clear H24
      refine l_val rfl rfl rfl (r_addG rfl rfl h_t26) ?_
      refine l_val rfl rfl rfl (r_move (v := .int .i64 t26) rfl) ?_
      refine l_nil ?_
      refine c_close (t26, l1) () m1 [0, 1] (by exact ⟨rfl, rfl, rfl, rfl, trivial⟩) (by decide) rfl (by exact ⟨(by subst hn1; exact H25), (gSet_n hl_2 h_l1)⟩) (Nat.lt_succ_self _)
    · have H26 := cnd_f hb H18; clear H18
      refine c_exit ?_
      refine c_seq ?_
      refine c_region ?_
      refine l_val rfl rfl rfl (r_move (v := .slice p.1 t12.length p.2) rfl) ?_
      refine l_val rfl rfl rfl (r_assign (v := .slice p.1 t12.length p.2) rfl) ?_
      refine l_val rfl rfl rfl (r_assign (v := .int .i64 0) rfl) ?_
      refine l_nil ?_
      refine c_ret ?_
      obtain rfl := Option.some.inj H26
      refine ret2 (v1 := .slice p.1 t12.length p.2) (v2 := .int .i64 0) rfl rfl rfl (finX p (i := 1) rfl (by first | rfl | rw [(show t12.length = l_2.length from hl_2)]) (by first | exact Imp.refl _ | exact Imp.of (by rw [(show t12.length = l_2.length from hl_2)])))
theorem k7 {a0 : T_api_Image} {v0_2 : Value} {r : Int × Int} {w : World} {h : Heap} (hw : Know h w noS) (f0_2 : FrS h 1 v0_2 (a0.Pixels.map e_u8)) (H : pix_Hash a0 = some r) : Does Tryd.prog 7 (List.toArray [.agg #[.int .i64 a0.W, .int .i64 a0.H, v0_2]]) w (fun v w' => v = (.tuple #[.int .u64 r.1, .int .i64 r.2]) ∧ Grow w w') := by
  refine enter (n := 12) Tryd.func7 rfl rfl rfl noS [] (Sat.nil _ _) ?_
  refine c_seq ?_
  refine c_region ?_
  refine l_box (cs := [.int .i64 a0.W, .int .i64 a0.H, v0_2]) rfl rfl rfl rfl (fun b1 => ?_)
  refine l_val rfl rfl rfl (r_assign (v := .int .u64 0) rfl) ?_
  refine l_val rfl rfl rfl (r_assign (v := .int .i64 0) rfl) ?_
  refine l_nil ?_
  refine c_seq ?_
  refine c_seq ?_
  refine c_region ?_
  refine l_loadN (i := 0) (vs := [.int .i64 a0.W, .int .i64 a0.H, v0_2]) Tryd.isAgg24 Tryd.sizeOf24 rfl rfl rfl rfl rfl ?_
  obtain ⟨t6, h_t6, H5⟩ := bnd_some H; clear H
  refine l_callG (fun w hF hS => k11 (know_all w) (f0_2.mono (hw.now hF)) h_t6) Tryd.call11 rfl rfl rfl ?_
  refine l_val rfl rfl rfl (r_assign (v := .int .i64 t6) rfl) ?_
  refine l_nil ?_
  refine c_seq ?_
  refine c_region ?_
  refine l_val rfl rfl rfl (r_move (v := .int .i64 t6) rfl) ?_
  refine l_val rfl rfl rfl (r_neq rfl rfl) ?_
  refine l_nil ?_
  refine c_if (b := (decide (t6 ≠ 0))) rfl (fun hb => ?_) (fun hb => ?_)
  · have H6 := cnd_t hb H5; clear H5
    refine c_seq ?_
    refine c_region ?_
    refine l_val rfl rfl rfl (r_move (v := .int .i64 t6) rfl) ?_
    refine l_val rfl rfl rfl (r_assign (v := .int .u64 0) rfl) ?_
    refine l_val rfl rfl rfl (r_assign (v := .int .i64 t6) rfl) ?_
    refine l_nil ?_
    refine c_ret ?_
    obtain rfl := Option.some.inj H6
    refine ret2 (v1 := .int .u64 0) (v2 := .int .i64 t6) rfl rfl rfl (fin rfl)
  · have H7 := cnd_f hb H5; clear H5
    refine c_skip ?_
    refine c_seq ?_
    refine c_region ?_
    refine l_loadN (i := 0) (vs := [.int .i64 a0.W, .int .i64 a0.H, v0_2]) Tryd.isAgg24 Tryd.sizeOf24 rfl rfl rfl rfl rfl ?_
    obtain ⟨t11, h_t11, H8⟩ := bnd_some H7; clear H7
    refine l_callG (fun w hF hS => k17 (know_all w) (f0_2.mono (hw.now hF)) h_t11) Tryd.call17 rfl rfl rfl ?_
    refine l_val rfl rfl rfl (r_assign (v := .int .u64 t11) rfl) ?_
    refine l_val rfl rfl rfl (r_assign (v := .int .i64 0) rfl) ?_
    refine l_nil ?_
    refine c_ret ?_
    obtain rfl := Option.some.inj H8
    refine ret2 (v1 := .int .u64 t11) (v2 := .int .i64 0) rfl rfl rfl (fin rfl)
theorem k19 {a0 : (List Int)} {v0 : Value} {a1 : Int} {r : Int} {w : World} {h : Heap} (hw : Know h w noS) (f0 : FrS h 1 v0 (a0.map e_u64)) (H : slices_Index_uint64 a0 a1 = some r) : Does Tryd.prog 19 (List.toArray [v0, .int .u64 a1]) w (fun v w' => v = (.int .i64 r) ∧ Grow w w') := by
  refine enter (n := 19) Tryd.func19 rfl rfl rfl noS [] (Sat.nil _ _) ?_
  refine c_seq ?_
  refine c_region ?_
  refine l_val rfl rfl rfl (r_assign (v := .int .i64 0) rfl) ?_
  refine l_nil ?_
  refine c_seq ?_
  refine c_seq ?_
  refine c_region ?_
  refine l_val rfl rfl rfl (r_move (v := v0) rfl) ?_
  refine l_val rfl rfl rfl (r_lenF Tryd.underlying33 rfl f0 rfl) ?_
  refine l_val rfl rfl rfl (r_move (v := .int .i64 0) rfl) ?_
  refine l_nil ?_
  refine c_block ?_
  refine c_fix (σ := Int) (τ := Unit) (fun next1 s => slices_Index_uint64_l1 a0 a1 next1 s) (fun s t => [(0, v0), (1, .int .u64 a1), (7, .int .i64 (a0.length : Int)), (8, .int .i64 s)]) (fun s t => []) (fun s t => True) 0 () [] H (by exact trivial) (by exact ⟨rfl, rfl, rfl, rfl, trivial⟩) (by decide) rfl ?_
  rintro x8_2 _ m1 gg H8 _
  clear H
  replace H8 : slices_Index_uint64_l1 a0 a1 (it (fun next1 s => slices_Index_uint64_l1 a0 a1 next1 s) m1) x8_2 = some r := H8
  generalize hn1 : it (fun next1 s => slices_Index_uint64_l1 a0 a1 next1 s) m1 = next1 at H8
  refine c_tidyF [(0, v0), (1, .int .u64 a1), (7, .int .i64 (a0.length : Int)), (8, .int .i64 x8_2)] [] rfl rfl ?_
  refine c_seq ?_
  refine c_region ?_
  refine l_val rfl rfl rfl (r_lss rfl rfl) ?_
  refine l_nil ?_
  refine c_seq ?_
  refine c_if (b := (decide (x8_2 < (a0.length : Int)))) rfl (fun hb => ?_) (fun hb => ?_)
  · have H9 := cnd_t hb H8; clear H8
    refine c_skip ?_
    refine c_seq ?_
    refine c_block ?_
    refine c_seq ?_
    refine c_region ?_
    refine l_val rfl rfl rfl (r_move (v := .int .i64 x8_2) rfl) ?_
    refine l_val rfl rfl rfl (r_assign (v := .int .i64 x8_2) rfl) ?_
    refine l_nil ?_
    refine c_seq ?_
    refine c_region ?_
    refine l_val rfl rfl rfl (r_move (v := .int .u64 a1) rfl) ?_
    refine l_val rfl rfl rfl (r_move (v := v0) rfl) ?_
    refine l_val rfl rfl rfl (r_move (v := .int .i64 x8_2) rfl) ?_
    obtain ⟨t14, h_t14, H10⟩ := bnd_some H9; clear H9
    refine l_val rfl rfl rfl (r_indexF Tryd.underlying33 Tryd.sizeOf36 rfl rfl f0 h_t14) ?_
    refine l_read (fun w hF hS => run_loadG1 (f := e_u64) (i := x8_2) (sz := 1) (j := 0) (v := .int .u64 t14) Tryd.isAgg36 rfl rfl (f0.row (hw.now hF)) h_t14 rfl) rfl rfl rfl ?_
    refine l_val rfl rfl rfl (r_eql rfl rfl) ?_
    refine l_nil ?_
    refine c_if (b := (decide (a1 = t14))) rfl (fun hb => ?_) (fun hb => ?_)
    · have H11 := cnd_t hb H10; clear H10
      refine c_seq ?_
      refine c_region ?_
      refine l_val rfl rfl rfl (r_move (v := .int .i64 x8_2) rfl) ?_
      refine l_val rfl rfl rfl (r_assign (v := .int .i64 x8_2) rfl) ?_
      refine l_nil ?_
      refine c_ret ?_
      obtain rfl := Option.some.inj H11
      refine ret1 (v := .int .i64 x8_2) rfl rfl (fin rfl)
    · have H12 := cnd_f hb H10; clear H10
      refine c_skip ?_
      refine c_region ?_
      obtain ⟨t18, h_t18, H13⟩ := bnd_some H12; clear H12
      refine l_val rfl rfl rfl (r_addG rfl rfl h_t18) ?_
      refine l_val rfl rfl rfl (r_move (v := .int .i64 t18) rfl) ?_
      refine l_nil ?_
      refine c_close t18 () m1 [] (by exact ⟨rfl, rfl, rfl, rfl, trivial⟩) (by decide) rfl (by exact ⟨(by subst hn1; exact H13), trivial⟩) (Nat.lt_succ_self _)
  · have H14 := cnd_f hb H8; clear H8
    refine c_exit ?_
    refine c_seq ?_
    refine c_region ?_
    refine l_val rfl rfl rfl (r_assign (v := .int .i64 (-1)) rfl) ?_
    refine l_nil ?_
    refine c_ret ?_
    obtain rfl := Option.some.inj H14
    refine ret1 (v := .int .i64 (-1)) rfl rfl (fin rfl)
theorem k8 {a0 : (List Int)} {v0 : Value} {a1 : Int} {r : Bool} {w : World} {h : Heap} (hw : Know h w noS) (f0 : FrS h 1 v0 (a0.map e_u64)) (H : slices_Contains_uint64 a0 a1 = some r) : Does Tryd.prog 8 (List.toArray [v0, .int .u64 a1]) w (fun v w' => v = (.bool r) ∧ Grow w w') := by
  refine enter (n := 9) Tryd.func8 rfl rfl rfl noS [] (Sat.nil _ _) ?_
  refine c_seq ?_
  refine c_region ?_
  refine l_val rfl rfl rfl (r_assign (v := .bool false) rfl) ?_
  refine l_nil ?_
  refine c_seq ?_
  refine c_region ?_
  refine l_val rfl rfl rfl (r_move (v := v0) rfl) ?_
  refine l_val rfl rfl rfl (r_move (v := .int .u64 a1) rfl) ?_
  obtain ⟨t7, h_t7, H2⟩ := bnd_some H; clear H
  refine l_callG (fun w hF hS => k19 (know_all w) (f0.mono (hw.now hF)) h_t7) Tryd.call19 rfl rfl rfl ?_
  refine l_val rfl rfl rfl (r_geq rfl rfl) ?_
  refine l_val rfl rfl rfl (r_assign (v := .bool (decide (0 ≤ t7))) rfl) ?_
  refine l_nil ?_
  refine c_ret ?_
  obtain rfl := Option.some.inj H2
  refine ret1 (v := .bool (decide (0 ≤ t7))) rfl rfl (fin rfl)
theorem k3 {a0 : T_api_Image} {v0_2 : Value} {a1 : (List Int)} {v1 : Value} {r : Bool} {w : World} {h : Heap} (hw : Know h w noS) (f0_2 : FrS h 1 v0_2 (a0.Pixels.map e_u8)) (f1 : FrS h 1 v1 (a1.map e_i64)) (tb_pow10 : TabH Tryd.prog h "internal/strconv.uint64pow10" .u64 Lib.pow10Tab) (H : Top_TopTurned a0 a1 = some r) : Does Tryd.prog 3 (List.toArray [.agg #[.int .i64 a0.W, .int .i64 a0.H, v0_2], v1]) w (fun v w' => v = (.bool r) ∧ Grow w w') := by
  refine enter (n := 57) Tryd.func3 rfl rfl rfl noS [] (Sat.nil _ _) ?_
  refine c_seq ?_
  refine c_region ?_
  refine l_box (cs := [.int .i64 a0.W, .int .i64 a0.H, v0_2]) rfl rfl rfl rfl (fun b3 => ?_)
  refine l_val rfl rfl rfl (r_assign (v := .bool false) rfl) ?_
  refine l_nil ?_
  refine c_seq ?_
  refine c_seq ?_
  refine c_region ?_
  obtain ⟨t14, h_t14, H21⟩ := bnd_some H; clear H
  refine l_callG (fun w hF hS => k4 (know_all w) (tb_pow10.mono (hw.now hF)) h_t14) Tryd.call4 rfl rfl rfl ?_
  refine l_val rfl rfl rfl (r_not rfl) ?_
  refine l_nil ?_
  refine c_if (b := (!t14)) rfl (fun hb => ?_) (fun hb => ?_)
  · have H22 := cnd_t hb H21; clear H21
    refine c_seq ?_
    refine c_region ?_
    refine l_val rfl rfl rfl (r_assign (v := .bool false) rfl) ?_
    refine l_nil ?_
    refine c_ret ?_
    obtain rfl := Option.some.inj H22
    refine ret1 (v := .bool false) rfl rfl (fin rfl)
  · have H23 := cnd_f hb H21; clear H21
    refine c_skip ?_
    refine c_seq ?_
    refine c_region ?_
    refine l_val rfl rfl rfl (r_assign (v := .slice none 0 0) rfl) ?_
    refine l_nil ?_
    refine c_meet (r := r) (σ := (List T_edit_Step)) (τ := (Option Addr × Nat)) (fun s => Top_TopTurned_j1 a0 s) (fun s t => [(2, .pointer (some ⟨b3, 0, none⟩)), (5, .slice t.1 s.length t.2)]) (fun s t => [cellsC b3 [.int .i64 a0.W, .int .i64 a0.H, v0_2] 24, rowV 29 5 (.slice t.1 s.length t.2) s.length (s.map e_edit_Step)]) (fun s t => True) ?_ ?_
    · refine c_seq ?_
      refine c_region ?_
      refine l_val rfl rfl rfl (r_move (v := v1) rfl) ?_
      refine l_val rfl rfl rfl (r_lenF Tryd.underlying25 rfl f1 rfl) ?_
      refine l_val rfl rfl rfl (r_move (v := .int .i64 0) rfl) ?_
      refine l_nil ?_
      refine c_block ?_
      refine c_nilRow 29 5 ?_
      refine c_fix (σ := Int × (List T_edit_Step)) (τ := (Option Addr × Nat)) (fun next2 s => Top_TopTurned_l2 a0 a1 next2 s.1 s.2) (fun s t => [(2, .pointer (some ⟨b3, 0, none⟩)), (5, .slice t.1 s.2.length t.2), (16, v1), (17, .int .i64 (a1.length : Int)), (18, .int .i64 s.1)]) (fun s t => [cellsC b3 [.int .i64 a0.W, .int .i64 a0.H, v0_2] 24, rowV 29 5 (.slice t.1 s.2.length t.2) s.2.length (s.2.map e_edit_Step)]) (fun s t => True) (0, ([] : List T_edit_Step)) ((none, 0) : Option Addr × Nat) [0, 1] H23 (by exact trivial) (by exact ⟨rfl, rfl, rfl, rfl, rfl, trivial⟩) (by decide) rfl ?_
      rintro ⟨x18_2, l_3⟩ p_4 m2 gg H35 _
      clear H23
      replace H35 : Top_TopTurned_l2 a0 a1 (it (fun next2 s => Top_TopTurned_l2 a0 a1 next2 s.1 s.2) m2) x18_2 l_3 = some r := H35
      generalize hn2 : it (fun next2 s => Top_TopTurned_l2 a0 a1 next2 s.1 s.2) m2 = next2 at H35
      refine c_tidyF [(2, .pointer (some ⟨b3, 0, none⟩)), (5, .slice p_4.1 l_3.length p_4.2), (16, v1), (17, .int .i64 (a1.length : Int)), (18, .int .i64 x18_2)] [cellsC b3 [.int .i64 a0.W, .int .i64 a0.H, v0_2] 24, rowV 29 5 (.slice p_4.1 l_3.length p_4.2) l_3.length (l_3.map e_edit_Step)] rfl rfl ?_
      refine c_seq ?_
      refine c_region ?_
      refine l_val rfl rfl rfl (r_lss rfl rfl) ?_
      refine l_nil ?_
      refine c_seq ?_
      refine c_if (b := (decide (x18_2 < (a1.length : Int)))) rfl (fun hb => ?_) (fun hb => ?_)
      · have H36 := cnd_t hb H35; clear H35
        refine c_skip ?_
        refine c_seq ?_
        refine c_block ?_
        refine c_seq ?_
        refine c_region ?_
        obtain ⟨t20, h_t20, H37⟩ := bnd_some H36; clear H36
        refine l_val rfl rfl rfl (r_indexF Tryd.underlying25 Tryd.sizeOf3 rfl rfl f1 h_t20) ?_
        refine l_read (fun w hF hS => run_loadG1 (f := e_i64) (i := x18_2) (sz := 1) (j := 0) (v := .int .i64 t20) Tryd.isAgg3 rfl rfl (f1.row (hw.now hF)) h_t20 rfl) rfl rfl rfl ?_
        refine l_val rfl rfl rfl (r_assign (v := .int .i64 t20) rfl) ?_
        refine l_nil ?_
        refine c_region ?_
        refine l_val rfl rfl rfl (r_move (v := .slice p_4.1 l_3.length p_4.2) rfl) ?_
        refine l_val rfl rfl rfl (r_move (v := .int .i64 t20) rfl) ?_
        refine l_val rfl rfl rfl (r_build (pl := #[(0, 1), (1, 1), (2, 1), (3, 1), (4, 1)]) (ps := [(0, .int .i64 1), (1, .int .i64 t20)]) (cells := #[.int .i64 1, .int .i64 t20, .int .i64 0, .int .i64 0, .int .i64 0]) Tryd.zeroValue29 Tryd.runUnderlying29 (fun w => by kernel_rfl) rfl rfl) ?_
        refine l_buildSlice (vs := [.agg #[.int .i64 1, .int .i64 t20, .int .i64 0, .int .i64 0, .int .i64 0]]) (cs := [.int .i64 1, .int .i64 t20, .int .i64 0, .int .i64 0, .int .i64 0]) Tryd.underlying27 Tryd.sizeOf29 Tryd.zeroValue29 rfl rfl rfl rfl rfl rfl rfl (fun b5 => ?_)
        obtain ⟨l26, h_l26, H38⟩ := bnd_some H37; clear H37
        refine l_turn (turns_appG (i := 1) (hn := rfl) (rds := [2]) (p := p_4) (sz := 5) (by_ := 40) (f := e_edit_Step) (ys := l_3) (ls := ([(⟨1, t20, 0, 0, 0⟩ : T_edit_Step)] : List T_edit_Step)) (V := .slice (some ⟨b5, 0, none⟩) 1 1) Tryd.underlying27 (info_of Tryd.typeInfo29) rfl rfl rfl rfl rfl rfl rfl rfl rfl rfl (fun w L' hF hS hi => row_box (i := 2) hS ((hi 2 (by simp)).trans rfl) rfl rfl) (fun _ => rfl) (fun _ => rfl) h_l26) rfl rfl rfl (fun p_5 => ?_)
        refine l_val rfl rfl rfl (r_assign (v := .slice p_5.1 l26.length p_5.2) rfl) ?_
        refine l_nil ?_
        refine c_region ?_
        obtain ⟨t27, h_t27, H39⟩ := bnd_some H38; clear H38
        refine l_val rfl rfl rfl (r_addG rfl rfl h_t27) ?_
        refine l_val rfl rfl rfl (r_move (v := .int .i64 t27) rfl) ?_
        refine l_nil ?_
        refine c_close (t27, l26) p_5 m2 [0, 1] (by exact ⟨rfl, rfl, rfl, rfl, rfl, trivial⟩) (by decide) rfl (by exact ⟨(by subst hn2; exact H39), trivial⟩) (Nat.lt_succ_self _)
      · have H40 := cnd_f hb H35; clear H35
        refine c_exit ?_
        refine c_close l_3 p_4 0 [0, 1] (by exact ⟨rfl, rfl, trivial⟩) (by decide) rfl (by exact ⟨H40, trivial⟩) (Nat.lt_succ_self _)
    · rintro l p gg H24 _
      replace H24 : Top_TopTurned_j1 a0 l = some r := H24
      refine c_tidyF [(2, .pointer (some ⟨b3, 0, none⟩)), (5, .slice p.1 l.length p.2)] [cellsC b3 [.int .i64 a0.W, .int .i64 a0.H, v0_2] 24, rowV 29 5 (.slice p.1 l.length p.2) l.length (l.map e_edit_Step)] rfl rfl ?_
      refine c_seq ?_
      refine c_region ?_
      refine l_loadN (i := 0) (vs := [.int .i64 a0.W, .int .i64 a0.H, v0_2]) Tryd.isAgg24 Tryd.sizeOf24 rfl rfl rfl rfl rfl ?_
      refine l_val rfl rfl rfl (r_move (v := .slice p.1 l.length p.2) rfl) ?_
      obtain ⟨t31, h_t31, H25⟩ := bnd_some H24; clear H24
      refine l_make (makes_call (rds := [1]) (G := fun x : (Option Addr × Nat) => .tuple #[.agg #[.int .i64 t31.1.W, .int .i64 t31.1.H, .slice x.1 t31.1.Pixels.length x.2], .int .i64 t31.2]) (C := fun x : (Option Addr × Nat) => rowV 5 1 (.slice x.1 t31.1.Pixels.length x.2) t31.1.Pixels.length (t31.1.Pixels.map e_u8)) (fun w L' hF hS hi => k5 (know_all w) (f0_2.mono (hw.now hF)) (frs_own (i := 1) rfl hS ((hi 1 (by simp)).trans rfl)) h_t31) Tryd.call5 rfl) rfl rfl rfl (fun p_2 => ?_)
      refine l_val rfl rfl rfl (r_move (v := .tuple #[.agg #[.int .i64 t31.1.W, .int .i64 t31.1.H, .slice p_2.1 t31.1.Pixels.length p_2.2], .int .i64 t31.2]) rfl) ?_
      refine l_val rfl rfl rfl (r_extract (v := .agg #[.int .i64 t31.1.W, .int .i64 t31.1.H, .slice p_2.1 t31.1.Pixels.length p_2.2]) rfl rfl) ?_
      refine l_val rfl rfl rfl (r_extract (v := .int .i64 t31.2) rfl rfl) ?_
      refine l_alloc (cs := [.int .i64 0, .int .i64 0, .slice none 0 0]) Tryd.zeroValue24 rfl rfl rfl (fun b4 => ?_)
      refine l_store (i := 3) (vs := [.int .i64 t31.1.W, .int .i64 t31.1.H, .slice p_2.1 t31.1.Pixels.length p_2.2]) (cs' := [.int .i64 t31.1.W, .int .i64 t31.1.H, .slice p_2.1 t31.1.Pixels.length p_2.2]) Tryd.sizeOf24 rfl rfl rfl rfl rfl rfl rfl rfl rfl ?_
      refine l_val rfl rfl rfl (r_assign (v := .int .i64 t31.2) rfl) ?_
      refine l_nil ?_
      refine c_seq ?_
      refine c_seq ?_
      refine c_region ?_
      refine l_val rfl rfl rfl (r_move (v := .int .i64 t31.2) rfl) ?_
      refine l_val rfl rfl rfl (r_neq rfl rfl) ?_
      refine l_nil ?_
      refine c_if (b := (decide (t31.2 ≠ 0))) rfl (fun hb => ?_) (fun hb => ?_)
      · have H26 := cnd_t hb H25; clear H25
        refine c_seq ?_
        refine c_region ?_
        refine l_val rfl rfl rfl (r_assign (v := .bool true) rfl) ?_
        refine l_nil ?_
        refine c_ret ?_
        obtain rfl := Option.some.inj H26
        refine ret1 (v := .bool true) rfl rfl (fin rfl)
      · have H27 := cnd_f hb H25; clear H25
        refine c_skip ?_
        refine c_seq ?_
        refine c_region ?_
        refine l_loadN (i := 0) (vs := [.int .i64 a0.W, .int .i64 a0.H, v0_2]) Tryd.isAgg24 Tryd.sizeOf24 rfl rfl rfl rfl rfl ?_
        obtain ⟨t38, h_t38, H28⟩ := bnd_some H27; clear H27
        refine l_make (makes_call (rds := []) (G := fun x : (Option Addr × Nat) => .tuple #[.slice x.1 t38.1.length x.2, .int .i64 t38.2]) (C := fun x : (Option Addr × Nat) => rowV 36 1 (.slice x.1 t38.1.length x.2) t38.1.length (t38.1.map e_u64)) (fun w L' hF hS hi => k6 (know_all w) (f0_2.mono (hw.now hF)) h_t38) Tryd.call6 rfl) rfl rfl rfl (fun p_3 => ?_)
        refine l_val rfl rfl rfl (r_move (v := .tuple #[.slice p_3.1 t38.1.length p_3.2, .int .i64 t38.2]) rfl) ?_
        refine l_val rfl rfl rfl (r_extract (v := .slice p_3.1 t38.1.length p_3.2) rfl rfl) ?_
        refine l_val rfl rfl rfl (r_extract (v := .int .i64 t38.2) rfl rfl) ?_
        refine l_val rfl rfl rfl (r_assign (v := .slice p_3.1 t38.1.length p_3.2) rfl) ?_
        refine l_val rfl rfl rfl (r_assign (v := .int .i64 t38.2) rfl) ?_
        refine l_nil ?_
        refine c_seq ?_
        refine c_region ?_
        refine l_loadN (i := 3) (vs := [.int .i64 t31.1.W, .int .i64 t31.1.H, .slice p_2.1 t31.1.Pixels.length p_2.2]) Tryd.isAgg24 Tryd.sizeOf24 rfl rfl rfl rfl rfl ?_
        obtain ⟨t43, h_t43, H29⟩ := bnd_some H28; clear H28
        refine l_callG (fun w hF hS => k7 (know_all w) (frs_own (i := 2) rfl hS rfl) h_t43) Tryd.call7 rfl rfl rfl ?_
        refine l_val rfl rfl rfl (r_move (v := .tuple #[.int .u64 t43.1, .int .i64 t43.2]) rfl) ?_
        refine l_val rfl rfl rfl (r_extract (v := .int .u64 t43.1) rfl rfl) ?_
        refine l_val rfl rfl rfl (r_extract (v := .int .i64 t43.2) rfl rfl) ?_
        refine l_val rfl rfl rfl (r_assign (v := .int .u64 t43.1) rfl) ?_
        refine l_val rfl rfl rfl (r_assign (v := .int .i64 t43.2) rfl) ?_
        refine l_nil ?_
        refine c_seq ?_
        refine c_region ?_
        refine l_val rfl rfl rfl (r_move (v := .int .i64 t38.2) rfl) ?_
        refine l_val rfl rfl rfl (r_eql rfl rfl) ?_
        refine l_val rfl rfl rfl (r_move (v := .bool (decide (t38.2 = 0))) rfl) ?_
        refine split (fun hb => ?_) (fun hb => ?_)
        · have H30 := cnd_t hb H29; clear H29
          refine l_val rfl rfl rfl (r_move (v := .int .i64 t43.2) rfl) ?_
          refine l_val rfl rfl rfl (r_eql rfl rfl) ?_
          refine l_val rfl rfl rfl (r_pickT (v := .bool (decide (t43.2 = 0))) rfl rfl) ?_
          refine l_val rfl rfl rfl (r_move (v := .bool (decide (t43.2 = 0))) rfl) ?_
          refine split (fun hb => ?_) (fun hb => ?_)
          · have H31 := cnd_t hb H30; clear H30
            refine l_val rfl rfl rfl (r_move (v := .slice p_3.1 t38.1.length p_3.2) rfl) ?_
            refine l_val rfl rfl rfl (r_move (v := .int .u64 t43.1) rfl) ?_
            obtain ⟨t55, h_t55, H32⟩ := bnd_some H31; clear H31
            refine l_callG (fun w hF hS => k8 (know_all w) (frs_own (i := 4) rfl hS rfl) h_t55) Tryd.call8 rfl rfl rfl ?_
            refine l_val rfl rfl rfl (r_pickT (v := .bool t55) rfl rfl) ?_
            refine l_val rfl rfl rfl (r_assign (v := .bool t55) rfl) ?_
            refine l_nil ?_
            refine c_ret ?_
            obtain rfl := Option.some.inj H32
            refine ret1 (v := .bool t55) rfl rfl (fin rfl)
          · have H33 := cnd_f hb H30; clear H30
            refine l_passed rfl rfl rfl ?_
            refine l_passed rfl rfl rfl ?_
            refine l_passed rfl rfl rfl ?_
            refine l_val rfl rfl rfl (r_pickF (v := .bool false) rfl rfl) ?_
            refine l_val rfl rfl rfl (r_assign (v := .bool false) rfl) ?_
            refine l_nil ?_
            refine c_ret ?_
            obtain rfl := Option.some.inj H33
            refine ret1 (v := .bool false) rfl rfl (fin rfl)
        · have H34 := cnd_f hb H29; clear H29
          refine l_passed rfl rfl rfl ?_
          refine l_passed rfl rfl rfl ?_
          refine l_val rfl rfl rfl (r_pickF (v := .bool false) rfl rfl) ?_
          refine l_val rfl rfl rfl (r_move (v := .bool false) rfl) ?_
          refine l_passed rfl rfl rfl ?_
          refine l_passed rfl rfl rfl ?_
          refine l_passed rfl rfl rfl ?_
          refine l_val rfl rfl rfl (r_pickF (v := .bool false) rfl rfl) ?_
          refine l_val rfl rfl rfl (r_assign (v := .bool false) rfl) ?_
          refine l_nil ?_
          refine c_ret ?_
          obtain rfl := Option.some.inj H34
          refine ret1 (v := .bool false) rfl rfl (fin rfl)
end Go.Proofs.YtfplifpbobfemaaDoor
