/- WhereStopsHold: the walks, printed by our generator; each follows its model. Conditions: the model yields a value. -/
import Derived.Test.YtcfckcchalpkdaaDoorKAw
namespace Go.Proofs.YtcfckcchalpkdaaDoor
open Go Go.Vc Go.Md Go.M Go.Lx
set_option maxRecDepth 100000
set_option maxHeartbeats 4000000
set_option linter.unusedVariables false

theorem k41 {a0 : (List T_where_Fix)} {v0 : Value} {a1 : Int} {a2 : Int} {r : Int} {w : World} {h : Heap} (hw : Know h w noS) (f0 : FrS h 3 v0 (a0.map e_where_Fix)) (H : where_checkParts a0 a1 a2 = some r) : Does Tryd.prog 41 (List.toArray [v0, .int .i64 a1, .int .i64 a2]) w (fun v w' => v = (.int .i64 r) ∧ Grow w w') := by
  refine enter (n := 20) Tryd.func41 rfl rfl rfl noS [] (Sat.nil _ _) ?_
  refine c_seq ?_
  refine c_region ?_
  refine l_val rfl rfl rfl (r_assign (v := .int .i64 0) rfl) ?_
  refine l_nil ?_
  refine c_seq ?_
  refine c_seq ?_
  refine c_region ?_
  refine l_val rfl rfl rfl (r_move (v := v0) rfl) ?_
  obtain ⟨t9, h_t9, H10⟩ := bnd_some H; clear H
  refine l_callG (fun w hF hS => k50 (know_all w) (f0.mono (hw.now hF)) h_t9) Tryd.call50 rfl rfl rfl ?_
  refine l_val rfl rfl rfl (r_assign (v := .int .i64 t9) rfl) ?_
  refine l_nil ?_
  refine c_seq ?_
  refine c_region ?_
  refine l_val rfl rfl rfl (r_move (v := .int .i64 t9) rfl) ?_
  refine l_val rfl rfl rfl (r_neq rfl rfl) ?_
  refine l_nil ?_
  refine c_if (b := (decide (t9 ≠ 0))) rfl (fun hb => ?_) (fun hb => ?_)
  · have H11 := cnd_t hb H10; clear H10
    refine c_seq ?_
    refine c_region ?_
    refine l_val rfl rfl rfl (r_move (v := .int .i64 t9) rfl) ?_
    refine l_val rfl rfl rfl (r_assign (v := .int .i64 t9) rfl) ?_
    refine l_nil ?_
    refine c_ret ?_
    obtain rfl := Option.some.inj H11
    refine ret1 (v := .int .i64 t9) rfl rfl (fin rfl)
  · have H12 := cnd_f hb H10; clear H10
    refine c_skip ?_
    refine c_seq ?_
    refine c_seq ?_
    refine c_region ?_
    refine l_val rfl rfl rfl (r_move (v := .int .i64 a1) rfl) ?_
    obtain ⟨t14, h_t14, H13⟩ := bnd_some H12; clear H12
    refine l_call (k51 h_t14) Tryd.call51 rfl rfl rfl ?_
    refine l_val rfl rfl rfl (r_move (v := .bool t14) rfl) ?_
    refine split (fun hb => ?_) (fun hb => ?_)
    · have H14 := cnd_t hb H13; clear H13
      refine l_passed rfl rfl rfl ?_
      refine l_passed rfl rfl rfl ?_
      refine l_passed rfl rfl rfl ?_
      refine l_val rfl rfl rfl (r_pickT (v := .bool true) rfl rfl) ?_
      refine l_nil ?_
      refine c_true rfl ?_
      refine c_seq ?_
      refine c_region ?_
      refine l_val rfl rfl rfl (r_assign (v := .int .i64 2) rfl) ?_
      refine l_nil ?_
      refine c_ret ?_
      obtain rfl := Option.some.inj H14
      refine ret1 (v := .int .i64 2) rfl rfl (fin rfl)
    · have H15 := cnd_f hb H13; clear H13
      refine l_val rfl rfl rfl (r_move (v := .int .i64 a2) rfl) ?_
      obtain ⟨t17, h_t17, H16⟩ := bnd_some H15; clear H15
      refine l_call (k54 h_t17) Tryd.call54 rfl rfl rfl ?_
      refine l_val rfl rfl rfl (r_not rfl) ?_
      refine l_val rfl rfl rfl (r_pickF (v := .bool (!t17)) rfl rfl) ?_
      refine l_nil ?_
      refine c_if (b := (!t17)) rfl (fun hb => ?_) (fun hb => ?_)
      · have H17 := cnd_t hb H16; clear H16
        refine c_seq ?_
        refine c_region ?_
        refine l_val rfl rfl rfl (r_assign (v := .int .i64 2) rfl) ?_
        refine l_nil ?_
        refine c_ret ?_
        obtain rfl := Option.some.inj H17
        refine ret1 (v := .int .i64 2) rfl rfl (fin rfl)
      · have H18 := cnd_f hb H16; clear H16
        refine c_skip ?_
        refine c_seq ?_
        refine c_region ?_
        refine l_val rfl rfl rfl (r_assign (v := .int .i64 0) rfl) ?_
        refine l_nil ?_
        refine c_ret ?_
        obtain rfl := Option.some.inj H18
        refine ret1 (v := .int .i64 0) rfl rfl (fin rfl)
theorem k42 {q0 : Int} {c0 : Nat} {a0 : (List T_where_Fix)} {v0 : Value} {a1 : Int} {r : Int} {w : World} {h : Heap} (hw : Know h w noS) (hc0 : h c0 = some (.cells (List.toArray [.int .i64 q0]) 3 (0, 0))) (f0 : FrS h 3 v0 (a0.map e_where_Fix)) (H : where_Stops_1 q0 a0 a1 = some r) : Does Tryd.prog 42 (List.toArray [v0, .int .i64 a1, .pointer (some ⟨c0, 0, none⟩)]) w (fun v w' => v = (.int .i64 r) ∧ Grow w w') := by
  refine enter (n := 32) Tryd.func42 rfl rfl rfl noS [] (Sat.nil _ _) ?_
  refine c_seq ?_
  refine c_region ?_
  refine l_val rfl rfl rfl (r_assign (v := .int .i64 0) rfl) ?_
  refine l_nil ?_
  refine c_seq ?_
  refine c_region ?_
  refine l_val rfl rfl rfl (r_move (v := .int .i64 a1) rfl) ?_
  refine l_val rfl rfl rfl (r_assign (v := .int .i64 a1) rfl) ?_
  refine l_nil ?_
  refine c_seq ?_
  refine c_block ?_
  refine c_fix (σ := Int) (τ := Unit) (fun next1 s => where_Stops_1_l1 q0 a0 a1 next1 s) (fun s t => [(0, v0), (1, .int .i64 a1), (2, .pointer (some ⟨c0, 0, none⟩)), (6, .int .i64 s)]) (fun s t => []) (fun s t => True) a1 () [] H (by exact trivial) (by exact ⟨rfl, rfl, rfl, rfl, trivial⟩) (by decide) rfl ?_
  rintro x6_2 _ m1 gg H12 _
  clear H
  replace H12 : where_Stops_1_l1 q0 a0 a1 (it (fun next1 s => where_Stops_1_l1 q0 a0 a1 next1 s) m1) x6_2 = some r := H12
  generalize hn1 : it (fun next1 s => where_Stops_1_l1 q0 a0 a1 next1 s) m1 = next1 at H12
  refine c_tidyF [(0, v0), (1, .int .i64 a1), (2, .pointer (some ⟨c0, 0, none⟩)), (6, .int .i64 x6_2)] [] rfl rfl ?_
  refine c_seq ?_
  refine c_seq ?_
  exact c_regionD (Kd.p :: Kd.p :: Kd.p :: Kd.p :: Kd.p :: Kd.p :: Kd.p :: Kd.p :: Kd.p :: Kd.p :: Kd.p :: Kd.d [] _ :: Kd.p :: Kd.p :: Kd.p :: Kd.p :: Kd.d [] _ :: Kd.d [] _ :: Kd.d [] _ :: Kd.p :: Kd.p :: []) 0 mixed (by
    refine d_val rfl rfl (r_move (v := .int .i64 x6_2) rfl) ?_
    have h_t9 := bnd_val H12
    have H13 := bnd_rest H12
    refine d_val rfl rfl (r_addG rfl rfl h_t9) ?_
    refine d_val rfl rfl (r_move (v := v0) rfl) ?_
    refine d_val rfl rfl (r_lenF Tryd.underlying22 rfl f0 rfl) ?_
    refine d_val rfl rfl (r_lss rfl rfl) ?_
    refine d_val rfl rfl (r_move (v := .bool (decide ((val (gI (x6_2 + 1))) < (a0.length : Int)))) rfl) ?_
    refine splitS (fun hb => ?_) (fun hb => ?_)
    · have H14 := cnd_t hb H13
      refine d_val rfl rfl (r_move (v := v0) rfl) ?_
      refine d_val rfl rfl (r_move (v := .int .i64 x6_2) rfl) ?_
      have h_t16 := bnd_val H14
      have H15 := bnd_rest H14
      refine d_val rfl rfl (r_addG rfl rfl h_t16) ?_
      have h_t17 := bnd_val H15
      have H16 := bnd_rest H15
      refine d_val rfl rfl (r_indexF Tryd.underlying22 Tryd.sizeOf33 rfl rfl f0 h_t17) ?_
      refine d_val rfl rfl (r_fieldP Tryd.runUnderlying33 rfl Tryd.sizeOf29 rfl rfl (some_of_at f0 h_t17)) ?_
      refine d_read (fun w hF => run_loadGN (f := e_where_Fix) (i := (val (gI (x6_2 + 1)))) (sz := 3) (j := 1) (vs := [.int .i64 (val (gAt a0 (val (gI (x6_2 + 1))))).Place.Lat, .int .i64 (val (gAt a0 (val (gI (x6_2 + 1))))).Place.Lon]) Tryd.isAgg29 Tryd.sizeOf29 rfl rfl (f0.row (hw.now hF)) h_t17 rfl) rfl rfl ?_
      refine d_val rfl rfl (r_move (v := v0) rfl) ?_
      refine d_val rfl rfl (r_move (v := .int .i64 a1) rfl) ?_
      have h_t22 := bnd_val H16
      have H17 := bnd_rest H16
      refine d_val rfl rfl (r_indexF Tryd.underlying22 Tryd.sizeOf33 rfl rfl f0 h_t22) ?_
      refine d_val rfl rfl (r_fieldP Tryd.runUnderlying33 rfl Tryd.sizeOf29 rfl rfl (some_of_at f0 h_t22)) ?_
      refine d_read (fun w hF => run_loadGN (f := e_where_Fix) (i := a1) (sz := 3) (j := 1) (vs := [.int .i64 (val (gAt a0 a1)).Place.Lat, .int .i64 (val (gAt a0 a1)).Place.Lon]) Tryd.isAgg29 Tryd.sizeOf29 rfl rfl (f0.row (hw.now hF)) h_t22 rfl) rfl rfl ?_
      have h_t25 := bnd_val H17
      have H18 := bnd_rest H17
      refine d_call (k43 h_t25) Tryd.call43 rfl rfl ?_
      refine d_read (fun w hF => run_loadK1 (v := .int .i64 q0) Tryd.isAgg3 rfl (hw.now hF _ _ hc0) rfl) rfl rfl ?_
      refine d_val rfl rfl (r_leq rfl rfl) ?_
      refine d_val rfl rfl (r_pickT (v := .bool (decide ((val (where_distance (val (gAt a0 (val (gI (x6_2 + 1))))).Place (val (gAt a0 a1)).Place)) ≤ q0))) rfl rfl) ?_
      refine d_nil ?_
      refine c_if (b := (decide ((val (where_distance (val (gAt a0 (val (gI (x6_2 + 1))))).Place (val (gAt a0 a1)).Place)) ≤ q0))) rfl (fun hb => ?_) (fun hb => ?_)
      · have H19 := cnd_t hb H18; clear H18
        refine c_skip ?_
        refine c_block ?_
        refine c_region ?_
        refine l_val rfl rfl rfl (r_move (v := .int .i64 x6_2) rfl) ?_
        obtain ⟨t30, h_t30, H20⟩ := bnd_some H19; clear H19
        refine l_val rfl rfl rfl (r_addG rfl rfl h_t30) ?_
        refine l_val rfl rfl rfl (r_assign (v := .int .i64 t30) rfl) ?_
        refine l_nil ?_
        refine c_close t30 () m1 [] (by exact ⟨rfl, rfl, rfl, rfl, trivial⟩) (by decide) rfl (by exact ⟨(by subst hn1; exact H20), trivial⟩) (Nat.lt_succ_self _)
      · have H21 := cnd_f hb H18; clear H18
        refine c_exit ?_
        refine c_seq ?_
        refine c_region ?_
        refine l_val rfl rfl rfl (r_move (v := .int .i64 x6_2) rfl) ?_
        refine l_val rfl rfl rfl (r_assign (v := .int .i64 x6_2) rfl) ?_
        refine l_nil ?_
        refine c_ret ?_
        obtain rfl := Option.some.inj H21
        refine ret1 (v := .int .i64 x6_2) rfl rfl (fin rfl)
    · have H22 := cnd_f hb H13
      refine d_pass rfl rfl ?_
      refine d_pass rfl rfl ?_
      refine d_pass rfl rfl ?_
      refine d_pass rfl rfl ?_
      refine d_pass rfl rfl ?_
      refine d_pass rfl rfl ?_
      refine d_pass rfl rfl ?_
      refine d_pass rfl rfl ?_
      refine d_pass rfl rfl ?_
      refine d_pass rfl rfl ?_
      refine d_pass rfl rfl ?_
      refine d_pass rfl rfl ?_
      refine d_pass rfl rfl ?_
      refine d_pass rfl rfl ?_
      refine d_val rfl rfl (r_pickF (v := .bool false) rfl rfl) ?_
      refine d_nil ?_
      refine c_false rfl ?_
      refine c_exit ?_
      refine c_seq ?_
      refine c_region ?_
      refine l_val rfl rfl rfl (r_move (v := .int .i64 x6_2) rfl) ?_
      refine l_val rfl rfl rfl (r_assign (v := .int .i64 x6_2) rfl) ?_
      refine l_nil ?_
      refine c_ret ?_
      obtain rfl := Option.some.inj H22
      refine ret1 (v := .int .i64 x6_2) rfl rfl (fin rfl)
    ) (by kernel_rfl)
theorem k44 {q0 : Int} {c0 : Nat} {a0 : (List T_where_Fix)} {v0 : Value} {a1 : Int} {a2 : Int} {r : Bool} {w : World} {h : Heap} (hw : Know h w noS) (hc0 : h c0 = some (.cells (List.toArray [.int .i64 q0]) 3 (0, 0))) (f0 : FrS h 3 v0 (a0.map e_where_Fix)) (H : where_Stops_2 q0 a0 a1 a2 = some r) : Does Tryd.prog 44 (List.toArray [v0, .int .i64 a1, .int .i64 a2, .pointer (some ⟨c0, 0, none⟩)]) w (fun v w' => v = (.bool r) ∧ Grow w w') := by
  refine enter (n := 21) Tryd.func44 rfl rfl rfl noS [] (Sat.nil _ _) ?_
  refine c_seq ?_
  refine c_region ?_
  refine l_val rfl rfl rfl (r_assign (v := .bool false) rfl) ?_
  refine l_nil ?_
  refine c_seq ?_
  exact c_regionD (Kd.p :: Kd.p :: Kd.p :: Kd.p :: Kd.d [] _ :: Kd.p :: Kd.p :: Kd.p :: Kd.p :: Kd.d [] _ :: Kd.p :: Kd.d [] _ :: Kd.p :: Kd.p :: []) 0 mixed (by
    refine d_val rfl rfl (r_move (v := v0) rfl) ?_
    refine d_val rfl rfl (r_move (v := .int .i64 a2) rfl) ?_
    have h_t10 := bnd_val H
    have H4 := bnd_rest H
    refine d_val rfl rfl (r_indexF Tryd.underlying22 Tryd.sizeOf33 rfl rfl f0 h_t10) ?_
    refine d_val rfl rfl (r_fieldP Tryd.runUnderlying33 rfl Tryd.sizeOf3 rfl rfl (some_of_at f0 h_t10)) ?_
    refine d_read (fun w hF => run_loadG1 (f := e_where_Fix) (i := a2) (sz := 3) (j := 0) (v := .int .i64 (val (gAt a0 a2)).Moment) Tryd.isAgg3 rfl rfl (f0.row (hw.now hF)) h_t10 rfl) rfl rfl ?_
    refine d_val rfl rfl (r_move (v := v0) rfl) ?_
    refine d_val rfl rfl (r_move (v := .int .i64 a1) rfl) ?_
    have h_t15 := bnd_val H4
    have H5 := bnd_rest H4
    refine d_val rfl rfl (r_indexF Tryd.underlying22 Tryd.sizeOf33 rfl rfl f0 h_t15) ?_
    refine d_val rfl rfl (r_fieldP Tryd.runUnderlying33 rfl Tryd.sizeOf3 rfl rfl (some_of_at f0 h_t15)) ?_
    refine d_read (fun w hF => run_loadG1 (f := e_where_Fix) (i := a1) (sz := 3) (j := 0) (v := .int .i64 (val (gAt a0 a1)).Moment) Tryd.isAgg3 rfl rfl (f0.row (hw.now hF)) h_t15 rfl) rfl rfl ?_
    have h_t18 := bnd_val H5
    have H6 := bnd_rest H5
    refine d_val rfl rfl (r_subG rfl rfl h_t18) ?_
    refine d_read (fun w hF => run_loadK1 (v := .int .i64 q0) Tryd.isAgg3 rfl (hw.now hF _ _ hc0) rfl) rfl rfl ?_
    refine d_val rfl rfl (r_geq rfl rfl) ?_
    refine d_val rfl rfl (r_assign (v := .bool (decide (q0 ≤ (val (gI ((val (gAt a0 a2)).Moment - (val (gAt a0 a1)).Moment)))))) rfl) ?_
    refine d_nil ?_
    refine c_ret ?_
    obtain rfl := Option.some.inj H6
    refine ret1 (v := .bool (decide (q0 ≤ (val (gI ((val (gAt a0 a2)).Moment - (val (gAt a0 a1)).Moment)))))) rfl rfl (fin rfl)
    ) (by kernel_rfl)
theorem k45 {a0 : Int} {a1 : Int} {r : Int} (H : where_Stops_3 a0 a1 = some r) : Ret Tryd.prog 45 [.int .i64 a0, .int .i64 a1] (.int .i64 r) := by
  refine enterRet (n := 7) Tryd.func45 rfl rfl rfl (fun wd => ?_)
  refine c_seq ?_
  refine c_region ?_
  refine l_val rfl rfl rfl (r_assign (v := .int .i64 0) rfl) ?_
  refine l_nil ?_
  refine c_seq ?_
  refine c_region ?_
  refine l_val rfl rfl rfl (r_move (v := .int .i64 a0) rfl) ?_
  obtain ⟨t6, h_t6, H2⟩ := bnd_some H; clear H
  refine l_val rfl rfl rfl (r_addG rfl rfl h_t6) ?_
  refine l_val rfl rfl rfl (r_assign (v := .int .i64 t6) rfl) ?_
  refine l_nil ?_
  refine c_ret ?_
  obtain rfl := Option.some.inj H2
  refine ret1 (v := .int .i64 t6) rfl rfl (fin rfl)
theorem k47 {a0 : (List T_api_Place)} {v0 : Value} {r : Int} {w : World} {h : Heap} (hw : Know h w noS) (f0 : FrS h 2 v0 (a0.map e_api_Place)) (H : where_middle a0 = some r) : Does Tryd.prog 47 (List.toArray [v0]) w (fun v w' => v = (.int .i64 r) ∧ Grow w w') := by
  refine enter (n := 40) Tryd.func47 rfl rfl rfl noS [] (Sat.nil _ _) ?_
  refine c_seq ?_
  refine c_region ?_
  refine l_val rfl rfl rfl (r_assign (v := .int .i64 0) rfl) ?_
  refine l_nil ?_
  refine c_seq ?_
  refine c_region ?_
  refine l_val rfl rfl rfl (r_assign (v := .int .i64 0) rfl) ?_
  refine l_val rfl rfl rfl (r_assign (v := .int .i64 (-1)) rfl) ?_
  refine l_nil ?_
  refine c_seq ?_
  refine c_seq ?_
  refine c_region ?_
  refine l_val rfl rfl rfl (r_move (v := v0) rfl) ?_
  refine l_val rfl rfl rfl (r_lenF Tryd.underlying60 rfl f0 rfl) ?_
  refine l_val rfl rfl rfl (r_move (v := .int .i64 0) rfl) ?_
  refine l_nil ?_
  refine c_block ?_
  refine c_fix (σ := Int × Int × Int) (τ := Unit) (fun next1 s => where_middle_l1 a0 next1 s.1 s.2.1 s.2.2) (fun s t => [(0, v0), (3, .int .i64 s.1), (4, .int .i64 s.2.1), (10, v0), (11, .int .i64 (a0.length : Int)), (12, .int .i64 s.2.2)]) (fun s t => []) (fun s t => True) (0, (-1), 0) () [] H (by exact trivial) (by exact ⟨rfl, rfl, rfl, rfl, rfl, rfl, trivial⟩) (by decide) rfl ?_
  rintro ⟨x3_2, x4_3, x12_3⟩ _ m1 gg H19 _
  clear H
  replace H19 : where_middle_l1 a0 (it (fun next1 s => where_middle_l1 a0 next1 s.1 s.2.1 s.2.2) m1) x3_2 x4_3 x12_3 = some r := H19
  generalize hn1 : it (fun next1 s => where_middle_l1 a0 next1 s.1 s.2.1 s.2.2) m1 = next1 at H19
  refine c_tidyF [(0, v0), (3, .int .i64 x3_2), (4, .int .i64 x4_3), (10, v0), (11, .int .i64 (a0.length : Int)), (12, .int .i64 x12_3)] [] rfl rfl ?_
  refine c_seq ?_
  refine c_region ?_
  refine l_val rfl rfl rfl (r_lss rfl rfl) ?_
  refine l_nil ?_
  refine c_seq ?_
  refine c_if (b := (decide (x12_3 < (a0.length : Int)))) rfl (fun hb => ?_) (fun hb => ?_)
  · have H20 := cnd_t hb H19; clear H19
    refine c_skip ?_
    refine c_meet (r := r) (σ := Int × Int) (τ := Unit) (fun s => where_middle_j2 x12_3 next1 s.1 s.2) (fun s t => [(0, v0), (3, .int .i64 s.1), (4, .int .i64 s.2), (10, v0), (11, .int .i64 (a0.length : Int)), (12, .int .i64 x12_3)]) (fun s t => []) (fun s t => True) ?_ ?_
    · refine c_block ?_
      refine c_seq ?_
      refine c_region ?_
      refine l_val rfl rfl rfl (r_move (v := .int .i64 x12_3) rfl) ?_
      obtain ⟨t15, h_t15, H23⟩ := bnd_some H20; clear H20
      refine l_val rfl rfl rfl (r_indexF Tryd.underlying60 Tryd.sizeOf29 rfl rfl f0 h_t15) ?_
      refine l_read (fun w hF hS => run_loadGN (f := e_api_Place) (i := x12_3) (sz := 2) (j := 0) (vs := [.int .i64 t15.Lat, .int .i64 t15.Lon]) Tryd.isAgg29 Tryd.sizeOf29 rfl rfl (f0.row (hw.now hF)) h_t15 rfl) rfl rfl rfl ?_
      refine l_alloc (cs := [.int .i64 0, .int .i64 0]) Tryd.zeroValue29 rfl rfl rfl (fun b2 => ?_)
      refine l_val rfl rfl rfl (r_assign (v := .int .i64 x12_3) rfl) ?_
      refine l_store (i := 0) (vs := [.int .i64 t15.Lat, .int .i64 t15.Lon]) (cs' := [.int .i64 t15.Lat, .int .i64 t15.Lon]) Tryd.sizeOf29 rfl rfl rfl rfl rfl rfl rfl rfl rfl ?_
      refine l_nil ?_
      refine c_seq ?_
      refine c_region ?_
      refine l_val rfl rfl rfl (r_assign (v := .int .i64 0) rfl) ?_
      refine l_nil ?_
      refine c_meet (r := r) (σ := Int) (τ := Unit) (fun s => where_middle_j3 x3_2 x4_3 x12_3 next1 s) (fun s t => [(0, v0), (3, .int .i64 x3_2), (4, .int .i64 x4_3), (5, .int .i64 x12_3), (7, .int .i64 s), (10, v0), (11, .int .i64 (a0.length : Int)), (12, .int .i64 x12_3)]) (fun s t => []) (fun s t => True) ?_ ?_
      · refine c_seq ?_
        refine c_region ?_
        refine l_val rfl rfl rfl (r_move (v := v0) rfl) ?_
        refine l_val rfl rfl rfl (r_lenF Tryd.underlying60 rfl f0 rfl) ?_
        refine l_val rfl rfl rfl (r_move (v := .int .i64 0) rfl) ?_
        refine l_nil ?_
        refine c_block ?_
        refine c_fix (σ := Int × Int) (τ := Unit) (fun next4 s => where_middle_l4 a0 x3_2 x4_3 x12_3 next1 t15 next4 s.1 s.2) (fun s t => [(0, v0), (3, .int .i64 x3_2), (4, .int .i64 x4_3), (5, .int .i64 x12_3), (6, .pointer (some ⟨b2, 0, none⟩)), (7, .int .i64 s.1), (10, v0), (11, .int .i64 (a0.length : Int)), (12, .int .i64 x12_3), (17, v0), (18, .int .i64 (a0.length : Int)), (19, .int .i64 s.2)]) (fun s t => [cellsC b2 [.int .i64 t15.Lat, .int .i64 t15.Lon] 29]) (fun s t => True) (0, 0) () [0] H23 (by exact trivial) (by exact ⟨rfl, rfl, rfl, rfl, rfl, rfl, rfl, rfl, rfl, rfl, rfl, rfl, trivial⟩) (by decide) rfl ?_
        rintro ⟨x7_3, x19_2⟩ _ m4 gg H29 _
        clear H23
        replace H29 : where_middle_l4 a0 x3_2 x4_3 x12_3 next1 t15 (it (fun next4 s => where_middle_l4 a0 x3_2 x4_3 x12_3 next1 t15 next4 s.1 s.2) m4) x7_3 x19_2 = some r := H29
        generalize hn4 : it (fun next4 s => where_middle_l4 a0 x3_2 x4_3 x12_3 next1 t15 next4 s.1 s.2) m4 = next4 at H29
        refine c_tidyF [(0, v0), (3, .int .i64 x3_2), (4, .int .i64 x4_3), (5, .int .i64 x12_3), (6, .pointer (some ⟨b2, 0, none⟩)), (7, .int .i64 x7_3), (10, v0), (11, .int .i64 (a0.length : Int)), (12, .int .i64 x12_3), (17, v0), (18, .int .i64 (a0.length : Int)), (19, .int .i64 x19_2)] [cellsC b2 [.int .i64 t15.Lat, .int .i64 t15.Lon] 29] rfl rfl ?_
        refine c_seq ?_
        refine c_region ?_
        refine l_val rfl rfl rfl (r_lss rfl rfl) ?_
        refine l_nil ?_
        refine c_seq ?_
        refine c_if (b := (decide (x19_2 < (a0.length : Int)))) rfl (fun hb => ?_) (fun hb => ?_)
        · have H30 := cnd_t hb H29; clear H29
          refine c_skip ?_
          refine c_seq ?_
          refine c_block ?_
          refine c_seq ?_
          refine c_region ?_
          obtain ⟨t21, h_t21, H31⟩ := bnd_some H30; clear H30
          refine l_val rfl rfl rfl (r_indexF Tryd.underlying60 Tryd.sizeOf29 rfl rfl f0 h_t21) ?_
          refine l_read (fun w hF hS => run_loadGN (f := e_api_Place) (i := x19_2) (sz := 2) (j := 0) (vs := [.int .i64 t21.Lat, .int .i64 t21.Lon]) Tryd.isAgg29 Tryd.sizeOf29 rfl rfl (f0.row (hw.now hF)) h_t21 rfl) rfl rfl rfl ?_
          refine l_alloc (cs := [.int .i64 0, .int .i64 0]) Tryd.zeroValue29 rfl rfl rfl (fun b3 => ?_)
          refine l_store (i := 1) (vs := [.int .i64 t21.Lat, .int .i64 t21.Lon]) (cs' := [.int .i64 t21.Lat, .int .i64 t21.Lon]) Tryd.sizeOf29 rfl rfl rfl rfl rfl rfl rfl rfl rfl ?_
          refine l_nil ?_
          refine c_region ?_
          refine l_val rfl rfl rfl (r_move (v := .int .i64 x7_3) rfl) ?_
          refine l_loadN (i := 0) (vs := [.int .i64 t15.Lat, .int .i64 t15.Lon]) Tryd.isAgg29 Tryd.sizeOf29 rfl rfl rfl rfl rfl ?_
          refine l_loadN (i := 1) (vs := [.int .i64 t21.Lat, .int .i64 t21.Lon]) Tryd.isAgg29 Tryd.sizeOf29 rfl rfl rfl rfl rfl ?_
          obtain ⟨t26, h_t26, H32⟩ := bnd_some H31; clear H31
          refine l_call (k43 h_t26) Tryd.call43 rfl rfl rfl ?_
          obtain ⟨t27, h_t27, H33⟩ := bnd_some H32; clear H32
          refine l_val rfl rfl rfl (r_addG rfl rfl h_t27) ?_
          refine l_val rfl rfl rfl (r_assign (v := .int .i64 t27) rfl) ?_
          refine l_nil ?_
          refine c_region ?_
          obtain ⟨t28, h_t28, H34⟩ := bnd_some H33; clear H33
          refine l_val rfl rfl rfl (r_addG rfl rfl h_t28) ?_
          refine l_val rfl rfl rfl (r_move (v := .int .i64 t28) rfl) ?_
          refine l_nil ?_
          refine c_close (t27, t28) () m4 [0] (by exact ⟨rfl, rfl, rfl, rfl, rfl, rfl, rfl, rfl, rfl, rfl, rfl, rfl, trivial⟩) (by decide) rfl (by exact ⟨(by subst hn4; exact H34), trivial⟩) (Nat.lt_succ_self _)
        · have H35 := cnd_f hb H29; clear H29
          refine c_exit ?_
          refine c_close x7_3 () 0 [] (by exact ⟨rfl, rfl, rfl, rfl, rfl, rfl, rfl, rfl, trivial⟩) (by decide) rfl (by exact ⟨H35, trivial⟩) (Nat.lt_succ_self _)
      · rintro x7 _ gg H24 _
        replace H24 : where_middle_j3 x3_2 x4_3 x12_3 next1 x7 = some r := H24
        refine c_tidyF [(0, v0), (3, .int .i64 x3_2), (4, .int .i64 x4_3), (5, .int .i64 x12_3), (7, .int .i64 x7), (10, v0), (11, .int .i64 (a0.length : Int)), (12, .int .i64 x12_3)] [] rfl rfl ?_
        refine c_seq ?_
        refine c_region ?_
        refine l_val rfl rfl rfl (r_move (v := .int .i64 x4_3) rfl) ?_
        refine l_val rfl rfl rfl (r_lss rfl rfl) ?_
        refine l_val rfl rfl rfl (r_move (v := .bool (decide (x4_3 < 0))) rfl) ?_
        refine split (fun hb => ?_) (fun hb => ?_)
        · have H25 := cnd_t hb H24; clear H24
          refine l_passed rfl rfl rfl ?_
          refine l_passed rfl rfl rfl ?_
          refine l_passed rfl rfl rfl ?_
          refine l_val rfl rfl rfl (r_pickT (v := .bool true) rfl rfl) ?_
          refine l_nil ?_
          refine c_true rfl ?_
          refine c_region ?_
          refine l_val rfl rfl rfl (r_move (v := .int .i64 x12_3) rfl) ?_
          refine l_val rfl rfl rfl (r_move (v := .int .i64 x7) rfl) ?_
          refine l_val rfl rfl rfl (r_assign (v := .int .i64 x12_3) rfl) ?_
          refine l_val rfl rfl rfl (r_assign (v := .int .i64 x7) rfl) ?_
          refine l_nil ?_
          refine c_close (x12_3, x7) () 0 [] (by exact ⟨rfl, rfl, rfl, rfl, rfl, rfl, trivial⟩) (by decide) rfl (by exact ⟨H25, trivial⟩) (Nat.lt_succ_self _)
        · have H26 := cnd_f hb H24; clear H24
          refine l_val rfl rfl rfl (r_move (v := .int .i64 x7) rfl) ?_
          refine l_val rfl rfl rfl (r_move (v := .int .i64 x4_3) rfl) ?_
          refine l_val rfl rfl rfl (r_lss rfl rfl) ?_
          refine l_val rfl rfl rfl (r_pickF (v := .bool (decide (x7 < x4_3))) rfl rfl) ?_
          refine l_nil ?_
          refine c_if (b := (decide (x7 < x4_3))) rfl (fun hb => ?_) (fun hb => ?_)
          · have H27 := cnd_t hb H26; clear H26
            refine c_region ?_
            refine l_val rfl rfl rfl (r_move (v := .int .i64 x12_3) rfl) ?_
            refine l_val rfl rfl rfl (r_move (v := .int .i64 x7) rfl) ?_
            refine l_val rfl rfl rfl (r_assign (v := .int .i64 x12_3) rfl) ?_
            refine l_val rfl rfl rfl (r_assign (v := .int .i64 x7) rfl) ?_
            refine l_nil ?_
            refine c_close (x12_3, x7) () 0 [] (by exact ⟨rfl, rfl, rfl, rfl, rfl, rfl, trivial⟩) (by decide) rfl (by exact ⟨H27, trivial⟩) (Nat.lt_succ_self _)
          · have H28 := cnd_f hb H26; clear H26
            refine c_skip ?_
            refine c_close (x3_2, x4_3) () 0 [] (by exact ⟨rfl, rfl, rfl, rfl, rfl, rfl, trivial⟩) (by decide) rfl (by exact ⟨H28, trivial⟩) (Nat.lt_succ_self _)
    · rintro ⟨x3_3, x4_4⟩ _ gg H21 _
      replace H21 : where_middle_j2 x12_3 next1 x3_3 x4_4 = some r := H21
      refine c_tidyF [(0, v0), (3, .int .i64 x3_3), (4, .int .i64 x4_4), (10, v0), (11, .int .i64 (a0.length : Int)), (12, .int .i64 x12_3)] [] rfl rfl ?_
      refine c_region ?_
      obtain ⟨t38, h_t38, H22⟩ := bnd_some H21; clear H21
      refine l_val rfl rfl rfl (r_addG rfl rfl h_t38) ?_
      refine l_val rfl rfl rfl (r_move (v := .int .i64 t38) rfl) ?_
      refine l_nil ?_
      refine c_close (x3_3, x4_4, t38) () m1 [] (by exact ⟨rfl, rfl, rfl, rfl, rfl, rfl, trivial⟩) (by decide) rfl (by exact ⟨(by subst hn1; exact H22), trivial⟩) (Nat.lt_succ_self _)
  · have H36 := cnd_f hb H19; clear H19
    refine c_exit ?_
    refine c_seq ?_
    refine c_region ?_
    refine l_val rfl rfl rfl (r_move (v := .int .i64 x3_2) rfl) ?_
    refine l_val rfl rfl rfl (r_assign (v := .int .i64 x3_2) rfl) ?_
    refine l_nil ?_
    refine c_ret ?_
    obtain rfl := Option.some.inj H36
    refine ret1 (v := .int .i64 x3_2) rfl rfl (fin rfl)
theorem k46 {a0 : (List T_api_Place)} {v0 : Value} {r : T_api_Place} {w : World} {h : Heap} (hw : Know h w noS) (f0 : FrS h 2 v0 (a0.map e_api_Place)) (H : where_Stops_4 a0 = some r) : Does Tryd.prog 46 (List.toArray [v0]) w (fun v w' => v = (.agg #[.int .i64 r.Lat, .int .i64 r.Lon]) ∧ Grow w w') := by
  refine enter (n := 8) Tryd.func46 rfl rfl rfl noS [] (Sat.nil _ _) ?_
  refine c_seq ?_
  refine c_region ?_
  refine l_alloc (cs := [.int .i64 0, .int .i64 0]) Tryd.zeroValue29 rfl rfl rfl (fun b1 => ?_)
  refine l_nil ?_
  refine c_seq ?_
  refine c_region ?_
  refine l_val rfl rfl rfl (r_move (v := v0) rfl) ?_
  refine l_val rfl rfl rfl (r_move (v := v0) rfl) ?_
  obtain ⟨t5, h_t5, H3⟩ := bnd_some H; clear H
  refine l_callG (fun w hF hS => k47 (know_all w) (f0.mono (hw.now hF)) h_t5) Tryd.call47 rfl rfl rfl ?_
  obtain ⟨t6, h_t6, H4⟩ := bnd_some H3; clear H3
  refine l_val rfl rfl rfl (r_indexF Tryd.underlying60 Tryd.sizeOf29 rfl rfl f0 h_t6) ?_
  refine l_read (fun w hF hS => run_loadGN (f := e_api_Place) (i := t5) (sz := 2) (j := 0) (vs := [.int .i64 t6.Lat, .int .i64 t6.Lon]) Tryd.isAgg29 Tryd.sizeOf29 rfl rfl (f0.row (hw.now hF)) h_t6 rfl) rfl rfl rfl ?_
  refine l_store (i := 0) (vs := [.int .i64 t6.Lat, .int .i64 t6.Lon]) (cs' := [.int .i64 t6.Lat, .int .i64 t6.Lon]) Tryd.sizeOf29 rfl rfl rfl rfl rfl rfl rfl rfl rfl ?_
  refine l_nil ?_
  refine c_ret ?_
  obtain rfl := Option.some.inj H4
  refine retC (i := 0) (vs := [.int .i64 t6.Lat, .int .i64 t6.Lon]) Tryd.isAgg29 Tryd.sizeOf29 rfl rfl rfl rfl (fin rfl)
theorem k86 {a : Option Addr} {n c : Nat} (hc : n ≤ c) : Ret Tryd.prog 86 [.slice a n c] (.slice (cutA a 0 n 4) n n) := by
  refine enterRet (n := 9) Tryd.func86 rfl rfl rfl (fun wd => ?_)
  refine c_seq ?_
  refine c_region ?_
  refine l_val rfl rfl rfl (r_assign (v := .slice none 0 0) rfl) ?_
  refine l_nil ?_
  refine c_seq ?_
  refine c_region ?_
  refine l_val rfl rfl rfl (r_move (v := .slice a n c) rfl) ?_
  refine l_val rfl rfl rfl (r_move (v := .slice a n c) rfl) ?_
  refine l_val rfl rfl rfl (r_len Tryd.underlying24 rfl) ?_
  refine l_val rfl rfl rfl (r_move (v := .slice a n c) rfl) ?_
  refine l_val rfl rfl rfl (r_len Tryd.underlying24 rfl) ?_
  refine l_val rfl rfl rfl (r_sliceHM (a := a) (m := n) (c := c) (h := (n : Int)) (q := (n : Int)) Tryd.underlying24 Tryd.sizeOf31 rfl rfl rfl (Int.natCast_nonneg n) (Int.le_refl _) (Int.ofNat_le.2 hc)) ?_
  refine l_val rfl rfl rfl (r_assign (v := .slice (cutA a 0 n 4) n n) rfl) ?_
  refine l_nil ?_
  refine c_ret ?_
  exact ret1 (v := .slice (cutA a 0 n 4) n n) rfl rfl (fin rfl)

theorem k48 {a0 : T_where_part} {v0_0 : Value} {v0_1 : Value} {v0_2 : Value} {v0_3 : Value} {a1 : (List T_where_Fix)} {v1 : Value} {r : (List T_where_Stop)} {w : World} {h : Heap} (hw : Know h w noS) (f0_0 : FnH Tryd.prog h v0_0 (fnR_func_where_Fix_int_int a0.end_)) (f0_1 : FnH Tryd.prog h v0_1 (fnR_func_where_Fix_int_int_bool a0.counts_)) (f0_2 : FnH Tryd.prog h v0_2 (fnR_func_int_int_int a0.step_)) (f0_3 : FnH Tryd.prog h v0_3 (fnR_func_api_Place_api_Place a0.place_)) (f1 : FrS h 3 v1 (a1.map e_where_Fix)) (H : where_part_parts a0 a1 = some r) : Does Tryd.prog 48 (List.toArray [.agg #[v0_0, v0_1, v0_2, v0_3], v1]) w (fun v w' => ∃ x : (Option Addr × Nat), v = (.slice x.1 r.length x.2) ∧ Turn w w' noS (roV 4 (.slice x.1 r.length x.2) r.length (r.map e_where_Stop))) := by
  refine enter (n := 62) Tryd.func48 rfl rfl rfl noS [] (Sat.nil _ _) ?_
  refine c_seq ?_
  refine c_region ?_
  refine l_box (cs := [v0_0, v0_1, v0_2, v0_3]) rfl rfl rfl rfl (fun b8 => ?_)
  refine l_val rfl rfl rfl (r_assign (v := .slice none 0 0) rfl) ?_
  refine l_nil ?_
  refine c_seq ?_
  refine c_region ?_
  refine l_val rfl rfl rfl (r_assign (v := .slice none 0 0) rfl) ?_
  refine l_nil ?_
  refine c_meet (r := r) (σ := (List T_where_Stop)) (τ := (Option Addr × Nat)) (fun s => where_part_parts_j1 s) (fun s t => [(5, .slice t.1 s.length t.2)]) (fun s t => [rowV 31 4 (.slice t.1 s.length t.2) s.length (s.map e_where_Stop)]) (fun s t => True) ?_ ?_
  · refine c_seq ?_
    refine c_region ?_
    refine l_val rfl rfl rfl (r_assign (v := .int .i64 0) rfl) ?_
    refine l_nil ?_
    refine c_block ?_
    refine c_nilRow 31 4 ?_
    refine c_fix (σ := Int × (List T_where_Stop)) (τ := (Option Addr × Nat)) (fun next2 s => where_part_parts_l2 a0 a1 next2 s.1 s.2) (fun s t => [(1, v1), (2, .pointer (some ⟨b8, 0, none⟩)), (5, .slice t.1 s.2.length t.2), (6, .int .i64 s.1)]) (fun s t => [cellsC b8 [v0_0, v0_1, v0_2, v0_3] 89, rowV 31 4 (.slice t.1 s.2.length t.2) s.2.length (s.2.map e_where_Stop)]) (fun s t => True) (0, ([] : List T_where_Stop)) ((none, 0) : Option Addr × Nat) [0, 1] H (by exact trivial) (by exact ⟨rfl, rfl, rfl, rfl, trivial⟩) (by decide) rfl ?_
    rintro ⟨x6_2, l_3⟩ p_2 m2 gg H44 _
    clear H
    replace H44 : where_part_parts_l2 a0 a1 (it (fun next2 s => where_part_parts_l2 a0 a1 next2 s.1 s.2) m2) x6_2 l_3 = some r := H44
    generalize hn2 : it (fun next2 s => where_part_parts_l2 a0 a1 next2 s.1 s.2) m2 = next2 at H44
    refine c_tidyF [(1, v1), (2, .pointer (some ⟨b8, 0, none⟩)), (5, .slice p_2.1 l_3.length p_2.2), (6, .int .i64 x6_2)] [cellsC b8 [v0_0, v0_1, v0_2, v0_3] 89, rowV 31 4 (.slice p_2.1 l_3.length p_2.2) l_3.length (l_3.map e_where_Stop)] rfl rfl ?_
    refine c_seq ?_
    refine c_seq ?_
    refine c_region ?_
    refine l_val rfl rfl rfl (r_move (v := .int .i64 x6_2) rfl) ?_
    refine l_val rfl rfl rfl (r_move (v := v1) rfl) ?_
    refine l_val rfl rfl rfl (r_lenF Tryd.underlying22 rfl f1 rfl) ?_
    refine l_val rfl rfl rfl (r_lss rfl rfl) ?_
    refine l_nil ?_
    refine c_if (b := (decide (x6_2 < (a1.length : Int)))) rfl (fun hb => ?_) (fun hb => ?_)
    · have H45 := cnd_t hb H44; clear H44
      refine c_skip ?_
      refine c_block ?_
      refine c_seq ?_
      refine c_region ?_
      refine l_val rfl rfl rfl (r_field Tryd.runUnderlying89 rfl Tryd.sizeOf84 rfl rfl) ?_
      refine l_load1 (i := 0) (v := v0_0) Tryd.isAgg84 rfl rfl rfl rfl rfl ?_
      refine l_val rfl rfl rfl (r_move (v := v1) rfl) ?_
      refine l_val rfl rfl rfl (r_move (v := .int .i64 x6_2) rfl) ?_
      obtain ⟨t19, h_t19, H46⟩ := bnd_some H45; clear H45
      refine l_callV (R := fnR_func_where_Fix_int_int a0.end_) (r := .int .i64 t19) (v := v0_0) (fun w hF hS => ⟨(f0_0.mono (hw.now hF)), ⟨a1, _, x6_2, _, (f1.mono (hw.now hF)), rfl, h_t19, rfl⟩⟩) rfl rfl rfl rfl ?_
      refine l_val rfl rfl rfl (r_assign (v := .int .i64 t19) rfl) ?_
      refine l_nil ?_
      refine c_seq ?_
      refine c_seq ?_
      refine c_region ?_
      refine l_val rfl rfl rfl (r_field Tryd.runUnderlying89 rfl Tryd.sizeOf36 rfl rfl) ?_
      refine l_load1 (i := 0) (v := v0_1) Tryd.isAgg36 rfl rfl rfl rfl rfl ?_
      refine l_val rfl rfl rfl (r_move (v := v1) rfl) ?_
      refine l_val rfl rfl rfl (r_move (v := .int .i64 x6_2) rfl) ?_
      refine l_val rfl rfl rfl (r_move (v := .int .i64 t19) rfl) ?_
      obtain ⟨t25, h_t25, H47⟩ := bnd_some H46; clear H46
      refine l_callV (R := fnR_func_where_Fix_int_int_bool a0.counts_) (r := .bool t25) (v := v0_1) (fun w hF hS => ⟨(f0_1.mono (hw.now hF)), ⟨a1, _, x6_2, t19, _, (f1.mono (hw.now hF)), rfl, h_t25, rfl⟩⟩) rfl rfl rfl rfl ?_
      refine l_val rfl rfl rfl (r_not rfl) ?_
      refine l_nil ?_
      refine c_if (b := (!t25)) rfl (fun hb => ?_) (fun hb => ?_)
      · have H48 := cnd_t hb H47; clear H47
        refine c_seq ?_
        refine c_region ?_
        refine l_val rfl rfl rfl (r_field Tryd.runUnderlying89 rfl Tryd.sizeOf85 rfl rfl) ?_
        refine l_load1 (i := 0) (v := v0_2) Tryd.isAgg85 rfl rfl rfl rfl rfl ?_
        refine l_val rfl rfl rfl (r_move (v := .int .i64 x6_2) rfl) ?_
        refine l_val rfl rfl rfl (r_move (v := .int .i64 t19) rfl) ?_
        obtain ⟨t31, h_t31, H49⟩ := bnd_some H48; clear H48
        refine l_callV (R := fnR_func_int_int_int a0.step_) (r := .int .i64 t31) (v := v0_2) (fun w hF hS => ⟨(f0_2.mono (hw.now hF)), ⟨x6_2, t19, _, rfl, h_t31, rfl⟩⟩) rfl rfl rfl rfl ?_
        refine l_val rfl rfl rfl (r_assign (v := .int .i64 t31) rfl) ?_
        refine l_nil ?_
        refine c_exit ?_
        refine c_close (t31, l_3) p_2 m2 [0, 1] (by exact ⟨rfl, rfl, rfl, rfl, trivial⟩) (by decide) rfl (by exact ⟨(by subst hn2; exact H49), trivial⟩) (Nat.lt_succ_self _)
      · have H50 := cnd_f hb H47; clear H47
        refine c_skip ?_
        refine c_seq ?_
        refine c_region ?_
        refine l_val rfl rfl rfl (r_assign (v := .slice none 0 0) rfl) ?_
        refine l_nil ?_
        refine c_meet (r := r) (σ := (List T_api_Place)) (τ := (Option Addr × Nat)) (fun s => where_part_parts_j3 a0 x6_2 l_3 next2 t19 s) (fun s t => [(1, v1), (2, .pointer (some ⟨b8, 0, none⟩)), (5, .slice p_2.1 l_3.length p_2.2), (6, .int .i64 x6_2), (7, .int .i64 t19), (8, .slice t.1 s.length t.2)]) (fun s t => [cellsC b8 [v0_0, v0_1, v0_2, v0_3] 89, rowV 31 4 (.slice p_2.1 l_3.length p_2.2) l_3.length (l_3.map e_where_Stop), rowV 29 2 (.slice t.1 s.length t.2) s.length (s.map e_api_Place)]) (fun s t => True) ?_ ?_
        · refine c_seq ?_
          refine c_region ?_
          refine l_val rfl rfl rfl (r_move (v := v1) rfl) ?_
          refine l_val rfl rfl rfl (r_move (v := .int .i64 x6_2) rfl) ?_
          refine l_val rfl rfl rfl (r_move (v := .int .i64 t19) rfl) ?_
          obtain ⟨t35, h_t35, H55⟩ := bnd_some H50; clear H50
          refine l_val rfl rfl rfl (r_addG rfl rfl h_t35) ?_
          obtain ⟨t36, h_t36, H56⟩ := bnd_some H55; clear H55
          refine l_val rfl rfl rfl (r_sliceLHF Tryd.underlying22 Tryd.sizeOf33 rfl rfl rfl f1 h_t36) ?_
          refine l_val rfl rfl rfl (r_lenF Tryd.underlying22 rfl (f1.cut h_t36) rfl) ?_
          refine l_val rfl rfl rfl (r_move (v := .int .i64 0) rfl) ?_
          refine l_nil ?_
          refine c_block ?_
          refine c_nilRow 29 2 ?_
          refine c_fix (σ := Int × (List T_api_Place)) (τ := (Option Addr × Nat)) (fun next4 s => where_part_parts_l4 a0 x6_2 l_3 next2 t19 t36 next4 s.1 s.2) (fun s t => [(1, v1), (2, .pointer (some ⟨b8, 0, none⟩)), (5, .slice p_2.1 l_3.length p_2.2), (6, .int .i64 x6_2), (7, .int .i64 t19), (8, .slice t.1 s.2.length t.2), (36, (cutV 3 v1 x6_2 t35)), (37, .int .i64 (t36.length : Int)), (38, .int .i64 s.1)]) (fun s t => [cellsC b8 [v0_0, v0_1, v0_2, v0_3] 89, rowV 31 4 (.slice p_2.1 l_3.length p_2.2) l_3.length (l_3.map e_where_Stop), rowV 29 2 (.slice t.1 s.2.length t.2) s.2.length (s.2.map e_api_Place)]) (fun s t => True) (0, ([] : List T_api_Place)) ((none, 0) : Option Addr × Nat) [0, 1, 2] H56 (by exact trivial) (by exact ⟨rfl, rfl, rfl, rfl, rfl, rfl, rfl, rfl, rfl, trivial⟩) (by decide) rfl ?_
          rintro ⟨x38_2, l_6⟩ p_5 m4 gg H57 _
          clear H56
          replace H57 : where_part_parts_l4 a0 x6_2 l_3 next2 t19 t36 (it (fun next4 s => where_part_parts_l4 a0 x6_2 l_3 next2 t19 t36 next4 s.1 s.2) m4) x38_2 l_6 = some r := H57
          generalize hn4 : it (fun next4 s => where_part_parts_l4 a0 x6_2 l_3 next2 t19 t36 next4 s.1 s.2) m4 = next4 at H57
          refine c_tidyF [(1, v1), (2, .pointer (some ⟨b8, 0, none⟩)), (5, .slice p_2.1 l_3.length p_2.2), (6, .int .i64 x6_2), (7, .int .i64 t19), (8, .slice p_5.1 l_6.length p_5.2), (36, (cutV 3 v1 x6_2 t35)), (37, .int .i64 (t36.length : Int)), (38, .int .i64 x38_2)] [cellsC b8 [v0_0, v0_1, v0_2, v0_3] 89, rowV 31 4 (.slice p_2.1 l_3.length p_2.2) l_3.length (l_3.map e_where_Stop), rowV 29 2 (.slice p_5.1 l_6.length p_5.2) l_6.length (l_6.map e_api_Place)] rfl rfl ?_
          refine c_seq ?_
          refine c_region ?_
          refine l_val rfl rfl rfl (r_lss rfl rfl) ?_
          refine l_nil ?_
          refine c_seq ?_
          refine c_if (b := (decide (x38_2 < (t36.length : Int)))) rfl (fun hb => ?_) (fun hb => ?_)
          · have H58 := cnd_t hb H57; clear H57
            refine c_skip ?_
            refine c_seq ?_
            refine c_block ?_
            refine c_seq ?_
            refine c_region ?_
            obtain ⟨t40, h_t40, H59⟩ := bnd_some H58; clear H58
            refine l_val rfl rfl rfl (r_indexF Tryd.underlying22 Tryd.sizeOf33 rfl rfl (f1.cut h_t36) h_t40) ?_
            refine l_read (fun w hF hS => run_loadGN (f := e_where_Fix) (i := x38_2) (sz := 3) (j := 0) (vs := [.int .i64 t40.Moment, .int .i64 t40.Place.Lat, .int .i64 t40.Place.Lon]) Tryd.isAgg33 Tryd.sizeOf33 rfl rfl ((f1.cut h_t36).row (hw.now hF)) h_t40 rfl) rfl rfl rfl ?_
            refine l_alloc (cs := [.int .i64 0, .int .i64 0, .int .i64 0]) Tryd.zeroValue33 rfl rfl rfl (fun b10 => ?_)
            refine l_store (i := 3) (vs := [.int .i64 t40.Moment, .int .i64 t40.Place.Lat, .int .i64 t40.Place.Lon]) (cs' := [.int .i64 t40.Moment, .int .i64 t40.Place.Lat, .int .i64 t40.Place.Lon]) Tryd.sizeOf33 rfl rfl rfl rfl rfl rfl rfl rfl rfl ?_
            refine l_nil ?_
            refine c_region ?_
            refine l_val rfl rfl rfl (r_move (v := .slice p_5.1 l_6.length p_5.2) rfl) ?_
            refine l_val rfl rfl rfl (r_field Tryd.runUnderlying33 rfl Tryd.sizeOf29 rfl rfl) ?_
            refine l_loadN (i := 3) (vs := [.int .i64 t40.Place.Lat, .int .i64 t40.Place.Lon]) Tryd.isAgg29 Tryd.sizeOf29 rfl rfl rfl rfl rfl ?_
            refine l_buildSlice (vs := [.agg #[.int .i64 t40.Place.Lat, .int .i64 t40.Place.Lon]]) (cs := [.int .i64 t40.Place.Lat, .int .i64 t40.Place.Lon]) Tryd.underlying60 Tryd.sizeOf29 Tryd.zeroValue29 rfl rfl rfl rfl rfl rfl rfl (fun b11 => ?_)
            obtain ⟨l46, h_l46, H60⟩ := bnd_some H59; clear H59
            refine l_turn (turns_appG (i := 2) (hn := rfl) (rds := [4]) (p := p_5) (sz := 2) (by_ := 16) (f := e_api_Place) (ys := l_6) (ls := ([t40.Place] : List T_api_Place)) (V := .slice (some ⟨b11, 0, none⟩) 1 1) Tryd.underlying60 (info_of Tryd.typeInfo29) rfl rfl rfl rfl rfl rfl rfl rfl rfl rfl (fun w L' hF hS hi => row_box (i := 4) hS ((hi 4 (by simp)).trans rfl) rfl rfl) (fun _ => rfl) (fun _ => rfl) h_l46) rfl rfl rfl (fun p_6 => ?_)
            refine l_val rfl rfl rfl (r_assign (v := .slice p_6.1 l46.length p_6.2) rfl) ?_
            refine l_nil ?_
            refine c_region ?_
            obtain ⟨t47, h_t47, H61⟩ := bnd_some H60; clear H60
            refine l_val rfl rfl rfl (r_addG rfl rfl h_t47) ?_
            refine l_val rfl rfl rfl (r_move (v := .int .i64 t47) rfl) ?_
            refine l_nil ?_
            refine c_close (t47, l46) p_6 m4 [0, 1, 2] (by exact ⟨rfl, rfl, rfl, rfl, rfl, rfl, rfl, rfl, rfl, trivial⟩) (by decide) rfl (by exact ⟨(by subst hn4; exact H61), trivial⟩) (Nat.lt_succ_self _)
          · have H62 := cnd_f hb H57; clear H57
            refine c_exit ?_
            refine c_close l_6 p_5 0 [0, 1, 2] (by exact ⟨rfl, rfl, rfl, rfl, rfl, rfl, trivial⟩) (by decide) rfl (by exact ⟨H62, trivial⟩) (Nat.lt_succ_self _)
        · rintro l_4 p_3 gg H51 _
          replace H51 : where_part_parts_j3 a0 x6_2 l_3 next2 t19 l_4 = some r := H51
          refine c_tidyF [(1, v1), (2, .pointer (some ⟨b8, 0, none⟩)), (5, .slice p_2.1 l_3.length p_2.2), (6, .int .i64 x6_2), (7, .int .i64 t19), (8, .slice p_3.1 l_4.length p_3.2)] [cellsC b8 [v0_0, v0_1, v0_2, v0_3] 89, rowV 31 4 (.slice p_2.1 l_3.length p_2.2) l_3.length (l_3.map e_where_Stop), rowV 29 2 (.slice p_3.1 l_4.length p_3.2) l_4.length (l_4.map e_api_Place)] rfl rfl ?_
          refine c_seq ?_
          refine c_region ?_
          refine l_val rfl rfl rfl (r_move (v := .slice p_2.1 l_3.length p_2.2) rfl) ?_
          refine l_val rfl rfl rfl (r_move (v := .int .i64 x6_2) rfl) ?_
          refine l_val rfl rfl rfl (r_move (v := .int .i64 t19) rfl) ?_
          refine l_val rfl rfl rfl (r_field Tryd.runUnderlying89 rfl Tryd.sizeOf87 rfl rfl) ?_
          refine l_load1 (i := 0) (v := v0_3) Tryd.isAgg87 rfl rfl rfl rfl rfl ?_
          refine l_val rfl rfl rfl (r_move (v := .slice p_3.1 l_4.length p_3.2) rfl) ?_
          obtain ⟨t54, h_t54, H52⟩ := bnd_some H51; clear H51
          refine l_callV (R := fnR_func_api_Place_api_Place a0.place_) (r := .agg #[.int .i64 t54.Lat, .int .i64 t54.Lon]) (v := v0_3) (fun w hF hS => ⟨(f0_3.mono (hw.now hF)), ⟨l_4, _, _, (frs_own (i := 2) rfl hS rfl), rfl, h_t54, rfl⟩⟩) rfl rfl rfl rfl ?_
          refine l_val rfl rfl rfl (r_build (pl := #[(0, 1), (1, 1), (2, 2)]) (ps := [(0, .int .i64 x6_2), (1, .int .i64 t19), (2, .agg #[.int .i64 t54.Lat, .int .i64 t54.Lon])]) (cells := #[.int .i64 x6_2, .int .i64 t19, .int .i64 t54.Lat, .int .i64 t54.Lon]) Tryd.zeroValue31 Tryd.runUnderlying31 (fun w => by kernel_rfl) rfl rfl) ?_
          refine l_buildSlice (vs := [.agg #[.int .i64 x6_2, .int .i64 t19, .int .i64 t54.Lat, .int .i64 t54.Lon]]) (cs := [.int .i64 x6_2, .int .i64 t19, .int .i64 t54.Lat, .int .i64 t54.Lon]) Tryd.underlying24 Tryd.sizeOf31 Tryd.zeroValue31 rfl rfl rfl rfl rfl rfl rfl (fun b9 => ?_)
          obtain ⟨l57, h_l57, H53⟩ := bnd_some H52; clear H52
          refine l_turn (turns_appG (i := 1) (hn := rfl) (rds := [3]) (p := p_2) (sz := 4) (by_ := 32) (f := e_where_Stop) (ys := l_3) (ls := ([(⟨x6_2, t19, t54⟩ : T_where_Stop)] : List T_where_Stop)) (V := .slice (some ⟨b9, 0, none⟩) 1 1) Tryd.underlying24 (info_of Tryd.typeInfo31) rfl rfl rfl rfl rfl rfl rfl rfl rfl rfl (fun w L' hF hS hi => row_box (i := 3) hS ((hi 3 (by simp)).trans rfl) rfl rfl) (fun _ => rfl) (fun _ => rfl) h_l57) rfl rfl rfl (fun p_4 => ?_)
          refine l_val rfl rfl rfl (r_assign (v := .slice p_4.1 l57.length p_4.2) rfl) ?_
          refine l_nil ?_
          refine c_region ?_
          refine l_val rfl rfl rfl (r_move (v := .int .i64 t19) rfl) ?_
          obtain ⟨t59, h_t59, H54⟩ := bnd_some H53; clear H53
          refine l_val rfl rfl rfl (r_addG rfl rfl h_t59) ?_
          refine l_val rfl rfl rfl (r_assign (v := .int .i64 t59) rfl) ?_
          refine l_nil ?_
          refine c_close (t59, l57) p_4 m2 [0, 1] (by exact ⟨rfl, rfl, rfl, rfl, trivial⟩) (by decide) rfl (by exact ⟨(by subst hn2; exact H54), trivial⟩) (Nat.lt_succ_self _)
    · have H63 := cnd_f hb H44; clear H44
      refine c_exit ?_
      refine c_close l_3 p_2 0 [1] (by exact ⟨rfl, trivial⟩) (by decide) rfl (by exact ⟨H63, trivial⟩) (Nat.lt_succ_self _)
  · rintro l p gg H43 _
    replace H43 : where_part_parts_j1 l = some r := H43
    refine c_tidyF [(5, .slice p.1 l.length p.2)] [rowV 31 4 (.slice p.1 l.length p.2) l.length (l.map e_where_Stop)] rfl rfl ?_
    refine c_seq ?_
    refine c_region ?_
    refine l_val rfl rfl rfl (r_move (v := .slice p.1 l.length p.2) rfl) ?_
    refine l_callG (fun w hF hS => k86 (capOf (i := 0) hS rfl) w) Tryd.call86 rfl rfl rfl ?_
    refine l_val rfl rfl rfl (r_assign (v := .slice (cutA p.1 0 l.length 4) l.length l.length) rfl) ?_
    refine l_nil ?_
    refine c_ret ?_
    obtain rfl := Option.some.inj H43
    refine c_imp 0 rfl (imp_clipO _ _ _ _ _ _) ?_
    refine ret1 (v := .slice (cutA p.1 0 l.length 4) l.length l.length) rfl rfl (finX (cutA p.1 0 l.length 4, l.length) (i := 0) rfl rfl (Imp.refl _))
theorem k10 {a0 : (List T_where_Fix)} {v0 : Value} {a1 : Int} {a2 : Int} {r : (List T_where_Stop) × Int} {w : World} {h : Heap} (hw : Know h w noS) (f0 : FrS h 3 v0 (a0.map e_where_Fix)) (H : where_Stops a0 a1 a2 = some r) : Does Tryd.prog 10 (List.toArray [v0, .int .i64 a1, .int .i64 a2]) w (fun v w' => ∃ x : (Option Addr × Nat), v = (.tuple #[.slice x.1 r.1.length x.2, .int .i64 r.2]) ∧ Turn w w' noS (roV 4 (.slice x.1 r.1.length x.2) r.1.length (r.1.map e_where_Stop))) := by
  refine enter (n := 23) Tryd.func10 rfl rfl rfl noS [] (Sat.nil _ _) ?_
  refine c_seq ?_
  refine c_region ?_
  refine l_box (cs := [.int .i64 a1]) rfl rfl rfl rfl (fun b6 => ?_)
  refine l_box (cs := [.int .i64 a2]) rfl rfl rfl rfl (fun b7 => ?_)
  refine l_val rfl rfl rfl (r_assign (v := .slice none 0 0) rfl) ?_
  refine l_val rfl rfl rfl (r_assign (v := .int .i64 0) rfl) ?_
  refine l_nil ?_
  refine c_seq ?_
  refine c_seq ?_
  refine c_region ?_
  refine l_val rfl rfl rfl (r_move (v := v0) rfl) ?_
  refine l_load1 (i := 0) (v := .int .i64 a1) Tryd.isAgg3 rfl rfl rfl rfl rfl ?_
  refine l_load1 (i := 1) (v := .int .i64 a2) Tryd.isAgg3 rfl rfl rfl rfl rfl ?_
  obtain ⟨t13, h_t13, H9⟩ := bnd_some H; clear H
  refine l_callG (fun w hF hS => k41 (know_all w) (f0.mono (hw.now hF)) h_t13) Tryd.call41 rfl rfl rfl ?_
  refine l_val rfl rfl rfl (r_assign (v := .int .i64 t13) rfl) ?_
  refine l_nil ?_
  refine c_seq ?_
  refine c_region ?_
  refine l_val rfl rfl rfl (r_move (v := .int .i64 t13) rfl) ?_
  refine l_val rfl rfl rfl (r_neq rfl rfl) ?_
  refine l_nil ?_
  refine c_if (b := (decide (t13 ≠ 0))) rfl (fun hb => ?_) (fun hb => ?_)
  · have H10 := cnd_t hb H9; clear H9
    refine c_seq ?_
    refine c_region ?_
    refine l_val rfl rfl rfl (r_move (v := .int .i64 t13) rfl) ?_
    refine l_val rfl rfl rfl (r_assign (v := .slice none 0 0) rfl) ?_
    refine l_val rfl rfl rfl (r_assign (v := .int .i64 t13) rfl) ?_
    refine l_nil ?_
    refine c_ret ?_
    refine c_nilRow 31 4 ?_
    obtain rfl := Option.some.inj H10
    refine c_imp 2 rfl (row_ro _ _ _ _ _) ?_
    refine ret2 (v1 := .slice ((none, 0) : Option Addr × Nat).1 ([] : List T_where_Stop).length ((none, 0) : Option Addr × Nat).2) (v2 := .int .i64 t13) rfl rfl rfl (finX ((none, 0) : Option Addr × Nat) (i := 2) rfl rfl (Imp.refl _))
  · have H11 := cnd_f hb H9; clear H9
    refine c_skip ?_
    refine c_seq ?_
    refine c_region ?_
    refine l_val rfl rfl rfl (r_makeFn (caps := #[.pointer (some ⟨b6, 0, none⟩)]) rfl) ?_
    refine l_val rfl rfl rfl (r_makeFn (caps := #[.pointer (some ⟨b7, 0, none⟩)]) rfl) ?_
    refine l_val rfl rfl rfl (r_build (pl := #[(0, 1), (1, 1), (2, 1), (3, 1)]) (ps := [(0, .func (.func 42) #[] #[.pointer (some ⟨b6, 0, none⟩)]), (1, .func (.func 44) #[] #[.pointer (some ⟨b7, 0, none⟩)]), (2, .func (.func 45) #[] #[]), (3, .func (.func 46) #[] #[])]) (cells := #[.func (.func 42) #[] #[.pointer (some ⟨b6, 0, none⟩)], .func (.func 44) #[] #[.pointer (some ⟨b7, 0, none⟩)], .func (.func 45) #[] #[], .func (.func 46) #[] #[]]) Tryd.zeroValue89 Tryd.runUnderlying89 (fun w => by kernel_rfl) rfl rfl) ?_
    refine l_alloc (cs := [.nilFunc, .nilFunc, .nilFunc, .nilFunc]) Tryd.zeroValue89 rfl rfl rfl (fun b8 => ?_)
    refine l_store (i := 2) (vs := [.func (.func 42) #[] #[.pointer (some ⟨b6, 0, none⟩)], .func (.func 44) #[] #[.pointer (some ⟨b7, 0, none⟩)], .func (.func 45) #[] #[], .func (.func 46) #[] #[]]) (cs' := [.func (.func 42) #[] #[.pointer (some ⟨b6, 0, none⟩)], .func (.func 44) #[] #[.pointer (some ⟨b7, 0, none⟩)], .func (.func 45) #[] #[], .func (.func 46) #[] #[]]) Tryd.sizeOf89 rfl rfl rfl rfl rfl rfl rfl rfl rfl ?_
    refine l_nil ?_
    refine c_seq ?_
    refine c_region ?_
    refine l_loadN (i := 2) (vs := [.func (.func 42) #[] #[.pointer (some ⟨b6, 0, none⟩)], .func (.func 44) #[] #[.pointer (some ⟨b7, 0, none⟩)], .func (.func 45) #[] #[], .func (.func 46) #[] #[]]) Tryd.isAgg89 Tryd.sizeOf89 rfl rfl rfl rfl rfl ?_
    refine l_val rfl rfl rfl (r_move (v := v0) rfl) ?_
    obtain ⟨t22, h_t22, H12⟩ := bnd_some H11; clear H11
    refine l_make (makes_call (rds := [0, 1]) (G := fun x : (Option Addr × Nat) => .slice x.1 t22.length x.2) (C := fun x : (Option Addr × Nat) => roV 4 (.slice x.1 t22.length x.2) t22.length (t22.map e_where_Stop)) (fun w L' hF hS hi => k48 (know_all w) (FnH.mk ⟨42, #[.pointer (some ⟨b6, 0, none⟩)], rfl, Tryd.call42, fun args2 post2 w2 hk2 hR2 => by obtain ⟨a0_, v0_, a1_, r_, fa0_, rfl, H_, rfl⟩ := hR2; exact k42 (know_all w2) (hk2.up _ _ (sat_cell (i := 0) hS ((hi 0 (by simp)).trans rfl))) fa0_ H_⟩) (FnH.mk ⟨44, #[.pointer (some ⟨b7, 0, none⟩)], rfl, Tryd.call44, fun args2 post2 w2 hk2 hR2 => by obtain ⟨a0_, v0_, a1_, a2_, r_, fa0_, rfl, H_, rfl⟩ := hR2; exact k44 (know_all w2) (hk2.up _ _ (sat_cell (i := 1) hS ((hi 1 (by simp)).trans rfl))) fa0_ H_⟩) (FnH.mk ⟨45, #[], rfl, Tryd.call45, fun args2 post2 w2 hk2 hR2 => by obtain ⟨a0_, a1_, r_, rfl, H_, rfl⟩ := hR2; exact k45 H_ w2⟩) (FnH.mk ⟨46, #[], rfl, Tryd.call46, fun args2 post2 w2 hk2 hR2 => by obtain ⟨a0_, v0_, r_, fa0_, rfl, H_, rfl⟩ := hR2; exact k46 (know_all w2) fa0_ H_⟩) (f0.mono (hw.now hF)) h_t22) Tryd.call48 rfl) rfl rfl rfl (fun p => ?_)
    refine l_val rfl rfl rfl (r_assign (v := .slice p.1 t22.length p.2) rfl) ?_
    refine l_val rfl rfl rfl (r_assign (v := .int .i64 0) rfl) ?_
    refine l_nil ?_
    refine c_ret ?_
    obtain rfl := Option.some.inj H12
    refine ret2 (v1 := .slice p.1 t22.length p.2) (v2 := .int .i64 0) rfl rfl rfl (finX p (i := 3) rfl rfl (Imp.refl _))
theorem k3 {a0 : (List T_where_Fix)} {v0 : Value} {a1 : Int} {a2 : Int} {r : Bool} {w : World} {h : Heap} (hw : Know h w noS) (f0 : FrS h 3 v0 (a0.map e_where_Fix)) (H : Keep_WhereStopsHold a0 a1 a2 = some r) : Does Tryd.prog 3 (List.toArray [v0, .int .i64 a1, .int .i64 a2]) w (fun v w' => v = (.bool r) ∧ Grow w w') := by
  refine enter (n := 104) Tryd.func3 rfl rfl rfl noS [] (Sat.nil _ _) ?_
  refine c_seq ?_
  refine c_region ?_
  refine l_val rfl rfl rfl (r_assign (v := .bool false) rfl) ?_
  refine l_nil ?_
  refine c_seq ?_
  refine c_seq ?_
  refine c_region ?_
  obtain ⟨t16, h_t16, H39⟩ := bnd_some H; clear H
  refine l_call (k9 h_t16) Tryd.call9 rfl rfl rfl ?_
  refine l_val rfl rfl rfl (r_not rfl) ?_
  refine l_nil ?_
  refine c_if (b := (!t16)) rfl (fun hb => ?_) (fun hb => ?_)
  · have H40 := cnd_t hb H39; clear H39
    refine c_seq ?_
    refine c_region ?_
    refine l_val rfl rfl rfl (r_assign (v := .bool false) rfl) ?_
    refine l_nil ?_
    refine c_ret ?_
    obtain rfl := Option.some.inj H40
    refine ret1 (v := .bool false) rfl rfl (fin rfl)
  · have H41 := cnd_f hb H39; clear H39
    refine c_skip ?_
    refine c_seq ?_
    refine c_region ?_
    refine l_val rfl rfl rfl (r_move (v := v0) rfl) ?_
    refine l_val rfl rfl rfl (r_move (v := .int .i64 a1) rfl) ?_
    refine l_val rfl rfl rfl (r_move (v := .int .i64 a2) rfl) ?_
    obtain ⟨t22, h_t22, H42⟩ := bnd_some H41; clear H41
    refine l_make (makes_call (rds := []) (G := fun x : (Option Addr × Nat) => .tuple #[.slice x.1 t22.1.length x.2, .int .i64 t22.2]) (C := fun x : (Option Addr × Nat) => roV 4 (.slice x.1 t22.1.length x.2) t22.1.length (t22.1.map e_where_Stop)) (fun w L' hF hS hi => k10 (know_all w) (f0.mono (hw.now hF)) h_t22) Tryd.call10 rfl) rfl rfl rfl (fun p => ?_)
    refine l_val rfl rfl rfl (r_move (v := .tuple #[.slice p.1 t22.1.length p.2, .int .i64 t22.2]) rfl) ?_
    refine l_val rfl rfl rfl (r_extract (v := .slice p.1 t22.1.length p.2) rfl rfl) ?_
    refine l_val rfl rfl rfl (r_extract (v := .int .i64 t22.2) rfl rfl) ?_
    refine l_val rfl rfl rfl (r_assign (v := .slice p.1 t22.1.length p.2) rfl) ?_
    refine l_val rfl rfl rfl (r_assign (v := .int .i64 t22.2) rfl) ?_
    refine l_nil ?_
    refine c_seq ?_
    refine c_seq ?_
    refine c_region ?_
    refine l_val rfl rfl rfl (r_move (v := .int .i64 t22.2) rfl) ?_
    refine l_val rfl rfl rfl (r_neq rfl rfl) ?_
    refine l_nil ?_
    refine c_if (b := (decide (t22.2 ≠ 0))) rfl (fun hb => ?_) (fun hb => ?_)
    · have H43 := cnd_t hb H42; clear H42
      refine c_seq ?_
      refine c_region ?_
      refine l_val rfl rfl rfl (r_assign (v := .bool true) rfl) ?_
      refine l_nil ?_
      refine c_ret ?_
      obtain rfl := Option.some.inj H43
      refine ret1 (v := .bool true) rfl rfl (fin rfl)
    · have H44 := cnd_f hb H42; clear H42
      refine c_skip ?_
      refine c_seq ?_
      refine c_region ?_
      refine l_val rfl rfl rfl (r_assign (v := .int .i64 0) rfl) ?_
      refine l_nil ?_
      refine c_seq ?_
      refine c_seq ?_
      refine c_region ?_
      refine l_val rfl rfl rfl (r_move (v := .slice p.1 t22.1.length p.2) rfl) ?_
      refine l_val rfl rfl rfl (r_len Tryd.underlying24 rfl) ?_
      refine l_val rfl rfl rfl (r_move (v := .int .i64 0) rfl) ?_
      refine l_nil ?_
      refine c_block ?_
      refine c_fix (σ := Int × Int) (τ := Unit) (fun next1 s => Keep_WhereStopsHold_l1 a0 a1 a2 t22 next1 s.1 s.2) (fun s t => [(0, v0), (1, .int .i64 a1), (2, .int .i64 a2), (9, .int .i64 s.1), (27, .slice p.1 t22.1.length p.2), (28, .int .i64 (t22.1.length : Int)), (29, .int .i64 s.2)]) (fun s t => [roV 4 (.slice p.1 t22.1.length p.2) t22.1.length (t22.1.map e_where_Stop)]) (fun s t => True) (0, 0) () [0] H44 (by exact trivial) (by exact ⟨rfl, rfl, rfl, rfl, rfl, rfl, rfl, trivial⟩) (by decide) rfl ?_
      rintro ⟨x9_2, x29_2⟩ _ m1 gg H45 _
      clear H44
      replace H45 : Keep_WhereStopsHold_l1 a0 a1 a2 t22 (it (fun next1 s => Keep_WhereStopsHold_l1 a0 a1 a2 t22 next1 s.1 s.2) m1) x9_2 x29_2 = some r := H45
      generalize hn1 : it (fun next1 s => Keep_WhereStopsHold_l1 a0 a1 a2 t22 next1 s.1 s.2) m1 = next1 at H45
      refine c_tidyF [(0, v0), (1, .int .i64 a1), (2, .int .i64 a2), (9, .int .i64 x9_2), (27, .slice p.1 t22.1.length p.2), (28, .int .i64 (t22.1.length : Int)), (29, .int .i64 x29_2)] [roV 4 (.slice p.1 t22.1.length p.2) t22.1.length (t22.1.map e_where_Stop)] rfl rfl ?_
      refine c_seq ?_
      refine c_region ?_
      refine l_val rfl rfl rfl (r_lss rfl rfl) ?_
      refine l_nil ?_
      refine c_seq ?_
      refine c_if (b := (decide (x29_2 < (t22.1.length : Int)))) rfl (fun hb => ?_) (fun hb => ?_)
      · have H46 := cnd_t hb H45; clear H45
        refine c_skip ?_
        refine c_meet (r := r) (σ := Int × Int × Int × Bool × Int × Bool × Int × Int × Int × Int × Int × Bool × Int × Int × Int × Int) (τ := Nat) (fun s => Keep_WhereStopsHold_j2 x29_2 next1 s.1 s.2.1 s.2.2.1 s.2.2.2.1 s.2.2.2.2.1 s.2.2.2.2.2.1 s.2.2.2.2.2.2.1 s.2.2.2.2.2.2.2.1 s.2.2.2.2.2.2.2.2.1 s.2.2.2.2.2.2.2.2.2.1 s.2.2.2.2.2.2.2.2.2.2.1 s.2.2.2.2.2.2.2.2.2.2.2.1 s.2.2.2.2.2.2.2.2.2.2.2.2.1 s.2.2.2.2.2.2.2.2.2.2.2.2.2.1 s.2.2.2.2.2.2.2.2.2.2.2.2.2.2.1 s.2.2.2.2.2.2.2.2.2.2.2.2.2.2.2) (fun s t => [(0, v0), (1, .int .i64 a1), (2, .int .i64 a2), (9, .int .i64 s.1), (27, .slice p.1 t22.1.length p.2), (28, .int .i64 (t22.1.length : Int)), (29, .int .i64 x29_2), (38, .pointer (some ⟨t, 1, none⟩)), (39, .int .i64 s.2.1), (40, .pointer (some ⟨t, 0, none⟩)), (41, .int .i64 s.2.2.1), (42, .bool s.2.2.2.1), (45, .pointer (some ⟨t, 1, none⟩)), (46, .int .i64 s.2.2.2.2.1), (47, v0), (48, .int .i64 (a0.length : Int)), (49, .bool s.2.2.2.2.2.1), (52, v0), (53, .pointer (some ⟨t, 1, none⟩)), (54, .int .i64 s.2.2.2.2.2.2.1), (57, .int .i64 s.2.2.2.2.2.2.2.1), (58, v0), (59, .pointer (some ⟨t, 0, none⟩)), (60, .int .i64 s.2.2.2.2.2.2.2.2.1), (63, .int .i64 s.2.2.2.2.2.2.2.2.2.1), (64, .int .i64 s.2.2.2.2.2.2.2.2.2.2.1), (65, .int .i64 a2), (66, .bool s.2.2.2.2.2.2.2.2.2.2.2.1)]) (fun s t => [roV 4 (.slice p.1 t22.1.length p.2) t22.1.length (t22.1.map e_where_Stop), cellsC t [.int .i64 s.2.2.2.2.2.2.2.2.2.2.2.2.1, .int .i64 s.2.2.2.2.2.2.2.2.2.2.2.2.2.1, .int .i64 s.2.2.2.2.2.2.2.2.2.2.2.2.2.2.1, .int .i64 s.2.2.2.2.2.2.2.2.2.2.2.2.2.2.2] 31]) (fun s t => True) ?_ ?_
        · refine c_block ?_
          refine c_seq ?_
          refine c_region ?_
          obtain ⟨t31, h_t31, H49⟩ := bnd_some H46; clear H46
          refine l_read (fun w hF hS => run_indexO Tryd.underlying24 Tryd.sizeOf31 rfl rfl (roOf (i := 0) hS rfl) rfl h_t31) rfl rfl rfl ?_
          refine l_read (fun w hF hS => run_loadGN (f := e_where_Stop) (i := x29_2) (sz := 4) (j := 0) (vs := [.int .i64 t31.From, .int .i64 t31.To, .int .i64 t31.Place.Lat, .int .i64 t31.Place.Lon]) Tryd.isAgg31 Tryd.sizeOf31 rfl rfl (roOf (i := 0) hS rfl) h_t31 rfl) rfl rfl rfl ?_
          refine l_alloc (cs := [.int .i64 0, .int .i64 0, .int .i64 0, .int .i64 0]) Tryd.zeroValue31 rfl rfl rfl (fun b2 => ?_)
          refine l_store (i := 1) (vs := [.int .i64 t31.From, .int .i64 t31.To, .int .i64 t31.Place.Lat, .int .i64 t31.Place.Lon]) (cs' := [.int .i64 t31.From, .int .i64 t31.To, .int .i64 t31.Place.Lat, .int .i64 t31.Place.Lon]) Tryd.sizeOf31 rfl rfl rfl rfl rfl rfl rfl rfl rfl ?_
          refine l_nil ?_
          refine c_seq ?_
          refine c_seq ?_
          exact c_regionD (Kd.p :: Kd.d [1] _ :: Kd.p :: Kd.p :: Kd.p :: Kd.p :: Kd.d [1] _ :: Kd.p :: Kd.d [1] _ :: Kd.p :: Kd.p :: Kd.p :: Kd.p :: Kd.d [1] _ :: Kd.p :: Kd.p :: Kd.p :: Kd.p :: Kd.p :: Kd.p :: Kd.p :: Kd.d [1] _ :: Kd.p :: Kd.p :: Kd.d [] _ :: Kd.p :: Kd.p :: Kd.d [1] _ :: Kd.p :: Kd.p :: Kd.d [] _ :: Kd.p :: Kd.p :: Kd.p :: Kd.p :: []) 0 mixed (by
            refine d_val rfl rfl (r_field Tryd.runUnderlying31 rfl Tryd.sizeOf3 rfl rfl) ?_
            refine d_load1 (i := 1) (v := .int .i64 t31.From) Tryd.isAgg3 rfl rfl rfl rfl ?_
            refine d_val rfl rfl (r_move (v := .int .i64 x9_2) rfl) ?_
            refine d_val rfl rfl (r_lss rfl rfl) ?_
            refine d_val rfl rfl (r_move (v := .bool (decide (t31.From < x9_2))) rfl) ?_
            refine splitS (fun hb => ?_) (fun hb => ?_)
            · have H50 := cnd_t hb H49
              refine d_pass rfl rfl ?_
              refine d_pass rfl rfl ?_
              refine d_pass rfl rfl ?_
              refine d_pass rfl rfl ?_
              refine d_pass rfl rfl ?_
              refine d_val rfl rfl (r_pickT (v := .bool true) rfl rfl) ?_
              refine d_val rfl rfl (r_move (v := .bool true) rfl) ?_
              refine d_pass rfl rfl ?_
              refine d_pass rfl rfl ?_
              refine d_pass rfl rfl ?_
              refine d_pass rfl rfl ?_
              refine d_pass rfl rfl ?_
              refine d_val rfl rfl (r_pickT (v := .bool true) rfl rfl) ?_
              refine d_val rfl rfl (r_move (v := .bool true) rfl) ?_
              refine d_pass rfl rfl ?_
              refine d_pass rfl rfl ?_
              refine d_pass rfl rfl ?_
              refine d_pass rfl rfl ?_
              refine d_pass rfl rfl ?_
              refine d_pass rfl rfl ?_
              refine d_pass rfl rfl ?_
              refine d_pass rfl rfl ?_
              refine d_pass rfl rfl ?_
              refine d_pass rfl rfl ?_
              refine d_pass rfl rfl ?_
              refine d_pass rfl rfl ?_
              refine d_pass rfl rfl ?_
              refine d_pass rfl rfl ?_
              refine d_pass rfl rfl ?_
              refine d_val rfl rfl (r_pickT (v := .bool true) rfl rfl) ?_
              refine d_nil ?_
              refine c_true rfl ?_
              refine c_seq ?_
              refine c_region ?_
              refine l_val rfl rfl rfl (r_assign (v := .bool false) rfl) ?_
              refine l_nil ?_
              refine c_ret ?_
              obtain rfl := Option.some.inj H50
              refine ret1 (v := .bool false) rfl rfl (fin rfl)
            · have H51 := cnd_f hb H49
              refine d_val rfl rfl (r_field Tryd.runUnderlying31 rfl Tryd.sizeOf3 rfl rfl) ?_
              refine d_load1 (i := 1) (v := .int .i64 t31.To) Tryd.isAgg3 rfl rfl rfl rfl ?_
              refine d_val rfl rfl (r_field Tryd.runUnderlying31 rfl Tryd.sizeOf3 rfl rfl) ?_
              refine d_load1 (i := 1) (v := .int .i64 t31.From) Tryd.isAgg3 rfl rfl rfl rfl ?_
              refine d_val rfl rfl (r_lss rfl rfl) ?_
              refine d_val rfl rfl (r_pickF (v := .bool (decide (t31.To < t31.From))) rfl rfl) ?_
              refine d_val rfl rfl (r_move (v := .bool (decide (t31.To < t31.From))) rfl) ?_
              refine splitS (fun hb => ?_) (fun hb => ?_)
              · have H52 := cnd_t hb H51
                refine d_pass rfl rfl ?_
                refine d_pass rfl rfl ?_
                refine d_pass rfl rfl ?_
                refine d_pass rfl rfl ?_
                refine d_pass rfl rfl ?_
                refine d_val rfl rfl (r_pickT (v := .bool true) rfl rfl) ?_
                refine d_val rfl rfl (r_move (v := .bool true) rfl) ?_
                refine d_pass rfl rfl ?_
                refine d_pass rfl rfl ?_
                refine d_pass rfl rfl ?_
                refine d_pass rfl rfl ?_
                refine d_pass rfl rfl ?_
                refine d_pass rfl rfl ?_
                refine d_pass rfl rfl ?_
                refine d_pass rfl rfl ?_
                refine d_pass rfl rfl ?_
                refine d_pass rfl rfl ?_
                refine d_pass rfl rfl ?_
                refine d_pass rfl rfl ?_
                refine d_pass rfl rfl ?_
                refine d_pass rfl rfl ?_
                refine d_pass rfl rfl ?_
                refine d_val rfl rfl (r_pickT (v := .bool true) rfl rfl) ?_
                refine d_nil ?_
                refine c_true rfl ?_
                refine c_seq ?_
                refine c_region ?_
                refine l_val rfl rfl rfl (r_assign (v := .bool false) rfl) ?_
                refine l_nil ?_
                refine c_ret ?_
                obtain rfl := Option.some.inj H52
                refine ret1 (v := .bool false) rfl rfl (fin rfl)
              · have H53 := cnd_f hb H51
                refine d_val rfl rfl (r_field Tryd.runUnderlying31 rfl Tryd.sizeOf3 rfl rfl) ?_
                refine d_load1 (i := 1) (v := .int .i64 t31.To) Tryd.isAgg3 rfl rfl rfl rfl ?_
                refine d_val rfl rfl (r_move (v := v0) rfl) ?_
                refine d_val rfl rfl (r_lenF Tryd.underlying22 rfl f0 rfl) ?_
                refine d_val rfl rfl (r_geq rfl rfl) ?_
                refine d_val rfl rfl (r_pickF (v := .bool (decide ((a0.length : Int) ≤ t31.To))) rfl rfl) ?_
                refine d_val rfl rfl (r_move (v := .bool (decide ((a0.length : Int) ≤ t31.To))) rfl) ?_
                refine splitS (fun hb => ?_) (fun hb => ?_)
                · have H54 := cnd_t hb H53
                  refine d_pass rfl rfl ?_
                  refine d_pass rfl rfl ?_
                  refine d_pass rfl rfl ?_
                  refine d_pass rfl rfl ?_
                  refine d_pass rfl rfl ?_
                  refine d_pass rfl rfl ?_
                  refine d_pass rfl rfl ?_
                  refine d_pass rfl rfl ?_
                  refine d_pass rfl rfl ?_
                  refine d_pass rfl rfl ?_
                  refine d_pass rfl rfl ?_
                  refine d_pass rfl rfl ?_
                  refine d_pass rfl rfl ?_
                  refine d_pass rfl rfl ?_
                  refine d_pass rfl rfl ?_
                  refine d_val rfl rfl (r_pickT (v := .bool true) rfl rfl) ?_
                  refine d_nil ?_
                  refine c_true rfl ?_
                  refine c_seq ?_
                  refine c_region ?_
                  refine l_val rfl rfl rfl (r_assign (v := .bool false) rfl) ?_
                  refine l_nil ?_
                  refine c_ret ?_
                  obtain rfl := Option.some.inj H54
                  refine ret1 (v := .bool false) rfl rfl (fin rfl)
                · have H55 := cnd_f hb H53
                  refine d_val rfl rfl (r_move (v := v0) rfl) ?_
                  refine d_val rfl rfl (r_field Tryd.runUnderlying31 rfl Tryd.sizeOf3 rfl rfl) ?_
                  refine d_load1 (i := 1) (v := .int .i64 t31.To) Tryd.isAgg3 rfl rfl rfl rfl ?_
                  have h_t55 := bnd_val H55
                  have H56 := bnd_rest H55
                  refine d_val rfl rfl (r_indexF Tryd.underlying22 Tryd.sizeOf33 rfl rfl f0 h_t55) ?_
                  refine d_val rfl rfl (r_fieldP Tryd.runUnderlying33 rfl Tryd.sizeOf3 rfl rfl (some_of_at f0 h_t55)) ?_
                  refine d_read (fun w hF => run_loadG1 (f := e_where_Fix) (i := t31.To) (sz := 3) (j := 0) (v := .int .i64 (val (gAt a0 t31.To)).Moment) Tryd.isAgg3 rfl rfl (f0.row (hw.now hF)) h_t55 rfl) rfl rfl ?_
                  refine d_val rfl rfl (r_move (v := v0) rfl) ?_
                  refine d_val rfl rfl (r_field Tryd.runUnderlying31 rfl Tryd.sizeOf3 rfl rfl) ?_
                  refine d_load1 (i := 1) (v := .int .i64 t31.From) Tryd.isAgg3 rfl rfl rfl rfl ?_
                  have h_t61 := bnd_val H56
                  have H57 := bnd_rest H56
                  refine d_val rfl rfl (r_indexF Tryd.underlying22 Tryd.sizeOf33 rfl rfl f0 h_t61) ?_
                  refine d_val rfl rfl (r_fieldP Tryd.runUnderlying33 rfl Tryd.sizeOf3 rfl rfl (some_of_at f0 h_t61)) ?_
                  refine d_read (fun w hF => run_loadG1 (f := e_where_Fix) (i := t31.From) (sz := 3) (j := 0) (v := .int .i64 (val (gAt a0 t31.From)).Moment) Tryd.isAgg3 rfl rfl (f0.row (hw.now hF)) h_t61 rfl) rfl rfl ?_
                  have h_t64 := bnd_val H57
                  have H58 := bnd_rest H57
                  refine d_val rfl rfl (r_subG rfl rfl h_t64) ?_
                  refine d_val rfl rfl (r_move (v := .int .i64 a2) rfl) ?_
                  refine d_val rfl rfl (r_lss rfl rfl) ?_
                  refine d_val rfl rfl (r_pickF (v := .bool (decide ((val (gI ((val (gAt a0 t31.To)).Moment - (val (gAt a0 t31.From)).Moment))) < a2))) rfl rfl) ?_
                  refine d_nil ?_
                  refine c_if (b := (decide ((val (gI ((val (gAt a0 t31.To)).Moment - (val (gAt a0 t31.From)).Moment))) < a2))) rfl (fun hb => ?_) (fun hb => ?_)
                  · have H59 := cnd_t hb H58; clear H58
                    refine c_seq ?_
                    refine c_region ?_
                    refine l_val rfl rfl rfl (r_assign (v := .bool false) rfl) ?_
                    refine l_nil ?_
                    refine c_ret ?_
                    obtain rfl := Option.some.inj H59
                    refine ret1 (v := .bool false) rfl rfl (fin rfl)
                  · have H60 := cnd_f hb H58; clear H58
                    refine c_skip ?_
                    refine c_meet (r := r) (σ := Int × Bool × Int × Int) (τ := Unit) (fun s => Keep_WhereStopsHold_j3 a0 a2 x29_2 next1 t31 (val (gAt a0 t31.To)) (val (gAt a0 t31.From)) (val (gI ((val (gAt a0 t31.To)).Moment - (val (gAt a0 t31.From)).Moment))) s.1 s.2.1 s.2.2.1 s.2.2.2) (fun s t => [(0, v0), (1, .int .i64 a1), (2, .int .i64 a2), (11, .pointer (some ⟨b2, 0, none⟩)), (27, .slice p.1 t22.1.length p.2), (28, .int .i64 (t22.1.length : Int)), (29, .int .i64 x29_2), (38, .pointer (some ⟨b2, 1, none⟩)), (39, .int .i64 t31.To), (40, .pointer (some ⟨b2, 0, none⟩)), (41, .int .i64 s.1), (42, .bool s.2.1), (45, .pointer (some ⟨b2, 1, none⟩)), (46, .int .i64 t31.To), (47, v0), (48, .int .i64 (a0.length : Int)), (49, .bool (decide ((a0.length : Int) ≤ t31.To))), (52, v0), (53, .pointer (some ⟨b2, 1, none⟩)), (54, .int .i64 t31.To), (57, .int .i64 (val (gAt a0 t31.To)).Moment), (58, v0), (59, .pointer (some ⟨b2, 0, none⟩)), (60, .int .i64 s.2.2.1), (63, .int .i64 (val (gAt a0 t31.From)).Moment), (64, .int .i64 (val (gI ((val (gAt a0 t31.To)).Moment - (val (gAt a0 t31.From)).Moment)))), (65, .int .i64 a2), (66, .bool (decide ((val (gI ((val (gAt a0 t31.To)).Moment - (val (gAt a0 t31.From)).Moment))) < a2)))]) (fun s t => [roV 4 (.slice p.1 t22.1.length p.2) t22.1.length (t22.1.map e_where_Stop), cellsC b2 [.int .i64 s.2.2.2, .int .i64 t31.To, .int .i64 t31.Place.Lat, .int .i64 t31.Place.Lon] 31]) (fun s t => True) ?_ ?_
                    · refine c_seq ?_
                      refine c_region ?_
                      refine l_val rfl rfl rfl (r_move (v := v0) rfl) ?_
                      refine l_val rfl rfl rfl (r_field Tryd.runUnderlying31 rfl Tryd.sizeOf3 rfl rfl) ?_
                      refine l_load1 (i := 1) (v := .int .i64 t31.From) Tryd.isAgg3 rfl rfl rfl rfl rfl ?_
                      refine l_val rfl rfl rfl (r_field Tryd.runUnderlying31 rfl Tryd.sizeOf3 rfl rfl) ?_
                      refine l_load1 (i := 1) (v := .int .i64 t31.To) Tryd.isAgg3 rfl rfl rfl rfl rfl ?_
                      obtain ⟨t73, h_t73, H63⟩ := bnd_some H60; clear H60
                      refine l_val rfl rfl rfl (r_addG rfl rfl h_t73) ?_
                      obtain ⟨t74, h_t74, H64⟩ := bnd_some H63; clear H63
                      refine l_val rfl rfl rfl (r_sliceLHF Tryd.underlying22 Tryd.sizeOf33 rfl rfl rfl f0 h_t74) ?_
                      refine l_val rfl rfl rfl (r_lenF Tryd.underlying22 rfl (f0.cut h_t74) rfl) ?_
                      refine l_val rfl rfl rfl (r_move (v := .int .i64 0) rfl) ?_
                      refine l_nil ?_
                      refine c_block ?_
                      refine c_fix (σ := Int) (τ := Unit) (fun next4 s => Keep_WhereStopsHold_l4 a0 a1 a2 x29_2 next1 t31 (val (gAt a0 t31.To)) (val (gAt a0 t31.From)) (val (gI ((val (gAt a0 t31.To)).Moment - (val (gAt a0 t31.From)).Moment))) t74 next4 s) (fun s t => [(0, v0), (1, .int .i64 a1), (2, .int .i64 a2), (11, .pointer (some ⟨b2, 0, none⟩)), (27, .slice p.1 t22.1.length p.2), (28, .int .i64 (t22.1.length : Int)), (29, .int .i64 x29_2), (38, .pointer (some ⟨b2, 1, none⟩)), (39, .int .i64 t31.To), (40, .pointer (some ⟨b2, 0, none⟩)), (41, .int .i64 t31.From), (42, .bool (decide (t31.To < t31.From))), (45, .pointer (some ⟨b2, 1, none⟩)), (46, .int .i64 t31.To), (47, v0), (48, .int .i64 (a0.length : Int)), (49, .bool (decide ((a0.length : Int) ≤ t31.To))), (52, v0), (53, .pointer (some ⟨b2, 1, none⟩)), (54, .int .i64 t31.To), (57, .int .i64 (val (gAt a0 t31.To)).Moment), (58, v0), (59, .pointer (some ⟨b2, 0, none⟩)), (60, .int .i64 t31.From), (63, .int .i64 (val (gAt a0 t31.From)).Moment), (64, .int .i64 (val (gI ((val (gAt a0 t31.To)).Moment - (val (gAt a0 t31.From)).Moment)))), (65, .int .i64 a2), (66, .bool (decide ((val (gI ((val (gAt a0 t31.To)).Moment - (val (gAt a0 t31.From)).Moment))) < a2))), (74, (cutV 3 v0 t31.From t73)), (75, .int .i64 (t74.length : Int)), (76, .int .i64 s)]) (fun s t => [roV 4 (.slice p.1 t22.1.length p.2) t22.1.length (t22.1.map e_where_Stop), cellsC b2 [.int .i64 t31.From, .int .i64 t31.To, .int .i64 t31.Place.Lat, .int .i64 t31.Place.Lon] 31]) (fun s t => True) 0 () [0, 1] H64 (by exact trivial) (by exact ⟨rfl, rfl, rfl, rfl, rfl, rfl, rfl, rfl, rfl, rfl, rfl, rfl, rfl, rfl, rfl, rfl, rfl, rfl, rfl, rfl, rfl, rfl, rfl, rfl, rfl, rfl, rfl, rfl, rfl, rfl, rfl, trivial⟩) (by decide) rfl ?_
                      rintro x76_2 _ m4 gg H65 _
                      clear H64
                      replace H65 : Keep_WhereStopsHold_l4 a0 a1 a2 x29_2 next1 t31 (val (gAt a0 t31.To)) (val (gAt a0 t31.From)) (val (gI ((val (gAt a0 t31.To)).Moment - (val (gAt a0 t31.From)).Moment))) t74 (it (fun next4 s => Keep_WhereStopsHold_l4 a0 a1 a2 x29_2 next1 t31 (val (gAt a0 t31.To)) (val (gAt a0 t31.From)) (val (gI ((val (gAt a0 t31.To)).Moment - (val (gAt a0 t31.From)).Moment))) t74 next4 s) m4) x76_2 = some r := H65
                      generalize hn4 : it (fun next4 s => Keep_WhereStopsHold_l4 a0 a1 a2 x29_2 next1 t31 (val (gAt a0 t31.To)) (val (gAt a0 t31.From)) (val (gI ((val (gAt a0 t31.To)).Moment - (val (gAt a0 t31.From)).Moment))) t74 next4 s) m4 = next4 at H65
                      refine c_tidyF [(0, v0), (1, .int .i64 a1), (2, .int .i64 a2), (11, .pointer (some ⟨b2, 0, none⟩)), (27, .slice p.1 t22.1.length p.2), (28, .int .i64 (t22.1.length : Int)), (29, .int .i64 x29_2), (38, .pointer (some ⟨b2, 1, none⟩)), (39, .int .i64 t31.To), (40, .pointer (some ⟨b2, 0, none⟩)), (41, .int .i64 t31.From), (42, .bool (decide (t31.To < t31.From))), (45, .pointer (some ⟨b2, 1, none⟩)), (46, .int .i64 t31.To), (47, v0), (48, .int .i64 (a0.length : Int)), (49, .bool (decide ((a0.length : Int) ≤ t31.To))), (52, v0), (53, .pointer (some ⟨b2, 1, none⟩)), (54, .int .i64 t31.To), (57, .int .i64 (val (gAt a0 t31.To)).Moment), (58, v0), (59, .pointer (some ⟨b2, 0, none⟩)), (60, .int .i64 t31.From), (63, .int .i64 (val (gAt a0 t31.From)).Moment), (64, .int .i64 (val (gI ((val (gAt a0 t31.To)).Moment - (val (gAt a0 t31.From)).Moment)))), (65, .int .i64 a2), (66, .bool (decide ((val (gI ((val (gAt a0 t31.To)).Moment - (val (gAt a0 t31.From)).Moment))) < a2))), (74, (cutV 3 v0 t31.From t73)), (75, .int .i64 (t74.length : Int)), (76, .int .i64 x76_2)] [roV 4 (.slice p.1 t22.1.length p.2) t22.1.length (t22.1.map e_where_Stop), cellsC b2 [.int .i64 t31.From, .int .i64 t31.To, .int .i64 t31.Place.Lat, .int .i64 t31.Place.Lon] 31] rfl rfl ?_
                      refine c_seq ?_
                      refine c_region ?_
                      refine l_val rfl rfl rfl (r_lss rfl rfl) ?_
                      refine l_nil ?_
                      refine c_seq ?_
                      refine c_if (b := (decide (x76_2 < (t74.length : Int)))) rfl (fun hb => ?_) (fun hb => ?_)
                      · have H66 := cnd_t hb H65; clear H65
                        refine c_skip ?_
                        refine c_seq ?_
                        refine c_block ?_
                        refine c_seq ?_
                        refine c_region ?_
                        obtain ⟨t78, h_t78, H67⟩ := bnd_some H66; clear H66
                        refine l_val rfl rfl rfl (r_indexF Tryd.underlying22 Tryd.sizeOf33 rfl rfl (f0.cut h_t74) h_t78) ?_
                        refine l_read (fun w hF hS => run_loadGN (f := e_where_Fix) (i := x76_2) (sz := 3) (j := 0) (vs := [.int .i64 t78.Moment, .int .i64 t78.Place.Lat, .int .i64 t78.Place.Lon]) Tryd.isAgg33 Tryd.sizeOf33 rfl rfl ((f0.cut h_t74).row (hw.now hF)) h_t78 rfl) rfl rfl rfl ?_
                        refine l_alloc (cs := [.int .i64 0, .int .i64 0, .int .i64 0]) Tryd.zeroValue33 rfl rfl rfl (fun b3 => ?_)
                        refine l_store (i := 2) (vs := [.int .i64 t78.Moment, .int .i64 t78.Place.Lat, .int .i64 t78.Place.Lon]) (cs' := [.int .i64 t78.Moment, .int .i64 t78.Place.Lat, .int .i64 t78.Place.Lon]) Tryd.sizeOf33 rfl rfl rfl rfl rfl rfl rfl rfl rfl ?_
                        refine l_nil ?_
                        refine c_seq ?_
                        exact c_regionD (Kd.p :: Kd.p :: Kd.d [1] _ :: Kd.p :: Kd.p :: Kd.d [] _ :: Kd.p :: Kd.d [2] _ :: Kd.d [] _ :: Kd.p :: Kd.p :: Kd.p :: Kd.p :: Kd.p :: []) 0 mixed (by
                          refine d_val rfl rfl (r_move (v := v0) rfl) ?_
                          refine d_val rfl rfl (r_field Tryd.runUnderlying31 rfl Tryd.sizeOf3 rfl rfl) ?_
                          refine d_load1 (i := 1) (v := .int .i64 t31.From) Tryd.isAgg3 rfl rfl rfl rfl ?_
                          have h_t84 := bnd_val H67
                          have H68 := bnd_rest H67
                          refine d_val rfl rfl (r_indexF Tryd.underlying22 Tryd.sizeOf33 rfl rfl f0 h_t84) ?_
                          refine d_val rfl rfl (r_fieldP Tryd.runUnderlying33 rfl Tryd.sizeOf29 rfl rfl (some_of_at f0 h_t84)) ?_
                          refine d_read (fun w hF => run_loadGN (f := e_where_Fix) (i := t31.From) (sz := 3) (j := 1) (vs := [.int .i64 (val (gAt a0 t31.From)).Place.Lat, .int .i64 (val (gAt a0 t31.From)).Place.Lon]) Tryd.isAgg29 Tryd.sizeOf29 rfl rfl (f0.row (hw.now hF)) h_t84 rfl) rfl rfl ?_
                          refine d_val rfl rfl (r_field Tryd.runUnderlying33 rfl Tryd.sizeOf29 rfl rfl) ?_
                          refine d_loadN (i := 2) (vs := [.int .i64 t78.Place.Lat, .int .i64 t78.Place.Lon]) Tryd.isAgg29 Tryd.sizeOf29 rfl rfl rfl rfl ?_
                          have h_t89 := bnd_val H68
                          have H69 := bnd_rest H68
                          refine d_call (k11 h_t89) Tryd.call11 rfl rfl ?_
                          refine d_val rfl rfl (r_move (v := .tuple #[.int .i64 (val (where_Distance (val (gAt a0 t31.From)).Place t78.Place)).1, .int .i64 (val (where_Distance (val (gAt a0 t31.From)).Place t78.Place)).2]) rfl) ?_
                          refine d_val rfl rfl (r_extract (v := .int .i64 (val (where_Distance (val (gAt a0 t31.From)).Place t78.Place)).1) rfl rfl) ?_
                          refine d_val rfl rfl (r_extract (v := .int .i64 (val (where_Distance (val (gAt a0 t31.From)).Place t78.Place)).2) rfl rfl) ?_
                          refine d_val rfl rfl (r_assign (v := .int .i64 (val (where_Distance (val (gAt a0 t31.From)).Place t78.Place)).1) rfl) ?_
                          refine d_val rfl rfl (r_assign (v := .int .i64 (val (where_Distance (val (gAt a0 t31.From)).Place t78.Place)).2) rfl) ?_
                          refine d_nil ?_
                          refine c_seq ?_
                          refine c_region ?_
                          refine l_val rfl rfl rfl (r_move (v := .int .i64 (val (where_Distance (val (gAt a0 t31.From)).Place t78.Place)).2) rfl) ?_
                          refine l_val rfl rfl rfl (r_neq rfl rfl) ?_
                          refine l_val rfl rfl rfl (r_move (v := .bool (decide ((val (where_Distance (val (gAt a0 t31.From)).Place t78.Place)).2 ≠ 0))) rfl) ?_
                          refine split (fun hb => ?_) (fun hb => ?_)
                          · have H70 := cnd_t hb H69; clear H69
                            refine l_passed rfl rfl rfl ?_
                            refine l_passed rfl rfl rfl ?_
                            refine l_passed rfl rfl rfl ?_
                            refine l_val rfl rfl rfl (r_pickT (v := .bool true) rfl rfl) ?_
                            refine l_nil ?_
                            refine c_true rfl ?_
                            refine c_seq ?_
                            refine c_region ?_
                            refine l_val rfl rfl rfl (r_assign (v := .bool false) rfl) ?_
                            refine l_nil ?_
                            refine c_ret ?_
                            obtain rfl := Option.some.inj H70
                            refine ret1 (v := .bool false) rfl rfl (fin rfl)
                          · have H71 := cnd_f hb H69; clear H69
                            refine l_val rfl rfl rfl (r_move (v := .int .i64 (val (where_Distance (val (gAt a0 t31.From)).Place t78.Place)).1) rfl) ?_
                            refine l_val rfl rfl rfl (r_move (v := .int .i64 a1) rfl) ?_
                            refine l_val rfl rfl rfl (r_gtr rfl rfl) ?_
                            refine l_val rfl rfl rfl (r_pickF (v := .bool (decide (a1 < (val (where_Distance (val (gAt a0 t31.From)).Place t78.Place)).1))) rfl rfl) ?_
                            refine l_nil ?_
                            refine c_if (b := (decide (a1 < (val (where_Distance (val (gAt a0 t31.From)).Place t78.Place)).1))) rfl (fun hb => ?_) (fun hb => ?_)
                            · have H72 := cnd_t hb H71; clear H71
                              refine c_seq ?_
                              refine c_region ?_
                              refine l_val rfl rfl rfl (r_assign (v := .bool false) rfl) ?_
                              refine l_nil ?_
                              refine c_ret ?_
                              obtain rfl := Option.some.inj H72
                              refine ret1 (v := .bool false) rfl rfl (fin rfl)
                            · have H73 := cnd_f hb H71; clear H71
                              refine c_skip ?_
                              refine c_region ?_
                              obtain ⟨t99, h_t99, H74⟩ := bnd_some H73; clear H73
                              refine l_val rfl rfl rfl (r_addG rfl rfl h_t99) ?_
                              refine l_val rfl rfl rfl (r_move (v := .int .i64 t99) rfl) ?_
                              refine l_nil ?_
                              refine c_close t99 () m4 [0, 1] (by exact ⟨rfl, rfl, rfl, rfl, rfl, rfl, rfl, rfl, rfl, rfl, rfl, rfl, rfl, rfl, rfl, rfl, rfl, rfl, rfl, rfl, rfl, rfl, rfl, rfl, rfl, rfl, rfl, rfl, rfl, rfl, rfl, trivial⟩) (by decide) rfl (by exact ⟨(by subst hn4; exact H74), trivial⟩) (Nat.lt_succ_self _)
                          ) (by kernel_rfl)
                      · have H75 := cnd_f hb H65; clear H65
                        refine c_exit ?_
                        refine c_close (t31.From, (decide (t31.To < t31.From)), t31.From, t31.From) () 0 [0, 1] (by exact ⟨rfl, rfl, rfl, rfl, rfl, rfl, rfl, rfl, rfl, rfl, rfl, rfl, rfl, rfl, rfl, rfl, rfl, rfl, rfl, rfl, rfl, rfl, rfl, rfl, rfl, rfl, rfl, rfl, trivial⟩) (by decide) rfl (by exact ⟨H75, trivial⟩) (Nat.lt_succ_self _)
                    · rintro ⟨x41_2, x42_2, x60_2, m_5⟩ _ gg H61 _
                      replace H61 : Keep_WhereStopsHold_j3 a0 a2 x29_2 next1 t31 (val (gAt a0 t31.To)) (val (gAt a0 t31.From)) (val (gI ((val (gAt a0 t31.To)).Moment - (val (gAt a0 t31.From)).Moment))) x41_2 x42_2 x60_2 m_5 = some r := H61
                      refine c_tidyF [(0, v0), (1, .int .i64 a1), (2, .int .i64 a2), (11, .pointer (some ⟨b2, 0, none⟩)), (27, .slice p.1 t22.1.length p.2), (28, .int .i64 (t22.1.length : Int)), (29, .int .i64 x29_2), (38, .pointer (some ⟨b2, 1, none⟩)), (39, .int .i64 t31.To), (40, .pointer (some ⟨b2, 0, none⟩)), (41, .int .i64 x41_2), (42, .bool x42_2), (45, .pointer (some ⟨b2, 1, none⟩)), (46, .int .i64 t31.To), (47, v0), (48, .int .i64 (a0.length : Int)), (49, .bool (decide ((a0.length : Int) ≤ t31.To))), (52, v0), (53, .pointer (some ⟨b2, 1, none⟩)), (54, .int .i64 t31.To), (57, .int .i64 (val (gAt a0 t31.To)).Moment), (58, v0), (59, .pointer (some ⟨b2, 0, none⟩)), (60, .int .i64 x60_2), (63, .int .i64 (val (gAt a0 t31.From)).Moment), (64, .int .i64 (val (gI ((val (gAt a0 t31.To)).Moment - (val (gAt a0 t31.From)).Moment)))), (65, .int .i64 a2), (66, .bool (decide ((val (gI ((val (gAt a0 t31.To)).Moment - (val (gAt a0 t31.From)).Moment))) < a2)))] [roV 4 (.slice p.1 t22.1.length p.2) t22.1.length (t22.1.map e_where_Stop), cellsC b2 [.int .i64 m_5, .int .i64 t31.To, .int .i64 t31.Place.Lat, .int .i64 t31.Place.Lon] 31] rfl rfl ?_
                      refine c_region ?_
                      refine l_val rfl rfl rfl (r_field Tryd.runUnderlying31 rfl Tryd.sizeOf3 rfl rfl) ?_
                      refine l_load1 (i := 1) (v := .int .i64 t31.To) Tryd.isAgg3 rfl rfl rfl rfl rfl ?_
                      obtain ⟨t102, h_t102, H62⟩ := bnd_some H61; clear H61
                      refine l_val rfl rfl rfl (r_addG rfl rfl h_t102) ?_
                      refine l_val rfl rfl rfl (r_assign (v := .int .i64 t102) rfl) ?_
                      refine l_nil ?_
                      refine c_close (t102, t31.To, x41_2, x42_2, t31.To, (decide ((a0.length : Int) ≤ t31.To)), t31.To, (val (gAt a0 t31.To)).Moment, x60_2, (val (gAt a0 t31.From)).Moment, (val (gI ((val (gAt a0 t31.To)).Moment - (val (gAt a0 t31.From)).Moment))), (decide ((val (gI ((val (gAt a0 t31.To)).Moment - (val (gAt a0 t31.From)).Moment))) < a2)), m_5, t31.To, t31.Place.Lat, t31.Place.Lon) b2 0 [0, 1] (by exact ⟨rfl, rfl, rfl, rfl, rfl, rfl, rfl, rfl, rfl, rfl, rfl, rfl, rfl, rfl, rfl, rfl, rfl, rfl, rfl, rfl, rfl, rfl, rfl, rfl, rfl, rfl, rfl, rfl, trivial⟩) (by decide) rfl (by exact ⟨H62, trivial⟩) (Nat.lt_succ_self _)
            ) (by kernel_rfl)
        · rintro ⟨x9_3, x39, x41, x42, x46, x49, x54, x57, x60, x63, x64, x66, m, m_2, m_3, m_4⟩ b gg H47 _
          replace H47 : Keep_WhereStopsHold_j2 x29_2 next1 x9_3 x39 x41 x42 x46 x49 x54 x57 x60 x63 x64 x66 m m_2 m_3 m_4 = some r := H47
          refine c_tidyF [(0, v0), (1, .int .i64 a1), (2, .int .i64 a2), (9, .int .i64 x9_3), (27, .slice p.1 t22.1.length p.2), (28, .int .i64 (t22.1.length : Int)), (29, .int .i64 x29_2), (38, .pointer (some ⟨b, 1, none⟩)), (39, .int .i64 x39), (40, .pointer (some ⟨b, 0, none⟩)), (41, .int .i64 x41), (42, .bool x42), (45, .pointer (some ⟨b, 1, none⟩)), (46, .int .i64 x46), (47, v0), (48, .int .i64 (a0.length : Int)), (49, .bool x49), (52, v0), (53, .pointer (some ⟨b, 1, none⟩)), (54, .int .i64 x54), (57, .int .i64 x57), (58, v0), (59, .pointer (some ⟨b, 0, none⟩)), (60, .int .i64 x60), (63, .int .i64 x63), (64, .int .i64 x64), (65, .int .i64 a2), (66, .bool x66)] [roV 4 (.slice p.1 t22.1.length p.2) t22.1.length (t22.1.map e_where_Stop), cellsC b [.int .i64 m, .int .i64 m_2, .int .i64 m_3, .int .i64 m_4] 31] rfl rfl ?_
          refine c_region ?_
          obtain ⟨t103, h_t103, H48⟩ := bnd_some H47; clear H47
          refine l_val rfl rfl rfl (r_addG rfl rfl h_t103) ?_
          refine l_val rfl rfl rfl (r_move (v := .int .i64 t103) rfl) ?_
          refine l_nil ?_
          refine c_close (x9_3, t103) () m1 [0] (by exact ⟨rfl, rfl, rfl, rfl, rfl, rfl, rfl, trivial⟩) (by decide) rfl (by exact ⟨(by subst hn1; exact H48), trivial⟩) (Nat.lt_succ_self _)
      · have H76 := cnd_f hb H45; clear H45
        refine c_exit ?_
        refine c_seq ?_
        refine c_region ?_
        refine l_val rfl rfl rfl (r_assign (v := .bool true) rfl) ?_
        refine l_nil ?_
        refine c_ret ?_
        obtain rfl := Option.some.inj H76
        refine ret1 (v := .bool true) rfl rfl (fin rfl)
end Go.Proofs.YtcfckcchalpkdaaDoor
