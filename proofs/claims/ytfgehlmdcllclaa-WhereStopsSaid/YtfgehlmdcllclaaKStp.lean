/- WhereStops: the walks, printed by our generator; each follows its model. Conditions: the model yields a value. -/
import Derived.Test.YtfgehlmdcllclaaKW
namespace Go.Proofs.Ytfgehlmdcllclaa
open Go Go.Vc Go.Md Go.M Go.Lx
set_option maxRecDepth 100000
set_option maxHeartbeats 4000000
set_option linter.unusedVariables false

theorem k91 {a0 : (List T_where_Fix)} {v0 : Value} {a1 : Int} {a2 : Int} {r : Int} {w : World} {h : Heap} (hw : Know h w noS) (f0 : FrS h 3 v0 (a0.map e_where_Fix)) (H : where_checkParts a0 a1 a2 = some r) : Does Try.prog 91 (List.toArray [v0, .int .i64 a1, .int .i64 a2]) w (fun v w' => v = (.int .i64 r) ∧ Grow w w') := by
  refine enter (n := 20) Try.func91 rfl rfl rfl noS [] (Sat.nil _ _) ?_
  refine c_seq ?_
  refine c_region ?_
  refine l_val rfl rfl rfl (r_assign (v := .int .i64 0) rfl) ?_
  refine l_nil ?_
  refine c_seq ?_
  refine c_seq ?_
  refine c_region ?_
  refine l_val rfl rfl rfl (r_move (v := v0) rfl) ?_
  obtain ⟨t9, h_t9, H10⟩ := bnd_some H; clear H
  refine l_callG (fun w hF hS => k47 (know_all w) (f0.mono (hw.now hF)) h_t9) Try.call47 rfl rfl rfl ?_
  refine l_val rfl rfl rfl (r_assign (v := .int .i64 t9) rfl) ?_
  refine l_nil ?_
  refine c_seq ?_
  refine c_region ?_
  refine l_val rfl rfl rfl (r_move (v := .int .i64 t9) rfl) ?_
  refine l_val rfl rfl rfl (r_neq rfl rfl) ?_
  refine l_nil ?_
  refine c_if (b := (decide (t9 ≠ 0))) rfl (fun hb => ?_) (fun hb => ?_)
  · have H11 := cnd_t hb H10; clear H10
    refine c_seq ?_
    refine c_region ?_
    refine l_val rfl rfl rfl (r_move (v := .int .i64 t9) rfl) ?_
    refine l_val rfl rfl rfl (r_assign (v := .int .i64 t9) rfl) ?_
    refine l_nil ?_
    refine c_ret ?_
    obtain rfl := Option.some.inj H11
    refine ret1 (v := .int .i64 t9) rfl rfl (fin rfl)
  · have H12 := cnd_f hb H10; clear H10
    refine c_skip ?_
    refine c_seq ?_
    refine c_seq ?_
    refine c_region ?_
    refine l_val rfl rfl rfl (r_move (v := .int .i64 a1) rfl) ?_
    obtain ⟨t14, h_t14, H13⟩ := bnd_some H12; clear H12
    refine l_call (k61 h_t14) Try.call61 rfl rfl rfl ?_
    refine l_val rfl rfl rfl (r_move (v := .bool t14) rfl) ?_
    refine split (fun hb => ?_) (fun hb => ?_)
    · have H14 := cnd_t hb H13; clear H13
      refine l_passed rfl rfl rfl ?_
      refine l_passed rfl rfl rfl ?_
      refine l_passed rfl rfl rfl ?_
      refine l_val rfl rfl rfl (r_pickT (v := .bool true) rfl rfl) ?_
      refine l_nil ?_
      refine c_true rfl ?_
      refine c_seq ?_
      refine c_region ?_
      refine l_val rfl rfl rfl (r_assign (v := .int .i64 2) rfl) ?_
      refine l_nil ?_
      refine c_ret ?_
      obtain rfl := Option.some.inj H14
      refine ret1 (v := .int .i64 2) rfl rfl (fin rfl)
    · have H15 := cnd_f hb H13; clear H13
      refine l_val rfl rfl rfl (r_move (v := .int .i64 a2) rfl) ?_
      obtain ⟨t17, h_t17, H16⟩ := bnd_some H15; clear H15
      refine l_call (k76 h_t17) Try.call76 rfl rfl rfl ?_
      refine l_val rfl rfl rfl (r_not rfl) ?_
      refine l_val rfl rfl rfl (r_pickF (v := .bool (!t17)) rfl rfl) ?_
      refine l_nil ?_
      refine c_if (b := (!t17)) rfl (fun hb => ?_) (fun hb => ?_)
      · have H17 := cnd_t hb H16; clear H16
        refine c_seq ?_
        refine c_region ?_
        refine l_val rfl rfl rfl (r_assign (v := .int .i64 2) rfl) ?_
        refine l_nil ?_
        refine c_ret ?_
        obtain rfl := Option.some.inj H17
        refine ret1 (v := .int .i64 2) rfl rfl (fin rfl)
      · have H18 := cnd_f hb H16; clear H16
        refine c_skip ?_
        refine c_seq ?_
        refine c_region ?_
        refine l_val rfl rfl rfl (r_assign (v := .int .i64 0) rfl) ?_
        refine l_nil ?_
        refine c_ret ?_
        obtain rfl := Option.some.inj H18
        refine ret1 (v := .int .i64 0) rfl rfl (fin rfl)
theorem k92 {q0 : Int} {c0 : Nat} {a0 : (List T_where_Fix)} {v0 : Value} {a1 : Int} {r : Int} {w : World} {h : Heap} (hw : Know h w noS) (hc0 : h c0 = some (.cells (List.toArray [.int .i64 q0]) 3 (0, 0))) (f0 : FrS h 3 v0 (a0.map e_where_Fix)) (H : where_Stops_1 q0 a0 a1 = some r) : Does Try.prog 92 (List.toArray [v0, .int .i64 a1, .pointer (some ⟨c0, 0, none⟩)]) w (fun v w' => v = (.int .i64 r) ∧ Grow w w') := by
  refine enter (n := 32) Try.func92 rfl rfl rfl noS [] (Sat.nil _ _) ?_
  refine c_seq ?_
  refine c_region ?_
  refine l_val rfl rfl rfl (r_assign (v := .int .i64 0) rfl) ?_
  refine l_nil ?_
  refine c_seq ?_
  refine c_region ?_
  refine l_val rfl rfl rfl (r_move (v := .int .i64 a1) rfl) ?_
  refine l_val rfl rfl rfl (r_assign (v := .int .i64 a1) rfl) ?_
  refine l_nil ?_
  refine c_seq ?_
  refine c_block ?_
  refine c_fix (σ := Int) (τ := Unit) (fun next1 s => where_Stops_1_l1 q0 a0 a1 next1 s) (fun s t => [(0, v0), (1, .int .i64 a1), (2, .pointer (some ⟨c0, 0, none⟩)), (6, .int .i64 s)]) (fun s t => []) (fun s t => True) a1 () [] H (by exact trivial) (by exact ⟨rfl, rfl, rfl, rfl, trivial⟩) (by decide) rfl ?_
  rintro x6_2 _ m1 gg H12 _
  clear H
  replace H12 : where_Stops_1_l1 q0 a0 a1 (it (fun next1 s => where_Stops_1_l1 q0 a0 a1 next1 s) m1) x6_2 = some r := H12
  generalize hn1 : it (fun next1 s => where_Stops_1_l1 q0 a0 a1 next1 s) m1 = next1 at H12
  refine c_tidyF [(0, v0), (1, .int .i64 a1), (2, .pointer (some ⟨c0, 0, none⟩)), (6, .int .i64 x6_2)] [] rfl rfl ?_
  refine c_seq ?_
  refine c_seq ?_
  exact c_regionD (Kd.p :: Kd.p :: Kd.p :: Kd.p :: Kd.p :: Kd.p :: Kd.p :: Kd.p :: Kd.p :: Kd.p :: Kd.p :: Kd.d [] _ :: Kd.p :: Kd.p :: Kd.p :: Kd.p :: Kd.d [] _ :: Kd.d [] _ :: Kd.d [] _ :: Kd.p :: Kd.p :: []) 0 mixed (by
    refine d_val rfl rfl (r_move (v := .int .i64 x6_2) rfl) ?_
    have h_t9 := bnd_val H12
    have H13 := bnd_rest H12
    refine d_val rfl rfl (r_addG rfl rfl h_t9) ?_
    refine d_val rfl rfl (r_move (v := v0) rfl) ?_
    refine d_val rfl rfl (r_lenF Try.underlying49 rfl f0 rfl) ?_
    refine d_val rfl rfl (r_lss rfl rfl) ?_
    refine d_val rfl rfl (r_move (v := .bool (decide ((val (gI (x6_2 + 1))) < (a0.length : Int)))) rfl) ?_
    refine splitS (fun hb => ?_) (fun hb => ?_)
    · have H14 := cnd_t hb H13
      refine d_val rfl rfl (r_move (v := v0) rfl) ?_
      refine d_val rfl rfl (r_move (v := .int .i64 x6_2) rfl) ?_
      have h_t16 := bnd_val H14
      have H15 := bnd_rest H14
      refine d_val rfl rfl (r_addG rfl rfl h_t16) ?_
      have h_t17 := bnd_val H15
      have H16 := bnd_rest H15
      refine d_val rfl rfl (r_indexF Try.underlying49 Try.sizeOf78 rfl rfl f0 h_t17) ?_
      refine d_val rfl rfl (r_fieldP Try.runUnderlying78 rfl Try.sizeOf25 rfl rfl (some_of_at f0 h_t17)) ?_
      refine d_read (fun w hF => run_loadGN (j := 1) (vs := [.int .i64 (val (gAt a0 (val (gI (x6_2 + 1))))).Place.Lat, .int .i64 (val (gAt a0 (val (gI (x6_2 + 1))))).Place.Lon]) Try.isAgg25 Try.sizeOf25 rfl rfl (f0.row (hw.now hF)) h_t17 rfl) rfl rfl ?_
      refine d_val rfl rfl (r_move (v := v0) rfl) ?_
      refine d_val rfl rfl (r_move (v := .int .i64 a1) rfl) ?_
      have h_t22 := bnd_val H16
      have H17 := bnd_rest H16
      refine d_val rfl rfl (r_indexF Try.underlying49 Try.sizeOf78 rfl rfl f0 h_t22) ?_
      refine d_val rfl rfl (r_fieldP Try.runUnderlying78 rfl Try.sizeOf25 rfl rfl (some_of_at f0 h_t22)) ?_
      refine d_read (fun w hF => run_loadGN (j := 1) (vs := [.int .i64 (val (gAt a0 a1)).Place.Lat, .int .i64 (val (gAt a0 a1)).Place.Lon]) Try.isAgg25 Try.sizeOf25 rfl rfl (f0.row (hw.now hF)) h_t22 rfl) rfl rfl ?_
      have h_t25 := bnd_val H17
      have H18 := bnd_rest H17
      refine d_call (k81 h_t25) Try.call81 rfl rfl ?_
      refine d_read (fun w hF => run_loadK1 (v := .int .i64 q0) Try.isAgg3 rfl (hw.now hF _ _ hc0) rfl) rfl rfl ?_
      refine d_val rfl rfl (r_leq rfl rfl) ?_
      refine d_val rfl rfl (r_pickT (v := .bool (decide ((val (where_distance (val (gAt a0 (val (gI (x6_2 + 1))))).Place (val (gAt a0 a1)).Place)) ≤ q0))) rfl rfl) ?_
      refine d_nil ?_
      refine c_if (b := (decide ((val (where_distance (val (gAt a0 (val (gI (x6_2 + 1))))).Place (val (gAt a0 a1)).Place)) ≤ q0))) rfl (fun hb => ?_) (fun hb => ?_)
      · have H19 := cnd_t hb H18; clear H18
        refine c_skip ?_
        refine c_block ?_
        refine c_region ?_
        refine l_val rfl rfl rfl (r_move (v := .int .i64 x6_2) rfl) ?_
        obtain ⟨t30, h_t30, H20⟩ := bnd_some H19; clear H19
        refine l_val rfl rfl rfl (r_addG rfl rfl h_t30) ?_
        refine l_val rfl rfl rfl (r_assign (v := .int .i64 t30) rfl) ?_
        refine l_nil ?_
        refine c_close t30 () m1 [] (by exact ⟨rfl, rfl, rfl, rfl, trivial⟩) (by decide) rfl (by exact ⟨(by subst hn1; exact H20), trivial⟩) (Nat.lt_succ_self _)
      · have H21 := cnd_f hb H18; clear H18
        refine c_exit ?_
        refine c_seq ?_
        refine c_region ?_
        refine l_val rfl rfl rfl (r_move (v := .int .i64 x6_2) rfl) ?_
        refine l_val rfl rfl rfl (r_assign (v := .int .i64 x6_2) rfl) ?_
        refine l_nil ?_
        refine c_ret ?_
        obtain rfl := Option.some.inj H21
        refine ret1 (v := .int .i64 x6_2) rfl rfl (fin rfl)
    · have H22 := cnd_f hb H13
      refine d_pass rfl rfl ?_
      refine d_pass rfl rfl ?_
      refine d_pass rfl rfl ?_
      refine d_pass rfl rfl ?_
      refine d_pass rfl rfl ?_
      refine d_pass rfl rfl ?_
      refine d_pass rfl rfl ?_
      refine d_pass rfl rfl ?_
      refine d_pass rfl rfl ?_
      refine d_pass rfl rfl ?_
      refine d_pass rfl rfl ?_
      refine d_pass rfl rfl ?_
      refine d_pass rfl rfl ?_
      refine d_pass rfl rfl ?_
      refine d_val rfl rfl (r_pickF (v := .bool false) rfl rfl) ?_
      refine d_nil ?_
      refine c_false rfl ?_
      refine c_exit ?_
      refine c_seq ?_
      refine c_region ?_
      refine l_val rfl rfl rfl (r_move (v := .int .i64 x6_2) rfl) ?_
      refine l_val rfl rfl rfl (r_assign (v := .int .i64 x6_2) rfl) ?_
      refine l_nil ?_
      refine c_ret ?_
      obtain rfl := Option.some.inj H22
      refine ret1 (v := .int .i64 x6_2) rfl rfl (fin rfl)
    ) (by kernel_rfl)
theorem k93 {q0 : Int} {c0 : Nat} {a0 : (List T_where_Fix)} {v0 : Value} {a1 : Int} {a2 : Int} {r : Bool} {w : World} {h : Heap} (hw : Know h w noS) (hc0 : h c0 = some (.cells (List.toArray [.int .i64 q0]) 3 (0, 0))) (f0 : FrS h 3 v0 (a0.map e_where_Fix)) (H : where_Stops_2 q0 a0 a1 a2 = some r) : Does Try.prog 93 (List.toArray [v0, .int .i64 a1, .int .i64 a2, .pointer (some ⟨c0, 0, none⟩)]) w (fun v w' => v = (.bool r) ∧ Grow w w') := by
  refine enter (n := 21) Try.func93 rfl rfl rfl noS [] (Sat.nil _ _) ?_
  refine c_seq ?_
  refine c_region ?_
  refine l_val rfl rfl rfl (r_assign (v := .bool false) rfl) ?_
  refine l_nil ?_
  refine c_seq ?_
  exact c_regionD (Kd.p :: Kd.p :: Kd.p :: Kd.p :: Kd.d [] _ :: Kd.p :: Kd.p :: Kd.p :: Kd.p :: Kd.d [] _ :: Kd.p :: Kd.d [] _ :: Kd.p :: Kd.p :: []) 0 mixed (by
    refine d_val rfl rfl (r_move (v := v0) rfl) ?_
    refine d_val rfl rfl (r_move (v := .int .i64 a2) rfl) ?_
    have h_t10 := bnd_val H
    have H4 := bnd_rest H
    refine d_val rfl rfl (r_indexF Try.underlying49 Try.sizeOf78 rfl rfl f0 h_t10) ?_
    refine d_val rfl rfl (r_fieldP Try.runUnderlying78 rfl Try.sizeOf3 rfl rfl (some_of_at f0 h_t10)) ?_
    refine d_read (fun w hF => run_loadG1 (j := 0) (v := .int .i64 (val (gAt a0 a2)).Moment) Try.isAgg3 rfl rfl (f0.row (hw.now hF)) h_t10 rfl) rfl rfl ?_
    refine d_val rfl rfl (r_move (v := v0) rfl) ?_
    refine d_val rfl rfl (r_move (v := .int .i64 a1) rfl) ?_
    have h_t15 := bnd_val H4
    have H5 := bnd_rest H4
    refine d_val rfl rfl (r_indexF Try.underlying49 Try.sizeOf78 rfl rfl f0 h_t15) ?_
    refine d_val rfl rfl (r_fieldP Try.runUnderlying78 rfl Try.sizeOf3 rfl rfl (some_of_at f0 h_t15)) ?_
    refine d_read (fun w hF => run_loadG1 (j := 0) (v := .int .i64 (val (gAt a0 a1)).Moment) Try.isAgg3 rfl rfl (f0.row (hw.now hF)) h_t15 rfl) rfl rfl ?_
    have h_t18 := bnd_val H5
    have H6 := bnd_rest H5
    refine d_val rfl rfl (r_subG rfl rfl h_t18) ?_
    refine d_read (fun w hF => run_loadK1 (v := .int .i64 q0) Try.isAgg3 rfl (hw.now hF _ _ hc0) rfl) rfl rfl ?_
    refine d_val rfl rfl (r_geq rfl rfl) ?_
    refine d_val rfl rfl (r_assign (v := .bool (decide (q0 ≤ (val (gI ((val (gAt a0 a2)).Moment - (val (gAt a0 a1)).Moment)))))) rfl) ?_
    refine d_nil ?_
    refine c_ret ?_
    obtain rfl := Option.some.inj H6
    refine ret1 (v := .bool (decide (q0 ≤ (val (gI ((val (gAt a0 a2)).Moment - (val (gAt a0 a1)).Moment)))))) rfl rfl (fin rfl)
    ) (by kernel_rfl)
theorem k94 {a0 : Int} {a1 : Int} {r : Int} (H : where_Stops_3 a0 a1 = some r) : Ret Try.prog 94 [.int .i64 a0, .int .i64 a1] (.int .i64 r) := by
  refine enterRet (n := 7) Try.func94 rfl rfl rfl (fun wd => ?_)
  refine c_seq ?_
  refine c_region ?_
  refine l_val rfl rfl rfl (r_assign (v := .int .i64 0) rfl) ?_
  refine l_nil ?_
  refine c_seq ?_
  refine c_region ?_
  refine l_val rfl rfl rfl (r_move (v := .int .i64 a0) rfl) ?_
  obtain ⟨t6, h_t6, H2⟩ := bnd_some H; clear H
  refine l_val rfl rfl rfl (r_addG rfl rfl h_t6) ?_
  refine l_val rfl rfl rfl (r_assign (v := .int .i64 t6) rfl) ?_
  refine l_nil ?_
  refine c_ret ?_
  obtain rfl := Option.some.inj H2
  refine ret1 (v := .int .i64 t6) rfl rfl (fin rfl)
theorem k96 {a0 : (List T_api_Place)} {v0 : Value} {r : Int} {w : World} {h : Heap} (hw : Know h w noS) (f0 : FrS h 2 v0 (a0.map e_api_Place)) (H : where_middle a0 = some r) : Does Try.prog 96 (List.toArray [v0]) w (fun v w' => v = (.int .i64 r) ∧ Grow w w') := by
  refine enter (n := 40) Try.func96 rfl rfl rfl noS [] (Sat.nil _ _) ?_
  refine c_seq ?_
  refine c_region ?_
  refine l_val rfl rfl rfl (r_assign (v := .int .i64 0) rfl) ?_
  refine l_nil ?_
  refine c_seq ?_
  refine c_region ?_
  refine l_val rfl rfl rfl (r_assign (v := .int .i64 0) rfl) ?_
  refine l_val rfl rfl rfl (r_assign (v := .int .i64 (-1)) rfl) ?_
  refine l_nil ?_
  refine c_seq ?_
  refine c_seq ?_
  refine c_region ?_
  refine l_val rfl rfl rfl (r_move (v := v0) rfl) ?_
  refine l_val rfl rfl rfl (r_lenF Try.underlying54 rfl f0 rfl) ?_
  refine l_val rfl rfl rfl (r_move (v := .int .i64 0) rfl) ?_
  refine l_nil ?_
  refine c_block ?_
  refine c_fix (σ := Int × Int × Int) (τ := Unit) (fun next1 s => where_middle_l1 a0 next1 s.1 s.2.1 s.2.2) (fun s t => [(0, v0), (3, .int .i64 s.1), (4, .int .i64 s.2.1), (10, v0), (11, .int .i64 (a0.length : Int)), (12, .int .i64 s.2.2)]) (fun s t => []) (fun s t => True) (0, (-1), 0) () [] H (by exact trivial) (by exact ⟨rfl, rfl, rfl, rfl, rfl, rfl, trivial⟩) (by decide) rfl ?_
  rintro ⟨x3_2, x4_3, x12_3⟩ _ m1 gg H19 _
  clear H
  replace H19 : where_middle_l1 a0 (it (fun next1 s => where_middle_l1 a0 next1 s.1 s.2.1 s.2.2) m1) x3_2 x4_3 x12_3 = some r := H19
  generalize hn1 : it (fun next1 s => where_middle_l1 a0 next1 s.1 s.2.1 s.2.2) m1 = next1 at H19
  refine c_tidyF [(0, v0), (3, .int .i64 x3_2), (4, .int .i64 x4_3), (10, v0), (11, .int .i64 (a0.length : Int)), (12, .int .i64 x12_3)] [] rfl rfl ?_
  refine c_seq ?_
  refine c_region ?_
  refine l_val rfl rfl rfl (r_lss rfl rfl) ?_
  refine l_nil ?_
  refine c_seq ?_
  refine c_if (b := (decide (x12_3 < (a0.length : Int)))) rfl (fun hb => ?_) (fun hb => ?_)
  · have H20 := cnd_t hb H19; clear H19
    refine c_skip ?_
    refine c_meet (r := r) (σ := Int × Int) (τ := Unit) (fun s => where_middle_j2 x12_3 next1 s.1 s.2) (fun s t => [(0, v0), (3, .int .i64 s.1), (4, .int .i64 s.2), (10, v0), (11, .int .i64 (a0.length : Int)), (12, .int .i64 x12_3)]) (fun s t => []) (fun s t => True) ?_ ?_
    · refine c_block ?_
      refine c_seq ?_
      refine c_region ?_
      refine l_val rfl rfl rfl (r_move (v := .int .i64 x12_3) rfl) ?_
      obtain ⟨t15, h_t15, H23⟩ := bnd_some H20; clear H20
      refine l_val rfl rfl rfl (r_indexF Try.underlying54 Try.sizeOf25 rfl rfl f0 h_t15) ?_
      refine l_read (fun w hF hS => run_loadGN (j := 0) (vs := [.int .i64 t15.Lat, .int .i64 t15.Lon]) Try.isAgg25 Try.sizeOf25 rfl rfl (f0.row (hw.now hF)) h_t15 rfl) rfl rfl rfl ?_
      refine l_alloc (cs := [.int .i64 0, .int .i64 0]) Try.zeroValue25 rfl rfl rfl (fun b2 => ?_)
      refine l_val rfl rfl rfl (r_assign (v := .int .i64 x12_3) rfl) ?_
      refine l_store (i := 0) (vs := [.int .i64 t15.Lat, .int .i64 t15.Lon]) (cs' := [.int .i64 t15.Lat, .int .i64 t15.Lon]) Try.sizeOf25 rfl rfl rfl rfl rfl rfl rfl rfl rfl ?_
      refine l_nil ?_
      refine c_seq ?_
      refine c_region ?_
      refine l_val rfl rfl rfl (r_assign (v := .int .i64 0) rfl) ?_
      refine l_nil ?_
      refine c_meet (r := r) (σ := Int) (τ := Unit) (fun s => where_middle_j3 x3_2 x4_3 x12_3 next1 s) (fun s t => [(0, v0), (3, .int .i64 x3_2), (4, .int .i64 x4_3), (5, .int .i64 x12_3), (7, .int .i64 s), (10, v0), (11, .int .i64 (a0.length : Int)), (12, .int .i64 x12_3)]) (fun s t => []) (fun s t => True) ?_ ?_
      · refine c_seq ?_
        refine c_region ?_
        refine l_val rfl rfl rfl (r_move (v := v0) rfl) ?_
        refine l_val rfl rfl rfl (r_lenF Try.underlying54 rfl f0 rfl) ?_
        refine l_val rfl rfl rfl (r_move (v := .int .i64 0) rfl) ?_
        refine l_nil ?_
        refine c_block ?_
        refine c_fix (σ := Int × Int) (τ := Unit) (fun next4 s => where_middle_l4 a0 x3_2 x4_3 x12_3 next1 t15 next4 s.1 s.2) (fun s t => [(0, v0), (3, .int .i64 x3_2), (4, .int .i64 x4_3), (5, .int .i64 x12_3), (6, .pointer (some ⟨b2, 0, none⟩)), (7, .int .i64 s.1), (10, v0), (11, .int .i64 (a0.length : Int)), (12, .int .i64 x12_3), (17, v0), (18, .int .i64 (a0.length : Int)), (19, .int .i64 s.2)]) (fun s t => [cellsC b2 [.int .i64 t15.Lat, .int .i64 t15.Lon] 25]) (fun s t => True) (0, 0) () [0] H23 (by exact trivial) (by exact ⟨rfl, rfl, rfl, rfl, rfl, rfl, rfl, rfl, rfl, rfl, rfl, rfl, trivial⟩) (by decide) rfl ?_
        rintro ⟨x7_3, x19_2⟩ _ m4 gg H29 _
        clear H23
        replace H29 : where_middle_l4 a0 x3_2 x4_3 x12_3 next1 t15 (it (fun next4 s => where_middle_l4 a0 x3_2 x4_3 x12_3 next1 t15 next4 s.1 s.2) m4) x7_3 x19_2 = some r := H29
        generalize hn4 : it (fun next4 s => where_middle_l4 a0 x3_2 x4_3 x12_3 next1 t15 next4 s.1 s.2) m4 = next4 at H29
        refine c_tidyF [(0, v0), (3, .int .i64 x3_2), (4, .int .i64 x4_3), (5, .int .i64 x12_3), (6, .pointer (some ⟨b2, 0, none⟩)), (7, .int .i64 x7_3), (10, v0), (11, .int .i64 (a0.length : Int)), (12, .int .i64 x12_3), (17, v0), (18, .int .i64 (a0.length : Int)), (19, .int .i64 x19_2)] [cellsC b2 [.int .i64 t15.Lat, .int .i64 t15.Lon] 25] rfl rfl ?_
        refine c_seq ?_
        refine c_region ?_
        refine l_val rfl rfl rfl (r_lss rfl rfl) ?_
        refine l_nil ?_
        refine c_seq ?_
        refine c_if (b := (decide (x19_2 < (a0.length : Int)))) rfl (fun hb => ?_) (fun hb => ?_)
        · have H30 := cnd_t hb H29; clear H29
          refine c_skip ?_
          refine c_seq ?_
          refine c_block ?_
          refine c_seq ?_
          refine c_region ?_
          obtain ⟨t21, h_t21, H31⟩ := bnd_some H30; clear H30
          refine l_val rfl rfl rfl (r_indexF Try.underlying54 Try.sizeOf25 rfl rfl f0 h_t21) ?_
          refine l_read (fun w hF hS => run_loadGN (j := 0) (vs := [.int .i64 t21.Lat, .int .i64 t21.Lon]) Try.isAgg25 Try.sizeOf25 rfl rfl (f0.row (hw.now hF)) h_t21 rfl) rfl rfl rfl ?_
          refine l_alloc (cs := [.int .i64 0, .int .i64 0]) Try.zeroValue25 rfl rfl rfl (fun b3 => ?_)
          refine l_store (i := 1) (vs := [.int .i64 t21.Lat, .int .i64 t21.Lon]) (cs' := [.int .i64 t21.Lat, .int .i64 t21.Lon]) Try.sizeOf25 rfl rfl rfl rfl rfl rfl rfl rfl rfl ?_
          refine l_nil ?_
          refine c_region ?_
          refine l_val rfl rfl rfl (r_move (v := .int .i64 x7_3) rfl) ?_
          refine l_loadN (i := 0) (vs := [.int .i64 t15.Lat, .int .i64 t15.Lon]) Try.isAgg25 Try.sizeOf25 rfl rfl rfl rfl rfl ?_
          refine l_loadN (i := 1) (vs := [.int .i64 t21.Lat, .int .i64 t21.Lon]) Try.isAgg25 Try.sizeOf25 rfl rfl rfl rfl rfl ?_
          obtain ⟨t26, h_t26, H32⟩ := bnd_some H31; clear H31
          refine l_call (k81 h_t26) Try.call81 rfl rfl rfl ?_
          obtain ⟨t27, h_t27, H33⟩ := bnd_some H32; clear H32
          refine l_val rfl rfl rfl (r_addG rfl rfl h_t27) ?_
          refine l_val rfl rfl rfl (r_assign (v := .int .i64 t27) rfl) ?_
          refine l_nil ?_
          refine c_region ?_
          obtain ⟨t28, h_t28, H34⟩ := bnd_some H33; clear H33
          refine l_val rfl rfl rfl (r_addG rfl rfl h_t28) ?_
          refine l_val rfl rfl rfl (r_move (v := .int .i64 t28) rfl) ?_
          refine l_nil ?_
          refine c_close (t27, t28) () m4 [0] (by exact ⟨rfl, rfl, rfl, rfl, rfl, rfl, rfl, rfl, rfl, rfl, rfl, rfl, trivial⟩) (by decide) rfl (by exact ⟨(by subst hn4; exact H34), trivial⟩) (Nat.lt_succ_self _)
        · have H35 := cnd_f hb H29; clear H29
          refine c_exit ?_
          refine c_close x7_3 () 0 [] (by exact ⟨rfl, rfl, rfl, rfl, rfl, rfl, rfl, rfl, trivial⟩) (by decide) rfl (by exact ⟨H35, trivial⟩) (Nat.lt_succ_self _)
      · rintro x7 _ gg H24 _
        replace H24 : where_middle_j3 x3_2 x4_3 x12_3 next1 x7 = some r := H24
        refine c_tidyF [(0, v0), (3, .int .i64 x3_2), (4, .int .i64 x4_3), (5, .int .i64 x12_3), (7, .int .i64 x7), (10, v0), (11, .int .i64 (a0.length : Int)), (12, .int .i64 x12_3)] [] rfl rfl ?_
        refine c_seq ?_
        refine c_region ?_
        refine l_val rfl rfl rfl (r_move (v := .int .i64 x4_3) rfl) ?_
        refine l_val rfl rfl rfl (r_lss rfl rfl) ?_
        refine l_val rfl rfl rfl (r_move (v := .bool (decide (x4_3 < 0))) rfl) ?_
        refine split (fun hb => ?_) (fun hb => ?_)
        · have H25 := cnd_t hb H24; clear H24
          refine l_passed rfl rfl rfl ?_
          refine l_passed rfl rfl rfl ?_
          refine l_passed rfl rfl rfl ?_
          refine l_val rfl rfl rfl (r_pickT (v := .bool true) rfl rfl) ?_
          refine l_nil ?_
          refine c_true rfl ?_
          refine c_region ?_
          refine l_val rfl rfl rfl (r_move (v := .int .i64 x12_3) rfl) ?_
          refine l_val rfl rfl rfl (r_move (v := .int .i64 x7) rfl) ?_
          refine l_val rfl rfl rfl (r_assign (v := .int .i64 x12_3) rfl) ?_
          refine l_val rfl rfl rfl (r_assign (v := .int .i64 x7) rfl) ?_
          refine l_nil ?_
          refine c_close (x12_3, x7) () 0 [] (by exact ⟨rfl, rfl, rfl, rfl, rfl, rfl, trivial⟩) (by decide) rfl (by exact ⟨H25, trivial⟩) (Nat.lt_succ_self _)
        · have H26 := cnd_f hb H24; clear H24
          refine l_val rfl rfl rfl (r_move (v := .int .i64 x7) rfl) ?_
          refine l_val rfl rfl rfl (r_move (v := .int .i64 x4_3) rfl) ?_
          refine l_val rfl rfl rfl (r_lss rfl rfl) ?_
          refine l_val rfl rfl rfl (r_pickF (v := .bool (decide (x7 < x4_3))) rfl rfl) ?_
          refine l_nil ?_
          refine c_if (b := (decide (x7 < x4_3))) rfl (fun hb => ?_) (fun hb => ?_)
          · have H27 := cnd_t hb H26; clear H26
            refine c_region ?_
            refine l_val rfl rfl rfl (r_move (v := .int .i64 x12_3) rfl) ?_
            refine l_val rfl rfl rfl (r_move (v := .int .i64 x7) rfl) ?_
            refine l_val rfl rfl rfl (r_assign (v := .int .i64 x12_3) rfl) ?_
            refine l_val rfl rfl rfl (r_assign (v := .int .i64 x7) rfl) ?_
            refine l_nil ?_
            refine c_close (x12_3, x7) () 0 [] (by exact ⟨rfl, rfl, rfl, rfl, rfl, rfl, trivial⟩) (by decide) rfl (by exact ⟨H27, trivial⟩) (Nat.lt_succ_self _)
          · have H28 := cnd_f hb H26; clear H26
            refine c_skip ?_
            refine c_close (x3_2, x4_3) () 0 [] (by exact ⟨rfl, rfl, rfl, rfl, rfl, rfl, trivial⟩) (by decide) rfl (by exact ⟨H28, trivial⟩) (Nat.lt_succ_self _)
    · rintro ⟨x3_3, x4_4⟩ _ gg H21 _
      replace H21 : where_middle_j2 x12_3 next1 x3_3 x4_4 = some r := H21
      refine c_tidyF [(0, v0), (3, .int .i64 x3_3), (4, .int .i64 x4_4), (10, v0), (11, .int .i64 (a0.length : Int)), (12, .int .i64 x12_3)] [] rfl rfl ?_
      refine c_region ?_
      obtain ⟨t38, h_t38, H22⟩ := bnd_some H21; clear H21
      refine l_val rfl rfl rfl (r_addG rfl rfl h_t38) ?_
      refine l_val rfl rfl rfl (r_move (v := .int .i64 t38) rfl) ?_
      refine l_nil ?_
      refine c_close (x3_3, x4_4, t38) () m1 [] (by exact ⟨rfl, rfl, rfl, rfl, rfl, rfl, trivial⟩) (by decide) rfl (by exact ⟨(by subst hn1; exact H22), trivial⟩) (Nat.lt_succ_self _)
  · have H36 := cnd_f hb H19; clear H19
    refine c_exit ?_
    refine c_seq ?_
    refine c_region ?_
    refine l_val rfl rfl rfl (r_move (v := .int .i64 x3_2) rfl) ?_
    refine l_val rfl rfl rfl (r_assign (v := .int .i64 x3_2) rfl) ?_
    refine l_nil ?_
    refine c_ret ?_
    obtain rfl := Option.some.inj H36
    refine ret1 (v := .int .i64 x3_2) rfl rfl (fin rfl)
theorem k95 {a0 : (List T_api_Place)} {v0 : Value} {r : T_api_Place} {w : World} {h : Heap} (hw : Know h w noS) (f0 : FrS h 2 v0 (a0.map e_api_Place)) (H : where_Stops_4 a0 = some r) : Does Try.prog 95 (List.toArray [v0]) w (fun v w' => v = (.agg #[.int .i64 r.Lat, .int .i64 r.Lon]) ∧ Grow w w') := by
  refine enter (n := 8) Try.func95 rfl rfl rfl noS [] (Sat.nil _ _) ?_
  refine c_seq ?_
  refine c_region ?_
  refine l_alloc (cs := [.int .i64 0, .int .i64 0]) Try.zeroValue25 rfl rfl rfl (fun b1 => ?_)
  refine l_nil ?_
  refine c_seq ?_
  refine c_region ?_
  refine l_val rfl rfl rfl (r_move (v := v0) rfl) ?_
  refine l_val rfl rfl rfl (r_move (v := v0) rfl) ?_
  obtain ⟨t5, h_t5, H3⟩ := bnd_some H; clear H
  refine l_callG (fun w hF hS => k96 (know_all w) (f0.mono (hw.now hF)) h_t5) Try.call96 rfl rfl rfl ?_
  obtain ⟨t6, h_t6, H4⟩ := bnd_some H3; clear H3
  refine l_val rfl rfl rfl (r_indexF Try.underlying54 Try.sizeOf25 rfl rfl f0 h_t6) ?_
  refine l_read (fun w hF hS => run_loadGN (j := 0) (vs := [.int .i64 t6.Lat, .int .i64 t6.Lon]) Try.isAgg25 Try.sizeOf25 rfl rfl (f0.row (hw.now hF)) h_t6 rfl) rfl rfl rfl ?_
  refine l_store (i := 0) (vs := [.int .i64 t6.Lat, .int .i64 t6.Lon]) (cs' := [.int .i64 t6.Lat, .int .i64 t6.Lon]) Try.sizeOf25 rfl rfl rfl rfl rfl rfl rfl rfl rfl ?_
  refine l_nil ?_
  refine c_ret ?_
  obtain rfl := Option.some.inj H4
  refine retC (i := 0) (vs := [.int .i64 t6.Lat, .int .i64 t6.Lon]) Try.isAgg25 Try.sizeOf25 rfl rfl rfl rfl (fin rfl)
theorem k120 {a : Option Addr} {n c : Nat} (hc : n ≤ c) : Ret Try.prog 120 [.slice a n c] (.slice (cutA a 0 n 4) n n) := by
  refine enterRet (n := 9) Try.func120 rfl rfl rfl (fun wd => ?_)
  refine c_seq ?_
  refine c_region ?_
  refine l_val rfl rfl rfl (r_assign (v := .slice none 0 0) rfl) ?_
  refine l_nil ?_
  refine c_seq ?_
  refine c_region ?_
  refine l_val rfl rfl rfl (r_move (v := .slice a n c) rfl) ?_
  refine l_val rfl rfl rfl (r_move (v := .slice a n c) rfl) ?_
  refine l_val rfl rfl rfl (r_len Try.underlying84 rfl) ?_
  refine l_val rfl rfl rfl (r_move (v := .slice a n c) rfl) ?_
  refine l_val rfl rfl rfl (r_len Try.underlying84 rfl) ?_
  refine l_val rfl rfl rfl (r_sliceHM (a := a) (m := n) (c := c) (h := (n : Int)) (q := (n : Int)) Try.underlying84 Try.sizeOf90 rfl rfl rfl (Int.natCast_nonneg n) (Int.le_refl _) (Int.ofNat_le.2 hc)) ?_
  refine l_val rfl rfl rfl (r_assign (v := .slice (cutA a 0 n 4) n n) rfl) ?_
  refine l_nil ?_
  refine c_ret ?_
  exact ret1 (v := .slice (cutA a 0 n 4) n n) rfl rfl (fin rfl)

theorem k97 {a0 : T_where_part} {v0_0 : Value} {v0_1 : Value} {v0_2 : Value} {v0_3 : Value} {a1 : (List T_where_Fix)} {v1 : Value} {r : (List T_where_Stop)} {w : World} {h : Heap} (hw : Know h w noS) (f0_0 : FnH Try.prog h v0_0 (fnR_func_where_Fix_int_int a0.end_)) (f0_1 : FnH Try.prog h v0_1 (fnR_func_where_Fix_int_int_bool a0.counts_)) (f0_2 : FnH Try.prog h v0_2 (fnR_func_int_int_int a0.step_)) (f0_3 : FnH Try.prog h v0_3 (fnR_func_api_Place_api_Place a0.place_)) (f1 : FrS h 3 v1 (a1.map e_where_Fix)) (H : where_part_parts a0 a1 = some r) : Does Try.prog 97 (List.toArray [.agg #[v0_0, v0_1, v0_2, v0_3], v1]) w (fun v w' => ∃ x : (Option Addr × Nat), v = (.slice x.1 r.length x.2) ∧ Turn w w' noS (roV 4 (.slice x.1 r.length x.2) r.length (r.map e_where_Stop))) := by
  refine enter (n := 62) Try.func97 rfl rfl rfl noS [] (Sat.nil _ _) ?_
  refine c_seq ?_
  refine c_region ?_
  refine l_box (cs := [v0_0, v0_1, v0_2, v0_3]) rfl rfl rfl rfl (fun b8 => ?_)
  refine l_val rfl rfl rfl (r_assign (v := .slice none 0 0) rfl) ?_
  refine l_nil ?_
  refine c_seq ?_
  refine c_region ?_
  refine l_val rfl rfl rfl (r_assign (v := .slice none 0 0) rfl) ?_
  refine l_nil ?_
  refine c_meet (r := r) (σ := (List T_where_Stop)) (τ := (Option Addr × Nat)) (fun s => where_part_parts_j1 s) (fun s t => [(5, .slice t.1 s.length t.2)]) (fun s t => [rowV 90 4 (.slice t.1 s.length t.2) s.length (s.map e_where_Stop)]) (fun s t => True) ?_ ?_
  · refine c_seq ?_
    refine c_region ?_
    refine l_val rfl rfl rfl (r_assign (v := .int .i64 0) rfl) ?_
    refine l_nil ?_
    refine c_block ?_
    refine c_nilRow 90 4 ?_
    refine c_fix (σ := Int × (List T_where_Stop)) (τ := (Option Addr × Nat)) (fun next2 s => where_part_parts_l2 a0 a1 next2 s.1 s.2) (fun s t => [(1, v1), (2, .pointer (some ⟨b8, 0, none⟩)), (5, .slice t.1 s.2.length t.2), (6, .int .i64 s.1)]) (fun s t => [cellsC b8 [v0_0, v0_1, v0_2, v0_3] 125, rowV 90 4 (.slice t.1 s.2.length t.2) s.2.length (s.2.map e_where_Stop)]) (fun s t => True) (0, ([] : List T_where_Stop)) ((none, 0) : Option Addr × Nat) [0, 1] H (by exact trivial) (by exact ⟨rfl, rfl, rfl, rfl, trivial⟩) (by decide) rfl ?_
    rintro ⟨x6_2, l_3⟩ p_2 m2 gg H44 _
    clear H
    replace H44 : where_part_parts_l2 a0 a1 (it (fun next2 s => where_part_parts_l2 a0 a1 next2 s.1 s.2) m2) x6_2 l_3 = some r := H44
    generalize hn2 : it (fun next2 s => where_part_parts_l2 a0 a1 next2 s.1 s.2) m2 = next2 at H44
    refine c_tidyF [(1, v1), (2, .pointer (some ⟨b8, 0, none⟩)), (5, .slice p_2.1 l_3.length p_2.2), (6, .int .i64 x6_2)] [cellsC b8 [v0_0, v0_1, v0_2, v0_3] 125, rowV 90 4 (.slice p_2.1 l_3.length p_2.2) l_3.length (l_3.map e_where_Stop)] rfl rfl ?_
    refine c_seq ?_
    refine c_seq ?_
    refine c_region ?_
    refine l_val rfl rfl rfl (r_move (v := .int .i64 x6_2) rfl) ?_
    refine l_val rfl rfl rfl (r_move (v := v1) rfl) ?_
    refine l_val rfl rfl rfl (r_lenF Try.underlying49 rfl f1 rfl) ?_
    refine l_val rfl rfl rfl (r_lss rfl rfl) ?_
    refine l_nil ?_
    refine c_if (b := (decide (x6_2 < (a1.length : Int)))) rfl (fun hb => ?_) (fun hb => ?_)
    · have H45 := cnd_t hb H44; clear H44
      refine c_skip ?_
      refine c_block ?_
      refine c_seq ?_
      refine c_region ?_
      refine l_val rfl rfl rfl (r_field Try.runUnderlying125 rfl Try.sizeOf122 rfl rfl) ?_
      refine l_load1 (i := 0) (v := v0_0) Try.isAgg122 rfl rfl rfl rfl rfl ?_
      refine l_val rfl rfl rfl (r_move (v := v1) rfl) ?_
      refine l_val rfl rfl rfl (r_move (v := .int .i64 x6_2) rfl) ?_
      obtain ⟨t19, h_t19, H46⟩ := bnd_some H45; clear H45
      refine l_callV (R := fnR_func_where_Fix_int_int a0.end_) (r := .int .i64 t19) (v := v0_0) (fun w hF hS => ⟨(f0_0.mono (hw.now hF)), ⟨a1, _, x6_2, _, (f1.mono (hw.now hF)), rfl, h_t19, rfl⟩⟩) rfl rfl rfl rfl ?_
      refine l_val rfl rfl rfl (r_assign (v := .int .i64 t19) rfl) ?_
      refine l_nil ?_
      refine c_seq ?_
      refine c_seq ?_
      refine c_region ?_
      refine l_val rfl rfl rfl (r_field Try.runUnderlying125 rfl Try.sizeOf83 rfl rfl) ?_
      refine l_load1 (i := 0) (v := v0_1) Try.isAgg83 rfl rfl rfl rfl rfl ?_
      refine l_val rfl rfl rfl (r_move (v := v1) rfl) ?_
      refine l_val rfl rfl rfl (r_move (v := .int .i64 x6_2) rfl) ?_
      refine l_val rfl rfl rfl (r_move (v := .int .i64 t19) rfl) ?_
      obtain ⟨t25, h_t25, H47⟩ := bnd_some H46; clear H46
      refine l_callV (R := fnR_func_where_Fix_int_int_bool a0.counts_) (r := .bool t25) (v := v0_1) (fun w hF hS => ⟨(f0_1.mono (hw.now hF)), ⟨a1, _, x6_2, t19, _, (f1.mono (hw.now hF)), rfl, h_t25, rfl⟩⟩) rfl rfl rfl rfl ?_
      refine l_val rfl rfl rfl (r_not rfl) ?_
      refine l_nil ?_
      refine c_if (b := (!t25)) rfl (fun hb => ?_) (fun hb => ?_)
      · have H48 := cnd_t hb H47; clear H47
        refine c_seq ?_
        refine c_region ?_
        refine l_val rfl rfl rfl (r_field Try.runUnderlying125 rfl Try.sizeOf107 rfl rfl) ?_
        refine l_load1 (i := 0) (v := v0_2) Try.isAgg107 rfl rfl rfl rfl rfl ?_
        refine l_val rfl rfl rfl (r_move (v := .int .i64 x6_2) rfl) ?_
        refine l_val rfl rfl rfl (r_move (v := .int .i64 t19) rfl) ?_
        obtain ⟨t31, h_t31, H49⟩ := bnd_some H48; clear H48
        refine l_callV (R := fnR_func_int_int_int a0.step_) (r := .int .i64 t31) (v := v0_2) (fun w hF hS => ⟨(f0_2.mono (hw.now hF)), ⟨x6_2, t19, _, rfl, h_t31, rfl⟩⟩) rfl rfl rfl rfl ?_
        refine l_val rfl rfl rfl (r_assign (v := .int .i64 t31) rfl) ?_
        refine l_nil ?_
        refine c_exit ?_
        refine c_close (t31, l_3) p_2 m2 [0, 1] (by exact ⟨rfl, rfl, rfl, rfl, trivial⟩) (by decide) rfl (by exact ⟨(by subst hn2; exact H49), trivial⟩) (Nat.lt_succ_self _)
      · have H50 := cnd_f hb H47; clear H47
        refine c_skip ?_
        refine c_seq ?_
        refine c_region ?_
        refine l_val rfl rfl rfl (r_assign (v := .slice none 0 0) rfl) ?_
        refine l_nil ?_
        refine c_meet (r := r) (σ := (List T_api_Place)) (τ := (Option Addr × Nat)) (fun s => where_part_parts_j3 a0 x6_2 l_3 next2 t19 s) (fun s t => [(1, v1), (2, .pointer (some ⟨b8, 0, none⟩)), (5, .slice p_2.1 l_3.length p_2.2), (6, .int .i64 x6_2), (7, .int .i64 t19), (8, .slice t.1 s.length t.2)]) (fun s t => [cellsC b8 [v0_0, v0_1, v0_2, v0_3] 125, rowV 90 4 (.slice p_2.1 l_3.length p_2.2) l_3.length (l_3.map e_where_Stop), rowV 25 2 (.slice t.1 s.length t.2) s.length (s.map e_api_Place)]) (fun s t => True) ?_ ?_
        · refine c_seq ?_
          refine c_region ?_
          refine l_val rfl rfl rfl (r_move (v := v1) rfl) ?_
          refine l_val rfl rfl rfl (r_move (v := .int .i64 x6_2) rfl) ?_
          refine l_val rfl rfl rfl (r_move (v := .int .i64 t19) rfl) ?_
          obtain ⟨t35, h_t35, H55⟩ := bnd_some H50; clear H50
          refine l_val rfl rfl rfl (r_addG rfl rfl h_t35) ?_
          obtain ⟨t36, h_t36, H56⟩ := bnd_some H55; clear H55
          refine l_val rfl rfl rfl (r_sliceLHF Try.underlying49 Try.sizeOf78 rfl rfl rfl f1 h_t36) ?_
          refine l_val rfl rfl rfl (r_lenF Try.underlying49 rfl (f1.cut h_t36) rfl) ?_
          refine l_val rfl rfl rfl (r_move (v := .int .i64 0) rfl) ?_
          refine l_nil ?_
          refine c_block ?_
          refine c_nilRow 25 2 ?_
          refine c_fix (σ := Int × (List T_api_Place)) (τ := (Option Addr × Nat)) (fun next4 s => where_part_parts_l4 a0 x6_2 l_3 next2 t19 t36 next4 s.1 s.2) (fun s t => [(1, v1), (2, .pointer (some ⟨b8, 0, none⟩)), (5, .slice p_2.1 l_3.length p_2.2), (6, .int .i64 x6_2), (7, .int .i64 t19), (8, .slice t.1 s.2.length t.2), (36, (cutV 3 v1 x6_2 t35)), (37, .int .i64 (t36.length : Int)), (38, .int .i64 s.1)]) (fun s t => [cellsC b8 [v0_0, v0_1, v0_2, v0_3] 125, rowV 90 4 (.slice p_2.1 l_3.length p_2.2) l_3.length (l_3.map e_where_Stop), rowV 25 2 (.slice t.1 s.2.length t.2) s.2.length (s.2.map e_api_Place)]) (fun s t => True) (0, ([] : List T_api_Place)) ((none, 0) : Option Addr × Nat) [0, 1, 2] H56 (by exact trivial) (by exact ⟨rfl, rfl, rfl, rfl, rfl, rfl, rfl, rfl, rfl, trivial⟩) (by decide) rfl ?_
          rintro ⟨x38_2, l_6⟩ p_5 m4 gg H57 _
          clear H56
          replace H57 : where_part_parts_l4 a0 x6_2 l_3 next2 t19 t36 (it (fun next4 s => where_part_parts_l4 a0 x6_2 l_3 next2 t19 t36 next4 s.1 s.2) m4) x38_2 l_6 = some r := H57
          generalize hn4 : it (fun next4 s => where_part_parts_l4 a0 x6_2 l_3 next2 t19 t36 next4 s.1 s.2) m4 = next4 at H57
          refine c_tidyF [(1, v1), (2, .pointer (some ⟨b8, 0, none⟩)), (5, .slice p_2.1 l_3.length p_2.2), (6, .int .i64 x6_2), (7, .int .i64 t19), (8, .slice p_5.1 l_6.length p_5.2), (36, (cutV 3 v1 x6_2 t35)), (37, .int .i64 (t36.length : Int)), (38, .int .i64 x38_2)] [cellsC b8 [v0_0, v0_1, v0_2, v0_3] 125, rowV 90 4 (.slice p_2.1 l_3.length p_2.2) l_3.length (l_3.map e_where_Stop), rowV 25 2 (.slice p_5.1 l_6.length p_5.2) l_6.length (l_6.map e_api_Place)] rfl rfl ?_
          refine c_seq ?_
          refine c_region ?_
          refine l_val rfl rfl rfl (r_lss rfl rfl) ?_
          refine l_nil ?_
          refine c_seq ?_
          refine c_if (b := (decide (x38_2 < (t36.length : Int)))) rfl (fun hb => ?_) (fun hb => ?_)
          · have H58 := cnd_t hb H57; clear H57
            refine c_skip ?_
            refine c_seq ?_
            refine c_block ?_
            refine c_seq ?_
            refine c_region ?_
            obtain ⟨t40, h_t40, H59⟩ := bnd_some H58; clear H58
            refine l_val rfl rfl rfl (r_indexF Try.underlying49 Try.sizeOf78 rfl rfl (f1.cut h_t36) h_t40) ?_
            refine l_read (fun w hF hS => run_loadGN (j := 0) (vs := [.int .i64 t40.Moment, .int .i64 t40.Place.Lat, .int .i64 t40.Place.Lon]) Try.isAgg78 Try.sizeOf78 rfl rfl ((f1.cut h_t36).row (hw.now hF)) h_t40 rfl) rfl rfl rfl ?_
            refine l_alloc (cs := [.int .i64 0, .int .i64 0, .int .i64 0]) Try.zeroValue78 rfl rfl rfl (fun b10 => ?_)
            refine l_store (i := 3) (vs := [.int .i64 t40.Moment, .int .i64 t40.Place.Lat, .int .i64 t40.Place.Lon]) (cs' := [.int .i64 t40.Moment, .int .i64 t40.Place.Lat, .int .i64 t40.Place.Lon]) Try.sizeOf78 rfl rfl rfl rfl rfl rfl rfl rfl rfl ?_
            refine l_nil ?_
            refine c_region ?_
            refine l_val rfl rfl rfl (r_move (v := .slice p_5.1 l_6.length p_5.2) rfl) ?_
            refine l_val rfl rfl rfl (r_field Try.runUnderlying78 rfl Try.sizeOf25 rfl rfl) ?_
            refine l_loadN (i := 3) (vs := [.int .i64 t40.Place.Lat, .int .i64 t40.Place.Lon]) Try.isAgg25 Try.sizeOf25 rfl rfl rfl rfl rfl ?_
            refine l_buildSlice (vs := [.agg #[.int .i64 t40.Place.Lat, .int .i64 t40.Place.Lon]]) (cs := [.int .i64 t40.Place.Lat, .int .i64 t40.Place.Lon]) Try.underlying54 Try.sizeOf25 Try.zeroValue25 rfl rfl rfl rfl rfl rfl rfl (fun b11 => ?_)
            obtain ⟨l46, h_l46, H60⟩ := bnd_some H59; clear H59
            refine l_turn (turns_appG (i := 2) (hn := rfl) (rds := [4]) (p := p_5) (sz := 2) (by_ := 16) (f := e_api_Place) (ys := l_6) (ls := ([t40.Place] : List T_api_Place)) (V := .slice (some ⟨b11, 0, none⟩) 1 1) Try.underlying54 (info_of Try.typeInfo25) rfl rfl rfl rfl rfl rfl rfl rfl rfl rfl (fun w L' hF hS hi => row_box (i := 4) hS ((hi 4 (by simp)).trans rfl) rfl rfl) (fun _ => rfl) (fun _ => rfl) h_l46) rfl rfl rfl (fun p_6 => ?_)
            refine l_val rfl rfl rfl (r_assign (v := .slice p_6.1 l46.length p_6.2) rfl) ?_
            refine l_nil ?_
            refine c_region ?_
            obtain ⟨t47, h_t47, H61⟩ := bnd_some H60; clear H60
            refine l_val rfl rfl rfl (r_addG rfl rfl h_t47) ?_
            refine l_val rfl rfl rfl (r_move (v := .int .i64 t47) rfl) ?_
            refine l_nil ?_
            refine c_close (t47, l46) p_6 m4 [0, 1, 2] (by exact ⟨rfl, rfl, rfl, rfl, rfl, rfl, rfl, rfl, rfl, trivial⟩) (by decide) rfl (by exact ⟨(by subst hn4; exact H61), trivial⟩) (Nat.lt_succ_self _)
          · have H62 := cnd_f hb H57; clear H57
            refine c_exit ?_
            refine c_close l_6 p_5 0 [0, 1, 2] (by exact ⟨rfl, rfl, rfl, rfl, rfl, rfl, trivial⟩) (by decide) rfl (by exact ⟨H62, trivial⟩) (Nat.lt_succ_self _)
        · rintro l_4 p_3 gg H51 _
          replace H51 : where_part_parts_j3 a0 x6_2 l_3 next2 t19 l_4 = some r := H51
          refine c_tidyF [(1, v1), (2, .pointer (some ⟨b8, 0, none⟩)), (5, .slice p_2.1 l_3.length p_2.2), (6, .int .i64 x6_2), (7, .int .i64 t19), (8, .slice p_3.1 l_4.length p_3.2)] [cellsC b8 [v0_0, v0_1, v0_2, v0_3] 125, rowV 90 4 (.slice p_2.1 l_3.length p_2.2) l_3.length (l_3.map e_where_Stop), rowV 25 2 (.slice p_3.1 l_4.length p_3.2) l_4.length (l_4.map e_api_Place)] rfl rfl ?_
          refine c_seq ?_
          refine c_region ?_
          refine l_val rfl rfl rfl (r_move (v := .slice p_2.1 l_3.length p_2.2) rfl) ?_
          refine l_val rfl rfl rfl (r_move (v := .int .i64 x6_2) rfl) ?_
          refine l_val rfl rfl rfl (r_move (v := .int .i64 t19) rfl) ?_
          refine l_val rfl rfl rfl (r_field Try.runUnderlying125 rfl Try.sizeOf123 rfl rfl) ?_
          refine l_load1 (i := 0) (v := v0_3) Try.isAgg123 rfl rfl rfl rfl rfl ?_
          refine l_val rfl rfl rfl (r_move (v := .slice p_3.1 l_4.length p_3.2) rfl) ?_
          obtain ⟨t54, h_t54, H52⟩ := bnd_some H51; clear H51
          refine l_callV (R := fnR_func_api_Place_api_Place a0.place_) (r := .agg #[.int .i64 t54.Lat, .int .i64 t54.Lon]) (v := v0_3) (fun w hF hS => ⟨(f0_3.mono (hw.now hF)), ⟨l_4, _, _, (frs_own (i := 2) rfl hS rfl), rfl, h_t54, rfl⟩⟩) rfl rfl rfl rfl ?_
          refine l_val rfl rfl rfl (r_build (pl := #[(0, 1), (1, 1), (2, 2)]) (ps := [(0, .int .i64 x6_2), (1, .int .i64 t19), (2, .agg #[.int .i64 t54.Lat, .int .i64 t54.Lon])]) (cells := #[.int .i64 x6_2, .int .i64 t19, .int .i64 t54.Lat, .int .i64 t54.Lon]) Try.zeroValue90 Try.runUnderlying90 (fun w => by kernel_rfl) rfl rfl) ?_
          refine l_buildSlice (vs := [.agg #[.int .i64 x6_2, .int .i64 t19, .int .i64 t54.Lat, .int .i64 t54.Lon]]) (cs := [.int .i64 x6_2, .int .i64 t19, .int .i64 t54.Lat, .int .i64 t54.Lon]) Try.underlying84 Try.sizeOf90 Try.zeroValue90 rfl rfl rfl rfl rfl rfl rfl (fun b9 => ?_)
          obtain ⟨l57, h_l57, H53⟩ := bnd_some H52; clear H52
          refine l_turn (turns_appG (i := 1) (hn := rfl) (rds := [3]) (p := p_2) (sz := 4) (by_ := 32) (f := e_where_Stop) (ys := l_3) (ls := ([(⟨x6_2, t19, t54⟩ : T_where_Stop)] : List T_where_Stop)) (V := .slice (some ⟨b9, 0, none⟩) 1 1) Try.underlying84 (info_of Try.typeInfo90) rfl rfl rfl rfl rfl rfl rfl rfl rfl rfl (fun w L' hF hS hi => row_box (i := 3) hS ((hi 3 (by simp)).trans rfl) rfl rfl) (fun _ => rfl) (fun _ => rfl) h_l57) rfl rfl rfl (fun p_4 => ?_)
          refine l_val rfl rfl rfl (r_assign (v := .slice p_4.1 l57.length p_4.2) rfl) ?_
          refine l_nil ?_
          refine c_region ?_
          refine l_val rfl rfl rfl (r_move (v := .int .i64 t19) rfl) ?_
          obtain ⟨t59, h_t59, H54⟩ := bnd_some H53; clear H53
          refine l_val rfl rfl rfl (r_addG rfl rfl h_t59) ?_
          refine l_val rfl rfl rfl (r_assign (v := .int .i64 t59) rfl) ?_
          refine l_nil ?_
          refine c_close (t59, l57) p_4 m2 [0, 1] (by exact ⟨rfl, rfl, rfl, rfl, trivial⟩) (by decide) rfl (by exact ⟨(by subst hn2; exact H54), trivial⟩) (Nat.lt_succ_self _)
    · have H63 := cnd_f hb H44; clear H44
      refine c_exit ?_
      refine c_close l_3 p_2 0 [1] (by exact ⟨rfl, trivial⟩) (by decide) rfl (by exact ⟨H63, trivial⟩) (Nat.lt_succ_self _)
  · rintro l p gg H43 _
    replace H43 : where_part_parts_j1 l = some r := H43
    refine c_tidyF [(5, .slice p.1 l.length p.2)] [rowV 90 4 (.slice p.1 l.length p.2) l.length (l.map e_where_Stop)] rfl rfl ?_
    refine c_seq ?_
    refine c_region ?_
    refine l_val rfl rfl rfl (r_move (v := .slice p.1 l.length p.2) rfl) ?_
    refine l_callG (fun w hF hS => k120 (capOf (i := 0) hS rfl) w) Try.call120 rfl rfl rfl ?_
    refine l_val rfl rfl rfl (r_assign (v := .slice (cutA p.1 0 l.length 4) l.length l.length) rfl) ?_
    refine l_nil ?_
    refine c_ret ?_
    obtain rfl := Option.some.inj H43
    refine c_imp 0 rfl (imp_clipO _ _ _ _ _ _) ?_
    refine ret1 (v := .slice (cutA p.1 0 l.length 4) l.length l.length) rfl rfl (finX (cutA p.1 0 l.length 4, l.length) (i := 0) rfl rfl (Imp.refl _))
theorem k48 {a0 : (List T_where_Fix)} {v0 : Value} {a1 : Int} {a2 : Int} {r : (List T_where_Stop) × Int} {w : World} {h : Heap} (hw : Know h w noS) (f0 : FrS h 3 v0 (a0.map e_where_Fix)) (H : where_Stops a0 a1 a2 = some r) : Does Try.prog 48 (List.toArray [v0, .int .i64 a1, .int .i64 a2]) w (fun v w' => ∃ x : (Option Addr × Nat), v = (.tuple #[.slice x.1 r.1.length x.2, .int .i64 r.2]) ∧ Turn w w' noS (roV 4 (.slice x.1 r.1.length x.2) r.1.length (r.1.map e_where_Stop))) := by
  refine enter (n := 23) Try.func48 rfl rfl rfl noS [] (Sat.nil _ _) ?_
  refine c_seq ?_
  refine c_region ?_
  refine l_box (cs := [.int .i64 a1]) rfl rfl rfl rfl (fun b6 => ?_)
  refine l_box (cs := [.int .i64 a2]) rfl rfl rfl rfl (fun b7 => ?_)
  refine l_val rfl rfl rfl (r_assign (v := .slice none 0 0) rfl) ?_
  refine l_val rfl rfl rfl (r_assign (v := .int .i64 0) rfl) ?_
  refine l_nil ?_
  refine c_seq ?_
  refine c_seq ?_
  refine c_region ?_
  refine l_val rfl rfl rfl (r_move (v := v0) rfl) ?_
  refine l_load1 (i := 0) (v := .int .i64 a1) Try.isAgg3 rfl rfl rfl rfl rfl ?_
  refine l_load1 (i := 1) (v := .int .i64 a2) Try.isAgg3 rfl rfl rfl rfl rfl ?_
  obtain ⟨t13, h_t13, H9⟩ := bnd_some H; clear H
  refine l_callG (fun w hF hS => k91 (know_all w) (f0.mono (hw.now hF)) h_t13) Try.call91 rfl rfl rfl ?_
  refine l_val rfl rfl rfl (r_assign (v := .int .i64 t13) rfl) ?_
  refine l_nil ?_
  refine c_seq ?_
  refine c_region ?_
  refine l_val rfl rfl rfl (r_move (v := .int .i64 t13) rfl) ?_
  refine l_val rfl rfl rfl (r_neq rfl rfl) ?_
  refine l_nil ?_
  refine c_if (b := (decide (t13 ≠ 0))) rfl (fun hb => ?_) (fun hb => ?_)
  · have H10 := cnd_t hb H9; clear H9
    refine c_seq ?_
    refine c_region ?_
    refine l_val rfl rfl rfl (r_move (v := .int .i64 t13) rfl) ?_
    refine l_val rfl rfl rfl (r_assign (v := .slice none 0 0) rfl) ?_
    refine l_val rfl rfl rfl (r_assign (v := .int .i64 t13) rfl) ?_
    refine l_nil ?_
    refine c_ret ?_
    refine c_nilRow 90 4 ?_
    obtain rfl := Option.some.inj H10
    refine c_imp 2 rfl (row_ro _ _ _ _ _) ?_
    refine ret2 (v1 := .slice ((none, 0) : Option Addr × Nat).1 ([] : List T_where_Stop).length ((none, 0) : Option Addr × Nat).2) (v2 := .int .i64 t13) rfl rfl rfl (finX ((none, 0) : Option Addr × Nat) (i := 2) rfl rfl (Imp.refl _))
  · have H11 := cnd_f hb H9; clear H9
    refine c_skip ?_
    refine c_seq ?_
    refine c_region ?_
    refine l_val rfl rfl rfl (r_makeFn (caps := #[.pointer (some ⟨b6, 0, none⟩)]) rfl) ?_
    refine l_val rfl rfl rfl (r_makeFn (caps := #[.pointer (some ⟨b7, 0, none⟩)]) rfl) ?_
    refine l_val rfl rfl rfl (r_build (pl := #[(0, 1), (1, 1), (2, 1), (3, 1)]) (ps := [(0, .func (.func 92) #[] #[.pointer (some ⟨b6, 0, none⟩)]), (1, .func (.func 93) #[] #[.pointer (some ⟨b7, 0, none⟩)]), (2, .func (.func 94) #[] #[]), (3, .func (.func 95) #[] #[])]) (cells := #[.func (.func 92) #[] #[.pointer (some ⟨b6, 0, none⟩)], .func (.func 93) #[] #[.pointer (some ⟨b7, 0, none⟩)], .func (.func 94) #[] #[], .func (.func 95) #[] #[]]) Try.zeroValue125 Try.runUnderlying125 (fun w => by kernel_rfl) rfl rfl) ?_
    refine l_alloc (cs := [.nilFunc, .nilFunc, .nilFunc, .nilFunc]) Try.zeroValue125 rfl rfl rfl (fun b8 => ?_)
    refine l_store (i := 2) (vs := [.func (.func 92) #[] #[.pointer (some ⟨b6, 0, none⟩)], .func (.func 93) #[] #[.pointer (some ⟨b7, 0, none⟩)], .func (.func 94) #[] #[], .func (.func 95) #[] #[]]) (cs' := [.func (.func 92) #[] #[.pointer (some ⟨b6, 0, none⟩)], .func (.func 93) #[] #[.pointer (some ⟨b7, 0, none⟩)], .func (.func 94) #[] #[], .func (.func 95) #[] #[]]) Try.sizeOf125 rfl rfl rfl rfl rfl rfl rfl rfl rfl ?_
    refine l_nil ?_
    refine c_seq ?_
    refine c_region ?_
    refine l_loadN (i := 2) (vs := [.func (.func 92) #[] #[.pointer (some ⟨b6, 0, none⟩)], .func (.func 93) #[] #[.pointer (some ⟨b7, 0, none⟩)], .func (.func 94) #[] #[], .func (.func 95) #[] #[]]) Try.isAgg125 Try.sizeOf125 rfl rfl rfl rfl rfl ?_
    refine l_val rfl rfl rfl (r_move (v := v0) rfl) ?_
    obtain ⟨t22, h_t22, H12⟩ := bnd_some H11; clear H11
    refine l_make (makes_call (rds := [0, 1]) (G := fun x : (Option Addr × Nat) => .slice x.1 t22.length x.2) (C := fun x : (Option Addr × Nat) => roV 4 (.slice x.1 t22.length x.2) t22.length (t22.map e_where_Stop)) (fun w L' hF hS hi => k97 (know_all w) (FnH.mk ⟨92, #[.pointer (some ⟨b6, 0, none⟩)], rfl, Try.call92, fun args2 post2 w2 hk2 hR2 => by obtain ⟨a0_, v0_, a1_, r_, fa0_, rfl, H_, rfl⟩ := hR2; exact k92 (know_all w2) (hk2.up _ _ (sat_cell (i := 0) hS ((hi 0 (by simp)).trans rfl))) fa0_ H_⟩) (FnH.mk ⟨93, #[.pointer (some ⟨b7, 0, none⟩)], rfl, Try.call93, fun args2 post2 w2 hk2 hR2 => by obtain ⟨a0_, v0_, a1_, a2_, r_, fa0_, rfl, H_, rfl⟩ := hR2; exact k93 (know_all w2) (hk2.up _ _ (sat_cell (i := 1) hS ((hi 1 (by simp)).trans rfl))) fa0_ H_⟩) (FnH.mk ⟨94, #[], rfl, Try.call94, fun args2 post2 w2 hk2 hR2 => by obtain ⟨a0_, a1_, r_, rfl, H_, rfl⟩ := hR2; exact k94 H_ w2⟩) (FnH.mk ⟨95, #[], rfl, Try.call95, fun args2 post2 w2 hk2 hR2 => by obtain ⟨a0_, v0_, r_, fa0_, rfl, H_, rfl⟩ := hR2; exact k95 (know_all w2) fa0_ H_⟩) (f0.mono (hw.now hF)) h_t22) Try.call97 rfl) rfl rfl rfl (fun p => ?_)
    refine l_val rfl rfl rfl (r_assign (v := .slice p.1 t22.length p.2) rfl) ?_
    refine l_val rfl rfl rfl (r_assign (v := .int .i64 0) rfl) ?_
    refine l_nil ?_
    refine c_ret ?_
    obtain rfl := Option.some.inj H12
    refine ret2 (v1 := .slice p.1 t22.length p.2) (v2 := .int .i64 0) rfl rfl rfl (finX p (i := 3) rfl rfl (Imp.refl _))
theorem k98 {q0 : Int} {c0 : Nat} {q1 : Int} {c1 : Nat} {a0 : (List T_where_Fix)} {v0 : Value} {a1 : Int} {r : Int} {w : World} {h : Heap} (hw : Know h w noS) (hc0 : h c0 = some (.cells (List.toArray [.int .i64 q0]) 3 (0, 0))) (hc1 : h c1 = some (.cells (List.toArray [.int .i64 q1]) 3 (0, 0))) (f0 : FrS h 3 v0 (a0.map e_where_Fix)) (H : where_Trips_1 q0 q1 a0 a1 = some r) : Does Try.prog 98 (List.toArray [v0, .int .i64 a1, .pointer (some ⟨c0, 0, none⟩), .pointer (some ⟨c1, 0, none⟩)]) w (fun v w' => v = (.int .i64 r) ∧ Grow w w') := by
  refine enter (n := 49) Try.func98 rfl rfl rfl noS [] (Sat.nil _ _) ?_
  refine c_seq ?_
  refine c_region ?_
  refine l_val rfl rfl rfl (r_assign (v := .int .i64 0) rfl) ?_
  refine l_nil ?_
  refine c_seq ?_
  refine c_region ?_
  refine l_val rfl rfl rfl (r_move (v := .int .i64 a1) rfl) ?_
  refine l_val rfl rfl rfl (r_assign (v := .int .i64 a1) rfl) ?_
  refine l_nil ?_
  refine c_seq ?_
  refine c_block ?_
  refine c_fix (σ := Int) (τ := Unit) (fun next1 s => where_Trips_1_l1 q0 q1 a0 next1 s) (fun s t => [(0, v0), (2, .pointer (some ⟨c0, 0, none⟩)), (3, .pointer (some ⟨c1, 0, none⟩)), (7, .int .i64 s)]) (fun s t => []) (fun s t => True) a1 () [] H (by exact trivial) (by exact ⟨rfl, rfl, rfl, rfl, trivial⟩) (by decide) rfl ?_
  rintro x7_2 _ m1 gg H18 _
  clear H
  replace H18 : where_Trips_1_l1 q0 q1 a0 (it (fun next1 s => where_Trips_1_l1 q0 q1 a0 next1 s) m1) x7_2 = some r := H18
  generalize hn1 : it (fun next1 s => where_Trips_1_l1 q0 q1 a0 next1 s) m1 = next1 at H18
  refine c_tidyF [(0, v0), (2, .pointer (some ⟨c0, 0, none⟩)), (3, .pointer (some ⟨c1, 0, none⟩)), (7, .int .i64 x7_2)] [] rfl rfl ?_
  refine c_seq ?_
  refine c_seq ?_
  exact c_regionD (Kd.p :: Kd.p :: Kd.p :: Kd.p :: Kd.p :: Kd.p :: Kd.p :: Kd.p :: Kd.p :: Kd.p :: Kd.p :: Kd.d [] _ :: Kd.p :: Kd.p :: Kd.p :: Kd.p :: Kd.d [] _ :: Kd.p :: Kd.d [] _ :: Kd.p :: Kd.p :: Kd.p :: Kd.p :: Kd.p :: Kd.p :: Kd.p :: Kd.d [] _ :: Kd.p :: Kd.p :: Kd.p :: Kd.p :: Kd.p :: Kd.d [] _ :: Kd.d [] _ :: Kd.d [] _ :: Kd.p :: Kd.p :: []) 0 mixed (by
    refine d_val rfl rfl (r_move (v := .int .i64 x7_2) rfl) ?_
    have h_t10 := bnd_val H18
    have H19 := bnd_rest H18
    refine d_val rfl rfl (r_addG rfl rfl h_t10) ?_
    refine d_val rfl rfl (r_move (v := v0) rfl) ?_
    refine d_val rfl rfl (r_lenF Try.underlying49 rfl f0 rfl) ?_
    refine d_val rfl rfl (r_lss rfl rfl) ?_
    refine d_val rfl rfl (r_move (v := .bool (decide ((val (gI (x7_2 + 1))) < (a0.length : Int)))) rfl) ?_
    refine splitS (fun hb => ?_) (fun hb => ?_)
    · have H20 := cnd_t hb H19
      refine d_val rfl rfl (r_move (v := v0) rfl) ?_
      refine d_val rfl rfl (r_move (v := .int .i64 x7_2) rfl) ?_
      have h_t17 := bnd_val H20
      have H21 := bnd_rest H20
      refine d_val rfl rfl (r_addG rfl rfl h_t17) ?_
      have h_t18 := bnd_val H21
      have H22 := bnd_rest H21
      refine d_val rfl rfl (r_indexF Try.underlying49 Try.sizeOf78 rfl rfl f0 h_t18) ?_
      refine d_val rfl rfl (r_fieldP Try.runUnderlying78 rfl Try.sizeOf3 rfl rfl (some_of_at f0 h_t18)) ?_
      refine d_read (fun w hF => run_loadG1 (j := 0) (v := .int .i64 (val (gAt a0 (val (gI (x7_2 + 1))))).Moment) Try.isAgg3 rfl rfl (f0.row (hw.now hF)) h_t18 rfl) rfl rfl ?_
      refine d_val rfl rfl (r_move (v := v0) rfl) ?_
      refine d_val rfl rfl (r_move (v := .int .i64 x7_2) rfl) ?_
      have h_t23 := bnd_val H22
      have H23 := bnd_rest H22
      refine d_val rfl rfl (r_indexF Try.underlying49 Try.sizeOf78 rfl rfl f0 h_t23) ?_
      refine d_val rfl rfl (r_fieldP Try.runUnderlying78 rfl Try.sizeOf3 rfl rfl (some_of_at f0 h_t23)) ?_
      refine d_read (fun w hF => run_loadG1 (j := 0) (v := .int .i64 (val (gAt a0 x7_2)).Moment) Try.isAgg3 rfl rfl (f0.row (hw.now hF)) h_t23 rfl) rfl rfl ?_
      have h_t26 := bnd_val H23
      have H24 := bnd_rest H23
      refine d_val rfl rfl (r_subG rfl rfl h_t26) ?_
      refine d_read (fun w hF => run_loadK1 (v := .int .i64 q0) Try.isAgg3 rfl (hw.now hF _ _ hc0) rfl) rfl rfl ?_
      refine d_val rfl rfl (r_leq rfl rfl) ?_
      refine d_val rfl rfl (r_pickT (v := .bool (decide ((val (gI ((val (gAt a0 (val (gI (x7_2 + 1))))).Moment - (val (gAt a0 x7_2)).Moment))) ≤ q0))) rfl rfl) ?_
      refine d_val rfl rfl (r_move (v := .bool (decide ((val (gI ((val (gAt a0 (val (gI (x7_2 + 1))))).Moment - (val (gAt a0 x7_2)).Moment))) ≤ q0))) rfl) ?_
      refine splitS (fun hb => ?_) (fun hb => ?_)
      · have H25 := cnd_t hb H24
        refine d_val rfl rfl (r_move (v := v0) rfl) ?_
        refine d_val rfl rfl (r_move (v := .int .i64 x7_2) rfl) ?_
        have h_t33 := bnd_val H25
        have H26 := bnd_rest H25
        refine d_val rfl rfl (r_indexF Try.underlying49 Try.sizeOf78 rfl rfl f0 h_t33) ?_
        refine d_val rfl rfl (r_fieldP Try.runUnderlying78 rfl Try.sizeOf25 rfl rfl (some_of_at f0 h_t33)) ?_
        refine d_read (fun w hF => run_loadGN (j := 1) (vs := [.int .i64 (val (gAt a0 x7_2)).Place.Lat, .int .i64 (val (gAt a0 x7_2)).Place.Lon]) Try.isAgg25 Try.sizeOf25 rfl rfl (f0.row (hw.now hF)) h_t33 rfl) rfl rfl ?_
        refine d_val rfl rfl (r_move (v := v0) rfl) ?_
        refine d_val rfl rfl (r_move (v := .int .i64 x7_2) rfl) ?_
        have h_t38 := bnd_val H26
        have H27 := bnd_rest H26
        refine d_val rfl rfl (r_addG rfl rfl h_t38) ?_
        have h_t39 := bnd_val H27
        have H28 := bnd_rest H27
        refine d_val rfl rfl (r_indexF Try.underlying49 Try.sizeOf78 rfl rfl f0 h_t39) ?_
        refine d_val rfl rfl (r_fieldP Try.runUnderlying78 rfl Try.sizeOf25 rfl rfl (some_of_at f0 h_t39)) ?_
        refine d_read (fun w hF => run_loadGN (j := 1) (vs := [.int .i64 (val (gAt a0 (val (gI (x7_2 + 1))))).Place.Lat, .int .i64 (val (gAt a0 (val (gI (x7_2 + 1))))).Place.Lon]) Try.isAgg25 Try.sizeOf25 rfl rfl (f0.row (hw.now hF)) h_t39 rfl) rfl rfl ?_
        have h_t42 := bnd_val H28
        have H29 := bnd_rest H28
        refine d_call (k81 h_t42) Try.call81 rfl rfl ?_
        refine d_read (fun w hF => run_loadK1 (v := .int .i64 q1) Try.isAgg3 rfl (hw.now hF _ _ hc1) rfl) rfl rfl ?_
        refine d_val rfl rfl (r_leq rfl rfl) ?_
        refine d_val rfl rfl (r_pickT (v := .bool (decide ((val (where_distance (val (gAt a0 x7_2)).Place (val (gAt a0 (val (gI (x7_2 + 1))))).Place)) ≤ q1))) rfl rfl) ?_
        refine d_nil ?_
        refine c_if (b := (decide ((val (where_distance (val (gAt a0 x7_2)).Place (val (gAt a0 (val (gI (x7_2 + 1))))).Place)) ≤ q1))) rfl (fun hb => ?_) (fun hb => ?_)
        · have H30 := cnd_t hb H29; clear H29
          refine c_skip ?_
          refine c_block ?_
          refine c_region ?_
          refine l_val rfl rfl rfl (r_move (v := .int .i64 x7_2) rfl) ?_
          obtain ⟨t47, h_t47, H31⟩ := bnd_some H30; clear H30
          refine l_val rfl rfl rfl (r_addG rfl rfl h_t47) ?_
          refine l_val rfl rfl rfl (r_assign (v := .int .i64 t47) rfl) ?_
          refine l_nil ?_
          refine c_close t47 () m1 [] (by exact ⟨rfl, rfl, rfl, rfl, trivial⟩) (by decide) rfl (by exact ⟨(by subst hn1; exact H31), trivial⟩) (Nat.lt_succ_self _)
        · have H32 := cnd_f hb H29; clear H29
          refine c_exit ?_
          refine c_seq ?_
          refine c_region ?_
          refine l_val rfl rfl rfl (r_move (v := .int .i64 x7_2) rfl) ?_
          refine l_val rfl rfl rfl (r_assign (v := .int .i64 x7_2) rfl) ?_
          refine l_nil ?_
          refine c_ret ?_
          obtain rfl := Option.some.inj H32
          refine ret1 (v := .int .i64 x7_2) rfl rfl (fin rfl)
      · have H33 := cnd_f hb H24
        refine d_pass rfl rfl ?_
        refine d_pass rfl rfl ?_
        refine d_pass rfl rfl ?_
        refine d_pass rfl rfl ?_
        refine d_pass rfl rfl ?_
        refine d_pass rfl rfl ?_
        refine d_pass rfl rfl ?_
        refine d_pass rfl rfl ?_
        refine d_pass rfl rfl ?_
        refine d_pass rfl rfl ?_
        refine d_pass rfl rfl ?_
        refine d_pass rfl rfl ?_
        refine d_pass rfl rfl ?_
        refine d_pass rfl rfl ?_
        refine d_val rfl rfl (r_pickF (v := .bool false) rfl rfl) ?_
        refine d_nil ?_
        refine c_false rfl ?_
        refine c_exit ?_
        refine c_seq ?_
        refine c_region ?_
        refine l_val rfl rfl rfl (r_move (v := .int .i64 x7_2) rfl) ?_
        refine l_val rfl rfl rfl (r_assign (v := .int .i64 x7_2) rfl) ?_
        refine l_nil ?_
        refine c_ret ?_
        obtain rfl := Option.some.inj H33
        refine ret1 (v := .int .i64 x7_2) rfl rfl (fin rfl)
    · have H34 := cnd_f hb H19
      refine d_pass rfl rfl ?_
      refine d_pass rfl rfl ?_
      refine d_pass rfl rfl ?_
      refine d_pass rfl rfl ?_
      refine d_pass rfl rfl ?_
      refine d_pass rfl rfl ?_
      refine d_pass rfl rfl ?_
      refine d_pass rfl rfl ?_
      refine d_pass rfl rfl ?_
      refine d_pass rfl rfl ?_
      refine d_pass rfl rfl ?_
      refine d_pass rfl rfl ?_
      refine d_pass rfl rfl ?_
      refine d_pass rfl rfl ?_
      refine d_val rfl rfl (r_pickF (v := .bool false) rfl rfl) ?_
      refine d_val rfl rfl (r_move (v := .bool false) rfl) ?_
      refine d_pass rfl rfl ?_
      refine d_pass rfl rfl ?_
      refine d_pass rfl rfl ?_
      refine d_pass rfl rfl ?_
      refine d_pass rfl rfl ?_
      refine d_pass rfl rfl ?_
      refine d_pass rfl rfl ?_
      refine d_pass rfl rfl ?_
      refine d_pass rfl rfl ?_
      refine d_pass rfl rfl ?_
      refine d_pass rfl rfl ?_
      refine d_pass rfl rfl ?_
      refine d_pass rfl rfl ?_
      refine d_pass rfl rfl ?_
      refine d_val rfl rfl (r_pickF (v := .bool false) rfl rfl) ?_
      refine d_nil ?_
      refine c_false rfl ?_
      refine c_exit ?_
      refine c_seq ?_
      refine c_region ?_
      refine l_val rfl rfl rfl (r_move (v := .int .i64 x7_2) rfl) ?_
      refine l_val rfl rfl rfl (r_assign (v := .int .i64 x7_2) rfl) ?_
      refine l_nil ?_
      refine c_ret ?_
      obtain rfl := Option.some.inj H34
      refine ret1 (v := .int .i64 x7_2) rfl rfl (fin rfl)
    ) (by kernel_rfl)
theorem k99 {a0 : (List T_where_Fix)} {v0 : Value} {a1 : Int} {a2 : Int} {r : Bool} {w : World} {h : Heap} (hw : Know h w noS) (f0 : FrS h 3 v0 (a0.map e_where_Fix)) (H : where_Trips_2 a0 a1 a2 = some r) : Does Try.prog 99 (List.toArray [v0, .int .i64 a1, .int .i64 a2]) w (fun v w' => v = (.bool r) ∧ Grow w w') := by
  refine enter (n := 10) Try.func99 rfl rfl rfl noS [] (Sat.nil _ _) ?_
  refine c_seq ?_
  refine c_region ?_
  refine l_val rfl rfl rfl (r_assign (v := .bool false) rfl) ?_
  refine l_nil ?_
  refine c_seq ?_
  refine c_region ?_
  refine l_val rfl rfl rfl (r_move (v := .int .i64 a2) rfl) ?_
  refine l_val rfl rfl rfl (r_move (v := .int .i64 a1) rfl) ?_
  refine l_val rfl rfl rfl (r_gtr rfl rfl) ?_
  refine l_val rfl rfl rfl (r_assign (v := .bool (decide (a1 < a2))) rfl) ?_
  refine l_nil ?_
  refine c_ret ?_
  obtain rfl := Option.some.inj H
  refine ret1 (v := .bool (decide (a1 < a2))) rfl rfl (fin rfl)
theorem k100 {a0 : Int} {a1 : Int} {r : Int} (H : where_Trips_3 a0 a1 = some r) : Ret Try.prog 100 [.int .i64 a0, .int .i64 a1] (.int .i64 r) := by
  refine enterRet (n := 7) Try.func100 rfl rfl rfl (fun wd => ?_)
  refine c_seq ?_
  refine c_region ?_
  refine l_val rfl rfl rfl (r_assign (v := .int .i64 0) rfl) ?_
  refine l_nil ?_
  refine c_seq ?_
  refine c_region ?_
  refine l_val rfl rfl rfl (r_move (v := .int .i64 a1) rfl) ?_
  obtain ⟨t6, h_t6, H2⟩ := bnd_some H; clear H
  refine l_val rfl rfl rfl (r_addG rfl rfl h_t6) ?_
  refine l_val rfl rfl rfl (r_assign (v := .int .i64 t6) rfl) ?_
  refine l_nil ?_
  refine c_ret ?_
  obtain rfl := Option.some.inj H2
  refine ret1 (v := .int .i64 t6) rfl rfl (fin rfl)
theorem k101 {a0 : (List T_api_Place)} {v0 : Value} {r : T_api_Place} {w : World} {h : Heap} (hw : Know h w noS) (f0 : FrS h 2 v0 (a0.map e_api_Place)) (H : where_Trips_4 a0 = some r) : Does Try.prog 101 (List.toArray [v0]) w (fun v w' => v = (.agg #[.int .i64 r.Lat, .int .i64 r.Lon]) ∧ Grow w w') := by
  refine enter (n := 9) Try.func101 rfl rfl rfl noS [] (Sat.nil _ _) ?_
  refine c_seq ?_
  refine c_region ?_
  refine l_alloc (cs := [.int .i64 0, .int .i64 0]) Try.zeroValue25 rfl rfl rfl (fun b1 => ?_)
  refine l_nil ?_
  refine c_seq ?_
  refine c_region ?_
  refine l_val rfl rfl rfl (r_move (v := v0) rfl) ?_
  refine l_val rfl rfl rfl (r_move (v := v0) rfl) ?_
  refine l_val rfl rfl rfl (r_lenF Try.underlying54 rfl f0 rfl) ?_
  obtain ⟨t6, h_t6, H3⟩ := bnd_some H; clear H
  refine l_val rfl rfl rfl (r_subG rfl rfl h_t6) ?_
  obtain ⟨t7, h_t7, H4⟩ := bnd_some H3; clear H3
  refine l_val rfl rfl rfl (r_indexF Try.underlying54 Try.sizeOf25 rfl rfl f0 h_t7) ?_
  refine l_read (fun w hF hS => run_loadGN (j := 0) (vs := [.int .i64 t7.Lat, .int .i64 t7.Lon]) Try.isAgg25 Try.sizeOf25 rfl rfl (f0.row (hw.now hF)) h_t7 rfl) rfl rfl rfl ?_
  refine l_store (i := 0) (vs := [.int .i64 t7.Lat, .int .i64 t7.Lon]) (cs' := [.int .i64 t7.Lat, .int .i64 t7.Lon]) Try.sizeOf25 rfl rfl rfl rfl rfl rfl rfl rfl rfl ?_
  refine l_nil ?_
  refine c_ret ?_
  obtain rfl := Option.some.inj H4
  refine retC (i := 0) (vs := [.int .i64 t7.Lat, .int .i64 t7.Lon]) Try.isAgg25 Try.sizeOf25 rfl rfl rfl rfl (fin rfl)
theorem k49 {a0 : (List T_where_Fix)} {v0 : Value} {a1 : Int} {a2 : Int} {r : (List T_where_Stop) × Int} {w : World} {h : Heap} (hw : Know h w noS) (f0 : FrS h 3 v0 (a0.map e_where_Fix)) (H : where_Trips a0 a1 a2 = some r) : Does Try.prog 49 (List.toArray [v0, .int .i64 a1, .int .i64 a2]) w (fun v w' => ∃ x : (Option Addr × Nat), v = (.tuple #[.slice x.1 r.1.length x.2, .int .i64 r.2]) ∧ Turn w w' noS (roV 4 (.slice x.1 r.1.length x.2) r.1.length (r.1.map e_where_Stop))) := by
  refine enter (n := 22) Try.func49 rfl rfl rfl noS [] (Sat.nil _ _) ?_
  refine c_seq ?_
  refine c_region ?_
  refine l_box (cs := [.int .i64 a1]) rfl rfl rfl rfl (fun b6 => ?_)
  refine l_box (cs := [.int .i64 a2]) rfl rfl rfl rfl (fun b7 => ?_)
  refine l_val rfl rfl rfl (r_assign (v := .slice none 0 0) rfl) ?_
  refine l_val rfl rfl rfl (r_assign (v := .int .i64 0) rfl) ?_
  refine l_nil ?_
  refine c_seq ?_
  refine c_seq ?_
  refine c_region ?_
  refine l_val rfl rfl rfl (r_move (v := v0) rfl) ?_
  refine l_load1 (i := 1) (v := .int .i64 a2) Try.isAgg3 rfl rfl rfl rfl rfl ?_
  refine l_load1 (i := 0) (v := .int .i64 a1) Try.isAgg3 rfl rfl rfl rfl rfl ?_
  obtain ⟨t13, h_t13, H9⟩ := bnd_some H; clear H
  refine l_callG (fun w hF hS => k91 (know_all w) (f0.mono (hw.now hF)) h_t13) Try.call91 rfl rfl rfl ?_
  refine l_val rfl rfl rfl (r_assign (v := .int .i64 t13) rfl) ?_
  refine l_nil ?_
  refine c_seq ?_
  refine c_region ?_
  refine l_val rfl rfl rfl (r_move (v := .int .i64 t13) rfl) ?_
  refine l_val rfl rfl rfl (r_neq rfl rfl) ?_
  refine l_nil ?_
  refine c_if (b := (decide (t13 ≠ 0))) rfl (fun hb => ?_) (fun hb => ?_)
  · have H10 := cnd_t hb H9; clear H9
    refine c_seq ?_
    refine c_region ?_
    refine l_val rfl rfl rfl (r_move (v := .int .i64 t13) rfl) ?_
    refine l_val rfl rfl rfl (r_assign (v := .slice none 0 0) rfl) ?_
    refine l_val rfl rfl rfl (r_assign (v := .int .i64 t13) rfl) ?_
    refine l_nil ?_
    refine c_ret ?_
    refine c_nilRow 90 4 ?_
    obtain rfl := Option.some.inj H10
    refine c_imp 2 rfl (row_ro _ _ _ _ _) ?_
    refine ret2 (v1 := .slice ((none, 0) : Option Addr × Nat).1 ([] : List T_where_Stop).length ((none, 0) : Option Addr × Nat).2) (v2 := .int .i64 t13) rfl rfl rfl (finX ((none, 0) : Option Addr × Nat) (i := 2) rfl rfl (Imp.refl _))
  · have H11 := cnd_f hb H9; clear H9
    refine c_skip ?_
    refine c_seq ?_
    refine c_region ?_
    refine l_val rfl rfl rfl (r_makeFn (caps := #[.pointer (some ⟨b6, 0, none⟩), .pointer (some ⟨b7, 0, none⟩)]) rfl) ?_
    refine l_val rfl rfl rfl (r_build (pl := #[(0, 1), (1, 1), (2, 1), (3, 1)]) (ps := [(0, .func (.func 98) #[] #[.pointer (some ⟨b6, 0, none⟩), .pointer (some ⟨b7, 0, none⟩)]), (1, .func (.func 99) #[] #[]), (2, .func (.func 100) #[] #[]), (3, .func (.func 101) #[] #[])]) (cells := #[.func (.func 98) #[] #[.pointer (some ⟨b6, 0, none⟩), .pointer (some ⟨b7, 0, none⟩)], .func (.func 99) #[] #[], .func (.func 100) #[] #[], .func (.func 101) #[] #[]]) Try.zeroValue125 Try.runUnderlying125 (fun w => by kernel_rfl) rfl rfl) ?_
    refine l_alloc (cs := [.nilFunc, .nilFunc, .nilFunc, .nilFunc]) Try.zeroValue125 rfl rfl rfl (fun b8 => ?_)
    refine l_store (i := 2) (vs := [.func (.func 98) #[] #[.pointer (some ⟨b6, 0, none⟩), .pointer (some ⟨b7, 0, none⟩)], .func (.func 99) #[] #[], .func (.func 100) #[] #[], .func (.func 101) #[] #[]]) (cs' := [.func (.func 98) #[] #[.pointer (some ⟨b6, 0, none⟩), .pointer (some ⟨b7, 0, none⟩)], .func (.func 99) #[] #[], .func (.func 100) #[] #[], .func (.func 101) #[] #[]]) Try.sizeOf125 rfl rfl rfl rfl rfl rfl rfl rfl rfl ?_
    refine l_nil ?_
    refine c_seq ?_
    refine c_region ?_
    refine l_loadN (i := 2) (vs := [.func (.func 98) #[] #[.pointer (some ⟨b6, 0, none⟩), .pointer (some ⟨b7, 0, none⟩)], .func (.func 99) #[] #[], .func (.func 100) #[] #[], .func (.func 101) #[] #[]]) Try.isAgg125 Try.sizeOf125 rfl rfl rfl rfl rfl ?_
    refine l_val rfl rfl rfl (r_move (v := v0) rfl) ?_
    obtain ⟨t21, h_t21, H12⟩ := bnd_some H11; clear H11
    refine l_make (makes_call (rds := [0, 1]) (G := fun x : (Option Addr × Nat) => .slice x.1 t21.length x.2) (C := fun x : (Option Addr × Nat) => roV 4 (.slice x.1 t21.length x.2) t21.length (t21.map e_where_Stop)) (fun w L' hF hS hi => k97 (know_all w) (FnH.mk ⟨98, #[.pointer (some ⟨b6, 0, none⟩), .pointer (some ⟨b7, 0, none⟩)], rfl, Try.call98, fun args2 post2 w2 hk2 hR2 => by obtain ⟨a0_, v0_, a1_, r_, fa0_, rfl, H_, rfl⟩ := hR2; exact k98 (know_all w2) (hk2.up _ _ (sat_cell (i := 0) hS ((hi 0 (by simp)).trans rfl))) (hk2.up _ _ (sat_cell (i := 1) hS ((hi 1 (by simp)).trans rfl))) fa0_ H_⟩) (FnH.mk ⟨99, #[], rfl, Try.call99, fun args2 post2 w2 hk2 hR2 => by obtain ⟨a0_, v0_, a1_, a2_, r_, fa0_, rfl, H_, rfl⟩ := hR2; exact k99 (know_all w2) fa0_ H_⟩) (FnH.mk ⟨100, #[], rfl, Try.call100, fun args2 post2 w2 hk2 hR2 => by obtain ⟨a0_, a1_, r_, rfl, H_, rfl⟩ := hR2; exact k100 H_ w2⟩) (FnH.mk ⟨101, #[], rfl, Try.call101, fun args2 post2 w2 hk2 hR2 => by obtain ⟨a0_, v0_, r_, fa0_, rfl, H_, rfl⟩ := hR2; exact k101 (know_all w2) fa0_ H_⟩) (f0.mono (hw.now hF)) h_t21) Try.call97 rfl) rfl rfl rfl (fun p => ?_)
    refine l_val rfl rfl rfl (r_assign (v := .slice p.1 t21.length p.2) rfl) ?_
    refine l_val rfl rfl rfl (r_assign (v := .int .i64 0) rfl) ?_
    refine l_nil ?_
    refine c_ret ?_
    obtain rfl := Option.some.inj H12
    refine ret2 (v1 := .slice p.1 t21.length p.2) (v2 := .int .i64 0) rfl rfl rfl (finX p (i := 3) rfl rfl (Imp.refl _))
theorem k58 {a0 : (List T_api_Place)} {v0 : Value} {r : Int} {w : World} {h : Heap} (hw : Know h w noS) (f0 : FrS h 2 v0 (a0.map e_api_Place)) (H : R_MiddleOf a0 = some r) : Does Try.prog 58 (List.toArray [v0]) w (fun v w' => v = (.int .i64 r) ∧ Grow w w') := by
  refine enter (n := 40) Try.func58 rfl rfl rfl noS [] (Sat.nil _ _) ?_
  refine c_seq ?_
  refine c_region ?_
  refine l_val rfl rfl rfl (r_assign (v := .int .i64 0) rfl) ?_
  refine l_nil ?_
  refine c_seq ?_
  refine c_region ?_
  refine l_val rfl rfl rfl (r_assign (v := .int .i64 0) rfl) ?_
  refine l_val rfl rfl rfl (r_assign (v := .int .i64 (-1)) rfl) ?_
  refine l_nil ?_
  refine c_seq ?_
  refine c_seq ?_
  refine c_region ?_
  refine l_val rfl rfl rfl (r_move (v := v0) rfl) ?_
  refine l_val rfl rfl rfl (r_lenF Try.underlying54 rfl f0 rfl) ?_
  refine l_val rfl rfl rfl (r_move (v := .int .i64 0) rfl) ?_
  refine l_nil ?_
  refine c_block ?_
  refine c_fix (σ := Int × Int × Int) (τ := Unit) (fun next1 s => R_MiddleOf_l1 a0 next1 s.1 s.2.1 s.2.2) (fun s t => [(0, v0), (3, .int .i64 s.1), (4, .int .i64 s.2.1), (10, v0), (11, .int .i64 (a0.length : Int)), (12, .int .i64 s.2.2)]) (fun s t => []) (fun s t => True) (0, (-1), 0) () [] H (by exact trivial) (by exact ⟨rfl, rfl, rfl, rfl, rfl, rfl, trivial⟩) (by decide) rfl ?_
  rintro ⟨x3_2, x4_3, x12_3⟩ _ m1 gg H19 _
  clear H
  replace H19 : R_MiddleOf_l1 a0 (it (fun next1 s => R_MiddleOf_l1 a0 next1 s.1 s.2.1 s.2.2) m1) x3_2 x4_3 x12_3 = some r := H19
  generalize hn1 : it (fun next1 s => R_MiddleOf_l1 a0 next1 s.1 s.2.1 s.2.2) m1 = next1 at H19
  refine c_tidyF [(0, v0), (3, .int .i64 x3_2), (4, .int .i64 x4_3), (10, v0), (11, .int .i64 (a0.length : Int)), (12, .int .i64 x12_3)] [] rfl rfl ?_
  refine c_seq ?_
  refine c_region ?_
  refine l_val rfl rfl rfl (r_lss rfl rfl) ?_
  refine l_nil ?_
  refine c_seq ?_
  refine c_if (b := (decide (x12_3 < (a0.length : Int)))) rfl (fun hb => ?_) (fun hb => ?_)
  · have H20 := cnd_t hb H19; clear H19
    refine c_skip ?_
    refine c_meet (r := r) (σ := Int × Int) (τ := Unit) (fun s => R_MiddleOf_j2 x12_3 next1 s.1 s.2) (fun s t => [(0, v0), (3, .int .i64 s.1), (4, .int .i64 s.2), (10, v0), (11, .int .i64 (a0.length : Int)), (12, .int .i64 x12_3)]) (fun s t => []) (fun s t => True) ?_ ?_
    · refine c_block ?_
      refine c_seq ?_
      refine c_region ?_
      refine l_val rfl rfl rfl (r_move (v := .int .i64 x12_3) rfl) ?_
      obtain ⟨t15, h_t15, H23⟩ := bnd_some H20; clear H20
      refine l_val rfl rfl rfl (r_indexF Try.underlying54 Try.sizeOf25 rfl rfl f0 h_t15) ?_
      refine l_read (fun w hF hS => run_loadGN (j := 0) (vs := [.int .i64 t15.Lat, .int .i64 t15.Lon]) Try.isAgg25 Try.sizeOf25 rfl rfl (f0.row (hw.now hF)) h_t15 rfl) rfl rfl rfl ?_
      refine l_alloc (cs := [.int .i64 0, .int .i64 0]) Try.zeroValue25 rfl rfl rfl (fun b2 => ?_)
      refine l_val rfl rfl rfl (r_assign (v := .int .i64 x12_3) rfl) ?_
      refine l_store (i := 0) (vs := [.int .i64 t15.Lat, .int .i64 t15.Lon]) (cs' := [.int .i64 t15.Lat, .int .i64 t15.Lon]) Try.sizeOf25 rfl rfl rfl rfl rfl rfl rfl rfl rfl ?_
      refine l_nil ?_
      refine c_seq ?_
      refine c_region ?_
      refine l_val rfl rfl rfl (r_assign (v := .int .i64 0) rfl) ?_
      refine l_nil ?_
      refine c_meet (r := r) (σ := Int) (τ := Unit) (fun s => R_MiddleOf_j3 x3_2 x4_3 x12_3 next1 s) (fun s t => [(0, v0), (3, .int .i64 x3_2), (4, .int .i64 x4_3), (5, .int .i64 x12_3), (7, .int .i64 s), (10, v0), (11, .int .i64 (a0.length : Int)), (12, .int .i64 x12_3)]) (fun s t => []) (fun s t => True) ?_ ?_
      · refine c_seq ?_
        refine c_region ?_
        refine l_val rfl rfl rfl (r_move (v := v0) rfl) ?_
        refine l_val rfl rfl rfl (r_lenF Try.underlying54 rfl f0 rfl) ?_
        refine l_val rfl rfl rfl (r_move (v := .int .i64 0) rfl) ?_
        refine l_nil ?_
        refine c_block ?_
        refine c_fix (σ := Int × Int) (τ := Unit) (fun next4 s => R_MiddleOf_l4 a0 x3_2 x4_3 x12_3 next1 t15 next4 s.1 s.2) (fun s t => [(0, v0), (3, .int .i64 x3_2), (4, .int .i64 x4_3), (5, .int .i64 x12_3), (6, .pointer (some ⟨b2, 0, none⟩)), (7, .int .i64 s.1), (10, v0), (11, .int .i64 (a0.length : Int)), (12, .int .i64 x12_3), (17, v0), (18, .int .i64 (a0.length : Int)), (19, .int .i64 s.2)]) (fun s t => [cellsC b2 [.int .i64 t15.Lat, .int .i64 t15.Lon] 25]) (fun s t => True) (0, 0) () [0] H23 (by exact trivial) (by exact ⟨rfl, rfl, rfl, rfl, rfl, rfl, rfl, rfl, rfl, rfl, rfl, rfl, trivial⟩) (by decide) rfl ?_
        rintro ⟨x7_3, x19_2⟩ _ m4 gg H29 _
        clear H23
        replace H29 : R_MiddleOf_l4 a0 x3_2 x4_3 x12_3 next1 t15 (it (fun next4 s => R_MiddleOf_l4 a0 x3_2 x4_3 x12_3 next1 t15 next4 s.1 s.2) m4) x7_3 x19_2 = some r := H29
        generalize hn4 : it (fun next4 s => R_MiddleOf_l4 a0 x3_2 x4_3 x12_3 next1 t15 next4 s.1 s.2) m4 = next4 at H29
        refine c_tidyF [(0, v0), (3, .int .i64 x3_2), (4, .int .i64 x4_3), (5, .int .i64 x12_3), (6, .pointer (some ⟨b2, 0, none⟩)), (7, .int .i64 x7_3), (10, v0), (11, .int .i64 (a0.length : Int)), (12, .int .i64 x12_3), (17, v0), (18, .int .i64 (a0.length : Int)), (19, .int .i64 x19_2)] [cellsC b2 [.int .i64 t15.Lat, .int .i64 t15.Lon] 25] rfl rfl ?_
        refine c_seq ?_
        refine c_region ?_
        refine l_val rfl rfl rfl (r_lss rfl rfl) ?_
        refine l_nil ?_
        refine c_seq ?_
        refine c_if (b := (decide (x19_2 < (a0.length : Int)))) rfl (fun hb => ?_) (fun hb => ?_)
        · have H30 := cnd_t hb H29; clear H29
          refine c_skip ?_
          refine c_seq ?_
          refine c_block ?_
          refine c_seq ?_
          refine c_region ?_
          obtain ⟨t21, h_t21, H31⟩ := bnd_some H30; clear H30
          refine l_val rfl rfl rfl (r_indexF Try.underlying54 Try.sizeOf25 rfl rfl f0 h_t21) ?_
          refine l_read (fun w hF hS => run_loadGN (j := 0) (vs := [.int .i64 t21.Lat, .int .i64 t21.Lon]) Try.isAgg25 Try.sizeOf25 rfl rfl (f0.row (hw.now hF)) h_t21 rfl) rfl rfl rfl ?_
          refine l_alloc (cs := [.int .i64 0, .int .i64 0]) Try.zeroValue25 rfl rfl rfl (fun b3 => ?_)
          refine l_store (i := 1) (vs := [.int .i64 t21.Lat, .int .i64 t21.Lon]) (cs' := [.int .i64 t21.Lat, .int .i64 t21.Lon]) Try.sizeOf25 rfl rfl rfl rfl rfl rfl rfl rfl rfl ?_
          refine l_nil ?_
          refine c_region ?_
          refine l_val rfl rfl rfl (r_move (v := .int .i64 x7_3) rfl) ?_
          refine l_loadN (i := 0) (vs := [.int .i64 t15.Lat, .int .i64 t15.Lon]) Try.isAgg25 Try.sizeOf25 rfl rfl rfl rfl rfl ?_
          refine l_loadN (i := 1) (vs := [.int .i64 t21.Lat, .int .i64 t21.Lon]) Try.isAgg25 Try.sizeOf25 rfl rfl rfl rfl rfl ?_
          obtain ⟨t26, h_t26, H32⟩ := bnd_some H31; clear H31
          refine l_call (k39 h_t26) Try.call39 rfl rfl rfl ?_
          obtain ⟨t27, h_t27, H33⟩ := bnd_some H32; clear H32
          refine l_val rfl rfl rfl (r_addG rfl rfl h_t27) ?_
          refine l_val rfl rfl rfl (r_assign (v := .int .i64 t27) rfl) ?_
          refine l_nil ?_
          refine c_region ?_
          obtain ⟨t28, h_t28, H34⟩ := bnd_some H33; clear H33
          refine l_val rfl rfl rfl (r_addG rfl rfl h_t28) ?_
          refine l_val rfl rfl rfl (r_move (v := .int .i64 t28) rfl) ?_
          refine l_nil ?_
          refine c_close (t27, t28) () m4 [0] (by exact ⟨rfl, rfl, rfl, rfl, rfl, rfl, rfl, rfl, rfl, rfl, rfl, rfl, trivial⟩) (by decide) rfl (by exact ⟨(by subst hn4; exact H34), trivial⟩) (Nat.lt_succ_self _)
        · have H35 := cnd_f hb H29; clear H29
          refine c_exit ?_
          refine c_close x7_3 () 0 [] (by exact ⟨rfl, rfl, rfl, rfl, rfl, rfl, rfl, rfl, trivial⟩) (by decide) rfl (by exact ⟨H35, trivial⟩) (Nat.lt_succ_self _)
      · rintro x7 _ gg H24 _
        replace H24 : R_MiddleOf_j3 x3_2 x4_3 x12_3 next1 x7 = some r := H24
        refine c_tidyF [(0, v0), (3, .int .i64 x3_2), (4, .int .i64 x4_3), (5, .int .i64 x12_3), (7, .int .i64 x7), (10, v0), (11, .int .i64 (a0.length : Int)), (12, .int .i64 x12_3)] [] rfl rfl ?_
        refine c_seq ?_
        refine c_region ?_
        refine l_val rfl rfl rfl (r_move (v := .int .i64 x4_3) rfl) ?_
        refine l_val rfl rfl rfl (r_lss rfl rfl) ?_
        refine l_val rfl rfl rfl (r_move (v := .bool (decide (x4_3 < 0))) rfl) ?_
        refine split (fun hb => ?_) (fun hb => ?_)
        · have H25 := cnd_t hb H24; clear H24
          refine l_passed rfl rfl rfl ?_
          refine l_passed rfl rfl rfl ?_
          refine l_passed rfl rfl rfl ?_
          refine l_val rfl rfl rfl (r_pickT (v := .bool true) rfl rfl) ?_
          refine l_nil ?_
          refine c_true rfl ?_
          refine c_region ?_
          refine l_val rfl rfl rfl (r_move (v := .int .i64 x12_3) rfl) ?_
          refine l_val rfl rfl rfl (r_move (v := .int .i64 x7) rfl) ?_
          refine l_val rfl rfl rfl (r_assign (v := .int .i64 x12_3) rfl) ?_
          refine l_val rfl rfl rfl (r_assign (v := .int .i64 x7) rfl) ?_
          refine l_nil ?_
          refine c_close (x12_3, x7) () 0 [] (by exact ⟨rfl, rfl, rfl, rfl, rfl, rfl, trivial⟩) (by decide) rfl (by exact ⟨H25, trivial⟩) (Nat.lt_succ_self _)
        · have H26 := cnd_f hb H24; clear H24
          refine l_val rfl rfl rfl (r_move (v := .int .i64 x7) rfl) ?_
          refine l_val rfl rfl rfl (r_move (v := .int .i64 x4_3) rfl) ?_
          refine l_val rfl rfl rfl (r_lss rfl rfl) ?_
          refine l_val rfl rfl rfl (r_pickF (v := .bool (decide (x7 < x4_3))) rfl rfl) ?_
          refine l_nil ?_
          refine c_if (b := (decide (x7 < x4_3))) rfl (fun hb => ?_) (fun hb => ?_)
          · have H27 := cnd_t hb H26; clear H26
            refine c_region ?_
            refine l_val rfl rfl rfl (r_move (v := .int .i64 x12_3) rfl) ?_
            refine l_val rfl rfl rfl (r_move (v := .int .i64 x7) rfl) ?_
            refine l_val rfl rfl rfl (r_assign (v := .int .i64 x12_3) rfl) ?_
            refine l_val rfl rfl rfl (r_assign (v := .int .i64 x7) rfl) ?_
            refine l_nil ?_
            refine c_close (x12_3, x7) () 0 [] (by exact ⟨rfl, rfl, rfl, rfl, rfl, rfl, trivial⟩) (by decide) rfl (by exact ⟨H27, trivial⟩) (Nat.lt_succ_self _)
          · have H28 := cnd_f hb H26; clear H26
            refine c_skip ?_
            refine c_close (x3_2, x4_3) () 0 [] (by exact ⟨rfl, rfl, rfl, rfl, rfl, rfl, trivial⟩) (by decide) rfl (by exact ⟨H28, trivial⟩) (Nat.lt_succ_self _)
    · rintro ⟨x3_3, x4_4⟩ _ gg H21 _
      replace H21 : R_MiddleOf_j2 x12_3 next1 x3_3 x4_4 = some r := H21
      refine c_tidyF [(0, v0), (3, .int .i64 x3_3), (4, .int .i64 x4_4), (10, v0), (11, .int .i64 (a0.length : Int)), (12, .int .i64 x12_3)] [] rfl rfl ?_
      refine c_region ?_
      obtain ⟨t38, h_t38, H22⟩ := bnd_some H21; clear H21
      refine l_val rfl rfl rfl (r_addG rfl rfl h_t38) ?_
      refine l_val rfl rfl rfl (r_move (v := .int .i64 t38) rfl) ?_
      refine l_nil ?_
      refine c_close (x3_3, x4_4, t38) () m1 [] (by exact ⟨rfl, rfl, rfl, rfl, rfl, rfl, trivial⟩) (by decide) rfl (by exact ⟨(by subst hn1; exact H22), trivial⟩) (Nat.lt_succ_self _)
  · have H36 := cnd_f hb H19; clear H19
    refine c_exit ?_
    refine c_seq ?_
    refine c_region ?_
    refine l_val rfl rfl rfl (r_move (v := .int .i64 x3_2) rfl) ?_
    refine l_val rfl rfl rfl (r_assign (v := .int .i64 x3_2) rfl) ?_
    refine l_nil ?_
    refine c_ret ?_
    obtain rfl := Option.some.inj H36
    refine ret1 (v := .int .i64 x3_2) rfl rfl (fin rfl)
theorem k50 {a0 : (List T_where_Fix)} {v0 : Value} {a1 : Int} {a2 : Int} {r : (List T_where_Stop)} {w : World} {h : Heap} (hw : Know h w noS) (f0 : FrS h 3 v0 (a0.map e_where_Fix)) (H : R_StopsOf a0 a1 a2 = some r) : Does Try.prog 50 (List.toArray [v0, .int .i64 a1, .int .i64 a2]) w (fun v w' => ∃ x : (Option Addr × Nat), v = (.slice x.1 r.length x.2) ∧ Turn w w' noS (rowV 90 4 (.slice x.1 r.length x.2) r.length (r.map e_where_Stop))) := by
  refine enter (n := 86) Try.func50 rfl rfl rfl noS [] (Sat.nil _ _) ?_
  refine c_seq ?_
  refine c_region ?_
  refine l_val rfl rfl rfl (r_assign (v := .slice none 0 0) rfl) ?_
  refine l_nil ?_
  refine c_seq ?_
  refine c_region ?_
  refine l_val rfl rfl rfl (r_assign (v := .slice none 0 0) rfl) ?_
  refine l_nil ?_
  refine c_seq ?_
  refine c_seq ?_
  refine c_region ?_
  refine l_val rfl rfl rfl (r_assign (v := .int .i64 0) rfl) ?_
  refine l_nil ?_
  refine c_block ?_
  refine c_nilRow 90 4 ?_
  refine c_fix (σ := Int × (List T_where_Stop)) (τ := (Option Addr × Nat)) (fun next1 s => R_StopsOf_l1 a0 a1 a2 next1 s.1 s.2) (fun s t => [(0, v0), (1, .int .i64 a1), (2, .int .i64 a2), (7, .slice t.1 s.2.length t.2), (8, .int .i64 s.1)]) (fun s t => [rowV 90 4 (.slice t.1 s.2.length t.2) s.2.length (s.2.map e_where_Stop)]) (fun s t => True) (0, ([] : List T_where_Stop)) ((none, 0) : Option Addr × Nat) [0] H (by exact trivial) (by exact ⟨rfl, rfl, rfl, rfl, rfl, trivial⟩) (by decide) rfl ?_
  rintro ⟨x8_2, l_2⟩ p m1 gg H35 _
  clear H
  replace H35 : R_StopsOf_l1 a0 a1 a2 (it (fun next1 s => R_StopsOf_l1 a0 a1 a2 next1 s.1 s.2) m1) x8_2 l_2 = some r := H35
  generalize hn1 : it (fun next1 s => R_StopsOf_l1 a0 a1 a2 next1 s.1 s.2) m1 = next1 at H35
  refine c_tidyF [(0, v0), (1, .int .i64 a1), (2, .int .i64 a2), (7, .slice p.1 l_2.length p.2), (8, .int .i64 x8_2)] [rowV 90 4 (.slice p.1 l_2.length p.2) l_2.length (l_2.map e_where_Stop)] rfl rfl ?_
  refine c_seq ?_
  refine c_seq ?_
  refine c_region ?_
  refine l_val rfl rfl rfl (r_move (v := .int .i64 x8_2) rfl) ?_
  refine l_val rfl rfl rfl (r_move (v := v0) rfl) ?_
  refine l_val rfl rfl rfl (r_lenF Try.underlying49 rfl f0 rfl) ?_
  refine l_val rfl rfl rfl (r_lss rfl rfl) ?_
  refine l_nil ?_
  refine c_if (b := (decide (x8_2 < (a0.length : Int)))) rfl (fun hb => ?_) (fun hb => ?_)
  · have H36 := cnd_t hb H35; clear H35
    refine c_skip ?_
    refine c_block ?_
    refine c_seq ?_
    refine c_region ?_
    refine l_val rfl rfl rfl (r_move (v := .int .i64 x8_2) rfl) ?_
    refine l_val rfl rfl rfl (r_assign (v := .int .i64 x8_2) rfl) ?_
    refine l_nil ?_
    refine c_meet (r := r) (σ := Int) (τ := Unit) (fun s => R_StopsOf_j2 a0 a2 x8_2 l_2 next1 s) (fun s t => [(0, v0), (1, .int .i64 a1), (2, .int .i64 a2), (7, .slice p.1 l_2.length p.2), (8, .int .i64 x8_2), (9, .int .i64 s)]) (fun s t => [rowV 90 4 (.slice p.1 l_2.length p.2) l_2.length (l_2.map e_where_Stop)]) (fun s t => True) ?_ ?_
    · refine c_block ?_
      refine c_fix (σ := Int) (τ := Unit) (fun next5 s => R_StopsOf_l5 a0 a1 a2 x8_2 l_2 next1 next5 s) (fun s t => [(0, v0), (1, .int .i64 a1), (2, .int .i64 a2), (7, .slice p.1 l_2.length p.2), (8, .int .i64 x8_2), (9, .int .i64 s)]) (fun s t => [rowV 90 4 (.slice p.1 l_2.length p.2) l_2.length (l_2.map e_where_Stop)]) (fun s t => True) x8_2 () [0] H36 (by exact trivial) (by exact ⟨rfl, rfl, rfl, rfl, rfl, rfl, trivial⟩) (by decide) rfl ?_
      rintro x9_3 _ m5 gg H57 _
      clear H36
      replace H57 : R_StopsOf_l5 a0 a1 a2 x8_2 l_2 next1 (it (fun next5 s => R_StopsOf_l5 a0 a1 a2 x8_2 l_2 next1 next5 s) m5) x9_3 = some r := H57
      generalize hn5 : it (fun next5 s => R_StopsOf_l5 a0 a1 a2 x8_2 l_2 next1 next5 s) m5 = next5 at H57
      refine c_tidyF [(0, v0), (1, .int .i64 a1), (2, .int .i64 a2), (7, .slice p.1 l_2.length p.2), (8, .int .i64 x8_2), (9, .int .i64 x9_3)] [rowV 90 4 (.slice p.1 l_2.length p.2) l_2.length (l_2.map e_where_Stop)] rfl rfl ?_
      refine c_seq ?_
      refine c_seq ?_
      exact c_regionD (Kd.p :: Kd.p :: Kd.p :: Kd.p :: Kd.p :: Kd.p :: Kd.p :: Kd.p :: Kd.p :: Kd.p :: Kd.d [] _ :: Kd.p :: Kd.p :: Kd.p :: Kd.p :: Kd.p :: Kd.d [] _ :: Kd.d [] _ :: Kd.p :: Kd.p :: Kd.p :: []) 0 mixed (by
        refine d_val rfl rfl (r_move (v := .int .i64 x9_3) rfl) ?_
        have h_t19 := bnd_val H57
        have H58 := bnd_rest H57
        refine d_val rfl rfl (r_addG rfl rfl h_t19) ?_
        refine d_val rfl rfl (r_move (v := v0) rfl) ?_
        refine d_val rfl rfl (r_lenF Try.underlying49 rfl f0 rfl) ?_
        refine d_val rfl rfl (r_lss rfl rfl) ?_
        refine d_val rfl rfl (r_move (v := .bool (decide ((val (gI (x9_3 + 1))) < (a0.length : Int)))) rfl) ?_
        refine splitS (fun hb => ?_) (fun hb => ?_)
        · have H59 := cnd_t hb H58
          refine d_val rfl rfl (r_move (v := v0) rfl) ?_
          refine d_val rfl rfl (r_move (v := .int .i64 x8_2) rfl) ?_
          have h_t26 := bnd_val H59
          have H60 := bnd_rest H59
          refine d_val rfl rfl (r_indexF Try.underlying49 Try.sizeOf78 rfl rfl f0 h_t26) ?_
          refine d_val rfl rfl (r_fieldP Try.runUnderlying78 rfl Try.sizeOf25 rfl rfl (some_of_at f0 h_t26)) ?_
          refine d_read (fun w hF => run_loadGN (j := 1) (vs := [.int .i64 (val (gAt a0 x8_2)).Place.Lat, .int .i64 (val (gAt a0 x8_2)).Place.Lon]) Try.isAgg25 Try.sizeOf25 rfl rfl (f0.row (hw.now hF)) h_t26 rfl) rfl rfl ?_
          refine d_val rfl rfl (r_move (v := v0) rfl) ?_
          refine d_val rfl rfl (r_move (v := .int .i64 x9_3) rfl) ?_
          have h_t31 := bnd_val H60
          have H61 := bnd_rest H60
          refine d_val rfl rfl (r_addG rfl rfl h_t31) ?_
          have h_t32 := bnd_val H61
          have H62 := bnd_rest H61
          refine d_val rfl rfl (r_indexF Try.underlying49 Try.sizeOf78 rfl rfl f0 h_t32) ?_
          refine d_val rfl rfl (r_fieldP Try.runUnderlying78 rfl Try.sizeOf25 rfl rfl (some_of_at f0 h_t32)) ?_
          refine d_read (fun w hF => run_loadGN (j := 1) (vs := [.int .i64 (val (gAt a0 (val (gI (x9_3 + 1))))).Place.Lat, .int .i64 (val (gAt a0 (val (gI (x9_3 + 1))))).Place.Lon]) Try.isAgg25 Try.sizeOf25 rfl rfl (f0.row (hw.now hF)) h_t32 rfl) rfl rfl ?_
          have h_t35 := bnd_val H62
          have H63 := bnd_rest H62
          refine d_call (k39 h_t35) Try.call39 rfl rfl ?_
          refine d_val rfl rfl (r_move (v := .int .i64 a1) rfl) ?_
          refine d_val rfl rfl (r_leq rfl rfl) ?_
          refine d_val rfl rfl (r_pickT (v := .bool (decide ((val (R_DistanceOf (val (gAt a0 x8_2)).Place (val (gAt a0 (val (gI (x9_3 + 1))))).Place)) ≤ a1))) rfl rfl) ?_
          refine d_nil ?_
          refine c_if (b := (decide ((val (R_DistanceOf (val (gAt a0 x8_2)).Place (val (gAt a0 (val (gI (x9_3 + 1))))).Place)) ≤ a1))) rfl (fun hb => ?_) (fun hb => ?_)
          · have H64 := cnd_t hb H63; clear H63
            refine c_skip ?_
            refine c_block ?_
            refine c_region ?_
            refine l_val rfl rfl rfl (r_move (v := .int .i64 x9_3) rfl) ?_
            obtain ⟨t40, h_t40, H65⟩ := bnd_some H64; clear H64
            refine l_val rfl rfl rfl (r_addG rfl rfl h_t40) ?_
            refine l_val rfl rfl rfl (r_assign (v := .int .i64 t40) rfl) ?_
            refine l_nil ?_
            refine c_close t40 () m5 [0] (by exact ⟨rfl, rfl, rfl, rfl, rfl, rfl, trivial⟩) (by decide) rfl (by exact ⟨(by subst hn5; exact H65), trivial⟩) (Nat.lt_succ_self _)
          · have H66 := cnd_f hb H63; clear H63
            refine c_exit ?_
            refine c_close x9_3 () 0 [0] (by exact ⟨rfl, rfl, rfl, rfl, rfl, rfl, trivial⟩) (by decide) rfl (by exact ⟨H66, trivial⟩) (Nat.lt_succ_self _)
        · have H67 := cnd_f hb H58
          refine d_pass rfl rfl ?_
          refine d_pass rfl rfl ?_
          refine d_pass rfl rfl ?_
          refine d_pass rfl rfl ?_
          refine d_pass rfl rfl ?_
          refine d_pass rfl rfl ?_
          refine d_pass rfl rfl ?_
          refine d_pass rfl rfl ?_
          refine d_pass rfl rfl ?_
          refine d_pass rfl rfl ?_
          refine d_pass rfl rfl ?_
          refine d_pass rfl rfl ?_
          refine d_pass rfl rfl ?_
          refine d_pass rfl rfl ?_
          refine d_val rfl rfl (r_pickF (v := .bool false) rfl rfl) ?_
          refine d_nil ?_
          refine c_false rfl ?_
          refine c_exit ?_
          refine c_close x9_3 () 0 [0] (by exact ⟨rfl, rfl, rfl, rfl, rfl, rfl, trivial⟩) (by decide) rfl (by exact ⟨H67, trivial⟩) (Nat.lt_succ_self _)
        ) (by kernel_rfl)
    · rintro x9 _ gg H37 _
      replace H37 : R_StopsOf_j2 a0 a2 x8_2 l_2 next1 x9 = some r := H37
      refine c_tidyF [(0, v0), (1, .int .i64 a1), (2, .int .i64 a2), (7, .slice p.1 l_2.length p.2), (8, .int .i64 x8_2), (9, .int .i64 x9)] [rowV 90 4 (.slice p.1 l_2.length p.2) l_2.length (l_2.map e_where_Stop)] rfl rfl ?_
      refine c_seq ?_
      refine c_seq ?_
      exact c_regionD (Kd.p :: Kd.p :: Kd.p :: Kd.p :: Kd.d [] _ :: Kd.p :: Kd.p :: Kd.p :: Kd.p :: Kd.d [] _ :: Kd.p :: Kd.p :: Kd.p :: []) 0 mixed (by
        refine d_val rfl rfl (r_move (v := v0) rfl) ?_
        refine d_val rfl rfl (r_move (v := .int .i64 x9) rfl) ?_
        have h_t43 := bnd_val H37
        have H38 := bnd_rest H37
        refine d_val rfl rfl (r_indexF Try.underlying49 Try.sizeOf78 rfl rfl f0 h_t43) ?_
        refine d_val rfl rfl (r_fieldP Try.runUnderlying78 rfl Try.sizeOf3 rfl rfl (some_of_at f0 h_t43)) ?_
        refine d_read (fun w hF => run_loadG1 (j := 0) (v := .int .i64 (val (gAt a0 x9)).Moment) Try.isAgg3 rfl rfl (f0.row (hw.now hF)) h_t43 rfl) rfl rfl ?_
        refine d_val rfl rfl (r_move (v := v0) rfl) ?_
        refine d_val rfl rfl (r_move (v := .int .i64 x8_2) rfl) ?_
        have h_t48 := bnd_val H38
        have H39 := bnd_rest H38
        refine d_val rfl rfl (r_indexF Try.underlying49 Try.sizeOf78 rfl rfl f0 h_t48) ?_
        refine d_val rfl rfl (r_fieldP Try.runUnderlying78 rfl Try.sizeOf3 rfl rfl (some_of_at f0 h_t48)) ?_
        refine d_read (fun w hF => run_loadG1 (j := 0) (v := .int .i64 (val (gAt a0 x8_2)).Moment) Try.isAgg3 rfl rfl (f0.row (hw.now hF)) h_t48 rfl) rfl rfl ?_
        have h_t51 := bnd_val H39
        have H40 := bnd_rest H39
        refine d_val rfl rfl (r_subG rfl rfl h_t51) ?_
        refine d_val rfl rfl (r_move (v := .int .i64 a2) rfl) ?_
        refine d_val rfl rfl (r_lss rfl rfl) ?_
        refine d_nil ?_
        refine c_if (b := (decide ((val (gI ((val (gAt a0 x9)).Moment - (val (gAt a0 x8_2)).Moment))) < a2))) rfl (fun hb => ?_) (fun hb => ?_)
        · have H41 := cnd_t hb H40; clear H40
          refine c_seq ?_
          refine c_region ?_
          refine l_val rfl rfl rfl (r_move (v := .int .i64 x8_2) rfl) ?_
          obtain ⟨t55, h_t55, H42⟩ := bnd_some H41; clear H41
          refine l_val rfl rfl rfl (r_addG rfl rfl h_t55) ?_
          refine l_val rfl rfl rfl (r_assign (v := .int .i64 t55) rfl) ?_
          refine l_nil ?_
          refine c_exit ?_
          refine c_close (t55, l_2) p m1 [0] (by exact ⟨rfl, rfl, rfl, rfl, rfl, trivial⟩) (by decide) rfl (by exact ⟨(by subst hn1; exact H42), trivial⟩) (Nat.lt_succ_self _)
        · have H43 := cnd_f hb H40; clear H40
          refine c_skip ?_
          refine c_seq ?_
          refine c_region ?_
          refine l_val rfl rfl rfl (r_assign (v := .slice none 0 0) rfl) ?_
          refine l_nil ?_
          refine c_meet (r := r) (σ := (List T_api_Place)) (τ := (Option Addr × Nat)) (fun s => R_StopsOf_j3 x8_2 l_2 next1 x9 s) (fun s t => [(0, v0), (1, .int .i64 a1), (2, .int .i64 a2), (7, .slice p.1 l_2.length p.2), (8, .int .i64 x8_2), (9, .int .i64 x9), (10, .slice t.1 s.length t.2)]) (fun s t => [rowV 90 4 (.slice p.1 l_2.length p.2) l_2.length (l_2.map e_where_Stop), rowV 25 2 (.slice t.1 s.length t.2) s.length (s.map e_api_Place)]) (fun s t => True) ?_ ?_
          · refine c_seq ?_
            refine c_region ?_
            refine l_val rfl rfl rfl (r_move (v := v0) rfl) ?_
            refine l_val rfl rfl rfl (r_move (v := .int .i64 x8_2) rfl) ?_
            refine l_val rfl rfl rfl (r_move (v := .int .i64 x9) rfl) ?_
            obtain ⟨t59, h_t59, H49⟩ := bnd_some H43; clear H43
            refine l_val rfl rfl rfl (r_addG rfl rfl h_t59) ?_
            obtain ⟨t60, h_t60, H50⟩ := bnd_some H49; clear H49
            refine l_val rfl rfl rfl (r_sliceLHF Try.underlying49 Try.sizeOf78 rfl rfl rfl f0 h_t60) ?_
            refine l_val rfl rfl rfl (r_lenF Try.underlying49 rfl (f0.cut h_t60) rfl) ?_
            refine l_val rfl rfl rfl (r_move (v := .int .i64 0) rfl) ?_
            refine l_nil ?_
            refine c_block ?_
            refine c_nilRow 25 2 ?_
            refine c_fix (σ := Int × (List T_api_Place)) (τ := (Option Addr × Nat)) (fun next4 s => R_StopsOf_l4 x8_2 l_2 next1 x9 t60 next4 s.1 s.2) (fun s t => [(0, v0), (1, .int .i64 a1), (2, .int .i64 a2), (7, .slice p.1 l_2.length p.2), (8, .int .i64 x8_2), (9, .int .i64 x9), (10, .slice t.1 s.2.length t.2), (60, (cutV 3 v0 x8_2 t59)), (61, .int .i64 (t60.length : Int)), (62, .int .i64 s.1)]) (fun s t => [rowV 90 4 (.slice p.1 l_2.length p.2) l_2.length (l_2.map e_where_Stop), rowV 25 2 (.slice t.1 s.2.length t.2) s.2.length (s.2.map e_api_Place)]) (fun s t => True) (0, ([] : List T_api_Place)) ((none, 0) : Option Addr × Nat) [0, 1] H50 (by exact trivial) (by exact ⟨rfl, rfl, rfl, rfl, rfl, rfl, rfl, rfl, rfl, rfl, trivial⟩) (by decide) rfl ?_
            rintro ⟨x62_2, l_5⟩ p_4 m4 gg H51 _
            clear H50
            replace H51 : R_StopsOf_l4 x8_2 l_2 next1 x9 t60 (it (fun next4 s => R_StopsOf_l4 x8_2 l_2 next1 x9 t60 next4 s.1 s.2) m4) x62_2 l_5 = some r := H51
            generalize hn4 : it (fun next4 s => R_StopsOf_l4 x8_2 l_2 next1 x9 t60 next4 s.1 s.2) m4 = next4 at H51
            refine c_tidyF [(0, v0), (1, .int .i64 a1), (2, .int .i64 a2), (7, .slice p.1 l_2.length p.2), (8, .int .i64 x8_2), (9, .int .i64 x9), (10, .slice p_4.1 l_5.length p_4.2), (60, (cutV 3 v0 x8_2 t59)), (61, .int .i64 (t60.length : Int)), (62, .int .i64 x62_2)] [rowV 90 4 (.slice p.1 l_2.length p.2) l_2.length (l_2.map e_where_Stop), rowV 25 2 (.slice p_4.1 l_5.length p_4.2) l_5.length (l_5.map e_api_Place)] rfl rfl ?_
            refine c_seq ?_
            refine c_region ?_
            refine l_val rfl rfl rfl (r_lss rfl rfl) ?_
            refine l_nil ?_
            refine c_seq ?_
            refine c_if (b := (decide (x62_2 < (t60.length : Int)))) rfl (fun hb => ?_) (fun hb => ?_)
            · have H52 := cnd_t hb H51; clear H51
              refine c_skip ?_
              refine c_seq ?_
              refine c_block ?_
              refine c_seq ?_
              refine c_region ?_
              obtain ⟨t64, h_t64, H53⟩ := bnd_some H52; clear H52
              refine l_val rfl rfl rfl (r_indexF Try.underlying49 Try.sizeOf78 rfl rfl (f0.cut h_t60) h_t64) ?_
              refine l_read (fun w hF hS => run_loadGN (j := 0) (vs := [.int .i64 t64.Moment, .int .i64 t64.Place.Lat, .int .i64 t64.Place.Lon]) Try.isAgg78 Try.sizeOf78 rfl rfl ((f0.cut h_t60).row (hw.now hF)) h_t64 rfl) rfl rfl rfl ?_
              refine l_alloc (cs := [.int .i64 0, .int .i64 0, .int .i64 0]) Try.zeroValue78 rfl rfl rfl (fun b4 => ?_)
              refine l_store (i := 2) (vs := [.int .i64 t64.Moment, .int .i64 t64.Place.Lat, .int .i64 t64.Place.Lon]) (cs' := [.int .i64 t64.Moment, .int .i64 t64.Place.Lat, .int .i64 t64.Place.Lon]) Try.sizeOf78 rfl rfl rfl rfl rfl rfl rfl rfl rfl ?_
              refine l_nil ?_
              refine c_region ?_
              refine l_val rfl rfl rfl (r_move (v := .slice p_4.1 l_5.length p_4.2) rfl) ?_
              refine l_val rfl rfl rfl (r_field Try.runUnderlying78 rfl Try.sizeOf25 rfl rfl) ?_
              refine l_loadN (i := 2) (vs := [.int .i64 t64.Place.Lat, .int .i64 t64.Place.Lon]) Try.isAgg25 Try.sizeOf25 rfl rfl rfl rfl rfl ?_
              refine l_buildSlice (vs := [.agg #[.int .i64 t64.Place.Lat, .int .i64 t64.Place.Lon]]) (cs := [.int .i64 t64.Place.Lat, .int .i64 t64.Place.Lon]) Try.underlying54 Try.sizeOf25 Try.zeroValue25 rfl rfl rfl rfl rfl rfl rfl (fun b5 => ?_)
              obtain ⟨l70, h_l70, H54⟩ := bnd_some H53; clear H53
              refine l_turn (turns_appG (i := 1) (hn := rfl) (rds := [3]) (p := p_4) (sz := 2) (by_ := 16) (f := e_api_Place) (ys := l_5) (ls := ([t64.Place] : List T_api_Place)) (V := .slice (some ⟨b5, 0, none⟩) 1 1) Try.underlying54 (info_of Try.typeInfo25) rfl rfl rfl rfl rfl rfl rfl rfl rfl rfl (fun w L' hF hS hi => row_box (i := 3) hS ((hi 3 (by simp)).trans rfl) rfl rfl) (fun _ => rfl) (fun _ => rfl) h_l70) rfl rfl rfl (fun p_5 => ?_)
              refine l_val rfl rfl rfl (r_assign (v := .slice p_5.1 l70.length p_5.2) rfl) ?_
              refine l_nil ?_
              refine c_region ?_
              obtain ⟨t71, h_t71, H55⟩ := bnd_some H54; clear H54
              refine l_val rfl rfl rfl (r_addG rfl rfl h_t71) ?_
              refine l_val rfl rfl rfl (r_move (v := .int .i64 t71) rfl) ?_
              refine l_nil ?_
              refine c_close (t71, l70) p_5 m4 [0, 1] (by exact ⟨rfl, rfl, rfl, rfl, rfl, rfl, rfl, rfl, rfl, rfl, trivial⟩) (by decide) rfl (by exact ⟨(by subst hn4; exact H55), trivial⟩) (Nat.lt_succ_self _)
            · have H56 := cnd_f hb H51; clear H51
              refine c_exit ?_
              refine c_close l_5 p_4 0 [0, 1] (by exact ⟨rfl, rfl, rfl, rfl, rfl, rfl, rfl, trivial⟩) (by decide) rfl (by exact ⟨H56, trivial⟩) (Nat.lt_succ_self _)
          · rintro l_3 p_2 gg H44 _
            replace H44 : R_StopsOf_j3 x8_2 l_2 next1 x9 l_3 = some r := H44
            refine c_tidyF [(0, v0), (1, .int .i64 a1), (2, .int .i64 a2), (7, .slice p.1 l_2.length p.2), (8, .int .i64 x8_2), (9, .int .i64 x9), (10, .slice p_2.1 l_3.length p_2.2)] [rowV 90 4 (.slice p.1 l_2.length p.2) l_2.length (l_2.map e_where_Stop), rowV 25 2 (.slice p_2.1 l_3.length p_2.2) l_3.length (l_3.map e_api_Place)] rfl rfl ?_
            refine c_seq ?_
            refine c_region ?_
            refine l_val rfl rfl rfl (r_move (v := .slice p.1 l_2.length p.2) rfl) ?_
            refine l_val rfl rfl rfl (r_move (v := .int .i64 x8_2) rfl) ?_
            refine l_val rfl rfl rfl (r_move (v := .int .i64 x9) rfl) ?_
            refine l_val rfl rfl rfl (r_move (v := .slice p_2.1 l_3.length p_2.2) rfl) ?_
            refine l_val rfl rfl rfl (r_move (v := .slice p_2.1 l_3.length p_2.2) rfl) ?_
            obtain ⟨t77, h_t77, H45⟩ := bnd_some H44; clear H44
            refine l_callG (fun w hF hS => k58 (know_all w) (frs_own (i := 1) rfl hS rfl) h_t77) Try.call58 rfl rfl rfl ?_
            obtain ⟨t78, h_t78, H46⟩ := bnd_some H45; clear H45
            refine l_read (fun w hF hS => run_indexO Try.underlying54 Try.sizeOf25 rfl rfl (rowOf (i := 1) hS rfl) rfl h_t78) rfl rfl rfl ?_
            refine l_read (fun w hF hS => run_loadGN (j := 0) (vs := [.int .i64 t78.Lat, .int .i64 t78.Lon]) Try.isAgg25 Try.sizeOf25 rfl rfl (rowOf (i := 1) hS rfl) h_t78 rfl) rfl rfl rfl ?_
            refine l_val rfl rfl rfl (r_build (pl := #[(0, 1), (1, 1), (2, 2)]) (ps := [(0, .int .i64 x8_2), (1, .int .i64 x9), (2, .agg #[.int .i64 t78.Lat, .int .i64 t78.Lon])]) (cells := #[.int .i64 x8_2, .int .i64 x9, .int .i64 t78.Lat, .int .i64 t78.Lon]) Try.zeroValue90 Try.runUnderlying90 (fun w => by kernel_rfl) rfl rfl) ?_
            refine l_buildSlice (vs := [.agg #[.int .i64 x8_2, .int .i64 x9, .int .i64 t78.Lat, .int .i64 t78.Lon]]) (cs := [.int .i64 x8_2, .int .i64 x9, .int .i64 t78.Lat, .int .i64 t78.Lon]) Try.underlying84 Try.sizeOf90 Try.zeroValue90 rfl rfl rfl rfl rfl rfl rfl (fun b3 => ?_)
            obtain ⟨l82, h_l82, H47⟩ := bnd_some H46; clear H46
            refine l_turn (turns_appG (i := 0) (hn := rfl) (rds := [2]) (p := p) (sz := 4) (by_ := 32) (f := e_where_Stop) (ys := l_2) (ls := ([(⟨x8_2, x9, t78⟩ : T_where_Stop)] : List T_where_Stop)) (V := .slice (some ⟨b3, 0, none⟩) 1 1) Try.underlying84 (info_of Try.typeInfo90) rfl rfl rfl rfl rfl rfl rfl rfl rfl rfl (fun w L' hF hS hi => row_box (i := 2) hS ((hi 2 (by simp)).trans rfl) rfl rfl) (fun _ => rfl) (fun _ => rfl) h_l82) rfl rfl rfl (fun p_3 => ?_)
            refine l_val rfl rfl rfl (r_assign (v := .slice p_3.1 l82.length p_3.2) rfl) ?_
            refine l_nil ?_
            refine c_region ?_
            refine l_val rfl rfl rfl (r_move (v := .int .i64 x9) rfl) ?_
            obtain ⟨t84, h_t84, H48⟩ := bnd_some H47; clear H47
            refine l_val rfl rfl rfl (r_addG rfl rfl h_t84) ?_
            refine l_val rfl rfl rfl (r_assign (v := .int .i64 t84) rfl) ?_
            refine l_nil ?_
            refine c_close (t84, l82) p_3 m1 [0] (by exact ⟨rfl, rfl, rfl, rfl, rfl, trivial⟩) (by decide) rfl (by exact ⟨(by subst hn1; exact H48), trivial⟩) (Nat.lt_succ_self _)
        ) (by kernel_rfl)
  · have H68 := cnd_f hb H35; clear H35
    refine c_exit ?_
    refine c_seq ?_
    refine c_region ?_
    refine l_val rfl rfl rfl (r_move (v := .slice p.1 l_2.length p.2) rfl) ?_
    refine l_val rfl rfl rfl (r_assign (v := .slice p.1 l_2.length p.2) rfl) ?_
    refine l_nil ?_
    refine c_ret ?_
    obtain rfl := Option.some.inj H68
    refine ret1 (v := .slice p.1 l_2.length p.2) rfl rfl (finX p (i := 0) rfl rfl (Imp.refl _))
theorem k51 {a0 : (List T_where_Fix)} {v0 : Value} {a1 : Int} {a2 : Int} {r : (List T_where_Stop)} {w : World} {h : Heap} (hw : Know h w noS) (f0 : FrS h 3 v0 (a0.map e_where_Fix)) (H : R_TripsOf a0 a1 a2 = some r) : Does Try.prog 51 (List.toArray [v0, .int .i64 a1, .int .i64 a2]) w (fun v w' => ∃ x : (Option Addr × Nat), v = (.slice x.1 r.length x.2) ∧ Turn w w' noS (rowV 90 4 (.slice x.1 r.length x.2) r.length (r.map e_where_Stop))) := by
  refine enter (n := 70) Try.func51 rfl rfl rfl noS [] (Sat.nil _ _) ?_
  refine c_seq ?_
  refine c_region ?_
  refine l_val rfl rfl rfl (r_assign (v := .slice none 0 0) rfl) ?_
  refine l_nil ?_
  refine c_seq ?_
  refine c_region ?_
  refine l_val rfl rfl rfl (r_assign (v := .slice none 0 0) rfl) ?_
  refine l_nil ?_
  refine c_seq ?_
  refine c_region ?_
  refine l_val rfl rfl rfl (r_assign (v := .int .i64 0) rfl) ?_
  refine l_nil ?_
  refine c_seq ?_
  refine c_seq ?_
  refine c_region ?_
  refine l_val rfl rfl rfl (r_move (v := v0) rfl) ?_
  refine l_val rfl rfl rfl (r_lenF Try.underlying49 rfl f0 rfl) ?_
  refine l_val rfl rfl rfl (r_move (v := .int .i64 0) rfl) ?_
  refine l_nil ?_
  refine c_block ?_
  refine c_nilRow 90 4 ?_
  refine c_fix (σ := Int × Int × (List T_where_Stop)) (τ := (Option Addr × Nat)) (fun next1 s => R_TripsOf_l1 a0 a1 a2 next1 s.1 s.2.1 s.2.2) (fun s t => [(0, v0), (1, .int .i64 a1), (2, .int .i64 a2), (7, .slice t.1 s.2.2.length t.2), (8, .int .i64 s.1), (11, .int .i64 (a0.length : Int)), (12, .int .i64 s.2.1)]) (fun s t => [rowV 90 4 (.slice t.1 s.2.2.length t.2) s.2.2.length (s.2.2.map e_where_Stop)]) (fun s t => True) (0, 0, ([] : List T_where_Stop)) ((none, 0) : Option Addr × Nat) [0] H (by exact trivial) (by exact ⟨rfl, rfl, rfl, rfl, rfl, rfl, rfl, trivial⟩) (by decide) rfl ?_
  rintro ⟨x8_2, x12_2, l_2⟩ p m1 gg H28 _
  clear H
  replace H28 : R_TripsOf_l1 a0 a1 a2 (it (fun next1 s => R_TripsOf_l1 a0 a1 a2 next1 s.1 s.2.1 s.2.2) m1) x8_2 x12_2 l_2 = some r := H28
  generalize hn1 : it (fun next1 s => R_TripsOf_l1 a0 a1 a2 next1 s.1 s.2.1 s.2.2) m1 = next1 at H28
  refine c_tidyF [(0, v0), (1, .int .i64 a1), (2, .int .i64 a2), (7, .slice p.1 l_2.length p.2), (8, .int .i64 x8_2), (11, .int .i64 (a0.length : Int)), (12, .int .i64 x12_2)] [rowV 90 4 (.slice p.1 l_2.length p.2) l_2.length (l_2.map e_where_Stop)] rfl rfl ?_
  refine c_seq ?_
  refine c_region ?_
  refine l_val rfl rfl rfl (r_lss rfl rfl) ?_
  refine l_nil ?_
  refine c_seq ?_
  refine c_if (b := (decide (x12_2 < (a0.length : Int)))) rfl (fun hb => ?_) (fun hb => ?_)
  · have H29 := cnd_t hb H28; clear H28
    refine c_skip ?_
    refine c_meet (r := r) (σ := Int × (List T_where_Stop)) (τ := (Option Addr × Nat)) (fun s => R_TripsOf_j2 x12_2 next1 s.1 s.2) (fun s t => [(0, v0), (1, .int .i64 a1), (2, .int .i64 a2), (7, .slice t.1 s.2.length t.2), (8, .int .i64 s.1), (11, .int .i64 (a0.length : Int)), (12, .int .i64 x12_2)]) (fun s t => [rowV 90 4 (.slice t.1 s.2.length t.2) s.2.length (s.2.map e_where_Stop)]) (fun s t => True) ?_ ?_
    · refine c_block ?_
      refine c_seq ?_
      refine c_region ?_
      refine l_val rfl rfl rfl (r_move (v := .int .i64 x12_2) rfl) ?_
      refine l_val rfl rfl rfl (r_assign (v := .int .i64 x12_2) rfl) ?_
      refine l_nil ?_
      refine c_meet (r := r) (σ := Unit) (τ := Unit) (fun s => R_TripsOf_j3 a0 x8_2 x12_2 l_2 next1) (fun s t => [(0, v0), (1, .int .i64 a1), (2, .int .i64 a2), (7, .slice p.1 l_2.length p.2), (8, .int .i64 x8_2), (9, .int .i64 x12_2), (11, .int .i64 (a0.length : Int)), (12, .int .i64 x12_2)]) (fun s t => [rowV 90 4 (.slice p.1 l_2.length p.2) l_2.length (l_2.map e_where_Stop)]) (fun s t => True) ?_ ?_
      · refine c_seq ?_
        exact c_regionD (Kd.p :: Kd.p :: Kd.p :: Kd.p :: Kd.p :: Kd.p :: Kd.p :: Kd.p :: Kd.p :: Kd.p :: Kd.p :: Kd.d [] _ :: Kd.p :: Kd.p :: Kd.p :: Kd.p :: Kd.d [] _ :: Kd.p :: Kd.p :: Kd.p :: Kd.p :: Kd.p :: Kd.p :: Kd.p :: Kd.p :: Kd.p :: Kd.d [] _ :: Kd.p :: Kd.p :: Kd.p :: Kd.p :: Kd.p :: Kd.d [] _ :: Kd.d [] _ :: Kd.p :: Kd.p :: Kd.p :: []) 0 mixed (by
          refine d_val rfl rfl (r_move (v := .int .i64 x12_2) rfl) ?_
          have h_t16 := bnd_val H29
          have H39 := bnd_rest H29
          refine d_val rfl rfl (r_addG rfl rfl h_t16) ?_
          refine d_val rfl rfl (r_move (v := v0) rfl) ?_
          refine d_val rfl rfl (r_lenF Try.underlying49 rfl f0 rfl) ?_
          refine d_val rfl rfl (r_lss rfl rfl) ?_
          refine d_val rfl rfl (r_move (v := .bool (decide ((val (gI (x12_2 + 1))) < (a0.length : Int)))) rfl) ?_
          refine splitS (fun hb => ?_) (fun hb => ?_)
          · have H40 := cnd_t hb H39
            refine d_val rfl rfl (r_move (v := v0) rfl) ?_
            refine d_val rfl rfl (r_move (v := .int .i64 x12_2) rfl) ?_
            have h_t23 := bnd_val H40
            have H41 := bnd_rest H40
            refine d_val rfl rfl (r_addG rfl rfl h_t23) ?_
            have h_t24 := bnd_val H41
            have H42 := bnd_rest H41
            refine d_val rfl rfl (r_indexF Try.underlying49 Try.sizeOf78 rfl rfl f0 h_t24) ?_
            refine d_val rfl rfl (r_fieldP Try.runUnderlying78 rfl Try.sizeOf3 rfl rfl (some_of_at f0 h_t24)) ?_
            refine d_read (fun w hF => run_loadG1 (j := 0) (v := .int .i64 (val (gAt a0 (val (gI (x12_2 + 1))))).Moment) Try.isAgg3 rfl rfl (f0.row (hw.now hF)) h_t24 rfl) rfl rfl ?_
            refine d_val rfl rfl (r_move (v := v0) rfl) ?_
            refine d_val rfl rfl (r_move (v := .int .i64 x12_2) rfl) ?_
            have h_t29 := bnd_val H42
            have H43 := bnd_rest H42
            refine d_val rfl rfl (r_indexF Try.underlying49 Try.sizeOf78 rfl rfl f0 h_t29) ?_
            refine d_val rfl rfl (r_fieldP Try.runUnderlying78 rfl Try.sizeOf3 rfl rfl (some_of_at f0 h_t29)) ?_
            refine d_read (fun w hF => run_loadG1 (j := 0) (v := .int .i64 (val (gAt a0 x12_2)).Moment) Try.isAgg3 rfl rfl (f0.row (hw.now hF)) h_t29 rfl) rfl rfl ?_
            have h_t32 := bnd_val H43
            have H44 := bnd_rest H43
            refine d_val rfl rfl (r_subG rfl rfl h_t32) ?_
            refine d_val rfl rfl (r_move (v := .int .i64 a1) rfl) ?_
            refine d_val rfl rfl (r_leq rfl rfl) ?_
            refine d_val rfl rfl (r_pickT (v := .bool (decide ((val (gI ((val (gAt a0 (val (gI (x12_2 + 1))))).Moment - (val (gAt a0 x12_2)).Moment))) ≤ a1))) rfl rfl) ?_
            refine d_val rfl rfl (r_move (v := .bool (decide ((val (gI ((val (gAt a0 (val (gI (x12_2 + 1))))).Moment - (val (gAt a0 x12_2)).Moment))) ≤ a1))) rfl) ?_
            refine splitS (fun hb => ?_) (fun hb => ?_)
            · have H45 := cnd_t hb H44
              refine d_val rfl rfl (r_move (v := v0) rfl) ?_
              refine d_val rfl rfl (r_move (v := .int .i64 x12_2) rfl) ?_
              have h_t39 := bnd_val H45
              have H46 := bnd_rest H45
              refine d_val rfl rfl (r_indexF Try.underlying49 Try.sizeOf78 rfl rfl f0 h_t39) ?_
              refine d_val rfl rfl (r_fieldP Try.runUnderlying78 rfl Try.sizeOf25 rfl rfl (some_of_at f0 h_t39)) ?_
              refine d_read (fun w hF => run_loadGN (j := 1) (vs := [.int .i64 (val (gAt a0 x12_2)).Place.Lat, .int .i64 (val (gAt a0 x12_2)).Place.Lon]) Try.isAgg25 Try.sizeOf25 rfl rfl (f0.row (hw.now hF)) h_t39 rfl) rfl rfl ?_
              refine d_val rfl rfl (r_move (v := v0) rfl) ?_
              refine d_val rfl rfl (r_move (v := .int .i64 x12_2) rfl) ?_
              have h_t44 := bnd_val H46
              have H47 := bnd_rest H46
              refine d_val rfl rfl (r_addG rfl rfl h_t44) ?_
              have h_t45 := bnd_val H47
              have H48 := bnd_rest H47
              refine d_val rfl rfl (r_indexF Try.underlying49 Try.sizeOf78 rfl rfl f0 h_t45) ?_
              refine d_val rfl rfl (r_fieldP Try.runUnderlying78 rfl Try.sizeOf25 rfl rfl (some_of_at f0 h_t45)) ?_
              refine d_read (fun w hF => run_loadGN (j := 1) (vs := [.int .i64 (val (gAt a0 (val (gI (x12_2 + 1))))).Place.Lat, .int .i64 (val (gAt a0 (val (gI (x12_2 + 1))))).Place.Lon]) Try.isAgg25 Try.sizeOf25 rfl rfl (f0.row (hw.now hF)) h_t45 rfl) rfl rfl ?_
              have h_t48 := bnd_val H48
              have H49 := bnd_rest H48
              refine d_call (k39 h_t48) Try.call39 rfl rfl ?_
              refine d_val rfl rfl (r_move (v := .int .i64 a2) rfl) ?_
              refine d_val rfl rfl (r_leq rfl rfl) ?_
              refine d_val rfl rfl (r_pickT (v := .bool (decide ((val (R_DistanceOf (val (gAt a0 x12_2)).Place (val (gAt a0 (val (gI (x12_2 + 1))))).Place)) ≤ a2))) rfl rfl) ?_
              refine d_nil ?_
              refine c_if (b := (decide ((val (R_DistanceOf (val (gAt a0 x12_2)).Place (val (gAt a0 (val (gI (x12_2 + 1))))).Place)) ≤ a2))) rfl (fun hb => ?_) (fun hb => ?_)
              · have H50 := cnd_t hb H49; clear H49
                refine c_exit ?_
                refine c_close (x8_2, l_2) p 0 [0] (by exact ⟨rfl, rfl, rfl, rfl, rfl, rfl, rfl, trivial⟩) (by decide) rfl (by exact ⟨H50, trivial⟩) (Nat.lt_succ_self _)
              · have H51 := cnd_f hb H49; clear H49
                refine c_skip ?_
                refine c_close () () 0 [0] (by exact ⟨rfl, rfl, rfl, rfl, rfl, rfl, rfl, rfl, trivial⟩) (by decide) rfl (by exact ⟨H51, trivial⟩) (Nat.lt_succ_self _)
            · have H52 := cnd_f hb H44
              refine d_pass rfl rfl ?_
              refine d_pass rfl rfl ?_
              refine d_pass rfl rfl ?_
              refine d_pass rfl rfl ?_
              refine d_pass rfl rfl ?_
              refine d_pass rfl rfl ?_
              refine d_pass rfl rfl ?_
              refine d_pass rfl rfl ?_
              refine d_pass rfl rfl ?_
              refine d_pass rfl rfl ?_
              refine d_pass rfl rfl ?_
              refine d_pass rfl rfl ?_
              refine d_pass rfl rfl ?_
              refine d_pass rfl rfl ?_
              refine d_val rfl rfl (r_pickF (v := .bool false) rfl rfl) ?_
              refine d_nil ?_
              refine c_false rfl ?_
              refine c_skip ?_
              refine c_close () () 0 [0] (by exact ⟨rfl, rfl, rfl, rfl, rfl, rfl, rfl, rfl, trivial⟩) (by decide) rfl (by exact ⟨H52, trivial⟩) (Nat.lt_succ_self _)
          · have H53 := cnd_f hb H39
            refine d_pass rfl rfl ?_
            refine d_pass rfl rfl ?_
            refine d_pass rfl rfl ?_
            refine d_pass rfl rfl ?_
            refine d_pass rfl rfl ?_
            refine d_pass rfl rfl ?_
            refine d_pass rfl rfl ?_
            refine d_pass rfl rfl ?_
            refine d_pass rfl rfl ?_
            refine d_pass rfl rfl ?_
            refine d_pass rfl rfl ?_
            refine d_pass rfl rfl ?_
            refine d_pass rfl rfl ?_
            refine d_pass rfl rfl ?_
            refine d_val rfl rfl (r_pickF (v := .bool false) rfl rfl) ?_
            refine d_val rfl rfl (r_move (v := .bool false) rfl) ?_
            refine d_pass rfl rfl ?_
            refine d_pass rfl rfl ?_
            refine d_pass rfl rfl ?_
            refine d_pass rfl rfl ?_
            refine d_pass rfl rfl ?_
            refine d_pass rfl rfl ?_
            refine d_pass rfl rfl ?_
            refine d_pass rfl rfl ?_
            refine d_pass rfl rfl ?_
            refine d_pass rfl rfl ?_
            refine d_pass rfl rfl ?_
            refine d_pass rfl rfl ?_
            refine d_pass rfl rfl ?_
            refine d_pass rfl rfl ?_
            refine d_val rfl rfl (r_pickF (v := .bool false) rfl rfl) ?_
            refine d_nil ?_
            refine c_false rfl ?_
            refine c_skip ?_
            refine c_close () () 0 [0] (by exact ⟨rfl, rfl, rfl, rfl, rfl, rfl, rfl, rfl, trivial⟩) (by decide) rfl (by exact ⟨H53, trivial⟩) (Nat.lt_succ_self _)
          ) (by kernel_rfl)
      · rintro _ _ gg H32 _
        replace H32 : R_TripsOf_j3 a0 x8_2 x12_2 l_2 next1 = some r := H32
        refine c_tidyF [(0, v0), (1, .int .i64 a1), (2, .int .i64 a2), (7, .slice p.1 l_2.length p.2), (8, .int .i64 x8_2), (9, .int .i64 x12_2), (11, .int .i64 (a0.length : Int)), (12, .int .i64 x12_2)] [rowV 90 4 (.slice p.1 l_2.length p.2) l_2.length (l_2.map e_where_Stop)] rfl rfl ?_
        refine c_meet (r := r) (σ := (List T_where_Stop)) (τ := (Option Addr × Nat)) (fun s => R_TripsOf_j4 x12_2 next1 s) (fun s t => [(0, v0), (1, .int .i64 a1), (2, .int .i64 a2), (7, .slice t.1 s.length t.2), (9, .int .i64 x12_2), (11, .int .i64 (a0.length : Int)), (12, .int .i64 x12_2)]) (fun s t => [rowV 90 4 (.slice t.1 s.length t.2) s.length (s.map e_where_Stop)]) (fun s t => True) ?_ ?_
        · refine c_seq ?_
          refine c_region ?_
          refine l_val rfl rfl rfl (r_move (v := .int .i64 x12_2) rfl) ?_
          refine l_val rfl rfl rfl (r_move (v := .int .i64 x8_2) rfl) ?_
          refine l_val rfl rfl rfl (r_gtr rfl rfl) ?_
          refine l_nil ?_
          refine c_if (b := (decide (x8_2 < x12_2))) rfl (fun hb => ?_) (fun hb => ?_)
          · have H35 := cnd_t hb H32; clear H32
            refine c_region ?_
            refine l_val rfl rfl rfl (r_move (v := .slice p.1 l_2.length p.2) rfl) ?_
            refine l_val rfl rfl rfl (r_move (v := .int .i64 x8_2) rfl) ?_
            refine l_val rfl rfl rfl (r_move (v := .int .i64 x12_2) rfl) ?_
            refine l_val rfl rfl rfl (r_move (v := v0) rfl) ?_
            refine l_val rfl rfl rfl (r_move (v := .int .i64 x12_2) rfl) ?_
            obtain ⟨t60, h_t60, H36⟩ := bnd_some H35; clear H35
            refine l_val rfl rfl rfl (r_indexF Try.underlying49 Try.sizeOf78 rfl rfl f0 h_t60) ?_
            refine l_val rfl rfl rfl (r_fieldP Try.runUnderlying78 rfl Try.sizeOf25 rfl rfl (some_of_at f0 h_t60)) ?_
            refine l_read (fun w hF hS => run_loadGN (j := 1) (vs := [.int .i64 t60.Place.Lat, .int .i64 t60.Place.Lon]) Try.isAgg25 Try.sizeOf25 rfl rfl (f0.row (hw.now hF)) h_t60 rfl) rfl rfl rfl ?_
            refine l_val rfl rfl rfl (r_build (pl := #[(0, 1), (1, 1), (2, 2)]) (ps := [(0, .int .i64 x8_2), (1, .int .i64 x12_2), (2, .agg #[.int .i64 t60.Place.Lat, .int .i64 t60.Place.Lon])]) (cells := #[.int .i64 x8_2, .int .i64 x12_2, .int .i64 t60.Place.Lat, .int .i64 t60.Place.Lon]) Try.zeroValue90 Try.runUnderlying90 (fun w => by kernel_rfl) rfl rfl) ?_
            refine l_buildSlice (vs := [.agg #[.int .i64 x8_2, .int .i64 x12_2, .int .i64 t60.Place.Lat, .int .i64 t60.Place.Lon]]) (cs := [.int .i64 x8_2, .int .i64 x12_2, .int .i64 t60.Place.Lat, .int .i64 t60.Place.Lon]) Try.underlying84 Try.sizeOf90 Try.zeroValue90 rfl rfl rfl rfl rfl rfl rfl (fun b1 => ?_)
            obtain ⟨l65, h_l65, H37⟩ := bnd_some H36; clear H36
            refine l_turn (turns_appG (i := 0) (hn := rfl) (rds := [1]) (p := p) (sz := 4) (by_ := 32) (f := e_where_Stop) (ys := l_2) (ls := ([(⟨x8_2, x12_2, t60.Place⟩ : T_where_Stop)] : List T_where_Stop)) (V := .slice (some ⟨b1, 0, none⟩) 1 1) Try.underlying84 (info_of Try.typeInfo90) rfl rfl rfl rfl rfl rfl rfl rfl rfl rfl (fun w L' hF hS hi => row_box (i := 1) hS ((hi 1 (by simp)).trans rfl) rfl rfl) (fun _ => rfl) (fun _ => rfl) h_l65) rfl rfl rfl (fun p_4 => ?_)
            refine l_val rfl rfl rfl (r_assign (v := .slice p_4.1 l65.length p_4.2) rfl) ?_
            refine l_nil ?_
            refine c_close l65 p_4 0 [0] (by exact ⟨rfl, rfl, rfl, rfl, rfl, rfl, rfl, trivial⟩) (by decide) rfl (by exact ⟨H37, trivial⟩) (Nat.lt_succ_self _)
          · have H38 := cnd_f hb H32; clear H32
            refine c_skip ?_
            refine c_close l_2 p 0 [0] (by exact ⟨rfl, rfl, rfl, rfl, rfl, rfl, rfl, trivial⟩) (by decide) rfl (by exact ⟨H38, trivial⟩) (Nat.lt_succ_self _)
        · rintro l_4 p_3 gg H33 _
          replace H33 : R_TripsOf_j4 x12_2 next1 l_4 = some r := H33
          refine c_tidyF [(0, v0), (1, .int .i64 a1), (2, .int .i64 a2), (7, .slice p_3.1 l_4.length p_3.2), (9, .int .i64 x12_2), (11, .int .i64 (a0.length : Int)), (12, .int .i64 x12_2)] [rowV 90 4 (.slice p_3.1 l_4.length p_3.2) l_4.length (l_4.map e_where_Stop)] rfl rfl ?_
          refine c_region ?_
          refine l_val rfl rfl rfl (r_move (v := .int .i64 x12_2) rfl) ?_
          obtain ⟨t67, h_t67, H34⟩ := bnd_some H33; clear H33
          refine l_val rfl rfl rfl (r_addG rfl rfl h_t67) ?_
          refine l_val rfl rfl rfl (r_assign (v := .int .i64 t67) rfl) ?_
          refine l_nil ?_
          refine c_close (t67, l_4) p_3 0 [0] (by exact ⟨rfl, rfl, rfl, rfl, rfl, rfl, rfl, trivial⟩) (by decide) rfl (by exact ⟨H34, trivial⟩) (Nat.lt_succ_self _)
    · rintro ⟨x8_3, l_3⟩ p_2 gg H30 _
      replace H30 : R_TripsOf_j2 x12_2 next1 x8_3 l_3 = some r := H30
      refine c_tidyF [(0, v0), (1, .int .i64 a1), (2, .int .i64 a2), (7, .slice p_2.1 l_3.length p_2.2), (8, .int .i64 x8_3), (11, .int .i64 (a0.length : Int)), (12, .int .i64 x12_2)] [rowV 90 4 (.slice p_2.1 l_3.length p_2.2) l_3.length (l_3.map e_where_Stop)] rfl rfl ?_
      refine c_region ?_
      obtain ⟨t68, h_t68, H31⟩ := bnd_some H30; clear H30
      refine l_val rfl rfl rfl (r_addG rfl rfl h_t68) ?_
      refine l_val rfl rfl rfl (r_move (v := .int .i64 t68) rfl) ?_
      refine l_nil ?_
      refine c_close (x8_3, t68, l_3) p_2 m1 [0] (by exact ⟨rfl, rfl, rfl, rfl, rfl, rfl, rfl, trivial⟩) (by decide) rfl (by exact ⟨(by subst hn1; exact H31), trivial⟩) (Nat.lt_succ_self _)
  · have H54 := cnd_f hb H28; clear H28
    refine c_exit ?_
    refine c_seq ?_
    refine c_region ?_
    refine l_val rfl rfl rfl (r_move (v := .slice p.1 l_2.length p.2) rfl) ?_
    refine l_val rfl rfl rfl (r_assign (v := .slice p.1 l_2.length p.2) rfl) ?_
    refine l_nil ?_
    refine c_ret ?_
    obtain rfl := Option.some.inj H54
    refine ret1 (v := .slice p.1 l_2.length p.2) rfl rfl (finX p (i := 0) rfl rfl (Imp.refl _))
theorem k102 {a0 : (List T_where_Stop)} {v0 : Value} {a1 : (List T_where_Stop)} {v1 : Value} {r : Bool} {w : World} {h : Heap} (hw : Know h w noS) (f0 : FrS h 4 v0 (a0.map e_where_Stop)) (f1 : FrS h 4 v1 (a1.map e_where_Stop)) (H : slices_Equal_where_Stop a0 a1 = some r) : Does Try.prog 102 (List.toArray [v0, v1]) w (fun v w' => v = (.bool r) ∧ Grow w w') := by
  refine enter (n := 26) Try.func102 rfl rfl rfl noS [] (Sat.nil _ _) ?_
  refine c_seq ?_
  refine c_region ?_
  refine l_val rfl rfl rfl (r_assign (v := .bool false) rfl) ?_
  refine l_nil ?_
  refine c_seq ?_
  refine c_seq ?_
  refine c_region ?_
  refine l_val rfl rfl rfl (r_move (v := v0) rfl) ?_
  refine l_val rfl rfl rfl (r_lenF Try.underlying84 rfl f0 rfl) ?_
  refine l_val rfl rfl rfl (r_move (v := v1) rfl) ?_
  refine l_val rfl rfl rfl (r_lenF Try.underlying84 rfl f1 rfl) ?_
  refine l_val rfl rfl rfl (r_neq rfl rfl) ?_
  refine l_nil ?_
  refine c_if (b := (decide ((a0.length : Int) ≠ (a1.length : Int)))) rfl (fun hb => ?_) (fun hb => ?_)
  · have H11 := cnd_t hb H; clear H
    refine c_seq ?_
    refine c_region ?_
    refine l_val rfl rfl rfl (r_assign (v := .bool false) rfl) ?_
    refine l_nil ?_
    refine c_ret ?_
    obtain rfl := Option.some.inj H11
    refine ret1 (v := .bool false) rfl rfl (fin rfl)
  · have H12 := cnd_f hb H; clear H
    refine c_skip ?_
    refine c_seq ?_
    refine c_seq ?_
    refine c_region ?_
    refine l_val rfl rfl rfl (r_move (v := v0) rfl) ?_
    refine l_val rfl rfl rfl (r_lenF Try.underlying84 rfl f0 rfl) ?_
    refine l_val rfl rfl rfl (r_move (v := .int .i64 0) rfl) ?_
    refine l_nil ?_
    refine c_block ?_
    refine c_fix (σ := Int) (τ := Unit) (fun next1 s => slices_Equal_where_Stop_l1 a0 a1 next1 s) (fun s t => [(0, v0), (1, v1), (12, .int .i64 (a0.length : Int)), (13, .int .i64 s)]) (fun s t => []) (fun s t => True) 0 () [] H12 (by exact trivial) (by exact ⟨rfl, rfl, rfl, rfl, trivial⟩) (by decide) rfl ?_
    rintro x13_2 _ m1 gg H13 _
    clear H12
    replace H13 : slices_Equal_where_Stop_l1 a0 a1 (it (fun next1 s => slices_Equal_where_Stop_l1 a0 a1 next1 s) m1) x13_2 = some r := H13
    generalize hn1 : it (fun next1 s => slices_Equal_where_Stop_l1 a0 a1 next1 s) m1 = next1 at H13
    refine c_tidyF [(0, v0), (1, v1), (12, .int .i64 (a0.length : Int)), (13, .int .i64 x13_2)] [] rfl rfl ?_
    refine c_seq ?_
    refine c_region ?_
    refine l_val rfl rfl rfl (r_lss rfl rfl) ?_
    refine l_nil ?_
    refine c_seq ?_
    refine c_if (b := (decide (x13_2 < (a0.length : Int)))) rfl (fun hb => ?_) (fun hb => ?_)
    · have H14 := cnd_t hb H13; clear H13
      refine c_skip ?_
      refine c_seq ?_
      refine c_block ?_
      refine c_seq ?_
      refine c_region ?_
      refine l_val rfl rfl rfl (r_move (v := .int .i64 x13_2) rfl) ?_
      refine l_val rfl rfl rfl (r_assign (v := .int .i64 x13_2) rfl) ?_
      refine l_nil ?_
      refine c_seq ?_
      exact c_regionD (Kd.p :: Kd.p :: Kd.p :: Kd.d [] _ :: Kd.p :: Kd.p :: Kd.p :: Kd.d [] _ :: Kd.p :: []) 0 mixed (by
        refine d_val rfl rfl (r_move (v := v0) rfl) ?_
        refine d_val rfl rfl (r_move (v := .int .i64 x13_2) rfl) ?_
        have h_t18 := bnd_val H14
        have H15 := bnd_rest H14
        refine d_val rfl rfl (r_indexF Try.underlying84 Try.sizeOf90 rfl rfl f0 h_t18) ?_
        refine d_read (fun w hF => run_loadGN (j := 0) (vs := [.int .i64 (val (gAt a0 x13_2)).From, .int .i64 (val (gAt a0 x13_2)).To, .int .i64 (val (gAt a0 x13_2)).Place.Lat, .int .i64 (val (gAt a0 x13_2)).Place.Lon]) Try.isAgg90 Try.sizeOf90 rfl rfl (f0.row (hw.now hF)) h_t18 rfl) rfl rfl ?_
        refine d_val rfl rfl (r_move (v := v1) rfl) ?_
        refine d_val rfl rfl (r_move (v := .int .i64 x13_2) rfl) ?_
        have h_t22 := bnd_val H15
        have H16 := bnd_rest H15
        refine d_val rfl rfl (r_indexF Try.underlying84 Try.sizeOf90 rfl rfl f1 h_t22) ?_
        refine d_read (fun w hF => run_loadGN (j := 0) (vs := [.int .i64 (val (gAt a1 x13_2)).From, .int .i64 (val (gAt a1 x13_2)).To, .int .i64 (val (gAt a1 x13_2)).Place.Lat, .int .i64 (val (gAt a1 x13_2)).Place.Lon]) Try.isAgg90 Try.sizeOf90 rfl rfl (f1.row (hw.now hF)) h_t22 rfl) rfl rfl ?_
        refine d_val rfl rfl (r_neqA (xs := #[.int .i64 (val (gAt a0 x13_2)).From, .int .i64 (val (gAt a0 x13_2)).To, .int .i64 (val (gAt a0 x13_2)).Place.Lat, .int .i64 (val (gAt a0 x13_2)).Place.Lon]) (ys := #[.int .i64 (val (gAt a1 x13_2)).From, .int .i64 (val (gAt a1 x13_2)).To, .int .i64 (val (gAt a1 x13_2)).Place.Lat, .int .i64 (val (gAt a1 x13_2)).Place.Lon]) Try.eqGuardType90 (fun w => run_eq_where_Stop w (val (gAt a0 x13_2)) (val (gAt a1 x13_2))) rfl rfl) ?_
        refine d_nil ?_
        refine c_if (b := (!(eq_where_Stop (val (gAt a0 x13_2)) (val (gAt a1 x13_2))))) rfl (fun hb => ?_) (fun hb => ?_)
        · have H17 := cnd_t hb H16; clear H16
          refine c_seq ?_
          refine c_region ?_
          refine l_val rfl rfl rfl (r_assign (v := .bool false) rfl) ?_
          refine l_nil ?_
          refine c_ret ?_
          obtain rfl := Option.some.inj H17
          refine ret1 (v := .bool false) rfl rfl (fin rfl)
        · have H18 := cnd_f hb H16; clear H16
          refine c_skip ?_
          refine c_region ?_
          obtain ⟨t25, h_t25, H19⟩ := bnd_some H18; clear H18
          refine l_val rfl rfl rfl (r_addG rfl rfl h_t25) ?_
          refine l_val rfl rfl rfl (r_move (v := .int .i64 t25) rfl) ?_
          refine l_nil ?_
          refine c_close t25 () m1 [] (by exact ⟨rfl, rfl, rfl, rfl, trivial⟩) (by decide) rfl (by exact ⟨(by subst hn1; exact H19), trivial⟩) (Nat.lt_succ_self _)
        ) (by kernel_rfl)
    · have H20 := cnd_f hb H13; clear H13
      refine c_exit ?_
      refine c_seq ?_
      refine c_region ?_
      refine l_val rfl rfl rfl (r_assign (v := .bool true) rfl) ?_
      refine l_nil ?_
      refine c_ret ?_
      obtain rfl := Option.some.inj H20
      refine ret1 (v := .bool true) rfl rfl (fin rfl)
theorem k52 {a0 : (List T_where_Stop)} {v0 : Value} {a1 : Int} {a2 : (List T_where_Stop)} {v2 : Value} {a3 : Int} {r : Bool} {w : World} {h : Heap} (hw : Know h w noS) (f0 : FrS h 4 v0 (a0.map e_where_Stop)) (f2 : FrS h 4 v2 (a2.map e_where_Stop)) (H : Law_listed_where_Stop a0 a1 a2 a3 = some r) : Does Try.prog 52 (List.toArray [v0, .int .i64 a1, v2, .int .i64 a3]) w (fun v w' => v = (.bool r) ∧ Grow w w') := by
  refine enter (n := 19) Try.func52 rfl rfl rfl noS [] (Sat.nil _ _) ?_
  refine c_seq ?_
  refine c_region ?_
  refine l_val rfl rfl rfl (r_assign (v := .bool false) rfl) ?_
  refine l_nil ?_
  refine c_meet (r := r) (σ := (List T_where_Stop)) (τ := Value) (fun s => Law_listed_where_Stop_j1 a0 a1 a3 s) (fun s t => [(0, v0), (1, .int .i64 a1), (2, t), (3, .int .i64 a3)]) (fun s t => []) (fun s t => FrS h 4 t (s.map e_where_Stop)) ?_ ?_
  · refine c_seq ?_
    refine c_region ?_
    refine l_val rfl rfl rfl (r_move (v := .int .i64 a3) rfl) ?_
    refine l_val rfl rfl rfl (r_neq rfl rfl) ?_
    refine l_nil ?_
    refine c_if (b := (decide (a3 ≠ 0))) rfl (fun hb => ?_) (fun hb => ?_)
    · have H11 := cnd_t hb H; clear H
      refine c_region ?_
      refine l_val rfl rfl rfl (r_assign (v := .slice none 0 0) rfl) ?_
      refine l_nil ?_
      refine c_close ([] : (List T_where_Stop)) (.slice none 0 0) 0 [] (by exact ⟨rfl, rfl, rfl, rfl, trivial⟩) (by decide) rfl (by exact ⟨H11, (FrS.nil _ _)⟩) (Nat.lt_succ_self _)
    · have H12 := cnd_f hb H; clear H
      refine c_skip ?_
      refine c_close a2 v2 0 [] (by exact ⟨rfl, rfl, rfl, rfl, trivial⟩) (by decide) rfl (by exact ⟨H12, f2⟩) (Nat.lt_succ_self _)
  · rintro x2 gv gg H7 gf
    replace H7 : Law_listed_where_Stop_j1 a0 a1 a3 x2 = some r := H7
    refine c_tidyF [(0, v0), (1, .int .i64 a1), (2, gv), (3, .int .i64 a3)] [] rfl rfl ?_
    refine c_seq ?_
    refine c_region ?_
    refine l_val rfl rfl rfl (r_move (v := v0) rfl) ?_
    refine l_val rfl rfl rfl (r_move (v := gv) rfl) ?_
    obtain ⟨t13, h_t13, H8⟩ := bnd_some H7; clear H7
    refine l_callG (fun w hF hS => k102 (know_all w) (f0.mono (hw.now hF)) (gf.mono (hw.now hF)) h_t13) Try.call102 rfl rfl rfl ?_
    refine l_val rfl rfl rfl (r_move (v := .bool t13) rfl) ?_
    refine split (fun hb => ?_) (fun hb => ?_)
    · have H9 := cnd_t hb H8; clear H8
      refine l_val rfl rfl rfl (r_move (v := .int .i64 a1) rfl) ?_
      refine l_val rfl rfl rfl (r_move (v := .int .i64 a3) rfl) ?_
      refine l_val rfl rfl rfl (r_eql rfl rfl) ?_
      refine l_val rfl rfl rfl (r_pickT (v := .bool (decide (a1 = a3))) rfl rfl) ?_
      refine l_val rfl rfl rfl (r_assign (v := .bool (decide (a1 = a3))) rfl) ?_
      refine l_nil ?_
      refine c_ret ?_
      obtain rfl := Option.some.inj H9
      refine ret1 (v := .bool (decide (a1 = a3))) rfl rfl (fin rfl)
    · have H10 := cnd_f hb H8; clear H8
      refine l_passed rfl rfl rfl ?_
      refine l_passed rfl rfl rfl ?_
      refine l_passed rfl rfl rfl ?_
      refine l_val rfl rfl rfl (r_pickF (v := .bool false) rfl rfl) ?_
      refine l_val rfl rfl rfl (r_assign (v := .bool false) rfl) ?_
      refine l_nil ?_
      refine c_ret ?_
      obtain rfl := Option.some.inj H10
      refine ret1 (v := .bool false) rfl rfl (fin rfl)
theorem k9 {a0 : (List T_where_Fix)} {v0 : Value} {a1 : Int} {a2 : Int} {r : Bool} {w : World} {h : Heap} (hw : Know h w noS) (f0 : FrS h 3 v0 (a0.map e_where_Fix)) (H : Law_WhereStops a0 a1 a2 = some r) : Does Try.prog 9 (List.toArray [v0, .int .i64 a1, .int .i64 a2]) w (fun v w' => v = (.bool r) ∧ Grow w w') := by
  refine enter (n := 58) Try.func9 rfl rfl rfl noS [] (Sat.nil _ _) ?_
  refine c_seq ?_
  refine c_region ?_
  refine l_val rfl rfl rfl (r_assign (v := .bool false) rfl) ?_
  refine l_nil ?_
  refine c_seq ?_
  refine c_region ?_
  refine l_val rfl rfl rfl (r_move (v := v0) rfl) ?_
  refine l_val rfl rfl rfl (r_move (v := .int .i64 a1) rfl) ?_
  refine l_val rfl rfl rfl (r_move (v := .int .i64 a2) rfl) ?_
  obtain ⟨t18, h_t18, H16⟩ := bnd_some H; clear H
  refine l_make (makes_call (rds := []) (G := fun x : (Option Addr × Nat) => .tuple #[.slice x.1 t18.1.length x.2, .int .i64 t18.2]) (C := fun x : (Option Addr × Nat) => roV 4 (.slice x.1 t18.1.length x.2) t18.1.length (t18.1.map e_where_Stop)) (fun w L' hF hS hi => k48 (know_all w) (f0.mono (hw.now hF)) h_t18) Try.call48 rfl) rfl rfl rfl (fun p => ?_)
  refine l_val rfl rfl rfl (r_move (v := .tuple #[.slice p.1 t18.1.length p.2, .int .i64 t18.2]) rfl) ?_
  refine l_val rfl rfl rfl (r_extract (v := .slice p.1 t18.1.length p.2) rfl rfl) ?_
  refine l_val rfl rfl rfl (r_extract (v := .int .i64 t18.2) rfl rfl) ?_
  refine l_val rfl rfl rfl (r_assign (v := .slice p.1 t18.1.length p.2) rfl) ?_
  refine l_val rfl rfl rfl (r_assign (v := .int .i64 t18.2) rfl) ?_
  refine l_nil ?_
  refine c_seq ?_
  refine c_region ?_
  refine l_val rfl rfl rfl (r_move (v := v0) rfl) ?_
  refine l_val rfl rfl rfl (r_move (v := .int .i64 a2) rfl) ?_
  refine l_val rfl rfl rfl (r_move (v := .int .i64 a1) rfl) ?_
  obtain ⟨t25, h_t25, H17⟩ := bnd_some H16; clear H16
  refine l_make (makes_call (rds := []) (G := fun x : (Option Addr × Nat) => .tuple #[.slice x.1 t25.1.length x.2, .int .i64 t25.2]) (C := fun x : (Option Addr × Nat) => roV 4 (.slice x.1 t25.1.length x.2) t25.1.length (t25.1.map e_where_Stop)) (fun w L' hF hS hi => k49 (know_all w) (f0.mono (hw.now hF)) h_t25) Try.call49 rfl) rfl rfl rfl (fun p_2 => ?_)
  refine l_val rfl rfl rfl (r_move (v := .tuple #[.slice p_2.1 t25.1.length p_2.2, .int .i64 t25.2]) rfl) ?_
  refine l_val rfl rfl rfl (r_extract (v := .slice p_2.1 t25.1.length p_2.2) rfl rfl) ?_
  refine l_val rfl rfl rfl (r_extract (v := .int .i64 t25.2) rfl rfl) ?_
  refine l_val rfl rfl rfl (r_assign (v := .slice p_2.1 t25.1.length p_2.2) rfl) ?_
  refine l_val rfl rfl rfl (r_assign (v := .int .i64 t25.2) rfl) ?_
  refine l_nil ?_
  refine c_seq ?_
  refine c_region ?_
  refine l_val rfl rfl rfl (r_move (v := v0) rfl) ?_
  obtain ⟨t29, h_t29, H18⟩ := bnd_some H17; clear H17
  refine l_callG (fun w hF hS => k29 (know_all w) (f0.mono (hw.now hF)) h_t29) Try.call29 rfl rfl rfl ?_
  refine l_val rfl rfl rfl (r_move (v := .int .i64 a1) rfl) ?_
  obtain ⟨t31, h_t31, H19⟩ := bnd_some H18; clear H18
  refine l_call (k17 h_t31) Try.call17 rfl rfl rfl ?_
  refine l_val rfl rfl rfl (r_move (v := .int .i64 a2) rfl) ?_
  obtain ⟨t33, h_t33, H20⟩ := bnd_some H19; clear H19
  refine l_call (k45 h_t33) Try.call45 rfl rfl rfl ?_
  refine l_buildSlice (vs := [.int .i64 t29, .int .i64 t31, .int .i64 t33]) (cs := [.int .i64 t29, .int .i64 t31, .int .i64 t33]) Try.underlying106 Try.sizeOf26 Try.zeroValue26 rfl rfl rfl rfl rfl rfl rfl (fun b1 => ?_)
  obtain ⟨t35, h_t35, H21⟩ := bnd_some H20; clear H20
  refine l_callG (fun w hF hS => k15 (know_all w) (frs_box (i := 2) (xs := ([t29, t31, t33] : List Int)) (f := e_i64) hS rfl rfl rfl rfl rfl) h_t35) Try.call15 rfl rfl rfl ?_
  refine l_val rfl rfl rfl (r_assign (v := .int .i64 t35) rfl) ?_
  refine l_nil ?_
  refine c_seq ?_
  refine c_region ?_
  refine l_val rfl rfl rfl (r_assign (v := .slice none 0 0) rfl) ?_
  refine l_val rfl rfl rfl (r_assign (v := .slice none 0 0) rfl) ?_
  refine l_nil ?_
  refine c_meet (r := r) (σ := (List T_where_Stop) × (List T_where_Stop)) (τ := (Option Addr × Nat) × (Option Addr × Nat)) (fun s => Law_WhereStops_j1 t18 t25 t35 s.1 s.2) (fun s t => [(7, .slice p.1 t18.1.length p.2), (8, .int .i64 t18.2), (9, .slice p_2.1 t25.1.length p_2.2), (10, .int .i64 t25.2), (11, .int .i64 t35), (12, .slice t.1.1 s.1.length t.1.2), (13, .slice t.2.1 s.2.length t.2.2)]) (fun s t => [roV 4 (.slice p.1 t18.1.length p.2) t18.1.length (t18.1.map e_where_Stop), roV 4 (.slice p_2.1 t25.1.length p_2.2) t25.1.length (t25.1.map e_where_Stop), rowV 90 4 (.slice t.1.1 s.1.length t.1.2) s.1.length (s.1.map e_where_Stop), rowV 90 4 (.slice t.2.1 s.2.length t.2.2) s.2.length (s.2.map e_where_Stop)]) (fun s t => True) ?_ ?_
  · refine c_seq ?_
    refine c_region ?_
    refine l_val rfl rfl rfl (r_move (v := .int .i64 t35) rfl) ?_
    refine l_val rfl rfl rfl (r_eql rfl rfl) ?_
    refine l_nil ?_
    refine c_if (b := (decide (t35 = 0))) rfl (fun hb => ?_) (fun hb => ?_)
    · have H27 := cnd_t hb H21; clear H21
      refine c_region ?_
      refine l_val rfl rfl rfl (r_move (v := v0) rfl) ?_
      refine l_val rfl rfl rfl (r_move (v := .int .i64 a1) rfl) ?_
      refine l_val rfl rfl rfl (r_move (v := .int .i64 a2) rfl) ?_
      obtain ⟨t41, h_t41, H28⟩ := bnd_some H27; clear H27
      refine l_make (makes_call (rds := []) (G := fun x : (Option Addr × Nat) => .slice x.1 t41.length x.2) (C := fun x : (Option Addr × Nat) => rowV 90 4 (.slice x.1 t41.length x.2) t41.length (t41.map e_where_Stop)) (fun w L' hF hS hi => k50 (know_all w) (f0.mono (hw.now hF)) h_t41) Try.call50 rfl) rfl rfl rfl (fun p_5 => ?_)
      refine l_val rfl rfl rfl (r_move (v := v0) rfl) ?_
      refine l_val rfl rfl rfl (r_move (v := .int .i64 a2) rfl) ?_
      refine l_val rfl rfl rfl (r_move (v := .int .i64 a1) rfl) ?_
      obtain ⟨t45, h_t45, H29⟩ := bnd_some H28; clear H28
      refine l_make (makes_call (rds := []) (G := fun x : (Option Addr × Nat) => .slice x.1 t45.length x.2) (C := fun x : (Option Addr × Nat) => rowV 90 4 (.slice x.1 t45.length x.2) t45.length (t45.map e_where_Stop)) (fun w L' hF hS hi => k51 (know_all w) (f0.mono (hw.now hF)) h_t45) Try.call51 rfl) rfl rfl rfl (fun p_6 => ?_)
      refine l_val rfl rfl rfl (r_assign (v := .slice p_5.1 t41.length p_5.2) rfl) ?_
      refine l_val rfl rfl rfl (r_assign (v := .slice p_6.1 t45.length p_6.2) rfl) ?_
      refine l_nil ?_
      refine c_close (t41, t45) (p_5, p_6) 0 [0, 1, 3, 4] (by exact ⟨rfl, rfl, rfl, rfl, rfl, rfl, rfl, trivial⟩) (by decide) rfl (by exact ⟨H29, trivial⟩) (Nat.lt_succ_self _)
    · have H30 := cnd_f hb H21; clear H21
      refine c_skip ?_
      refine c_nilRow 90 4 ?_
      refine c_nilRow 90 4 ?_
      refine c_close (([] : List T_where_Stop), ([] : List T_where_Stop)) (((none, 0) : Option Addr × Nat), ((none, 0) : Option Addr × Nat)) 0 [0, 1, 3, 4] (by exact ⟨rfl, rfl, rfl, rfl, rfl, rfl, rfl, trivial⟩) (by decide) rfl (by exact ⟨H30, trivial⟩) (Nat.lt_succ_self _)
  · rintro ⟨l, l_2⟩ ⟨p_3, p_4⟩ gg H22 _
    replace H22 : Law_WhereStops_j1 t18 t25 t35 l l_2 = some r := H22
    refine c_tidyF [(7, .slice p.1 t18.1.length p.2), (8, .int .i64 t18.2), (9, .slice p_2.1 t25.1.length p_2.2), (10, .int .i64 t25.2), (11, .int .i64 t35), (12, .slice p_3.1 l.length p_3.2), (13, .slice p_4.1 l_2.length p_4.2)] [roV 4 (.slice p.1 t18.1.length p.2) t18.1.length (t18.1.map e_where_Stop), roV 4 (.slice p_2.1 t25.1.length p_2.2) t25.1.length (t25.1.map e_where_Stop), rowV 90 4 (.slice p_3.1 l.length p_3.2) l.length (l.map e_where_Stop), rowV 90 4 (.slice p_4.1 l_2.length p_4.2) l_2.length (l_2.map e_where_Stop)] rfl rfl ?_
    refine c_seq ?_
    refine c_region ?_
    refine l_val rfl rfl rfl (r_move (v := .slice p.1 t18.1.length p.2) rfl) ?_
    refine l_val rfl rfl rfl (r_move (v := .int .i64 t18.2) rfl) ?_
    refine l_val rfl rfl rfl (r_move (v := .slice p_3.1 l.length p_3.2) rfl) ?_
    refine l_val rfl rfl rfl (r_move (v := .int .i64 t35) rfl) ?_
    obtain ⟨t50, h_t50, H23⟩ := bnd_some H22; clear H22
    refine l_callG (fun w hF hS => k52 (know_all w) (frs_rd (i := 0) hS rfl) (frs_own (i := 2) rfl hS rfl) h_t50) Try.call52 rfl rfl rfl ?_
    refine l_val rfl rfl rfl (r_move (v := .bool t50) rfl) ?_
    refine split (fun hb => ?_) (fun hb => ?_)
    · have H24 := cnd_t hb H23; clear H23
      refine l_val rfl rfl rfl (r_move (v := .slice p_2.1 t25.1.length p_2.2) rfl) ?_
      refine l_val rfl rfl rfl (r_move (v := .int .i64 t25.2) rfl) ?_
      refine l_val rfl rfl rfl (r_move (v := .slice p_4.1 l_2.length p_4.2) rfl) ?_
      refine l_val rfl rfl rfl (r_move (v := .int .i64 t35) rfl) ?_
      obtain ⟨t56, h_t56, H25⟩ := bnd_some H24; clear H24
      refine l_callG (fun w hF hS => k52 (know_all w) (frs_rd (i := 1) hS rfl) (frs_own (i := 3) rfl hS rfl) h_t56) Try.call52 rfl rfl rfl ?_
      refine l_val rfl rfl rfl (r_pickT (v := .bool t56) rfl rfl) ?_
      refine l_val rfl rfl rfl (r_assign (v := .bool t56) rfl) ?_
      refine l_nil ?_
      refine c_ret ?_
      obtain rfl := Option.some.inj H25
      refine ret1 (v := .bool t56) rfl rfl (fin rfl)
    · have H26 := cnd_f hb H23; clear H23
      refine l_passed rfl rfl rfl ?_
      refine l_passed rfl rfl rfl ?_
      refine l_passed rfl rfl rfl ?_
      refine l_passed rfl rfl rfl ?_
      refine l_passed rfl rfl rfl ?_
      refine l_val rfl rfl rfl (r_pickF (v := .bool false) rfl rfl) ?_
      refine l_val rfl rfl rfl (r_assign (v := .bool false) rfl) ?_
      refine l_nil ?_
      refine c_ret ?_
      obtain rfl := Option.some.inj H26
      refine ret1 (v := .bool false) rfl rfl (fin rfl)
end Go.Proofs.Ytfgehlmdcllclaa
