/- WherePlaced: the walks, printed by our generator; each follows its model. Conditions: the model yields a value. -/
import Derived.Test.YtinpjnlocahjjaaKPa
namespace Go.Proofs.Ytinpjnlocahjjaa
open Go Go.Vc Go.Md Go.M Go.Lx
set_option maxRecDepth 100000
set_option maxHeartbeats 4000000
set_option linter.unusedVariables false

theorem k10 {a0 : (List Int)} {v0 : Value} {r : Int} {w : World} {h : Heap} (hw : Know h w noS) (f0 : FrS h 1 v0 (a0.map e_i64)) (H : Law_first a0 = some r) : Does Try.prog 10 (List.toArray [v0]) w (fun v w' => v = (.int .i64 r) ∧ Grow w w') := by
  refine enter (n := 15) Try.func10 rfl rfl rfl noS [] (Sat.nil _ _) ?_
  refine c_seq ?_
  refine c_region ?_
  refine l_val rfl rfl rfl (r_assign (v := .int .i64 0) rfl) ?_
  refine l_nil ?_
  refine c_seq ?_
  refine c_seq ?_
  refine c_region ?_
  refine l_val rfl rfl rfl (r_move (v := v0) rfl) ?_
  refine l_val rfl rfl rfl (r_lenF Try.underlying95 rfl f0 rfl) ?_
  refine l_val rfl rfl rfl (r_move (v := .int .i64 0) rfl) ?_
  refine l_nil ?_
  refine c_block ?_
  refine c_fix (σ := Int) (τ := Unit) (fun next1 s => Law_first_l1 a0 next1 s) (fun s t => [(5, v0), (6, .int .i64 (a0.length : Int)), (7, .int .i64 s)]) (fun s t => []) (fun s t => True) 0 () [] H (by exact trivial) (by exact ⟨rfl, rfl, rfl, trivial⟩) (by decide) rfl ?_
  rintro x7_2 _ m1 gg H8 _
  clear H
  replace H8 : Law_first_l1 a0 (it (fun next1 s => Law_first_l1 a0 next1 s) m1) x7_2 = some r := H8
  generalize hn1 : it (fun next1 s => Law_first_l1 a0 next1 s) m1 = next1 at H8
  refine c_tidyF [(5, v0), (6, .int .i64 (a0.length : Int)), (7, .int .i64 x7_2)] [] rfl rfl ?_
  refine c_seq ?_
  refine c_region ?_
  refine l_val rfl rfl rfl (r_lss rfl rfl) ?_
  refine l_nil ?_
  refine c_seq ?_
  refine c_if (b := (decide (x7_2 < (a0.length : Int)))) rfl (fun hb => ?_) (fun hb => ?_)
  · have H9 := cnd_t hb H8; clear H8
    refine c_skip ?_
    refine c_seq ?_
    refine c_block ?_
    refine c_seq ?_
    refine c_region ?_
    obtain ⟨t9, h_t9, H10⟩ := bnd_some H9; clear H9
    refine l_val rfl rfl rfl (r_indexF Try.underlying95 Try.sizeOf25 rfl rfl f0 h_t9) ?_
    refine l_read (fun w hF hS => run_loadG1 (f := e_i64) (i := x7_2) (sz := 1) (j := 0) (v := .int .i64 t9) Try.isAgg25 rfl rfl (f0.row (hw.now hF)) h_t9 rfl) rfl rfl rfl ?_
    refine l_val rfl rfl rfl (r_assign (v := .int .i64 t9) rfl) ?_
    refine l_nil ?_
    refine c_seq ?_
    refine c_region ?_
    refine l_val rfl rfl rfl (r_move (v := .int .i64 t9) rfl) ?_
    refine l_val rfl rfl rfl (r_neq rfl rfl) ?_
    refine l_nil ?_
    refine c_if (b := (decide (t9 ≠ 0))) rfl (fun hb => ?_) (fun hb => ?_)
    · have H11 := cnd_t hb H10; clear H10
      refine c_seq ?_
      refine c_region ?_
      refine l_val rfl rfl rfl (r_move (v := .int .i64 t9) rfl) ?_
      refine l_val rfl rfl rfl (r_assign (v := .int .i64 t9) rfl) ?_
      refine l_nil ?_
      refine c_ret ?_
      obtain rfl := Option.some.inj H11
      refine ret1 (v := .int .i64 t9) rfl rfl (fin rfl)
    · have H12 := cnd_f hb H10; clear H10
      refine c_skip ?_
      refine c_region ?_
      obtain ⟨t14, h_t14, H13⟩ := bnd_some H12; clear H12
      refine l_val rfl rfl rfl (r_addG rfl rfl h_t14) ?_
      refine l_val rfl rfl rfl (r_move (v := .int .i64 t14) rfl) ?_
      refine l_nil ?_
      refine c_close t14 () m1 [] (by exact ⟨rfl, rfl, rfl, trivial⟩) (by decide) rfl (by exact ⟨(by subst hn1; exact H13), trivial⟩) (Nat.lt_succ_self _)
  · have H14 := cnd_f hb H8; clear H8
    refine c_exit ?_
    refine c_seq ?_
    refine c_region ?_
    refine l_val rfl rfl rfl (r_assign (v := .int .i64 0) rfl) ?_
    refine l_nil ?_
    refine c_ret ?_
    obtain rfl := Option.some.inj H14
    refine ret1 (v := .int .i64 0) rfl rfl (fin rfl)
theorem k12 {a0 : Bool} {a1 : Int} {r : Int} (H : Law_unless a0 a1 = some r) : Ret Try.prog 12 [.bool a0, .int .i64 a1] (.int .i64 r) := by
  refine enterRet (n := 7) Try.func12 rfl rfl rfl (fun wd => ?_)
  refine c_seq ?_
  refine c_region ?_
  refine l_val rfl rfl rfl (r_assign (v := .int .i64 0) rfl) ?_
  refine l_nil ?_
  refine c_seq ?_
  refine c_seq ?_
  refine c_region ?_
  refine l_val rfl rfl rfl (r_move (v := .bool a0) rfl) ?_
  refine l_nil ?_
  refine c_if (b := a0) rfl (fun hb => ?_) (fun hb => ?_)
  · have H3 := cnd_t hb H; clear H
    refine c_seq ?_
    refine c_region ?_
    refine l_val rfl rfl rfl (r_assign (v := .int .i64 0) rfl) ?_
    refine l_nil ?_
    refine c_ret ?_
    obtain rfl := Option.some.inj H3
    refine ret1 (v := .int .i64 0) rfl rfl (fin rfl)
  · have H4 := cnd_f hb H; clear H
    refine c_skip ?_
    refine c_seq ?_
    refine c_region ?_
    refine l_val rfl rfl rfl (r_move (v := .int .i64 a1) rfl) ?_
    refine l_val rfl rfl rfl (r_assign (v := .int .i64 a1) rfl) ?_
    refine l_nil ?_
    refine c_ret ?_
    obtain rfl := Option.some.inj H4
    refine ret1 (v := .int .i64 a1) rfl rfl (fin rfl)
theorem k41 {a0 : T_api_Place} {r : Int} (H : R_PlaceFault a0 = some r) : Ret Try.prog 41 [.agg #[.int .i64 a0.Lat, .int .i64 a0.Lon]] (.int .i64 r) := by
  refine enterRet (n := 21) Try.func41 rfl rfl rfl (fun wd => ?_)
  refine c_seq ?_
  refine c_region ?_
  refine l_box (cs := [.int .i64 a0.Lat, .int .i64 a0.Lon]) rfl rfl rfl rfl (fun b1 => ?_)
  refine l_val rfl rfl rfl (r_assign (v := .int .i64 0) rfl) ?_
  refine l_nil ?_
  refine c_seq ?_
  refine c_seq ?_
  refine c_region ?_
  refine l_val rfl rfl rfl (r_field Try.runUnderlying71 rfl Try.sizeOf3 rfl rfl) ?_
  refine l_load1 (i := 0) (v := .int .i64 a0.Lat) Try.isAgg3 rfl rfl rfl rfl rfl ?_
  refine l_val rfl rfl rfl (r_lss rfl rfl) ?_
  refine l_val rfl rfl rfl (r_move (v := .bool (decide (a0.Lat < (-90000000)))) rfl) ?_
  refine split (fun hb => ?_) (fun hb => ?_)
  · have H9 := cnd_t hb H; clear H
    refine l_passed rfl rfl rfl ?_
    refine l_passed rfl rfl rfl ?_
    refine l_passed rfl rfl rfl ?_
    refine l_val rfl rfl rfl (r_pickT (v := .bool true) rfl rfl) ?_
    refine l_val rfl rfl rfl (r_move (v := .bool true) rfl) ?_
    refine l_passed rfl rfl rfl ?_
    refine l_passed rfl rfl rfl ?_
    refine l_passed rfl rfl rfl ?_
    refine l_val rfl rfl rfl (r_pickT (v := .bool true) rfl rfl) ?_
    refine l_val rfl rfl rfl (r_move (v := .bool true) rfl) ?_
    refine l_passed rfl rfl rfl ?_
    refine l_passed rfl rfl rfl ?_
    refine l_passed rfl rfl rfl ?_
    refine l_val rfl rfl rfl (r_pickT (v := .bool true) rfl rfl) ?_
    refine l_nil ?_
    refine c_true rfl ?_
    refine c_seq ?_
    refine c_region ?_
    refine l_val rfl rfl rfl (r_assign (v := .int .i64 2) rfl) ?_
    refine l_nil ?_
    refine c_ret ?_
    obtain rfl := Option.some.inj H9
    refine ret1 (v := .int .i64 2) rfl rfl (fin rfl)
  · have H10 := cnd_f hb H; clear H
    refine l_val rfl rfl rfl (r_field Try.runUnderlying71 rfl Try.sizeOf3 rfl rfl) ?_
    refine l_load1 (i := 0) (v := .int .i64 a0.Lat) Try.isAgg3 rfl rfl rfl rfl rfl ?_
    refine l_val rfl rfl rfl (r_gtr rfl rfl) ?_
    refine l_val rfl rfl rfl (r_pickF (v := .bool (decide (90000000 < a0.Lat))) rfl rfl) ?_
    refine l_val rfl rfl rfl (r_move (v := .bool (decide (90000000 < a0.Lat))) rfl) ?_
    refine split (fun hb => ?_) (fun hb => ?_)
    · have H11 := cnd_t hb H10; clear H10
      refine l_passed rfl rfl rfl ?_
      refine l_passed rfl rfl rfl ?_
      refine l_passed rfl rfl rfl ?_
      refine l_val rfl rfl rfl (r_pickT (v := .bool true) rfl rfl) ?_
      refine l_val rfl rfl rfl (r_move (v := .bool true) rfl) ?_
      refine l_passed rfl rfl rfl ?_
      refine l_passed rfl rfl rfl ?_
      refine l_passed rfl rfl rfl ?_
      refine l_val rfl rfl rfl (r_pickT (v := .bool true) rfl rfl) ?_
      refine l_nil ?_
      refine c_true rfl ?_
      refine c_seq ?_
      refine c_region ?_
      refine l_val rfl rfl rfl (r_assign (v := .int .i64 2) rfl) ?_
      refine l_nil ?_
      refine c_ret ?_
      obtain rfl := Option.some.inj H11
      refine ret1 (v := .int .i64 2) rfl rfl (fin rfl)
    · have H12 := cnd_f hb H10; clear H10
      refine l_val rfl rfl rfl (r_field Try.runUnderlying71 rfl Try.sizeOf3 rfl rfl) ?_
      refine l_load1 (i := 0) (v := .int .i64 a0.Lon) Try.isAgg3 rfl rfl rfl rfl rfl ?_
      refine l_val rfl rfl rfl (r_lss rfl rfl) ?_
      refine l_val rfl rfl rfl (r_pickF (v := .bool (decide (a0.Lon < (-180000000)))) rfl rfl) ?_
      refine l_val rfl rfl rfl (r_move (v := .bool (decide (a0.Lon < (-180000000)))) rfl) ?_
      refine split (fun hb => ?_) (fun hb => ?_)
      · have H13 := cnd_t hb H12; clear H12
        refine l_passed rfl rfl rfl ?_
        refine l_passed rfl rfl rfl ?_
        refine l_passed rfl rfl rfl ?_
        refine l_val rfl rfl rfl (r_pickT (v := .bool true) rfl rfl) ?_
        refine l_nil ?_
        refine c_true rfl ?_
        refine c_seq ?_
        refine c_region ?_
        refine l_val rfl rfl rfl (r_assign (v := .int .i64 2) rfl) ?_
        refine l_nil ?_
        refine c_ret ?_
        obtain rfl := Option.some.inj H13
        refine ret1 (v := .int .i64 2) rfl rfl (fin rfl)
      · have H14 := cnd_f hb H12; clear H12
        refine l_val rfl rfl rfl (r_field Try.runUnderlying71 rfl Try.sizeOf3 rfl rfl) ?_
        refine l_load1 (i := 0) (v := .int .i64 a0.Lon) Try.isAgg3 rfl rfl rfl rfl rfl ?_
        refine l_val rfl rfl rfl (r_gtr rfl rfl) ?_
        refine l_val rfl rfl rfl (r_pickF (v := .bool (decide (179999999 < a0.Lon))) rfl rfl) ?_
        refine l_nil ?_
        refine c_if (b := (decide (179999999 < a0.Lon))) rfl (fun hb => ?_) (fun hb => ?_)
        · have H15 := cnd_t hb H14; clear H14
          refine c_seq ?_
          refine c_region ?_
          refine l_val rfl rfl rfl (r_assign (v := .int .i64 2) rfl) ?_
          refine l_nil ?_
          refine c_ret ?_
          obtain rfl := Option.some.inj H15
          refine ret1 (v := .int .i64 2) rfl rfl (fin rfl)
        · have H16 := cnd_f hb H14; clear H14
          refine c_skip ?_
          refine c_seq ?_
          refine c_region ?_
          refine l_val rfl rfl rfl (r_assign (v := .int .i64 0) rfl) ?_
          refine l_nil ?_
          refine c_ret ?_
          obtain rfl := Option.some.inj H16
          refine ret1 (v := .int .i64 0) rfl rfl (fin rfl)
theorem k31 {a0 : (List T_where_Fix)} {v0 : Value} {r : Int} {w : World} {h : Heap} (hw : Know h w noS) (f0 : FrS h 3 v0 (a0.map e_where_Fix)) (H : R_TrackFault a0 = some r) : Does Try.prog 31 (List.toArray [v0]) w (fun v w' => v = (.int .i64 r) ∧ Grow w w') := by
  refine enter (n := 44) Try.func31 rfl rfl rfl noS [] (Sat.nil _ _) ?_
  refine c_seq ?_
  refine c_region ?_
  refine l_val rfl rfl rfl (r_assign (v := .int .i64 0) rfl) ?_
  refine l_nil ?_
  refine c_seq ?_
  refine c_seq ?_
  refine c_region ?_
  refine l_val rfl rfl rfl (r_move (v := v0) rfl) ?_
  refine l_val rfl rfl rfl (r_lenF Try.underlying60 rfl f0 rfl) ?_
  refine l_val rfl rfl rfl (r_gtr rfl rfl) ?_
  refine l_nil ?_
  refine c_if (b := (decide (2000 < (a0.length : Int)))) rfl (fun hb => ?_) (fun hb => ?_)
  · have H22 := cnd_t hb H; clear H
    refine c_seq ?_
    refine c_region ?_
    refine l_val rfl rfl rfl (r_assign (v := .int .i64 4) rfl) ?_
    refine l_nil ?_
    refine c_ret ?_
    obtain rfl := Option.some.inj H22
    refine ret1 (v := .int .i64 4) rfl rfl (fin rfl)
  · have H23 := cnd_f hb H; clear H
    refine c_skip ?_
    refine c_seq ?_
    refine c_seq ?_
    refine c_region ?_
    refine l_val rfl rfl rfl (r_move (v := v0) rfl) ?_
    refine l_val rfl rfl rfl (r_lenF Try.underlying60 rfl f0 rfl) ?_
    refine l_val rfl rfl rfl (r_move (v := .int .i64 0) rfl) ?_
    refine l_nil ?_
    refine c_block ?_
    refine c_fix (σ := Int) (τ := Unit) (fun next1 s => R_TrackFault_l1 a0 next1 s) (fun s t => [(0, v0), (9, v0), (10, .int .i64 (a0.length : Int)), (11, .int .i64 s)]) (fun s t => []) (fun s t => True) 0 () [] H23 (by exact trivial) (by exact ⟨rfl, rfl, rfl, rfl, trivial⟩) (by decide) rfl ?_
    rintro x11_2 _ m1 gg H24 _
    clear H23
    replace H24 : R_TrackFault_l1 a0 (it (fun next1 s => R_TrackFault_l1 a0 next1 s) m1) x11_2 = some r := H24
    generalize hn1 : it (fun next1 s => R_TrackFault_l1 a0 next1 s) m1 = next1 at H24
    refine c_tidyF [(0, v0), (9, v0), (10, .int .i64 (a0.length : Int)), (11, .int .i64 x11_2)] [] rfl rfl ?_
    refine c_seq ?_
    refine c_region ?_
    refine l_val rfl rfl rfl (r_lss rfl rfl) ?_
    refine l_nil ?_
    refine c_seq ?_
    refine c_if (b := (decide (x11_2 < (a0.length : Int)))) rfl (fun hb => ?_) (fun hb => ?_)
    · have H25 := cnd_t hb H24; clear H24
      refine c_skip ?_
      refine c_meet (r := r) (σ := Int × Bool × Int × Int × Int) (τ := Nat) (fun s => R_TrackFault_j2 x11_2 next1 s.1 s.2.1 s.2.2.1 s.2.2.2.1 s.2.2.2.2) (fun s t => [(0, v0), (9, v0), (10, .int .i64 (a0.length : Int)), (11, .int .i64 x11_2), (20, .pointer (some ⟨t, 0, none⟩)), (21, .int .i64 s.1), (22, .bool s.2.1)]) (fun s t => [cellsC t [.int .i64 s.2.2.1, .int .i64 s.2.2.2.1, .int .i64 s.2.2.2.2] 108]) (fun s t => True) ?_ ?_
      · refine c_block ?_
        refine c_seq ?_
        refine c_region ?_
        refine l_val rfl rfl rfl (r_move (v := .int .i64 x11_2) rfl) ?_
        obtain ⟨t14, h_t14, H28⟩ := bnd_some H25; clear H25
        refine l_val rfl rfl rfl (r_indexF Try.underlying60 Try.sizeOf108 rfl rfl f0 h_t14) ?_
        refine l_read (fun w hF hS => run_loadGN (f := e_where_Fix) (i := x11_2) (sz := 3) (j := 0) (vs := [.int .i64 t14.Moment, .int .i64 t14.Place.Lat, .int .i64 t14.Place.Lon]) Try.isAgg108 Try.sizeOf108 rfl rfl (f0.row (hw.now hF)) h_t14 rfl) rfl rfl rfl ?_
        refine l_alloc (cs := [.int .i64 0, .int .i64 0, .int .i64 0]) Try.zeroValue108 rfl rfl rfl (fun b1 => ?_)
        refine l_val rfl rfl rfl (r_assign (v := .int .i64 x11_2) rfl) ?_
        refine l_store (i := 0) (vs := [.int .i64 t14.Moment, .int .i64 t14.Place.Lat, .int .i64 t14.Place.Lon]) (cs' := [.int .i64 t14.Moment, .int .i64 t14.Place.Lat, .int .i64 t14.Place.Lon]) Try.sizeOf108 rfl rfl rfl rfl rfl rfl rfl rfl rfl ?_
        refine l_nil ?_
        refine c_seq ?_
        refine c_seq ?_
        refine c_region ?_
        refine l_val rfl rfl rfl (r_field Try.runUnderlying108 rfl Try.sizeOf3 rfl rfl) ?_
        refine l_load1 (i := 0) (v := .int .i64 t14.Moment) Try.isAgg3 rfl rfl rfl rfl rfl ?_
        refine l_val rfl rfl rfl (r_lss rfl rfl) ?_
        refine l_val rfl rfl rfl (r_move (v := .bool (decide (t14.Moment < 0))) rfl) ?_
        refine split (fun hb => ?_) (fun hb => ?_)
        · have H29 := cnd_t hb H28; clear H28
          refine l_passed rfl rfl rfl ?_
          refine l_passed rfl rfl rfl ?_
          refine l_passed rfl rfl rfl ?_
          refine l_val rfl rfl rfl (r_pickT (v := .bool true) rfl rfl) ?_
          refine l_nil ?_
          refine c_true rfl ?_
          refine c_seq ?_
          refine c_region ?_
          refine l_val rfl rfl rfl (r_assign (v := .int .i64 2) rfl) ?_
          refine l_nil ?_
          refine c_ret ?_
          obtain rfl := Option.some.inj H29
          refine ret1 (v := .int .i64 2) rfl rfl (fin rfl)
        · have H30 := cnd_f hb H28; clear H28
          refine l_val rfl rfl rfl (r_field Try.runUnderlying108 rfl Try.sizeOf3 rfl rfl) ?_
          refine l_load1 (i := 0) (v := .int .i64 t14.Moment) Try.isAgg3 rfl rfl rfl rfl rfl ?_
          refine l_val rfl rfl rfl (r_gtr rfl rfl) ?_
          refine l_val rfl rfl rfl (r_pickF (v := .bool (decide (6311433599 < t14.Moment))) rfl rfl) ?_
          refine l_nil ?_
          refine c_if (b := (decide (6311433599 < t14.Moment))) rfl (fun hb => ?_) (fun hb => ?_)
          · have H31 := cnd_t hb H30; clear H30
            refine c_seq ?_
            refine c_region ?_
            refine l_val rfl rfl rfl (r_assign (v := .int .i64 2) rfl) ?_
            refine l_nil ?_
            refine c_ret ?_
            obtain rfl := Option.some.inj H31
            refine ret1 (v := .int .i64 2) rfl rfl (fin rfl)
          · have H32 := cnd_f hb H30; clear H30
            refine c_skip ?_
            refine c_seq ?_
            refine c_seq ?_
            refine c_region ?_
            refine l_val rfl rfl rfl (r_field Try.runUnderlying108 rfl Try.sizeOf71 rfl rfl) ?_
            refine l_loadN (i := 0) (vs := [.int .i64 t14.Place.Lat, .int .i64 t14.Place.Lon]) Try.isAgg71 Try.sizeOf71 rfl rfl rfl rfl rfl ?_
            obtain ⟨t26, h_t26, H33⟩ := bnd_some H32; clear H32
            refine l_call (k41 h_t26) Try.call41 rfl rfl rfl ?_
            refine l_val rfl rfl rfl (r_assign (v := .int .i64 t26) rfl) ?_
            refine l_nil ?_
            refine c_seq ?_
            refine c_region ?_
            refine l_val rfl rfl rfl (r_move (v := .int .i64 t26) rfl) ?_
            refine l_val rfl rfl rfl (r_neq rfl rfl) ?_
            refine l_nil ?_
            refine c_if (b := (decide (t26 ≠ 0))) rfl (fun hb => ?_) (fun hb => ?_)
            · have H34 := cnd_t hb H33; clear H33
              refine c_seq ?_
              refine c_region ?_
              refine l_val rfl rfl rfl (r_move (v := .int .i64 t26) rfl) ?_
              refine l_val rfl rfl rfl (r_assign (v := .int .i64 t26) rfl) ?_
              refine l_nil ?_
              refine c_ret ?_
              obtain rfl := Option.some.inj H34
              refine ret1 (v := .int .i64 t26) rfl rfl (fin rfl)
            · have H35 := cnd_f hb H33; clear H33
              refine c_skip ?_
              refine c_seq ?_
              exact c_regionD (Kd.p :: Kd.p :: Kd.p :: Kd.p :: Kd.d [0] _ :: Kd.p :: Kd.p :: Kd.p :: Kd.p :: Kd.p :: Kd.d [] _ :: Kd.p :: Kd.p :: []) 0 mixed (by
                refine d_val rfl rfl (r_move (v := .int .i64 x11_2) rfl) ?_
                refine d_val rfl rfl (r_gtr rfl rfl) ?_
                refine d_val rfl rfl (r_move (v := .bool (decide (0 < x11_2))) rfl) ?_
                refine splitS (fun hb => ?_) (fun hb => ?_)
                · have H36 := cnd_t hb H35
                  refine d_val rfl rfl (r_field Try.runUnderlying108 rfl Try.sizeOf3 rfl rfl) ?_
                  refine d_load1 (i := 0) (v := .int .i64 t14.Moment) Try.isAgg3 rfl rfl rfl rfl ?_
                  refine d_val rfl rfl (r_move (v := v0) rfl) ?_
                  refine d_val rfl rfl (r_move (v := .int .i64 x11_2) rfl) ?_
                  have h_t37 := bnd_val H36
                  have H37 := bnd_rest H36
                  refine d_val rfl rfl (r_subG rfl rfl h_t37) ?_
                  have h_t38 := bnd_val H37
                  have H38 := bnd_rest H37
                  refine d_val rfl rfl (r_indexF Try.underlying60 Try.sizeOf108 rfl rfl f0 h_t38) ?_
                  refine d_val rfl rfl (r_fieldP Try.runUnderlying108 rfl Try.sizeOf3 rfl rfl (some_of_at f0 h_t38)) ?_
                  refine d_read (fun w hF => run_loadG1 (f := e_where_Fix) (i := (val (gI (x11_2 - 1)))) (sz := 3) (j := 0) (v := .int .i64 (val (gAt a0 (val (gI (x11_2 - 1))))).Moment) Try.isAgg3 rfl rfl (f0.row (hw.now hF)) h_t38 rfl) rfl rfl ?_
                  refine d_val rfl rfl (r_leq rfl rfl) ?_
                  refine d_val rfl rfl (r_pickT (v := .bool (decide (t14.Moment ≤ (val (gAt a0 (val (gI (x11_2 - 1))))).Moment))) rfl rfl) ?_
                  refine d_nil ?_
                  refine c_if (b := (decide (t14.Moment ≤ (val (gAt a0 (val (gI (x11_2 - 1))))).Moment))) rfl (fun hb => ?_) (fun hb => ?_)
                  · have H39 := cnd_t hb H38; clear H38
                    refine c_seq ?_
                    refine c_region ?_
                    refine l_val rfl rfl rfl (r_assign (v := .int .i64 5) rfl) ?_
                    refine l_nil ?_
                    refine c_ret ?_
                    obtain rfl := Option.some.inj H39
                    refine ret1 (v := .int .i64 5) rfl rfl (fin rfl)
                  · have H40 := cnd_f hb H38; clear H38
                    refine c_skip ?_
                    refine c_close (t14.Moment, (decide (6311433599 < t14.Moment)), t14.Moment, t14.Place.Lat, t14.Place.Lon) b1 0 [0] (by exact ⟨rfl, rfl, rfl, rfl, rfl, rfl, rfl, trivial⟩) (by decide) rfl (by exact ⟨H40, trivial⟩) (Nat.lt_succ_self _)
                · have H41 := cnd_f hb H35
                  refine d_pass rfl rfl ?_
                  refine d_pass rfl rfl ?_
                  refine d_pass rfl rfl ?_
                  refine d_pass rfl rfl ?_
                  refine d_pass rfl rfl ?_
                  refine d_pass rfl rfl ?_
                  refine d_pass rfl rfl ?_
                  refine d_pass rfl rfl ?_
                  refine d_pass rfl rfl ?_
                  refine d_val rfl rfl (r_pickF (v := .bool false) rfl rfl) ?_
                  refine d_nil ?_
                  refine c_false rfl ?_
                  refine c_skip ?_
                  refine c_close (t14.Moment, (decide (6311433599 < t14.Moment)), t14.Moment, t14.Place.Lat, t14.Place.Lon) b1 0 [0] (by exact ⟨rfl, rfl, rfl, rfl, rfl, rfl, rfl, trivial⟩) (by decide) rfl (by exact ⟨H41, trivial⟩) (Nat.lt_succ_self _)
                ) (by kernel_rfl)
      · rintro ⟨x21, x22, m, m_2, m_3⟩ b gg H26 _
        replace H26 : R_TrackFault_j2 x11_2 next1 x21 x22 m m_2 m_3 = some r := H26
        refine c_tidyF [(0, v0), (9, v0), (10, .int .i64 (a0.length : Int)), (11, .int .i64 x11_2), (20, .pointer (some ⟨b, 0, none⟩)), (21, .int .i64 x21), (22, .bool x22)] [cellsC b [.int .i64 m, .int .i64 m_2, .int .i64 m_3] 108] rfl rfl ?_
        refine c_region ?_
        obtain ⟨t43, h_t43, H27⟩ := bnd_some H26; clear H26
        refine l_val rfl rfl rfl (r_addG rfl rfl h_t43) ?_
        refine l_val rfl rfl rfl (r_move (v := .int .i64 t43) rfl) ?_
        refine l_nil ?_
        refine c_close t43 () m1 [] (by exact ⟨rfl, rfl, rfl, rfl, trivial⟩) (by decide) rfl (by exact ⟨(by subst hn1; exact H27), trivial⟩) (Nat.lt_succ_self _)
    · have H42 := cnd_f hb H24; clear H24
      refine c_exit ?_
      refine c_seq ?_
      refine c_region ?_
      refine l_val rfl rfl rfl (r_assign (v := .int .i64 0) rfl) ?_
      refine l_nil ?_
      refine c_ret ?_
      obtain rfl := Option.some.inj H42
      refine ret1 (v := .int .i64 0) rfl rfl (fin rfl)
theorem k116 {a0 : Int} {a1 : Int} {r : Int} (H : R_eastward a0 a1 = some r) : Ret Try.prog 116 [.int .i64 a0, .int .i64 a1] (.int .i64 r) := by
  refine enterRet (n := 14) Try.func116 rfl rfl rfl (fun wd => ?_)
  refine c_seq ?_
  refine c_region ?_
  refine l_val rfl rfl rfl (r_assign (v := .int .i64 0) rfl) ?_
  refine l_nil ?_
  refine c_seq ?_
  refine c_region ?_
  refine l_val rfl rfl rfl (r_move (v := .int .i64 a1) rfl) ?_
  refine l_val rfl rfl rfl (r_move (v := .int .i64 a0) rfl) ?_
  obtain ⟨t8, h_t8, H5⟩ := bnd_some H; clear H
  refine l_val rfl rfl rfl (r_subG rfl rfl h_t8) ?_
  refine l_val rfl rfl rfl (r_assign (v := .int .i64 t8) rfl) ?_
  refine l_nil ?_
  refine c_seq ?_
  refine c_seq ?_
  refine c_region ?_
  refine l_val rfl rfl rfl (r_move (v := .int .i64 t8) rfl) ?_
  refine l_val rfl rfl rfl (r_lss rfl rfl) ?_
  refine l_nil ?_
  refine c_if (b := (decide (t8 < 0))) rfl (fun hb => ?_) (fun hb => ?_)
  · have H6 := cnd_t hb H5; clear H5
    refine c_region ?_
    refine l_val rfl rfl rfl (r_move (v := .int .i64 t8) rfl) ?_
    obtain ⟨t12, h_t12, H7⟩ := bnd_some H6; clear H6
    refine l_val rfl rfl rfl (r_addG rfl rfl h_t12) ?_
    refine l_val rfl rfl rfl (r_assign (v := .int .i64 t12) rfl) ?_
    refine l_nil ?_
    refine c_seq ?_
    refine c_region ?_
    refine l_val rfl rfl rfl (r_move (v := .int .i64 t12) rfl) ?_
    refine l_val rfl rfl rfl (r_assign (v := .int .i64 t12) rfl) ?_
    refine l_nil ?_
    refine c_ret ?_
    obtain rfl := Option.some.inj H7
    refine ret1 (v := .int .i64 t12) rfl rfl (fin rfl)
  · have H8 := cnd_f hb H5; clear H5
    refine c_skip ?_
    refine c_seq ?_
    refine c_region ?_
    refine l_val rfl rfl rfl (r_move (v := .int .i64 t8) rfl) ?_
    refine l_val rfl rfl rfl (r_assign (v := .int .i64 t8) rfl) ?_
    refine l_nil ?_
    refine c_ret ?_
    obtain rfl := Option.some.inj H8
    refine ret1 (v := .int .i64 t8) rfl rfl (fin rfl)
theorem k77 {a0 : Int} {a1 : Int} {r : Int} (H : R_short a0 a1 = some r) : Ret Try.prog 77 [.int .i64 a0, .int .i64 a1] (.int .i64 r) := by
  refine enterRet (n := 14) Try.func77 rfl rfl rfl (fun wd => ?_)
  refine c_seq ?_
  refine c_region ?_
  refine l_val rfl rfl rfl (r_assign (v := .int .i64 0) rfl) ?_
  refine l_nil ?_
  refine c_seq ?_
  refine c_region ?_
  refine l_val rfl rfl rfl (r_move (v := .int .i64 a0) rfl) ?_
  refine l_val rfl rfl rfl (r_move (v := .int .i64 a1) rfl) ?_
  obtain ⟨t8, h_t8, H5⟩ := bnd_some H; clear H
  refine l_call (k116 h_t8) Try.call116 rfl rfl rfl ?_
  refine l_val rfl rfl rfl (r_assign (v := .int .i64 t8) rfl) ?_
  refine l_nil ?_
  refine c_seq ?_
  refine c_seq ?_
  refine c_region ?_
  refine l_val rfl rfl rfl (r_move (v := .int .i64 t8) rfl) ?_
  refine l_val rfl rfl rfl (r_geq rfl rfl) ?_
  refine l_nil ?_
  refine c_if (b := (decide (180000000 ≤ t8))) rfl (fun hb => ?_) (fun hb => ?_)
  · have H6 := cnd_t hb H5; clear H5
    refine c_region ?_
    refine l_val rfl rfl rfl (r_move (v := .int .i64 t8) rfl) ?_
    obtain ⟨t12, h_t12, H7⟩ := bnd_some H6; clear H6
    refine l_val rfl rfl rfl (r_subG rfl rfl h_t12) ?_
    refine l_val rfl rfl rfl (r_assign (v := .int .i64 t12) rfl) ?_
    refine l_nil ?_
    refine c_seq ?_
    refine c_region ?_
    refine l_val rfl rfl rfl (r_move (v := .int .i64 t12) rfl) ?_
    refine l_val rfl rfl rfl (r_assign (v := .int .i64 t12) rfl) ?_
    refine l_nil ?_
    refine c_ret ?_
    obtain rfl := Option.some.inj H7
    refine ret1 (v := .int .i64 t12) rfl rfl (fin rfl)
  · have H8 := cnd_f hb H5; clear H5
    refine c_skip ?_
    refine c_seq ?_
    refine c_region ?_
    refine l_val rfl rfl rfl (r_move (v := .int .i64 t8) rfl) ?_
    refine l_val rfl rfl rfl (r_assign (v := .int .i64 t8) rfl) ?_
    refine l_nil ?_
    refine c_ret ?_
    obtain rfl := Option.some.inj H8
    refine ret1 (v := .int .i64 t8) rfl rfl (fin rfl)
theorem k79 {a0 : Int} {a1 : Int} {r : Int} (H : R_down a0 a1 = some r) : Ret Try.prog 79 [.int .i64 a0, .int .i64 a1] (.int .i64 r) := by
  refine enterRet (n := 23) Try.func79 rfl rfl rfl (fun wd => ?_)
  refine c_seq ?_
  refine c_region ?_
  refine l_val rfl rfl rfl (r_assign (v := .int .i64 0) rfl) ?_
  refine l_nil ?_
  refine c_seq ?_
  refine c_region ?_
  refine l_val rfl rfl rfl (r_move (v := .int .i64 a0) rfl) ?_
  refine l_val rfl rfl rfl (r_move (v := .int .i64 a1) rfl) ?_
  obtain ⟨t8, h_t8, H8⟩ := bnd_some H; clear H
  refine l_val rfl rfl rfl (r_quoG rfl rfl h_t8) ?_
  refine l_val rfl rfl rfl (r_assign (v := .int .i64 t8) rfl) ?_
  refine l_nil ?_
  refine c_seq ?_
  refine c_seq ?_
  refine c_region ?_
  refine l_val rfl rfl rfl (r_move (v := .int .i64 a0) rfl) ?_
  refine l_val rfl rfl rfl (r_move (v := .int .i64 a1) rfl) ?_
  obtain ⟨t11, h_t11, H9⟩ := bnd_some H8; clear H8
  refine l_val rfl rfl rfl (r_remG rfl rfl h_t11) ?_
  refine l_val rfl rfl rfl (r_neq rfl rfl) ?_
  refine l_val rfl rfl rfl (r_move (v := .bool (decide (t11 ≠ 0))) rfl) ?_
  refine split (fun hb => ?_) (fun hb => ?_)
  · have H10 := cnd_t hb H9; clear H9
    refine l_val rfl rfl rfl (r_move (v := .int .i64 a0) rfl) ?_
    refine l_val rfl rfl rfl (r_lss rfl rfl) ?_
    refine l_val rfl rfl rfl (r_move (v := .int .i64 a1) rfl) ?_
    refine l_val rfl rfl rfl (r_lss rfl rfl) ?_
    refine l_val rfl rfl rfl (r_neqB Try.underlying4 rfl rfl) ?_
    refine l_val rfl rfl rfl (r_pickT (v := .bool (decide ((decide (a0 < 0)) ≠ (decide (a1 < 0))))) rfl rfl) ?_
    refine l_nil ?_
    refine c_if (b := (decide ((decide (a0 < 0)) ≠ (decide (a1 < 0))))) rfl (fun hb => ?_) (fun hb => ?_)
    · have H11 := cnd_t hb H10; clear H10
      refine c_region ?_
      refine l_val rfl rfl rfl (r_move (v := .int .i64 t8) rfl) ?_
      obtain ⟨t21, h_t21, H12⟩ := bnd_some H11; clear H11
      refine l_val rfl rfl rfl (r_subG rfl rfl h_t21) ?_
      refine l_val rfl rfl rfl (r_assign (v := .int .i64 t21) rfl) ?_
      refine l_nil ?_
      refine c_seq ?_
      refine c_region ?_
      refine l_val rfl rfl rfl (r_move (v := .int .i64 t21) rfl) ?_
      refine l_val rfl rfl rfl (r_assign (v := .int .i64 t21) rfl) ?_
      refine l_nil ?_
      refine c_ret ?_
      obtain rfl := Option.some.inj H12
      refine ret1 (v := .int .i64 t21) rfl rfl (fin rfl)
    · have H13 := cnd_f hb H10; clear H10
      refine c_skip ?_
      refine c_seq ?_
      refine c_region ?_
      refine l_val rfl rfl rfl (r_move (v := .int .i64 t8) rfl) ?_
      refine l_val rfl rfl rfl (r_assign (v := .int .i64 t8) rfl) ?_
      refine l_nil ?_
      refine c_ret ?_
      obtain rfl := Option.some.inj H13
      refine ret1 (v := .int .i64 t8) rfl rfl (fin rfl)
  · have H14 := cnd_f hb H9; clear H9
    refine l_passed rfl rfl rfl ?_
    refine l_passed rfl rfl rfl ?_
    refine l_passed rfl rfl rfl ?_
    refine l_passed rfl rfl rfl ?_
    refine l_passed rfl rfl rfl ?_
    refine l_val rfl rfl rfl (r_pickF (v := .bool false) rfl rfl) ?_
    refine l_nil ?_
    refine c_false rfl ?_
    refine c_skip ?_
    refine c_seq ?_
    refine c_region ?_
    refine l_val rfl rfl rfl (r_move (v := .int .i64 t8) rfl) ?_
    refine l_val rfl rfl rfl (r_assign (v := .int .i64 t8) rfl) ?_
    refine l_nil ?_
    refine c_ret ?_
    obtain rfl := Option.some.inj H14
    refine ret1 (v := .int .i64 t8) rfl rfl (fin rfl)
theorem k108 {a0 : Int} {a1 : Int} {a2 : Int} {r : Int} (H : R_share a0 a1 a2 = some r) : Ret Try.prog 108 [.int .i64 a0, .int .i64 a1, .int .i64 a2] (.int .i64 r) := by
  refine enterRet (n := 12) Try.func108 rfl rfl rfl (fun wd => ?_)
  refine c_seq ?_
  refine c_region ?_
  refine l_val rfl rfl rfl (r_assign (v := .int .i64 0) rfl) ?_
  refine l_nil ?_
  refine c_seq ?_
  refine c_region ?_
  refine l_val rfl rfl rfl (r_move (v := .int .i64 a0) rfl) ?_
  refine l_val rfl rfl rfl (r_move (v := .int .i64 a1) rfl) ?_
  obtain ⟨t9, h_t9, H3⟩ := bnd_some H; clear H
  refine l_val rfl rfl rfl (r_mulG rfl rfl h_t9) ?_
  refine l_val rfl rfl rfl (r_move (v := .int .i64 a2) rfl) ?_
  obtain ⟨t11, h_t11, H4⟩ := bnd_some H3; clear H3
  refine l_call (k79 h_t11) Try.call79 rfl rfl rfl ?_
  refine l_val rfl rfl rfl (r_assign (v := .int .i64 t11) rfl) ?_
  refine l_nil ?_
  refine c_ret ?_
  obtain rfl := Option.some.inj H4
  refine ret1 (v := .int .i64 t11) rfl rfl (fin rfl)
theorem k109 {a0 : Int} {r : Int} (H : R_lon a0 = some r) : Ret Try.prog 109 [.int .i64 a0] (.int .i64 r) := by
  refine enterRet (n := 12) Try.func109 rfl rfl rfl (fun wd => ?_)
  refine c_seq ?_
  refine c_region ?_
  refine l_val rfl rfl rfl (r_assign (v := .int .i64 0) rfl) ?_
  refine l_nil ?_
  refine c_meet (r := r) (σ := Int) (τ := Unit) (fun s => R_lon_j1 s) (fun s t => [(0, .int .i64 s)]) (fun s t => []) (fun s t => True) ?_ ?_
  · refine c_block ?_
    refine c_fix (σ := Int) (τ := Unit) (fun next3 s => R_lon_l3 next3 s) (fun s t => [(0, .int .i64 s)]) (fun s t => []) (fun s t => True) a0 () [] H (by exact trivial) (by exact ⟨rfl, trivial⟩) (by decide) rfl ?_
    rintro x0_5 _ m3 gg H15 _
    clear H
    replace H15 : R_lon_l3 (it (fun next3 s => R_lon_l3 next3 s) m3) x0_5 = some r := H15
    generalize hn3 : it (fun next3 s => R_lon_l3 next3 s) m3 = next3 at H15
    refine c_tidyF [(0, .int .i64 x0_5)] [] rfl rfl ?_
    refine c_seq ?_
    refine c_seq ?_
    refine c_region ?_
    refine l_val rfl rfl rfl (r_move (v := .int .i64 x0_5) rfl) ?_
    refine l_val rfl rfl rfl (r_lss rfl rfl) ?_
    refine l_nil ?_
    refine c_if (b := (decide (x0_5 < (-180000000)))) rfl (fun hb => ?_) (fun hb => ?_)
    · have H16 := cnd_t hb H15; clear H15
      refine c_skip ?_
      refine c_block ?_
      refine c_region ?_
      refine l_val rfl rfl rfl (r_move (v := .int .i64 x0_5) rfl) ?_
      obtain ⟨t6, h_t6, H17⟩ := bnd_some H16; clear H16
      refine l_val rfl rfl rfl (r_addG rfl rfl h_t6) ?_
      refine l_val rfl rfl rfl (r_assign (v := .int .i64 t6) rfl) ?_
      refine l_nil ?_
      refine c_close t6 () m3 [] (by exact ⟨rfl, trivial⟩) (by decide) rfl (by exact ⟨(by subst hn3; exact H17), trivial⟩) (Nat.lt_succ_self _)
    · have H18 := cnd_f hb H15; clear H15
      refine c_exit ?_
      refine c_close x0_5 () 0 [] (by exact ⟨rfl, trivial⟩) (by decide) rfl (by exact ⟨H18, trivial⟩) (Nat.lt_succ_self _)
  · rintro x0 _ gg H10 _
    replace H10 : R_lon_j1 x0 = some r := H10
    refine c_tidyF [(0, .int .i64 x0)] [] rfl rfl ?_
    refine c_seq ?_
    refine c_block ?_
    refine c_fix (σ := Int) (τ := Unit) (fun next2 s => R_lon_l2 next2 s) (fun s t => [(0, .int .i64 s)]) (fun s t => []) (fun s t => True) x0 () [] H10 (by exact trivial) (by exact ⟨rfl, trivial⟩) (by decide) rfl ?_
    rintro x0_3 _ m2 gg H11 _
    clear H10
    replace H11 : R_lon_l2 (it (fun next2 s => R_lon_l2 next2 s) m2) x0_3 = some r := H11
    generalize hn2 : it (fun next2 s => R_lon_l2 next2 s) m2 = next2 at H11
    refine c_tidyF [(0, .int .i64 x0_3)] [] rfl rfl ?_
    refine c_seq ?_
    refine c_seq ?_
    refine c_region ?_
    refine l_val rfl rfl rfl (r_move (v := .int .i64 x0_3) rfl) ?_
    refine l_val rfl rfl rfl (r_geq rfl rfl) ?_
    refine l_nil ?_
    refine c_if (b := (decide (180000000 ≤ x0_3))) rfl (fun hb => ?_) (fun hb => ?_)
    · have H12 := cnd_t hb H11; clear H11
      refine c_skip ?_
      refine c_block ?_
      refine c_region ?_
      refine l_val rfl rfl rfl (r_move (v := .int .i64 x0_3) rfl) ?_
      obtain ⟨t10, h_t10, H13⟩ := bnd_some H12; clear H12
      refine l_val rfl rfl rfl (r_subG rfl rfl h_t10) ?_
      refine l_val rfl rfl rfl (r_assign (v := .int .i64 t10) rfl) ?_
      refine l_nil ?_
      refine c_close t10 () m2 [] (by exact ⟨rfl, trivial⟩) (by decide) rfl (by exact ⟨(by subst hn2; exact H13), trivial⟩) (Nat.lt_succ_self _)
    · have H14 := cnd_f hb H11; clear H11
      refine c_exit ?_
      refine c_seq ?_
      refine c_region ?_
      refine l_val rfl rfl rfl (r_move (v := .int .i64 x0_3) rfl) ?_
      refine l_val rfl rfl rfl (r_assign (v := .int .i64 x0_3) rfl) ?_
      refine l_nil ?_
      refine c_ret ?_
      obtain rfl := Option.some.inj H14
      refine ret1 (v := .int .i64 x0_3) rfl rfl (fin rfl)
theorem k67 {a0 : T_api_Place} {a1 : T_api_Place} {a2 : Int} {a3 : Int} {r : T_api_Place} (H : R_BetweenOf a0 a1 a2 a3 = some r) : Ret Try.prog 67 [.agg #[.int .i64 a0.Lat, .int .i64 a0.Lon], .agg #[.int .i64 a1.Lat, .int .i64 a1.Lon], .int .i64 a2, .int .i64 a3] (.agg #[.int .i64 r.Lat, .int .i64 r.Lon]) := by
  refine enterRet (n := 33) Try.func67 rfl rfl rfl (fun wd => ?_)
  refine c_seq ?_
  refine c_region ?_
  refine l_box (cs := [.int .i64 a0.Lat, .int .i64 a0.Lon]) rfl rfl rfl rfl (fun b3 => ?_)
  refine l_box (cs := [.int .i64 a1.Lat, .int .i64 a1.Lon]) rfl rfl rfl rfl (fun b4 => ?_)
  refine l_alloc (cs := [.int .i64 0, .int .i64 0]) Try.zeroValue71 rfl rfl rfl (fun b5 => ?_)
  refine l_nil ?_
  refine c_seq ?_
  exact c_regionD (Kd.p :: Kd.d [0] _ :: Kd.p :: Kd.d [1] _ :: Kd.p :: Kd.d [0] _ :: Kd.p :: Kd.p :: Kd.p :: Kd.d [] _ :: Kd.p :: Kd.p :: Kd.d [0] _ :: Kd.p :: Kd.d [0] _ :: Kd.p :: Kd.d [1] _ :: Kd.d [] _ :: Kd.p :: Kd.p :: Kd.d [] _ :: Kd.p :: Kd.d [] _ :: Kd.p :: Kd.st 8 2 [_, _] 71 :: []) 0 mixed (by
    refine d_val rfl rfl (r_field Try.runUnderlying71 rfl Try.sizeOf3 rfl rfl) ?_
    refine d_load1 (i := 0) (v := .int .i64 a0.Lat) Try.isAgg3 rfl rfl rfl rfl ?_
    refine d_val rfl rfl (r_field Try.runUnderlying71 rfl Try.sizeOf3 rfl rfl) ?_
    refine d_load1 (i := 1) (v := .int .i64 a1.Lat) Try.isAgg3 rfl rfl rfl rfl ?_
    refine d_val rfl rfl (r_field Try.runUnderlying71 rfl Try.sizeOf3 rfl rfl) ?_
    refine d_load1 (i := 0) (v := .int .i64 a0.Lat) Try.isAgg3 rfl rfl rfl rfl ?_
    have h_t15 := bnd_val H
    have H8 := bnd_rest H
    refine d_val rfl rfl (r_subG rfl rfl h_t15) ?_
    refine d_val rfl rfl (r_move (v := .int .i64 a2) rfl) ?_
    refine d_val rfl rfl (r_move (v := .int .i64 a3) rfl) ?_
    have h_t18 := bnd_val H8
    have H9 := bnd_rest H8
    refine d_call (k108 h_t18) Try.call108 rfl rfl ?_
    have h_t19 := bnd_val H9
    have H10 := bnd_rest H9
    refine d_val rfl rfl (r_addG rfl rfl h_t19) ?_
    refine d_val rfl rfl (r_field Try.runUnderlying71 rfl Try.sizeOf3 rfl rfl) ?_
    refine d_load1 (i := 0) (v := .int .i64 a0.Lon) Try.isAgg3 rfl rfl rfl rfl ?_
    refine d_val rfl rfl (r_field Try.runUnderlying71 rfl Try.sizeOf3 rfl rfl) ?_
    refine d_load1 (i := 0) (v := .int .i64 a0.Lon) Try.isAgg3 rfl rfl rfl rfl ?_
    refine d_val rfl rfl (r_field Try.runUnderlying71 rfl Try.sizeOf3 rfl rfl) ?_
    refine d_load1 (i := 1) (v := .int .i64 a1.Lon) Try.isAgg3 rfl rfl rfl rfl ?_
    have h_t26 := bnd_val H10
    have H11 := bnd_rest H10
    refine d_call (k77 h_t26) Try.call77 rfl rfl ?_
    refine d_val rfl rfl (r_move (v := .int .i64 a2) rfl) ?_
    refine d_val rfl rfl (r_move (v := .int .i64 a3) rfl) ?_
    have h_t29 := bnd_val H11
    have H12 := bnd_rest H11
    refine d_call (k108 h_t29) Try.call108 rfl rfl ?_
    have h_t30 := bnd_val H12
    have H13 := bnd_rest H12
    refine d_val rfl rfl (r_addG rfl rfl h_t30) ?_
    have h_t31 := bnd_val H13
    have H14 := bnd_rest H13
    refine d_call (k109 h_t31) Try.call109 rfl rfl ?_
    refine d_val rfl rfl (r_build (pl := #[(0, 1), (1, 1)]) (ps := [(0, .int .i64 (val (gI (a0.Lat + (val (R_share (val (gI (a1.Lat - a0.Lat))) a2 a3)))))), (1, .int .i64 (val (R_lon (val (gI (a0.Lon + (val (R_share (val (R_short a0.Lon a1.Lon)) a2 a3))))))))]) (cells := #[.int .i64 (val (gI (a0.Lat + (val (R_share (val (gI (a1.Lat - a0.Lat))) a2 a3))))), .int .i64 (val (R_lon (val (gI (a0.Lon + (val (R_share (val (R_short a0.Lon a1.Lon)) a2 a3)))))))]) Try.zeroValue71 Try.runUnderlying71 (fun w => by kernel_rfl) rfl rfl) ?_
    refine d_store (i := 2) (vs := [.int .i64 (val (gI (a0.Lat + (val (R_share (val (gI (a1.Lat - a0.Lat))) a2 a3))))), .int .i64 (val (R_lon (val (gI (a0.Lon + (val (R_share (val (R_short a0.Lon a1.Lon)) a2 a3)))))))]) (cs' := [.int .i64 (val (gI (a0.Lat + (val (R_share (val (gI (a1.Lat - a0.Lat))) a2 a3))))), .int .i64 (val (R_lon (val (gI (a0.Lon + (val (R_share (val (R_short a0.Lon a1.Lon)) a2 a3)))))))]) Try.sizeOf71 rfl rfl rfl rfl rfl rfl rfl rfl rfl ?_
    refine d_nil ?_
    refine c_ret ?_
    obtain rfl := Option.some.inj H14
    refine retC (i := 2) (vs := [.int .i64 (val (gI (a0.Lat + (val (R_share (val (gI (a1.Lat - a0.Lat))) a2 a3))))), .int .i64 (val (R_lon (val (gI (a0.Lon + (val (R_share (val (R_short a0.Lon a1.Lon)) a2 a3)))))))]) Try.isAgg71 Try.sizeOf71 rfl rfl rfl rfl (fin rfl)
    ) (by kernel_rfl)
theorem k68 {a0 : Int} {r : Int} (H : R_far a0 = some r) : Ret Try.prog 68 [.int .i64 a0] (.int .i64 r) := by
  refine enterRet (n := 7) Try.func68 rfl rfl rfl (fun wd => ?_)
  refine c_seq ?_
  refine c_region ?_
  refine l_val rfl rfl rfl (r_assign (v := .int .i64 0) rfl) ?_
  refine l_nil ?_
  refine c_seq ?_
  refine c_region ?_
  refine l_val rfl rfl rfl (r_move (v := .int .i64 a0) rfl) ?_
  refine l_val rfl rfl rfl (r_move (v := .int .i64 a0) rfl) ?_
  obtain ⟨t5, h_t5, H2⟩ := bnd_some H; clear H
  refine l_val rfl rfl rfl (r_negG rfl h_t5) ?_
  refine l_val rfl rfl rfl (r_max rfl rfl) ?_
  refine l_val rfl rfl rfl (r_assign (v := .int .i64 (max a0 t5)) rfl) ?_
  refine l_nil ?_
  refine c_ret ?_
  obtain rfl := Option.some.inj H2
  refine ret1 (v := .int .i64 (max a0 t5)) rfl rfl (fin rfl)
theorem k32 {a0 : (List T_where_Fix)} {v0 : Value} {a1 : Int} {a2 : Int} {r : T_api_Place × Bool} {w : World} {h : Heap} (hw : Know h w noS) (f0 : FrS h 3 v0 (a0.map e_where_Fix)) (H : R_AtOf a0 a1 a2 = some r) : Does Try.prog 32 (List.toArray [v0, .int .i64 a1, .int .i64 a2]) w (fun v w' => v = (.tuple #[.agg #[.int .i64 r.1.Lat, .int .i64 r.1.Lon], .bool r.2]) ∧ Grow w w') := by
  refine enter (n := 138) Try.func32 rfl rfl rfl noS [] (Sat.nil _ _) ?_
  refine c_seq ?_
  refine c_region ?_
  refine l_alloc (cs := [.int .i64 0, .int .i64 0]) Try.zeroValue71 rfl rfl rfl (fun b5 => ?_)
  refine l_val rfl rfl rfl (r_assign (v := .bool false) rfl) ?_
  refine l_nil ?_
  refine c_seq ?_
  refine c_region ?_
  refine l_val rfl rfl rfl (r_assign (v := .int .i64 (-1)) rfl) ?_
  refine l_val rfl rfl rfl (r_assign (v := .int .i64 (-1)) rfl) ?_
  refine l_nil ?_
  refine c_meet (r := r) (σ := Int × Int) (τ := Unit) (fun s => R_AtOf_j1 a0 a1 a2 s.1 s.2) (fun s t => [(0, v0), (1, .int .i64 a1), (2, .int .i64 a2), (6, .pointer (some ⟨b5, 0, none⟩)), (8, .int .i64 s.1), (9, .int .i64 s.2)]) (fun s t => [cellsC b5 [.int .i64 0, .int .i64 0] 71]) (fun s t => True) ?_ ?_
  · refine c_seq ?_
    refine c_region ?_
    refine l_val rfl rfl rfl (r_move (v := v0) rfl) ?_
    refine l_val rfl rfl rfl (r_lenF Try.underlying60 rfl f0 rfl) ?_
    refine l_val rfl rfl rfl (r_move (v := .int .i64 0) rfl) ?_
    refine l_nil ?_
    refine c_block ?_
    refine c_fix (σ := Int × Int × Int) (τ := Unit) (fun next6 s => R_AtOf_l6 a0 a1 a2 next6 s.1 s.2.1 s.2.2) (fun s t => [(0, v0), (1, .int .i64 a1), (2, .int .i64 a2), (6, .pointer (some ⟨b5, 0, none⟩)), (8, .int .i64 s.1), (9, .int .i64 s.2.1), (17, v0), (18, .int .i64 (a0.length : Int)), (19, .int .i64 s.2.2)]) (fun s t => [cellsC b5 [.int .i64 0, .int .i64 0] 71]) (fun s t => True) ((-1), (-1), 0) () [0] H (by exact trivial) (by exact ⟨rfl, rfl, rfl, rfl, rfl, rfl, rfl, rfl, rfl, trivial⟩) (by decide) rfl ?_
    rintro ⟨x8_3, x9_3, x19_2⟩ _ m6 gg H99 _
    clear H
    replace H99 : R_AtOf_l6 a0 a1 a2 (it (fun next6 s => R_AtOf_l6 a0 a1 a2 next6 s.1 s.2.1 s.2.2) m6) x8_3 x9_3 x19_2 = some r := H99
    generalize hn6 : it (fun next6 s => R_AtOf_l6 a0 a1 a2 next6 s.1 s.2.1 s.2.2) m6 = next6 at H99
    refine c_tidyF [(0, v0), (1, .int .i64 a1), (2, .int .i64 a2), (6, .pointer (some ⟨b5, 0, none⟩)), (8, .int .i64 x8_3), (9, .int .i64 x9_3), (17, v0), (18, .int .i64 (a0.length : Int)), (19, .int .i64 x19_2)] [cellsC b5 [.int .i64 0, .int .i64 0] 71] rfl rfl ?_
    refine c_seq ?_
    refine c_region ?_
    refine l_val rfl rfl rfl (r_lss rfl rfl) ?_
    refine l_nil ?_
    refine c_seq ?_
    refine c_if (b := (decide (x19_2 < (a0.length : Int)))) rfl (fun hb => ?_) (fun hb => ?_)
    · have H100 := cnd_t hb H99; clear H99
      refine c_skip ?_
      refine c_meet (r := r) (σ := Int × Int) (τ := Unit) (fun s => R_AtOf_j7 x19_2 next6 s.1 s.2) (fun s t => [(0, v0), (1, .int .i64 a1), (2, .int .i64 a2), (6, .pointer (some ⟨b5, 0, none⟩)), (8, .int .i64 s.1), (9, .int .i64 s.2), (17, v0), (18, .int .i64 (a0.length : Int)), (19, .int .i64 x19_2)]) (fun s t => [cellsC b5 [.int .i64 0, .int .i64 0] 71]) (fun s t => True) ?_ ?_
      · refine c_block ?_
        refine c_seq ?_
        refine c_region ?_
        refine l_val rfl rfl rfl (r_move (v := .int .i64 x19_2) rfl) ?_
        obtain ⟨t22, h_t22, H103⟩ := bnd_some H100; clear H100
        refine l_val rfl rfl rfl (r_indexF Try.underlying60 Try.sizeOf108 rfl rfl f0 h_t22) ?_
        refine l_read (fun w hF hS => run_loadGN (f := e_where_Fix) (i := x19_2) (sz := 3) (j := 0) (vs := [.int .i64 t22.Moment, .int .i64 t22.Place.Lat, .int .i64 t22.Place.Lon]) Try.isAgg108 Try.sizeOf108 rfl rfl (f0.row (hw.now hF)) h_t22 rfl) rfl rfl rfl ?_
        refine l_alloc (cs := [.int .i64 0, .int .i64 0, .int .i64 0]) Try.zeroValue108 rfl rfl rfl (fun b9 => ?_)
        refine l_val rfl rfl rfl (r_assign (v := .int .i64 x19_2) rfl) ?_
        refine l_store (i := 1) (vs := [.int .i64 t22.Moment, .int .i64 t22.Place.Lat, .int .i64 t22.Place.Lon]) (cs' := [.int .i64 t22.Moment, .int .i64 t22.Place.Lat, .int .i64 t22.Place.Lon]) Try.sizeOf108 rfl rfl rfl rfl rfl rfl rfl rfl rfl ?_
        refine l_nil ?_
        refine c_block ?_
        refine c_seq ?_
        refine c_region ?_
        refine l_val rfl rfl rfl (r_field Try.runUnderlying108 rfl Try.sizeOf3 rfl rfl) ?_
        refine l_load1 (i := 1) (v := .int .i64 t22.Moment) Try.isAgg3 rfl rfl rfl rfl rfl ?_
        refine l_val rfl rfl rfl (r_move (v := .int .i64 a1) rfl) ?_
        refine l_val rfl rfl rfl (r_eql rfl rfl) ?_
        refine l_val rfl rfl rfl (r_assign (v := .bool (decide (t22.Moment = a1))) rfl) ?_
        refine l_nil ?_
        refine c_if (b := (decide (t22.Moment = a1))) rfl (fun hb => ?_) (fun hb => ?_)
        · have H104 := cnd_t hb H103; clear H103
          refine c_seq ?_
          refine c_region ?_
          refine l_val rfl rfl rfl (r_field Try.runUnderlying108 rfl Try.sizeOf71 rfl rfl) ?_
          refine l_loadN (i := 1) (vs := [.int .i64 t22.Place.Lat, .int .i64 t22.Place.Lon]) Try.isAgg71 Try.sizeOf71 rfl rfl rfl rfl rfl ?_
          refine l_store (i := 0) (vs := [.int .i64 t22.Place.Lat, .int .i64 t22.Place.Lon]) (cs' := [.int .i64 t22.Place.Lat, .int .i64 t22.Place.Lon]) Try.sizeOf71 rfl rfl rfl rfl rfl rfl rfl rfl rfl ?_
          refine l_val rfl rfl rfl (r_assign (v := .bool true) rfl) ?_
          refine l_nil ?_
          refine c_ret ?_
          obtain rfl := Option.some.inj H104
          refine retCt (i := 0) (vs := [.int .i64 t22.Place.Lat, .int .i64 t22.Place.Lon]) (v2 := .bool true) Try.isAgg71 Try.sizeOf71 rfl rfl rfl rfl rfl (fin rfl)
        · have H105 := cnd_f hb H103; clear H103
          refine c_seq ?_
          refine c_region ?_
          refine l_val rfl rfl rfl (r_field Try.runUnderlying108 rfl Try.sizeOf3 rfl rfl) ?_
          refine l_load1 (i := 1) (v := .int .i64 t22.Moment) Try.isAgg3 rfl rfl rfl rfl rfl ?_
          refine l_val rfl rfl rfl (r_move (v := .int .i64 a1) rfl) ?_
          refine l_val rfl rfl rfl (r_lss rfl rfl) ?_
          refine l_val rfl rfl rfl (r_assign (v := .bool (decide (t22.Moment < a1))) rfl) ?_
          refine l_nil ?_
          refine c_if (b := (decide (t22.Moment < a1))) rfl (fun hb => ?_) (fun hb => ?_)
          · have H106 := cnd_t hb H105; clear H105
            refine c_region ?_
            refine l_val rfl rfl rfl (r_move (v := .int .i64 x19_2) rfl) ?_
            refine l_val rfl rfl rfl (r_assign (v := .int .i64 x19_2) rfl) ?_
            refine l_nil ?_
            refine c_close (x19_2, x9_3) () 0 [0] (by exact ⟨rfl, rfl, rfl, rfl, rfl, rfl, rfl, rfl, rfl, trivial⟩) (by decide) rfl (by exact ⟨H106, trivial⟩) (Nat.lt_succ_self _)
          · have H107 := cnd_f hb H105; clear H105
            refine c_seq ?_
            refine c_region ?_
            refine l_val rfl rfl rfl (r_move (v := .int .i64 x9_3) rfl) ?_
            refine l_val rfl rfl rfl (r_lss rfl rfl) ?_
            refine l_val rfl rfl rfl (r_assign (v := .bool (decide (x9_3 < 0))) rfl) ?_
            refine l_nil ?_
            refine c_if (b := (decide (x9_3 < 0))) rfl (fun hb => ?_) (fun hb => ?_)
            · have H108 := cnd_t hb H107; clear H107
              refine c_region ?_
              refine l_val rfl rfl rfl (r_move (v := .int .i64 x19_2) rfl) ?_
              refine l_val rfl rfl rfl (r_assign (v := .int .i64 x19_2) rfl) ?_
              refine l_nil ?_
              refine c_close (x8_3, x19_2) () 0 [0] (by exact ⟨rfl, rfl, rfl, rfl, rfl, rfl, rfl, rfl, rfl, trivial⟩) (by decide) rfl (by exact ⟨H108, trivial⟩) (Nat.lt_succ_self _)
            · have H109 := cnd_f hb H107; clear H107
              refine c_skip ?_
              refine c_close (x8_3, x9_3) () 0 [0] (by exact ⟨rfl, rfl, rfl, rfl, rfl, rfl, rfl, rfl, rfl, trivial⟩) (by decide) rfl (by exact ⟨H109, trivial⟩) (Nat.lt_succ_self _)
      · rintro ⟨x8_4, x9_4⟩ _ gg H101 _
        replace H101 : R_AtOf_j7 x19_2 next6 x8_4 x9_4 = some r := H101
        refine c_tidyF [(0, v0), (1, .int .i64 a1), (2, .int .i64 a2), (6, .pointer (some ⟨b5, 0, none⟩)), (8, .int .i64 x8_4), (9, .int .i64 x9_4), (17, v0), (18, .int .i64 (a0.length : Int)), (19, .int .i64 x19_2)] [cellsC b5 [.int .i64 0, .int .i64 0] 71] rfl rfl ?_
        refine c_region ?_
        obtain ⟨t41, h_t41, H102⟩ := bnd_some H101; clear H101
        refine l_val rfl rfl rfl (r_addG rfl rfl h_t41) ?_
        refine l_val rfl rfl rfl (r_move (v := .int .i64 t41) rfl) ?_
        refine l_nil ?_
        refine c_close (x8_4, x9_4, t41) () m6 [0] (by exact ⟨rfl, rfl, rfl, rfl, rfl, rfl, rfl, rfl, rfl, trivial⟩) (by decide) rfl (by exact ⟨(by subst hn6; exact H102), trivial⟩) (Nat.lt_succ_self _)
    · have H110 := cnd_f hb H99; clear H99
      refine c_exit ?_
      refine c_close (x8_3, x9_3) () 0 [0] (by exact ⟨rfl, rfl, rfl, rfl, rfl, rfl, trivial⟩) (by decide) rfl (by exact ⟨H110, trivial⟩) (Nat.lt_succ_self _)
  · rintro ⟨x8, x9⟩ _ gg H56 _
    replace H56 : R_AtOf_j1 a0 a1 a2 x8 x9 = some r := H56
    refine c_tidyF [(0, v0), (1, .int .i64 a1), (2, .int .i64 a2), (6, .pointer (some ⟨b5, 0, none⟩)), (8, .int .i64 x8), (9, .int .i64 x9)] [cellsC b5 [.int .i64 0, .int .i64 0] 71] rfl rfl ?_
    refine c_meet (r := r) (σ := Unit) (τ := Unit) (fun s => R_AtOf_j2 a0 a1 a2 x8 x9) (fun s t => [(0, v0), (1, .int .i64 a1), (2, .int .i64 a2), (6, .pointer (some ⟨b5, 0, none⟩)), (8, .int .i64 x8), (9, .int .i64 x9)]) (fun s t => [cellsC b5 [.int .i64 0, .int .i64 0] 71]) (fun s t => True) ?_ ?_
    · refine c_seq ?_
      exact c_regionD (Kd.p :: Kd.p :: Kd.p :: Kd.p :: Kd.p :: Kd.p :: Kd.p :: Kd.p :: Kd.p :: Kd.p :: Kd.p :: Kd.d [] _ :: Kd.p :: Kd.p :: Kd.p :: Kd.p :: Kd.d [] _ :: Kd.p :: Kd.p :: Kd.p :: Kd.p :: []) 0 mixed (by
        refine d_val rfl rfl (r_move (v := .int .i64 x8) rfl) ?_
        refine d_val rfl rfl (r_geq rfl rfl) ?_
        refine d_val rfl rfl (r_move (v := .bool (decide (0 ≤ x8))) rfl) ?_
        refine splitS (fun hb => ?_) (fun hb => ?_)
        · have H85 := cnd_t hb H56
          refine d_val rfl rfl (r_move (v := .int .i64 x9) rfl) ?_
          refine d_val rfl rfl (r_geq rfl rfl) ?_
          refine d_val rfl rfl (r_pickT (v := .bool (decide (0 ≤ x9))) rfl rfl) ?_
          refine d_val rfl rfl (r_move (v := .bool (decide (0 ≤ x9))) rfl) ?_
          refine splitS (fun hb => ?_) (fun hb => ?_)
          · have H86 := cnd_t hb H85
            refine d_val rfl rfl (r_move (v := v0) rfl) ?_
            refine d_val rfl rfl (r_move (v := .int .i64 x9) rfl) ?_
            have h_t51 := bnd_val H86
            have H87 := bnd_rest H86
            refine d_val rfl rfl (r_indexF Try.underlying60 Try.sizeOf108 rfl rfl f0 h_t51) ?_
            refine d_val rfl rfl (r_fieldP Try.runUnderlying108 rfl Try.sizeOf3 rfl rfl (some_of_at f0 h_t51)) ?_
            refine d_read (fun w hF => run_loadG1 (f := e_where_Fix) (i := x9) (sz := 3) (j := 0) (v := .int .i64 (val (gAt a0 x9)).Moment) Try.isAgg3 rfl rfl (f0.row (hw.now hF)) h_t51 rfl) rfl rfl ?_
            refine d_val rfl rfl (r_move (v := v0) rfl) ?_
            refine d_val rfl rfl (r_move (v := .int .i64 x8) rfl) ?_
            have h_t56 := bnd_val H87
            have H88 := bnd_rest H87
            refine d_val rfl rfl (r_indexF Try.underlying60 Try.sizeOf108 rfl rfl f0 h_t56) ?_
            refine d_val rfl rfl (r_fieldP Try.runUnderlying108 rfl Try.sizeOf3 rfl rfl (some_of_at f0 h_t56)) ?_
            refine d_read (fun w hF => run_loadG1 (f := e_where_Fix) (i := x8) (sz := 3) (j := 0) (v := .int .i64 (val (gAt a0 x8)).Moment) Try.isAgg3 rfl rfl (f0.row (hw.now hF)) h_t56 rfl) rfl rfl ?_
            have h_t59 := bnd_val H88
            have H89 := bnd_rest H88
            refine d_val rfl rfl (r_subG rfl rfl h_t59) ?_
            refine d_val rfl rfl (r_move (v := .int .i64 a2) rfl) ?_
            refine d_val rfl rfl (r_leq rfl rfl) ?_
            refine d_val rfl rfl (r_pickT (v := .bool (decide ((val (gI ((val (gAt a0 x9)).Moment - (val (gAt a0 x8)).Moment))) ≤ a2))) rfl rfl) ?_
            refine d_nil ?_
            refine c_if (b := (decide ((val (gI ((val (gAt a0 x9)).Moment - (val (gAt a0 x8)).Moment))) ≤ a2))) rfl (fun hb => ?_) (fun hb => ?_)
            · have H90 := cnd_t hb H89; clear H89
              refine c_seq ?_
              exact c_regionD (Kd.p :: Kd.p :: Kd.p :: Kd.d [] _ :: Kd.p :: Kd.p :: Kd.p :: Kd.d [] _ :: Kd.nw 1 [_, _, _] 108 :: Kd.nw 2 [_, _, _] 108 :: Kd.st 12 1 [_, _, _] 108 :: Kd.st 13 2 [_, _, _] 108 :: []) 2 mixed (by
                refine d_val rfl rfl (r_move (v := v0) rfl) ?_
                refine d_val rfl rfl (r_move (v := .int .i64 x8) rfl) ?_
                have h_t65 := bnd_val H90
                have H91 := bnd_rest H90
                refine d_val rfl rfl (r_indexF Try.underlying60 Try.sizeOf108 rfl rfl f0 h_t65) ?_
                refine d_read (fun w hF => run_loadGN (f := e_where_Fix) (i := x8) (sz := 3) (j := 0) (vs := [.int .i64 (val (gAt a0 x8)).Moment, .int .i64 (val (gAt a0 x8)).Place.Lat, .int .i64 (val (gAt a0 x8)).Place.Lon]) Try.isAgg108 Try.sizeOf108 rfl rfl (f0.row (hw.now hF)) h_t65 rfl) rfl rfl ?_
                refine d_val rfl rfl (r_move (v := v0) rfl) ?_
                refine d_val rfl rfl (r_move (v := .int .i64 x9) rfl) ?_
                have h_t69 := bnd_val H91
                have H92 := bnd_rest H91
                refine d_val rfl rfl (r_indexF Try.underlying60 Try.sizeOf108 rfl rfl f0 h_t69) ?_
                refine d_read (fun w hF => run_loadGN (f := e_where_Fix) (i := x9) (sz := 3) (j := 0) (vs := [.int .i64 (val (gAt a0 x9)).Moment, .int .i64 (val (gAt a0 x9)).Place.Lat, .int .i64 (val (gAt a0 x9)).Place.Lon]) Try.isAgg108 Try.sizeOf108 rfl rfl (f0.row (hw.now hF)) h_t69 rfl) rfl rfl ?_
                refine d_new rfl rfl (run_alloc (cs := [.int .i64 0, .int .i64 0, .int .i64 0]) Try.zeroValue108 rfl) rfl (fun b7 => ?_)
                refine d_new rfl rfl (run_alloc (cs := [.int .i64 0, .int .i64 0, .int .i64 0]) Try.zeroValue108 rfl) rfl (fun b8 => ?_)
                refine d_store (i := 1) (vs := [.int .i64 (val (gAt a0 x8)).Moment, .int .i64 (val (gAt a0 x8)).Place.Lat, .int .i64 (val (gAt a0 x8)).Place.Lon]) (cs' := [.int .i64 (val (gAt a0 x8)).Moment, .int .i64 (val (gAt a0 x8)).Place.Lat, .int .i64 (val (gAt a0 x8)).Place.Lon]) Try.sizeOf108 rfl rfl rfl rfl rfl rfl rfl rfl rfl ?_
                refine d_store (i := 2) (vs := [.int .i64 (val (gAt a0 x9)).Moment, .int .i64 (val (gAt a0 x9)).Place.Lat, .int .i64 (val (gAt a0 x9)).Place.Lon]) (cs' := [.int .i64 (val (gAt a0 x9)).Moment, .int .i64 (val (gAt a0 x9)).Place.Lat, .int .i64 (val (gAt a0 x9)).Place.Lon]) Try.sizeOf108 rfl rfl rfl rfl rfl rfl rfl rfl rfl ?_
                refine d_nil ?_
                refine c_seq ?_
                refine c_region ?_
                refine l_val rfl rfl rfl (r_field Try.runUnderlying108 rfl Try.sizeOf71 rfl rfl) ?_
                refine l_loadN (i := 1) (vs := [.int .i64 (val (gAt a0 x8)).Place.Lat, .int .i64 (val (gAt a0 x8)).Place.Lon]) Try.isAgg71 Try.sizeOf71 rfl rfl rfl rfl rfl ?_
                refine l_val rfl rfl rfl (r_field Try.runUnderlying108 rfl Try.sizeOf71 rfl rfl) ?_
                refine l_loadN (i := 2) (vs := [.int .i64 (val (gAt a0 x9)).Place.Lat, .int .i64 (val (gAt a0 x9)).Place.Lon]) Try.isAgg71 Try.sizeOf71 rfl rfl rfl rfl rfl ?_
                refine l_val rfl rfl rfl (r_move (v := .int .i64 a1) rfl) ?_
                refine l_val rfl rfl rfl (r_field Try.runUnderlying108 rfl Try.sizeOf3 rfl rfl) ?_
                refine l_load1 (i := 1) (v := .int .i64 (val (gAt a0 x8)).Moment) Try.isAgg3 rfl rfl rfl rfl rfl ?_
                obtain ⟨t78, h_t78, H93⟩ := bnd_some H92; clear H92
                refine l_val rfl rfl rfl (r_subG rfl rfl h_t78) ?_
                refine l_val rfl rfl rfl (r_field Try.runUnderlying108 rfl Try.sizeOf3 rfl rfl) ?_
                refine l_load1 (i := 2) (v := .int .i64 (val (gAt a0 x9)).Moment) Try.isAgg3 rfl rfl rfl rfl rfl ?_
                refine l_val rfl rfl rfl (r_field Try.runUnderlying108 rfl Try.sizeOf3 rfl rfl) ?_
                refine l_load1 (i := 1) (v := .int .i64 (val (gAt a0 x8)).Moment) Try.isAgg3 rfl rfl rfl rfl rfl ?_
                obtain ⟨t83, h_t83, H94⟩ := bnd_some H93; clear H93
                refine l_val rfl rfl rfl (r_subG rfl rfl h_t83) ?_
                obtain ⟨t84, h_t84, H95⟩ := bnd_some H94; clear H94
                refine l_call (k67 h_t84) Try.call67 rfl rfl rfl ?_
                refine l_store (i := 0) (vs := [.int .i64 t84.Lat, .int .i64 t84.Lon]) (cs' := [.int .i64 t84.Lat, .int .i64 t84.Lon]) Try.sizeOf71 rfl rfl rfl rfl rfl rfl rfl rfl rfl ?_
                refine l_val rfl rfl rfl (r_assign (v := .bool true) rfl) ?_
                refine l_nil ?_
                refine c_ret ?_
                obtain rfl := Option.some.inj H95
                refine retCt (i := 0) (vs := [.int .i64 t84.Lat, .int .i64 t84.Lon]) (v2 := .bool true) Try.isAgg71 Try.sizeOf71 rfl rfl rfl rfl rfl (fin rfl)
                ) (by kernel_rfl)
            · have H96 := cnd_f hb H89; clear H89
              refine c_skip ?_
              refine c_close () () 0 [0] (by exact ⟨rfl, rfl, rfl, rfl, rfl, rfl, trivial⟩) (by decide) rfl (by exact ⟨H96, trivial⟩) (Nat.lt_succ_self _)
          · have H97 := cnd_f hb H85
            refine d_pass rfl rfl ?_
            refine d_pass rfl rfl ?_
            refine d_pass rfl rfl ?_
            refine d_pass rfl rfl ?_
            refine d_pass rfl rfl ?_
            refine d_pass rfl rfl ?_
            refine d_pass rfl rfl ?_
            refine d_pass rfl rfl ?_
            refine d_pass rfl rfl ?_
            refine d_pass rfl rfl ?_
            refine d_pass rfl rfl ?_
            refine d_pass rfl rfl ?_
            refine d_pass rfl rfl ?_
            refine d_val rfl rfl (r_pickF (v := .bool false) rfl rfl) ?_
            refine d_nil ?_
            refine c_false rfl ?_
            refine c_skip ?_
            refine c_close () () 0 [0] (by exact ⟨rfl, rfl, rfl, rfl, rfl, rfl, trivial⟩) (by decide) rfl (by exact ⟨H97, trivial⟩) (Nat.lt_succ_self _)
        · have H98 := cnd_f hb H56
          refine d_pass rfl rfl ?_
          refine d_pass rfl rfl ?_
          refine d_val rfl rfl (r_pickF (v := .bool false) rfl rfl) ?_
          refine d_val rfl rfl (r_move (v := .bool false) rfl) ?_
          refine d_pass rfl rfl ?_
          refine d_pass rfl rfl ?_
          refine d_pass rfl rfl ?_
          refine d_pass rfl rfl ?_
          refine d_pass rfl rfl ?_
          refine d_pass rfl rfl ?_
          refine d_pass rfl rfl ?_
          refine d_pass rfl rfl ?_
          refine d_pass rfl rfl ?_
          refine d_pass rfl rfl ?_
          refine d_pass rfl rfl ?_
          refine d_pass rfl rfl ?_
          refine d_pass rfl rfl ?_
          refine d_val rfl rfl (r_pickF (v := .bool false) rfl rfl) ?_
          refine d_nil ?_
          refine c_false rfl ?_
          refine c_skip ?_
          refine c_close () () 0 [0] (by exact ⟨rfl, rfl, rfl, rfl, rfl, rfl, trivial⟩) (by decide) rfl (by exact ⟨H98, trivial⟩) (Nat.lt_succ_self _)
        ) (by kernel_rfl)
    · rintro _ _ gg H57 _
      replace H57 : R_AtOf_j2 a0 a1 a2 x8 x9 = some r := H57
      refine c_tidyF [(0, v0), (1, .int .i64 a1), (2, .int .i64 a2), (6, .pointer (some ⟨b5, 0, none⟩)), (8, .int .i64 x8), (9, .int .i64 x9)] [cellsC b5 [.int .i64 0, .int .i64 0] 71] rfl rfl ?_
      refine c_seq ?_
      refine c_region ?_
      refine l_val rfl rfl rfl (r_assign (v := .int .i64 (-1)) rfl) ?_
      refine l_nil ?_
      refine c_meet (r := r) (σ := Int) (τ := Unit) (fun s => R_AtOf_j3 a0 s) (fun s t => [(0, v0), (6, .pointer (some ⟨b5, 0, none⟩)), (14, .int .i64 s)]) (fun s t => [cellsC b5 [.int .i64 0, .int .i64 0] 71]) (fun s t => True) ?_ ?_
      · refine c_seq ?_
        refine c_region ?_
        refine l_val rfl rfl rfl (r_move (v := .int .i64 x8) rfl) ?_
        refine l_val rfl rfl rfl (r_move (v := .int .i64 x9) rfl) ?_
        refine l_buildSlice (vs := [.int .i64 x8, .int .i64 x9]) (cs := [.int .i64 x8, .int .i64 x9]) Try.underlying67 Try.sizeOf3 Try.zeroValue3 rfl rfl rfl rfl rfl rfl rfl (fun b6 => ?_)
        refine l_val rfl rfl rfl (r_len Try.underlying67 rfl) ?_
        refine l_val rfl rfl rfl (r_move (v := .int .i64 0) rfl) ?_
        refine l_nil ?_
        refine c_block ?_
        refine c_fix (σ := Int × Int) (τ := Unit) (fun next4 s => R_AtOf_l4 a0 a1 a2 x8 x9 next4 s.1 s.2) (fun s t => [(0, v0), (1, .int .i64 a1), (2, .int .i64 a2), (6, .pointer (some ⟨b5, 0, none⟩)), (14, .int .i64 s.1), (87, .slice (some ⟨b6, 0, none⟩) 2 2), (88, .int .i64 2), (89, .int .i64 s.2)]) (fun s t => [cellsC b5 [.int .i64 0, .int .i64 0] 71, cellsC b6 [.int .i64 x8, .int .i64 x9] 3]) (fun s t => True) ((-1), 0) () [0, 1] H57 (by exact trivial) (by exact ⟨rfl, rfl, rfl, rfl, rfl, rfl, rfl, rfl, trivial⟩) (by decide) rfl ?_
        rintro ⟨x14_3, x89_2⟩ _ m4 gg H62 _
        clear H57
        replace H62 : R_AtOf_l4 a0 a1 a2 x8 x9 (it (fun next4 s => R_AtOf_l4 a0 a1 a2 x8 x9 next4 s.1 s.2) m4) x14_3 x89_2 = some r := H62
        generalize hn4 : it (fun next4 s => R_AtOf_l4 a0 a1 a2 x8 x9 next4 s.1 s.2) m4 = next4 at H62
        refine c_tidyF [(0, v0), (1, .int .i64 a1), (2, .int .i64 a2), (6, .pointer (some ⟨b5, 0, none⟩)), (14, .int .i64 x14_3), (87, .slice (some ⟨b6, 0, none⟩) 2 2), (88, .int .i64 2), (89, .int .i64 x89_2)] [cellsC b5 [.int .i64 0, .int .i64 0] 71, cellsC b6 [.int .i64 x8, .int .i64 x9] 3] rfl rfl ?_
        refine c_seq ?_
        refine c_region ?_
        refine l_val rfl rfl rfl (r_lss rfl rfl) ?_
        refine l_nil ?_
        refine c_seq ?_
        refine c_if (b := (decide (x89_2 < 2))) rfl (fun hb => ?_) (fun hb => ?_)
        · have H63 := cnd_t hb H62; clear H62
          refine c_skip ?_
          refine c_meet (r := r) (σ := Int) (τ := Unit) (fun s => R_AtOf_j5 x89_2 next4 s) (fun s t => [(0, v0), (1, .int .i64 a1), (2, .int .i64 a2), (6, .pointer (some ⟨b5, 0, none⟩)), (14, .int .i64 s), (87, .slice (some ⟨b6, 0, none⟩) 2 2), (88, .int .i64 2), (89, .int .i64 x89_2)]) (fun s t => [cellsC b5 [.int .i64 0, .int .i64 0] 71, cellsC b6 [.int .i64 x8, .int .i64 x9] 3]) (fun s t => True) ?_ ?_
          · refine c_block ?_
            refine c_seq ?_
            refine c_region ?_
            obtain ⟨t91, h_t91, H66⟩ := bnd_some H63; clear H63
            refine l_val rfl rfl rfl (r_indexS Try.underlying67 Try.sizeOf3 rfl rfl h_t91 rfl) ?_
            refine l_read (fun w hF hS => run_loadG1 (f := e_i64) (i := x89_2) (sz := 1) (j := 0) (v := .int .i64 t91) Try.isAgg3 rfl rfl (row_box (sz := 1) (xs := ([x8, x9] : List Int).map e_i64) (i := 1) hS rfl rfl rfl) h_t91 rfl) rfl rfl rfl ?_
            refine l_val rfl rfl rfl (r_assign (v := .int .i64 t91) rfl) ?_
            refine l_nil ?_
            refine c_seq ?_
            refine c_seq ?_
            refine c_region ?_
            refine l_val rfl rfl rfl (r_move (v := .int .i64 t91) rfl) ?_
            refine l_val rfl rfl rfl (r_lss rfl rfl) ?_
            refine l_val rfl rfl rfl (r_move (v := .bool (decide (t91 < 0))) rfl) ?_
            refine split (fun hb => ?_) (fun hb => ?_)
            · have H67 := cnd_t hb H66; clear H66
              refine l_passed rfl rfl rfl ?_
              refine l_passed rfl rfl rfl ?_
              refine l_passed rfl rfl rfl ?_
              refine l_passed rfl rfl rfl ?_
              refine l_passed rfl rfl rfl ?_
              refine l_passed rfl rfl rfl ?_
              refine l_passed rfl rfl rfl ?_
              refine l_passed rfl rfl rfl ?_
              refine l_passed rfl rfl rfl ?_
              refine l_passed rfl rfl rfl ?_
              refine l_val rfl rfl rfl (r_pickT (v := .bool true) rfl rfl) ?_
              refine l_nil ?_
              refine c_true rfl ?_
              refine c_exit ?_
              refine c_close x14_3 () 0 [0, 1] (by exact ⟨rfl, rfl, rfl, rfl, rfl, rfl, rfl, rfl, trivial⟩) (by decide) rfl (by exact ⟨H67, trivial⟩) (Nat.lt_succ_self _)
            · have H68 := cnd_f hb H66; clear H66
              refine l_val rfl rfl rfl (r_move (v := v0) rfl) ?_
              refine l_val rfl rfl rfl (r_move (v := .int .i64 t91) rfl) ?_
              obtain ⟨t98, h_t98, H69⟩ := bnd_some H68; clear H68
              refine l_val rfl rfl rfl (r_indexF Try.underlying60 Try.sizeOf108 rfl rfl f0 h_t98) ?_
              refine l_val rfl rfl rfl (r_fieldP Try.runUnderlying108 rfl Try.sizeOf3 rfl rfl (some_of_at f0 h_t98)) ?_
              refine l_read (fun w hF hS => run_loadG1 (f := e_where_Fix) (i := t91) (sz := 3) (j := 0) (v := .int .i64 t98.Moment) Try.isAgg3 rfl rfl (f0.row (hw.now hF)) h_t98 rfl) rfl rfl rfl ?_
              refine l_val rfl rfl rfl (r_move (v := .int .i64 a1) rfl) ?_
              obtain ⟨t102, h_t102, H70⟩ := bnd_some H69; clear H69
              refine l_val rfl rfl rfl (r_subG rfl rfl h_t102) ?_
              obtain ⟨t103, h_t103, H71⟩ := bnd_some H70; clear H70
              refine l_call (k68 h_t103) Try.call68 rfl rfl rfl ?_
              refine l_val rfl rfl rfl (r_move (v := .int .i64 a2) rfl) ?_
              refine l_val rfl rfl rfl (r_gtr rfl rfl) ?_
              refine l_val rfl rfl rfl (r_pickF (v := .bool (decide (a2 < t103))) rfl rfl) ?_
              refine l_nil ?_
              refine c_if (b := (decide (a2 < t103))) rfl (fun hb => ?_) (fun hb => ?_)
              · have H72 := cnd_t hb H71; clear H71
                refine c_exit ?_
                refine c_close x14_3 () 0 [0, 1] (by exact ⟨rfl, rfl, rfl, rfl, rfl, rfl, rfl, rfl, trivial⟩) (by decide) rfl (by exact ⟨H72, trivial⟩) (Nat.lt_succ_self _)
              · have H73 := cnd_f hb H71; clear H71
                refine c_skip ?_
                refine c_seq ?_
                exact c_regionD (Kd.p :: Kd.p :: Kd.p :: Kd.p :: Kd.p :: Kd.p :: Kd.p :: Kd.d [] _ :: Kd.p :: Kd.p :: Kd.d [] _ :: Kd.p :: Kd.p :: Kd.p :: Kd.p :: Kd.d [] _ :: Kd.p :: Kd.p :: Kd.d [] _ :: Kd.p :: Kd.p :: []) 0 mixed (by
                  refine d_val rfl rfl (r_move (v := .int .i64 x14_3) rfl) ?_
                  refine d_val rfl rfl (r_lss rfl rfl) ?_
                  refine d_val rfl rfl (r_move (v := .bool (decide (x14_3 < 0))) rfl) ?_
                  refine splitS (fun hb => ?_) (fun hb => ?_)
                  · have H74 := cnd_t hb H73
                    refine d_pass rfl rfl ?_
                    refine d_pass rfl rfl ?_
                    refine d_pass rfl rfl ?_
                    refine d_pass rfl rfl ?_
                    refine d_pass rfl rfl ?_
                    refine d_pass rfl rfl ?_
                    refine d_pass rfl rfl ?_
                    refine d_pass rfl rfl ?_
                    refine d_pass rfl rfl ?_
                    refine d_pass rfl rfl ?_
                    refine d_pass rfl rfl ?_
                    refine d_pass rfl rfl ?_
                    refine d_pass rfl rfl ?_
                    refine d_pass rfl rfl ?_
                    refine d_pass rfl rfl ?_
                    refine d_pass rfl rfl ?_
                    refine d_pass rfl rfl ?_
                    refine d_val rfl rfl (r_pickT (v := .bool true) rfl rfl) ?_
                    refine d_nil ?_
                    refine c_true rfl ?_
                    refine c_region ?_
                    refine l_val rfl rfl rfl (r_move (v := .int .i64 t91) rfl) ?_
                    refine l_val rfl rfl rfl (r_assign (v := .int .i64 t91) rfl) ?_
                    refine l_nil ?_
                    refine c_close t91 () 0 [0, 1] (by exact ⟨rfl, rfl, rfl, rfl, rfl, rfl, rfl, rfl, trivial⟩) (by decide) rfl (by exact ⟨H74, trivial⟩) (Nat.lt_succ_self _)
                  · have H75 := cnd_f hb H73
                    refine d_val rfl rfl (r_move (v := v0) rfl) ?_
                    refine d_val rfl rfl (r_move (v := .int .i64 t91) rfl) ?_
                    have h_t112 := bnd_val H75
                    have H76 := bnd_rest H75
                    refine d_val rfl rfl (r_indexF Try.underlying60 Try.sizeOf108 rfl rfl f0 h_t112) ?_
                    refine d_val rfl rfl (r_fieldP Try.runUnderlying108 rfl Try.sizeOf3 rfl rfl (some_of_at f0 h_t112)) ?_
                    refine d_read (fun w hF => run_loadG1 (f := e_where_Fix) (i := t91) (sz := 3) (j := 0) (v := .int .i64 (val (gAt a0 t91)).Moment) Try.isAgg3 rfl rfl (f0.row (hw.now hF)) h_t112 rfl) rfl rfl ?_
                    refine d_val rfl rfl (r_move (v := .int .i64 a1) rfl) ?_
                    have h_t116 := bnd_val H76
                    have H77 := bnd_rest H76
                    refine d_val rfl rfl (r_subG rfl rfl h_t116) ?_
                    have h_t117 := bnd_val H77
                    have H78 := bnd_rest H77
                    refine d_call (k68 h_t117) Try.call68 rfl rfl ?_
                    refine d_val rfl rfl (r_move (v := v0) rfl) ?_
                    refine d_val rfl rfl (r_move (v := .int .i64 x14_3) rfl) ?_
                    have h_t120 := bnd_val H78
                    have H79 := bnd_rest H78
                    refine d_val rfl rfl (r_indexF Try.underlying60 Try.sizeOf108 rfl rfl f0 h_t120) ?_
                    refine d_val rfl rfl (r_fieldP Try.runUnderlying108 rfl Try.sizeOf3 rfl rfl (some_of_at f0 h_t120)) ?_
                    refine d_read (fun w hF => run_loadG1 (f := e_where_Fix) (i := x14_3) (sz := 3) (j := 0) (v := .int .i64 (val (gAt a0 x14_3)).Moment) Try.isAgg3 rfl rfl (f0.row (hw.now hF)) h_t120 rfl) rfl rfl ?_
                    refine d_val rfl rfl (r_move (v := .int .i64 a1) rfl) ?_
                    have h_t124 := bnd_val H79
                    have H80 := bnd_rest H79
                    refine d_val rfl rfl (r_subG rfl rfl h_t124) ?_
                    have h_t125 := bnd_val H80
                    have H81 := bnd_rest H80
                    refine d_call (k68 h_t125) Try.call68 rfl rfl ?_
                    refine d_val rfl rfl (r_lss rfl rfl) ?_
                    refine d_val rfl rfl (r_pickF (v := .bool (decide ((val (R_far (val (gI ((val (gAt a0 t91)).Moment - a1))))) < (val (R_far (val (gI ((val (gAt a0 x14_3)).Moment - a1)))))))) rfl rfl) ?_
                    refine d_nil ?_
                    refine c_if (b := (decide ((val (R_far (val (gI ((val (gAt a0 t91)).Moment - a1))))) < (val (R_far (val (gI ((val (gAt a0 x14_3)).Moment - a1)))))))) rfl (fun hb => ?_) (fun hb => ?_)
                    · have H82 := cnd_t hb H81; clear H81
                      refine c_region ?_
                      refine l_val rfl rfl rfl (r_move (v := .int .i64 t91) rfl) ?_
                      refine l_val rfl rfl rfl (r_assign (v := .int .i64 t91) rfl) ?_
                      refine l_nil ?_
                      refine c_close t91 () 0 [0, 1] (by exact ⟨rfl, rfl, rfl, rfl, rfl, rfl, rfl, rfl, trivial⟩) (by decide) rfl (by exact ⟨H82, trivial⟩) (Nat.lt_succ_self _)
                    · have H83 := cnd_f hb H81; clear H81
                      refine c_skip ?_
                      refine c_close x14_3 () 0 [0, 1] (by exact ⟨rfl, rfl, rfl, rfl, rfl, rfl, rfl, rfl, trivial⟩) (by decide) rfl (by exact ⟨H83, trivial⟩) (Nat.lt_succ_self _)
                  ) (by kernel_rfl)
          · rintro x14_4 _ gg H64 _
            replace H64 : R_AtOf_j5 x89_2 next4 x14_4 = some r := H64
            refine c_tidyF [(0, v0), (1, .int .i64 a1), (2, .int .i64 a2), (6, .pointer (some ⟨b5, 0, none⟩)), (14, .int .i64 x14_4), (87, .slice (some ⟨b6, 0, none⟩) 2 2), (88, .int .i64 2), (89, .int .i64 x89_2)] [cellsC b5 [.int .i64 0, .int .i64 0] 71, cellsC b6 [.int .i64 x8, .int .i64 x9] 3] rfl rfl ?_
            refine c_region ?_
            obtain ⟨t129, h_t129, H65⟩ := bnd_some H64; clear H64
            refine l_val rfl rfl rfl (r_addG rfl rfl h_t129) ?_
            refine l_val rfl rfl rfl (r_move (v := .int .i64 t129) rfl) ?_
            refine l_nil ?_
            refine c_close (x14_4, t129) () m4 [0, 1] (by exact ⟨rfl, rfl, rfl, rfl, rfl, rfl, rfl, rfl, trivial⟩) (by decide) rfl (by exact ⟨(by subst hn4; exact H65), trivial⟩) (Nat.lt_succ_self _)
        · have H84 := cnd_f hb H62; clear H62
          refine c_exit ?_
          refine c_close x14_3 () 0 [0] (by exact ⟨rfl, rfl, rfl, trivial⟩) (by decide) rfl (by exact ⟨H84, trivial⟩) (Nat.lt_succ_self _)
      · rintro x14 _ gg H58 _
        replace H58 : R_AtOf_j3 a0 x14 = some r := H58
        refine c_tidyF [(0, v0), (6, .pointer (some ⟨b5, 0, none⟩)), (14, .int .i64 x14)] [cellsC b5 [.int .i64 0, .int .i64 0] 71] rfl rfl ?_
        refine c_seq ?_
        refine c_seq ?_
        refine c_region ?_
        refine l_val rfl rfl rfl (r_move (v := .int .i64 x14) rfl) ?_
        refine l_val rfl rfl rfl (r_lss rfl rfl) ?_
        refine l_nil ?_
        refine c_if (b := (decide (x14 < 0))) rfl (fun hb => ?_) (fun hb => ?_)
        · have H59 := cnd_t hb H58; clear H58
          refine c_seq ?_
          refine c_region ?_
          refine l_val rfl rfl rfl (r_build (pl := #[(0, 1), (1, 1)]) (ps := []) (cells := #[.int .i64 0, .int .i64 0]) Try.zeroValue71 Try.runUnderlying71 (fun w => by kernel_rfl) rfl rfl) ?_
          refine l_store (i := 0) (vs := [.int .i64 0, .int .i64 0]) (cs' := [.int .i64 0, .int .i64 0]) Try.sizeOf71 rfl rfl rfl rfl rfl rfl rfl rfl rfl ?_
          refine l_val rfl rfl rfl (r_assign (v := .bool false) rfl) ?_
          refine l_nil ?_
          refine c_ret ?_
          obtain rfl := Option.some.inj H59
          refine retCt (i := 0) (vs := [.int .i64 0, .int .i64 0]) (v2 := .bool false) Try.isAgg71 Try.sizeOf71 rfl rfl rfl rfl rfl (fin rfl)
        · have H60 := cnd_f hb H58; clear H58
          refine c_skip ?_
          refine c_seq ?_
          refine c_region ?_
          refine l_val rfl rfl rfl (r_move (v := v0) rfl) ?_
          refine l_val rfl rfl rfl (r_move (v := .int .i64 x14) rfl) ?_
          obtain ⟨t135, h_t135, H61⟩ := bnd_some H60; clear H60
          refine l_val rfl rfl rfl (r_indexF Try.underlying60 Try.sizeOf108 rfl rfl f0 h_t135) ?_
          refine l_val rfl rfl rfl (r_fieldP Try.runUnderlying108 rfl Try.sizeOf71 rfl rfl (some_of_at f0 h_t135)) ?_
          refine l_read (fun w hF hS => run_loadGN (f := e_where_Fix) (i := x14) (sz := 3) (j := 1) (vs := [.int .i64 t135.Place.Lat, .int .i64 t135.Place.Lon]) Try.isAgg71 Try.sizeOf71 rfl rfl (f0.row (hw.now hF)) h_t135 rfl) rfl rfl rfl ?_
          refine l_store (i := 0) (vs := [.int .i64 t135.Place.Lat, .int .i64 t135.Place.Lon]) (cs' := [.int .i64 t135.Place.Lat, .int .i64 t135.Place.Lon]) Try.sizeOf71 rfl rfl rfl rfl rfl rfl rfl rfl rfl ?_
          refine l_val rfl rfl rfl (r_assign (v := .bool true) rfl) ?_
          refine l_nil ?_
          refine c_ret ?_
          obtain rfl := Option.some.inj H61
          refine retCt (i := 0) (vs := [.int .i64 t135.Place.Lat, .int .i64 t135.Place.Lon]) (v2 := .bool true) Try.isAgg71 Try.sizeOf71 rfl rfl rfl rfl rfl (fin rfl)
theorem k33 {a0 : (List T_api_Place)} {v0 : Value} {a1 : (List T_api_Place)} {v1 : Value} {r : Bool} {w : World} {h : Heap} (hw : Know h w noS) (f0 : FrS h 2 v0 (a0.map e_api_Place)) (f1 : FrS h 2 v1 (a1.map e_api_Place)) (H : slices_Equal_api_Place a0 a1 = some r) : Does Try.prog 33 (List.toArray [v0, v1]) w (fun v w' => v = (.bool r) ∧ Grow w w') := by
  refine enter (n := 26) Try.func33 rfl rfl rfl noS [] (Sat.nil _ _) ?_
  refine c_seq ?_
  refine c_region ?_
  refine l_val rfl rfl rfl (r_assign (v := .bool false) rfl) ?_
  refine l_nil ?_
  refine c_seq ?_
  refine c_seq ?_
  refine c_region ?_
  refine l_val rfl rfl rfl (r_move (v := v0) rfl) ?_
  refine l_val rfl rfl rfl (r_lenF Try.underlying65 rfl f0 rfl) ?_
  refine l_val rfl rfl rfl (r_move (v := v1) rfl) ?_
  refine l_val rfl rfl rfl (r_lenF Try.underlying65 rfl f1 rfl) ?_
  refine l_val rfl rfl rfl (r_neq rfl rfl) ?_
  refine l_nil ?_
  refine c_if (b := (decide ((a0.length : Int) ≠ (a1.length : Int)))) rfl (fun hb => ?_) (fun hb => ?_)
  · have H11 := cnd_t hb H; clear H
    refine c_seq ?_
    refine c_region ?_
    refine l_val rfl rfl rfl (r_assign (v := .bool false) rfl) ?_
    refine l_nil ?_
    refine c_ret ?_
    obtain rfl := Option.some.inj H11
    refine ret1 (v := .bool false) rfl rfl (fin rfl)
  · have H12 := cnd_f hb H; clear H
    refine c_skip ?_
    refine c_seq ?_
    refine c_seq ?_
    refine c_region ?_
    refine l_val rfl rfl rfl (r_move (v := v0) rfl) ?_
    refine l_val rfl rfl rfl (r_lenF Try.underlying65 rfl f0 rfl) ?_
    refine l_val rfl rfl rfl (r_move (v := .int .i64 0) rfl) ?_
    refine l_nil ?_
    refine c_block ?_
    refine c_fix (σ := Int) (τ := Unit) (fun next1 s => slices_Equal_api_Place_l1 a0 a1 next1 s) (fun s t => [(0, v0), (1, v1), (12, .int .i64 (a0.length : Int)), (13, .int .i64 s)]) (fun s t => []) (fun s t => True) 0 () [] H12 (by exact trivial) (by exact ⟨rfl, rfl, rfl, rfl, trivial⟩) (by decide) rfl ?_
    rintro x13_2 _ m1 gg H13 _
    clear H12
    replace H13 : slices_Equal_api_Place_l1 a0 a1 (it (fun next1 s => slices_Equal_api_Place_l1 a0 a1 next1 s) m1) x13_2 = some r := H13
    generalize hn1 : it (fun next1 s => slices_Equal_api_Place_l1 a0 a1 next1 s) m1 = next1 at H13
    refine c_tidyF [(0, v0), (1, v1), (12, .int .i64 (a0.length : Int)), (13, .int .i64 x13_2)] [] rfl rfl ?_
    refine c_seq ?_
    refine c_region ?_
    refine l_val rfl rfl rfl (r_lss rfl rfl) ?_
    refine l_nil ?_
    refine c_seq ?_
    refine c_if (b := (decide (x13_2 < (a0.length : Int)))) rfl (fun hb => ?_) (fun hb => ?_)
    · have H14 := cnd_t hb H13; clear H13
      refine c_skip ?_
      refine c_seq ?_
      refine c_block ?_
      refine c_seq ?_
      refine c_region ?_
      refine l_val rfl rfl rfl (r_move (v := .int .i64 x13_2) rfl) ?_
      refine l_val rfl rfl rfl (r_assign (v := .int .i64 x13_2) rfl) ?_
      refine l_nil ?_
      refine c_seq ?_
      exact c_regionD (Kd.p :: Kd.p :: Kd.p :: Kd.d [] _ :: Kd.p :: Kd.p :: Kd.p :: Kd.d [] _ :: Kd.p :: []) 0 mixed (by
        refine d_val rfl rfl (r_move (v := v0) rfl) ?_
        refine d_val rfl rfl (r_move (v := .int .i64 x13_2) rfl) ?_
        have h_t18 := bnd_val H14
        have H15 := bnd_rest H14
        refine d_val rfl rfl (r_indexF Try.underlying65 Try.sizeOf71 rfl rfl f0 h_t18) ?_
        refine d_read (fun w hF => run_loadGN (f := e_api_Place) (i := x13_2) (sz := 2) (j := 0) (vs := [.int .i64 (val (gAt a0 x13_2)).Lat, .int .i64 (val (gAt a0 x13_2)).Lon]) Try.isAgg71 Try.sizeOf71 rfl rfl (f0.row (hw.now hF)) h_t18 rfl) rfl rfl ?_
        refine d_val rfl rfl (r_move (v := v1) rfl) ?_
        refine d_val rfl rfl (r_move (v := .int .i64 x13_2) rfl) ?_
        have h_t22 := bnd_val H15
        have H16 := bnd_rest H15
        refine d_val rfl rfl (r_indexF Try.underlying65 Try.sizeOf71 rfl rfl f1 h_t22) ?_
        refine d_read (fun w hF => run_loadGN (f := e_api_Place) (i := x13_2) (sz := 2) (j := 0) (vs := [.int .i64 (val (gAt a1 x13_2)).Lat, .int .i64 (val (gAt a1 x13_2)).Lon]) Try.isAgg71 Try.sizeOf71 rfl rfl (f1.row (hw.now hF)) h_t22 rfl) rfl rfl ?_
        refine d_val rfl rfl (r_neqA (xs := #[.int .i64 (val (gAt a0 x13_2)).Lat, .int .i64 (val (gAt a0 x13_2)).Lon]) (ys := #[.int .i64 (val (gAt a1 x13_2)).Lat, .int .i64 (val (gAt a1 x13_2)).Lon]) Try.eqGuardType71 (fun w => run_eq_api_Place w (val (gAt a0 x13_2)) (val (gAt a1 x13_2))) rfl rfl) ?_
        refine d_nil ?_
        refine c_if (b := (!(eq_api_Place (val (gAt a0 x13_2)) (val (gAt a1 x13_2))))) rfl (fun hb => ?_) (fun hb => ?_)
        · have H17 := cnd_t hb H16; clear H16
          refine c_seq ?_
          refine c_region ?_
          refine l_val rfl rfl rfl (r_assign (v := .bool false) rfl) ?_
          refine l_nil ?_
          refine c_ret ?_
          obtain rfl := Option.some.inj H17
          refine ret1 (v := .bool false) rfl rfl (fin rfl)
        · have H18 := cnd_f hb H16; clear H16
          refine c_skip ?_
          refine c_region ?_
          obtain ⟨t25, h_t25, H19⟩ := bnd_some H18; clear H18
          refine l_val rfl rfl rfl (r_addG rfl rfl h_t25) ?_
          refine l_val rfl rfl rfl (r_move (v := .int .i64 t25) rfl) ?_
          refine l_nil ?_
          refine c_close t25 () m1 [] (by exact ⟨rfl, rfl, rfl, rfl, trivial⟩) (by decide) rfl (by exact ⟨(by subst hn1; exact H19), trivial⟩) (Nat.lt_succ_self _)
        ) (by kernel_rfl)
    · have H20 := cnd_f hb H13; clear H13
      refine c_exit ?_
      refine c_seq ?_
      refine c_region ?_
      refine l_val rfl rfl rfl (r_assign (v := .bool true) rfl) ?_
      refine l_nil ?_
      refine c_ret ?_
      obtain rfl := Option.some.inj H20
      refine ret1 (v := .bool true) rfl rfl (fin rfl)
theorem k34 {a0 : (List (List UInt8))} {v0 : Value} {a1 : (List (List UInt8))} {v1 : Value} {r : Bool} {w : World} {h : Heap} (hw : Know h w noS) (f0 : FrS h 1 v0 (a0.map e_string)) (f1 : FrS h 1 v1 (a1.map e_string)) (H : slices_Equal_string a0 a1 = some r) : Does Try.prog 34 (List.toArray [v0, v1]) w (fun v w' => v = (.bool r) ∧ Grow w w') := by
  refine enter (n := 26) Try.func34 rfl rfl rfl noS [] (Sat.nil _ _) ?_
  refine c_seq ?_
  refine c_region ?_
  refine l_val rfl rfl rfl (r_assign (v := .bool false) rfl) ?_
  refine l_nil ?_
  refine c_seq ?_
  refine c_seq ?_
  refine c_region ?_
  refine l_val rfl rfl rfl (r_move (v := v0) rfl) ?_
  refine l_val rfl rfl rfl (r_lenF Try.underlying66 rfl f0 rfl) ?_
  refine l_val rfl rfl rfl (r_move (v := v1) rfl) ?_
  refine l_val rfl rfl rfl (r_lenF Try.underlying66 rfl f1 rfl) ?_
  refine l_val rfl rfl rfl (r_neq rfl rfl) ?_
  refine l_nil ?_
  refine c_if (b := (decide ((a0.length : Int) ≠ (a1.length : Int)))) rfl (fun hb => ?_) (fun hb => ?_)
  · have H11 := cnd_t hb H; clear H
    refine c_seq ?_
    refine c_region ?_
    refine l_val rfl rfl rfl (r_assign (v := .bool false) rfl) ?_
    refine l_nil ?_
    refine c_ret ?_
    obtain rfl := Option.some.inj H11
    refine ret1 (v := .bool false) rfl rfl (fin rfl)
  · have H12 := cnd_f hb H; clear H
    refine c_skip ?_
    refine c_seq ?_
    refine c_seq ?_
    refine c_region ?_
    refine l_val rfl rfl rfl (r_move (v := v0) rfl) ?_
    refine l_val rfl rfl rfl (r_lenF Try.underlying66 rfl f0 rfl) ?_
    refine l_val rfl rfl rfl (r_move (v := .int .i64 0) rfl) ?_
    refine l_nil ?_
    refine c_block ?_
    refine c_fix (σ := Int) (τ := Unit) (fun next1 s => slices_Equal_string_l1 a0 a1 next1 s) (fun s t => [(0, v0), (1, v1), (12, .int .i64 (a0.length : Int)), (13, .int .i64 s)]) (fun s t => []) (fun s t => True) 0 () [] H12 (by exact trivial) (by exact ⟨rfl, rfl, rfl, rfl, trivial⟩) (by decide) rfl ?_
    rintro x13_2 _ m1 gg H13 _
    clear H12
    replace H13 : slices_Equal_string_l1 a0 a1 (it (fun next1 s => slices_Equal_string_l1 a0 a1 next1 s) m1) x13_2 = some r := H13
    generalize hn1 : it (fun next1 s => slices_Equal_string_l1 a0 a1 next1 s) m1 = next1 at H13
    refine c_tidyF [(0, v0), (1, v1), (12, .int .i64 (a0.length : Int)), (13, .int .i64 x13_2)] [] rfl rfl ?_
    refine c_seq ?_
    refine c_region ?_
    refine l_val rfl rfl rfl (r_lss rfl rfl) ?_
    refine l_nil ?_
    refine c_seq ?_
    refine c_if (b := (decide (x13_2 < (a0.length : Int)))) rfl (fun hb => ?_) (fun hb => ?_)
    · have H14 := cnd_t hb H13; clear H13
      refine c_skip ?_
      refine c_seq ?_
      refine c_block ?_
      refine c_seq ?_
      refine c_region ?_
      refine l_val rfl rfl rfl (r_move (v := .int .i64 x13_2) rfl) ?_
      refine l_val rfl rfl rfl (r_assign (v := .int .i64 x13_2) rfl) ?_
      refine l_nil ?_
      refine c_seq ?_
      exact c_regionD (Kd.p :: Kd.p :: Kd.p :: Kd.d [] _ :: Kd.p :: Kd.p :: Kd.p :: Kd.d [] _ :: Kd.p :: []) 0 mixed (by
        refine d_val rfl rfl (r_move (v := v0) rfl) ?_
        refine d_val rfl rfl (r_move (v := .int .i64 x13_2) rfl) ?_
        have h_t18 := bnd_val H14
        have H15 := bnd_rest H14
        refine d_val rfl rfl (r_indexF Try.underlying66 Try.sizeOf9 rfl rfl f0 h_t18) ?_
        refine d_read (fun w hF => run_loadG1 (f := e_string) (i := x13_2) (sz := 1) (j := 0) (v := str (val (gAt a0 x13_2))) Try.isAgg9 rfl rfl (f0.row (hw.now hF)) h_t18 rfl) rfl rfl ?_
        refine d_val rfl rfl (r_move (v := v1) rfl) ?_
        refine d_val rfl rfl (r_move (v := .int .i64 x13_2) rfl) ?_
        have h_t22 := bnd_val H15
        have H16 := bnd_rest H15
        refine d_val rfl rfl (r_indexF Try.underlying66 Try.sizeOf9 rfl rfl f1 h_t22) ?_
        refine d_read (fun w hF => run_loadG1 (f := e_string) (i := x13_2) (sz := 1) (j := 0) (v := str (val (gAt a1 x13_2))) Try.isAgg9 rfl rfl (f1.row (hw.now hF)) h_t22 rfl) rfl rfl ?_
        refine d_val rfl rfl (r_neqT rfl rfl) ?_
        refine d_nil ?_
        refine c_if (b := (decide ((val (gAt a0 x13_2)) ≠ (val (gAt a1 x13_2))))) rfl (fun hb => ?_) (fun hb => ?_)
        · have H17 := cnd_t hb H16; clear H16
          refine c_seq ?_
          refine c_region ?_
          refine l_val rfl rfl rfl (r_assign (v := .bool false) rfl) ?_
          refine l_nil ?_
          refine c_ret ?_
          obtain rfl := Option.some.inj H17
          refine ret1 (v := .bool false) rfl rfl (fin rfl)
        · have H18 := cnd_f hb H16; clear H16
          refine c_skip ?_
          refine c_region ?_
          obtain ⟨t25, h_t25, H19⟩ := bnd_some H18; clear H18
          refine l_val rfl rfl rfl (r_addG rfl rfl h_t25) ?_
          refine l_val rfl rfl rfl (r_move (v := .int .i64 t25) rfl) ?_
          refine l_nil ?_
          refine c_close t25 () m1 [] (by exact ⟨rfl, rfl, rfl, rfl, trivial⟩) (by decide) rfl (by exact ⟨(by subst hn1; exact H19), trivial⟩) (Nat.lt_succ_self _)
        ) (by kernel_rfl)
    · have H20 := cnd_f hb H13; clear H13
      refine c_exit ?_
      refine c_seq ?_
      refine c_region ?_
      refine l_val rfl rfl rfl (r_assign (v := .bool true) rfl) ?_
      refine l_nil ?_
      refine c_ret ?_
      obtain rfl := Option.some.inj H20
      refine ret1 (v := .bool true) rfl rfl (fin rfl)
theorem k35 {a0 : (List Int)} {v0 : Value} {a1 : (List Int)} {v1 : Value} {r : Bool} {w : World} {h : Heap} (hw : Know h w noS) (f0 : FrS h 1 v0 (a0.map e_i64)) (f1 : FrS h 1 v1 (a1.map e_i64)) (H : slices_Equal_int a0 a1 = some r) : Does Try.prog 35 (List.toArray [v0, v1]) w (fun v w' => v = (.bool r) ∧ Grow w w') := by
  refine enter (n := 26) Try.func35 rfl rfl rfl noS [] (Sat.nil _ _) ?_
  refine c_seq ?_
  refine c_region ?_
  refine l_val rfl rfl rfl (r_assign (v := .bool false) rfl) ?_
  refine l_nil ?_
  refine c_seq ?_
  refine c_seq ?_
  refine c_region ?_
  refine l_val rfl rfl rfl (r_move (v := v0) rfl) ?_
  refine l_val rfl rfl rfl (r_lenF Try.underlying67 rfl f0 rfl) ?_
  refine l_val rfl rfl rfl (r_move (v := v1) rfl) ?_
  refine l_val rfl rfl rfl (r_lenF Try.underlying67 rfl f1 rfl) ?_
  refine l_val rfl rfl rfl (r_neq rfl rfl) ?_
  refine l_nil ?_
  refine c_if (b := (decide ((a0.length : Int) ≠ (a1.length : Int)))) rfl (fun hb => ?_) (fun hb => ?_)
  · have H11 := cnd_t hb H; clear H
    refine c_seq ?_
    refine c_region ?_
    refine l_val rfl rfl rfl (r_assign (v := .bool false) rfl) ?_
    refine l_nil ?_
    refine c_ret ?_
    obtain rfl := Option.some.inj H11
    refine ret1 (v := .bool false) rfl rfl (fin rfl)
  · have H12 := cnd_f hb H; clear H
    refine c_skip ?_
    refine c_seq ?_
    refine c_seq ?_
    refine c_region ?_
    refine l_val rfl rfl rfl (r_move (v := v0) rfl) ?_
    refine l_val rfl rfl rfl (r_lenF Try.underlying67 rfl f0 rfl) ?_
    refine l_val rfl rfl rfl (r_move (v := .int .i64 0) rfl) ?_
    refine l_nil ?_
    refine c_block ?_
    refine c_fix (σ := Int) (τ := Unit) (fun next1 s => slices_Equal_int_l1 a0 a1 next1 s) (fun s t => [(0, v0), (1, v1), (12, .int .i64 (a0.length : Int)), (13, .int .i64 s)]) (fun s t => []) (fun s t => True) 0 () [] H12 (by exact trivial) (by exact ⟨rfl, rfl, rfl, rfl, trivial⟩) (by decide) rfl ?_
    rintro x13_2 _ m1 gg H13 _
    clear H12
    replace H13 : slices_Equal_int_l1 a0 a1 (it (fun next1 s => slices_Equal_int_l1 a0 a1 next1 s) m1) x13_2 = some r := H13
    generalize hn1 : it (fun next1 s => slices_Equal_int_l1 a0 a1 next1 s) m1 = next1 at H13
    refine c_tidyF [(0, v0), (1, v1), (12, .int .i64 (a0.length : Int)), (13, .int .i64 x13_2)] [] rfl rfl ?_
    refine c_seq ?_
    refine c_region ?_
    refine l_val rfl rfl rfl (r_lss rfl rfl) ?_
    refine l_nil ?_
    refine c_seq ?_
    refine c_if (b := (decide (x13_2 < (a0.length : Int)))) rfl (fun hb => ?_) (fun hb => ?_)
    · have H14 := cnd_t hb H13; clear H13
      refine c_skip ?_
      refine c_seq ?_
      refine c_block ?_
      refine c_seq ?_
      refine c_region ?_
      refine l_val rfl rfl rfl (r_move (v := .int .i64 x13_2) rfl) ?_
      refine l_val rfl rfl rfl (r_assign (v := .int .i64 x13_2) rfl) ?_
      refine l_nil ?_
      refine c_seq ?_
      exact c_regionD (Kd.p :: Kd.p :: Kd.p :: Kd.d [] _ :: Kd.p :: Kd.p :: Kd.p :: Kd.d [] _ :: Kd.p :: []) 0 mixed (by
        refine d_val rfl rfl (r_move (v := v0) rfl) ?_
        refine d_val rfl rfl (r_move (v := .int .i64 x13_2) rfl) ?_
        have h_t18 := bnd_val H14
        have H15 := bnd_rest H14
        refine d_val rfl rfl (r_indexF Try.underlying67 Try.sizeOf3 rfl rfl f0 h_t18) ?_
        refine d_read (fun w hF => run_loadG1 (f := e_i64) (i := x13_2) (sz := 1) (j := 0) (v := .int .i64 (val (gAt a0 x13_2))) Try.isAgg3 rfl rfl (f0.row (hw.now hF)) h_t18 rfl) rfl rfl ?_
        refine d_val rfl rfl (r_move (v := v1) rfl) ?_
        refine d_val rfl rfl (r_move (v := .int .i64 x13_2) rfl) ?_
        have h_t22 := bnd_val H15
        have H16 := bnd_rest H15
        refine d_val rfl rfl (r_indexF Try.underlying67 Try.sizeOf3 rfl rfl f1 h_t22) ?_
        refine d_read (fun w hF => run_loadG1 (f := e_i64) (i := x13_2) (sz := 1) (j := 0) (v := .int .i64 (val (gAt a1 x13_2))) Try.isAgg3 rfl rfl (f1.row (hw.now hF)) h_t22 rfl) rfl rfl ?_
        refine d_val rfl rfl (r_neq rfl rfl) ?_
        refine d_nil ?_
        refine c_if (b := (decide ((val (gAt a0 x13_2)) ≠ (val (gAt a1 x13_2))))) rfl (fun hb => ?_) (fun hb => ?_)
        · have H17 := cnd_t hb H16; clear H16
          refine c_seq ?_
          refine c_region ?_
          refine l_val rfl rfl rfl (r_assign (v := .bool false) rfl) ?_
          refine l_nil ?_
          refine c_ret ?_
          obtain rfl := Option.some.inj H17
          refine ret1 (v := .bool false) rfl rfl (fin rfl)
        · have H18 := cnd_f hb H16; clear H16
          refine c_skip ?_
          refine c_region ?_
          obtain ⟨t25, h_t25, H19⟩ := bnd_some H18; clear H18
          refine l_val rfl rfl rfl (r_addG rfl rfl h_t25) ?_
          refine l_val rfl rfl rfl (r_move (v := .int .i64 t25) rfl) ?_
          refine l_nil ?_
          refine c_close t25 () m1 [] (by exact ⟨rfl, rfl, rfl, rfl, trivial⟩) (by decide) rfl (by exact ⟨(by subst hn1; exact H19), trivial⟩) (Nat.lt_succ_self _)
        ) (by kernel_rfl)
    · have H20 := cnd_f hb H13; clear H13
      refine c_exit ?_
      refine c_seq ?_
      refine c_region ?_
      refine l_val rfl rfl rfl (r_assign (v := .bool true) rfl) ?_
      refine l_nil ?_
      refine c_ret ?_
      obtain rfl := Option.some.inj H20
      refine ret1 (v := .bool true) rfl rfl (fin rfl)
theorem k5 {a0 : (List T_where_Fix)} {v0 : Value} {a1 : (List T_api_Photo)} {v1 : Value} {a2 : Int} {r : Bool} {w : World} {h : Heap} (hw : Know h w noS) (f0 : FrS h 3 v0 (a0.map e_where_Fix)) (f1 : FrN h 13 v1 g_api_Photo a1) (H : Law_WherePlaced a0 a1 a2 = some r) : Does Try.prog 5 (List.toArray [v0, v1, .int .i64 a2]) w (fun v w' => v = (.bool r) ∧ Grow w w') := by
  refine enter (n := 183) Try.func5 rfl rfl rfl noS [] (Sat.nil _ _) ?_
  refine c_poolNew h ?_
  refine c_seq ?_
  refine c_region ?_
  refine l_val rfl rfl rfl (r_assign (v := .bool false) rfl) ?_
  refine l_nil ?_
  refine c_seq ?_
  refine c_region ?_
  refine l_val rfl rfl rfl (r_move (v := v0) rfl) ?_
  refine l_val rfl rfl rfl (r_move (v := v1) rfl) ?_
  refine l_val rfl rfl rfl (r_move (v := .int .i64 a2) rfl) ?_
  obtain ⟨t20, h_t20, H59⟩ := bnd_some H; clear H
  refine l_make (makes_call (rds := []) (G := fun x : (Option Addr × Nat) => .tuple #[.slice x.1 t20.1.length x.2, .int .i64 t20.2]) (C := fun x : (Option Addr × Nat) => roD 13 g_api_Photo (.slice x.1 t20.1.length x.2) t20.1.length t20.1) (fun w L' hF hS hi => k30 (know_all w) (f0.mono (hw.now hF)) (f1.mono (hw.now hF)) h_t20) Try.call30 rfl) rfl rfl rfl (fun p => ?_)
  refine c_roD 1 rfl (fun hp css hn pf => ?_)
  refine c_split 1 rfl ?_
  refine c_poolJoin 0 1 rfl rfl (by decide) (fun w hF => hw.now hF) (fun hp_2 hle hle_2 => ?_)
  refine l_val rfl rfl rfl (r_move (v := .tuple #[.slice p.1 t20.1.length p.2, .int .i64 t20.2]) rfl) ?_
  refine l_val rfl rfl rfl (r_extract (v := .slice p.1 t20.1.length p.2) rfl rfl) ?_
  refine l_val rfl rfl rfl (r_extract (v := .int .i64 t20.2) rfl rfl) ?_
  refine l_val rfl rfl rfl (r_assign (v := .slice p.1 t20.1.length p.2) rfl) ?_
  refine l_val rfl rfl rfl (r_assign (v := .int .i64 t20.2) rfl) ?_
  refine l_nil ?_
  refine c_seq ?_
  refine c_region ?_
  refine l_val rfl rfl rfl (r_move (v := v0) rfl) ?_
  obtain ⟨t24, h_t24, H60⟩ := bnd_some H59; clear H59
  refine l_callG (fun w hF hS => k31 (know_all w) (f0.mono (hw.now hF)) h_t24) Try.call31 rfl rfl rfl ?_
  refine l_val rfl rfl rfl (r_move (v := .int .i64 a2) rfl) ?_
  refine l_val rfl rfl rfl (r_geq rfl rfl) ?_
  obtain ⟨t27, h_t27, H61⟩ := bnd_some H60; clear H60
  refine l_call (k12 h_t27) Try.call12 rfl rfl rfl ?_
  refine l_val rfl rfl rfl (r_move (v := v1) rfl) ?_
  refine l_val rfl rfl rfl (r_lenFN Try.underlying61 rfl f1) ?_
  refine l_val rfl rfl rfl (r_leq rfl rfl) ?_
  obtain ⟨t31, h_t31, H62⟩ := bnd_some H61; clear H61
  refine l_call (k12 h_t31) Try.call12 rfl rfl rfl ?_
  refine l_buildSlice (vs := [.int .i64 t24, .int .i64 t27, .int .i64 t31]) (cs := [.int .i64 t24, .int .i64 t27, .int .i64 t31]) Try.underlying95 Try.sizeOf25 Try.zeroValue25 rfl rfl rfl rfl rfl rfl rfl (fun b5 => ?_)
  obtain ⟨t33, h_t33, H63⟩ := bnd_some H62; clear H62
  refine l_callG (fun w hF hS => k10 (know_all w) (frs_box (i := 3) (xs := ([t24, t27, t31] : List Int)) (f := e_i64) hS rfl rfl rfl rfl rfl) h_t33) Try.call10 rfl rfl rfl ?_
  refine l_val rfl rfl rfl (r_assign (v := .int .i64 t33) rfl) ?_
  refine l_nil ?_
  refine c_seq ?_
  refine c_seq ?_
  refine c_region ?_
  refine l_val rfl rfl rfl (r_move (v := .int .i64 t33) rfl) ?_
  refine l_val rfl rfl rfl (r_neq rfl rfl) ?_
  refine l_nil ?_
  refine c_if (b := (decide (t33 ≠ 0))) rfl (fun hb => ?_) (fun hb => ?_)
  · have H64 := cnd_t hb H63; clear H63
    refine c_seq ?_
    refine c_region ?_
    refine l_val rfl rfl rfl (r_move (v := .int .i64 t20.2) rfl) ?_
    refine l_val rfl rfl rfl (r_move (v := .int .i64 t33) rfl) ?_
    refine l_val rfl rfl rfl (r_eql rfl rfl) ?_
    refine l_val rfl rfl rfl (r_move (v := .bool (decide (t20.2 = t33))) rfl) ?_
    refine split (fun hb => ?_) (fun hb => ?_)
    · have H65 := cnd_t hb H64; clear H64
      refine l_val rfl rfl rfl (r_move (v := .slice p.1 t20.1.length p.2) rfl) ?_
      refine l_val rfl rfl rfl (r_len Try.underlying61 rfl) ?_
      refine l_val rfl rfl rfl (r_eql rfl rfl) ?_
      refine l_val rfl rfl rfl (r_pickT (v := .bool (decide ((t20.1.length : Int) = 0))) rfl rfl) ?_
      refine l_val rfl rfl rfl (r_assign (v := .bool (decide ((t20.1.length : Int) = 0))) rfl) ?_
      refine l_nil ?_
      refine c_ret ?_
      obtain rfl := Option.some.inj H65
      refine ret1 (v := .bool (decide ((t20.1.length : Int) = 0))) rfl rfl (fin rfl)
    · have H66 := cnd_f hb H64; clear H64
      refine l_passed rfl rfl rfl ?_
      refine l_passed rfl rfl rfl ?_
      refine l_passed rfl rfl rfl ?_
      refine l_val rfl rfl rfl (r_pickF (v := .bool false) rfl rfl) ?_
      refine l_val rfl rfl rfl (r_assign (v := .bool false) rfl) ?_
      refine l_nil ?_
      refine c_ret ?_
      obtain rfl := Option.some.inj H66
      refine ret1 (v := .bool false) rfl rfl (fin rfl)
  · have H67 := cnd_f hb H63; clear H63
    refine c_skip ?_
    refine c_seq ?_
    refine c_seq ?_
    refine c_region ?_
    refine l_val rfl rfl rfl (r_move (v := .int .i64 t20.2) rfl) ?_
    refine l_val rfl rfl rfl (r_neq rfl rfl) ?_
    refine l_val rfl rfl rfl (r_move (v := .bool (decide (t20.2 ≠ 0))) rfl) ?_
    refine split (fun hb => ?_) (fun hb => ?_)
    · have H68 := cnd_t hb H67; clear H67
      refine l_passed rfl rfl rfl ?_
      refine l_passed rfl rfl rfl ?_
      refine l_passed rfl rfl rfl ?_
      refine l_passed rfl rfl rfl ?_
      refine l_passed rfl rfl rfl ?_
      refine l_val rfl rfl rfl (r_pickT (v := .bool true) rfl rfl) ?_
      refine l_nil ?_
      refine c_true rfl ?_
      refine c_seq ?_
      refine c_region ?_
      refine l_val rfl rfl rfl (r_assign (v := .bool false) rfl) ?_
      refine l_nil ?_
      refine c_ret ?_
      obtain rfl := Option.some.inj H68
      refine ret1 (v := .bool false) rfl rfl (fin rfl)
    · have H69 := cnd_f hb H67; clear H67
      refine l_val rfl rfl rfl (r_move (v := .slice p.1 t20.1.length p.2) rfl) ?_
      refine l_val rfl rfl rfl (r_len Try.underlying61 rfl) ?_
      refine l_val rfl rfl rfl (r_move (v := v1) rfl) ?_
      refine l_val rfl rfl rfl (r_lenFN Try.underlying61 rfl f1) ?_
      refine l_val rfl rfl rfl (r_neq rfl rfl) ?_
      refine l_val rfl rfl rfl (r_pickF (v := .bool (decide ((t20.1.length : Int) ≠ (a1.length : Int)))) rfl rfl) ?_
      refine l_nil ?_
      refine c_if (b := (decide ((t20.1.length : Int) ≠ (a1.length : Int)))) rfl (fun hb => ?_) (fun hb => ?_)
      · have H70 := cnd_t hb H69; clear H69
        refine c_seq ?_
        refine c_region ?_
        refine l_val rfl rfl rfl (r_assign (v := .bool false) rfl) ?_
        refine l_nil ?_
        refine c_ret ?_
        obtain rfl := Option.some.inj H70
        refine ret1 (v := .bool false) rfl rfl (fin rfl)
      · have H71 := cnd_f hb H69; clear H69
        refine c_skip ?_
        refine c_seq ?_
        refine c_seq ?_
        refine c_region ?_
        refine l_val rfl rfl rfl (r_move (v := v1) rfl) ?_
        refine l_val rfl rfl rfl (r_lenFN Try.underlying61 rfl f1) ?_
        refine l_val rfl rfl rfl (r_move (v := .int .i64 0) rfl) ?_
        refine l_nil ?_
        refine c_block ?_
        refine c_sel [0, 2] [poolC h hp_2, roV 13 (.slice p.1 t20.1.length p.2) t20.1.length (css.map idC)] rfl (by decide) ?_
        refine c_fix (σ := Int) (τ := Heap) (fun next1 s => Law_WherePlaced_l1 a0 a1 a2 t20 next1 s) (fun s t => [(0, v0), (2, .int .i64 a2), (7, .slice p.1 t20.1.length p.2), (53, v1), (54, .int .i64 (a1.length : Int)), (55, .int .i64 s)]) (fun s t => [poolC h t, roV 13 (.slice p.1 t20.1.length p.2) t20.1.length (css.map idC)]) (fun s t => AllC g_api_Photo t 13 css t20.1) 0 hp_2 [0, 1] H71 (by exact (pf.mono hle_2)) (by exact ⟨rfl, rfl, rfl, rfl, rfl, rfl, trivial⟩) (by decide) rfl ?_
        rintro x55_2 hp_3 m1 gg H72 pf_3
        clear H71
        replace H72 : Law_WherePlaced_l1 a0 a1 a2 t20 (it (fun next1 s => Law_WherePlaced_l1 a0 a1 a2 t20 next1 s) m1) x55_2 = some r := H72
        generalize hn1 : it (fun next1 s => Law_WherePlaced_l1 a0 a1 a2 t20 next1 s) m1 = next1 at H72
        refine c_tidyF [(0, v0), (2, .int .i64 a2), (7, .slice p.1 t20.1.length p.2), (53, v1), (54, .int .i64 (a1.length : Int)), (55, .int .i64 x55_2)] [poolC h hp_3, roV 13 (.slice p.1 t20.1.length p.2) t20.1.length (css.map idC)] rfl rfl ?_
        refine c_seq ?_
        refine c_region ?_
        refine l_val rfl rfl rfl (r_lss rfl rfl) ?_
        refine l_nil ?_
        refine c_seq ?_
        refine c_if (b := (decide (x55_2 < (a1.length : Int)))) rfl (fun hb => ?_) (fun hb => ?_)
        · have H73 := cnd_t hb H72; clear H72
          refine c_skip ?_
          refine c_seq ?_
          refine c_block ?_
          refine c_seq ?_
          refine c_region ?_
          refine l_val rfl rfl rfl (r_move (v := .int .i64 x55_2) rfl) ?_
          obtain ⟨t58, h_t58, H74⟩ := bnd_some H73; clear H73
          refine l_val rfl rfl rfl (r_indexF Try.underlying61 Try.sizeOf69 rfl rfl f1.frs (f1.ix h_t58)) ?_
          refine l_read (fun w hF hS => run_loadGN (f := (elC h v1 13)) (i := x55_2) (sz := 13) (j := 0) (vs := [.int .i64 t58.Id, str t58.File, .int .i64 t58.Moment, .int .i64 t58.Zone, (elH h v1 13 (Int.toNat x55_2) 4), .int .i64 t58.W, .int .i64 t58.H, .int .i64 t58.Turn, .int .i64 t58.Stars, (elH h v1 13 (Int.toNat x55_2) 9), str t58.Caption, (elH h v1 13 (Int.toNat x55_2) 11), .bool t58.Hidden]) Try.isAgg69 Try.sizeOf69 rfl rfl (f1.frs.row (hw.now hF)) (f1.ix h_t58) (rd_of (cg_api_Photo (f1.at h_t58)) rfl)) rfl rfl rfl ?_
          refine l_alloc (cs := [.int .i64 0, str [], .int .i64 0, .int .i64 0, .slice none 0 0, .int .i64 0, .int .i64 0, .int .i64 0, .int .i64 0, .slice none 0 0, str [], .slice none 0 0, .bool false]) Try.zeroValue69 rfl rfl rfl (fun b6 => ?_)
          refine l_val rfl rfl rfl (r_assign (v := .int .i64 x55_2) rfl) ?_
          refine l_store (i := 2) (vs := [.int .i64 t58.Id, str t58.File, .int .i64 t58.Moment, .int .i64 t58.Zone, (elH h v1 13 (Int.toNat x55_2) 4), .int .i64 t58.W, .int .i64 t58.H, .int .i64 t58.Turn, .int .i64 t58.Stars, (elH h v1 13 (Int.toNat x55_2) 9), str t58.Caption, (elH h v1 13 (Int.toNat x55_2) 11), .bool t58.Hidden]) (cs' := [.int .i64 t58.Id, str t58.File, .int .i64 t58.Moment, .int .i64 t58.Zone, (elH h v1 13 (Int.toNat x55_2) 4), .int .i64 t58.W, .int .i64 t58.H, .int .i64 t58.Turn, .int .i64 t58.Stars, (elH h v1 13 (Int.toNat x55_2) 9), str t58.Caption, (elH h v1 13 (Int.toNat x55_2) 11), .bool t58.Hidden]) Try.sizeOf69 rfl rfl rfl rfl rfl rfl (by simp only [List.all_cons, List.all_nil, (show FrS h 1 (elH h v1 13 (Int.toNat x55_2) 11) (t58.People.map e_i64) from (g_api_Photo_p11 (f1.at h_t58))).one, (show FrS h 1 (elH h v1 13 (Int.toNat x55_2) 9) (t58.Tags.map e_string) from (g_api_Photo_p9 (f1.at h_t58))).one, (show FrS h 2 (elH h v1 13 (Int.toNat x55_2) 4) (t58.Where.map e_api_Place) from (g_api_Photo_p4 (f1.at h_t58))).one] <;> rfl) rfl rfl ?_
          refine l_nil ?_
          refine c_seq ?_
          refine c_region ?_
          refine l_val rfl rfl rfl (r_field Try.runUnderlying69 rfl Try.sizeOf65 rfl rfl) ?_
          refine l_load1 (i := 2) (v := (elH h v1 13 (Int.toNat x55_2) 4)) Try.isAgg65 rfl rfl rfl rfl rfl ?_
          refine l_val rfl rfl rfl (r_assign (v := (elH h v1 13 (Int.toNat x55_2) 4)) rfl) ?_
          refine l_nil ?_
          refine c_meet (r := r) (σ := (List T_api_Place)) (τ := Heap × Value) (fun s => Law_WherePlaced_j2 t20 x55_2 next1 t58 s) (fun s t => [(0, v0), (2, .int .i64 a2), (7, .slice p.1 t20.1.length p.2), (10, .int .i64 x55_2), (11, .pointer (some ⟨b6, 0, none⟩)), (12, t.2), (53, v1), (54, .int .i64 (a1.length : Int)), (55, .int .i64 x55_2)]) (fun s t => [poolC h t.1, roV 13 (.slice p.1 t20.1.length p.2) t20.1.length (css.map idC), cellsC b6 [.int .i64 t58.Id, str t58.File, .int .i64 t58.Moment, .int .i64 t58.Zone, (elH h v1 13 (Int.toNat x55_2) 4), .int .i64 t58.W, .int .i64 t58.H, .int .i64 t58.Turn, .int .i64 t58.Stars, (elH h v1 13 (Int.toNat x55_2) 9), str t58.Caption, (elH h v1 13 (Int.toNat x55_2) 11), .bool t58.Hidden] 69]) (fun s t => FrS t.1 2 t.2 (s.map e_api_Place) ∧ AllC g_api_Photo t.1 13 css t20.1) ?_ ?_
          · refine c_seq ?_
            refine c_region ?_
            refine l_val rfl rfl rfl (r_field Try.runUnderlying69 rfl Try.sizeOf65 rfl rfl) ?_
            refine l_load1 (i := 2) (v := (elH h v1 13 (Int.toNat x55_2) 4)) Try.isAgg65 rfl rfl rfl rfl rfl ?_
            refine l_val rfl rfl rfl (r_lenF Try.underlying65 rfl (show FrS h 2 (elH h v1 13 (Int.toNat x55_2) 4) (t58.Where.map e_api_Place) from (g_api_Photo_p4 (f1.at h_t58))) rfl) ?_
            refine l_val rfl rfl rfl (r_eql rfl rfl) ?_
            refine l_val rfl rfl rfl (r_move (v := .bool (decide ((t58.Where.length : Int) = 0))) rfl) ?_
            refine split (fun hb => ?_) (fun hb => ?_)
            · have H107 := cnd_t hb H74; clear H74
              refine l_val rfl rfl rfl (r_field Try.runUnderlying69 rfl Try.sizeOf3 rfl rfl) ?_
              refine l_load1 (i := 2) (v := .int .i64 t58.Moment) Try.isAgg3 rfl rfl rfl rfl rfl ?_
              refine l_val rfl rfl rfl (r_geq rfl rfl) ?_
              refine l_val rfl rfl rfl (r_pickT (v := .bool (decide (0 ≤ t58.Moment))) rfl rfl) ?_
              refine l_val rfl rfl rfl (r_move (v := .bool (decide (0 ≤ t58.Moment))) rfl) ?_
              refine split (fun hb => ?_) (fun hb => ?_)
              · have H108 := cnd_t hb H107; clear H107
                refine l_val rfl rfl rfl (r_field Try.runUnderlying69 rfl Try.sizeOf3 rfl rfl) ?_
                refine l_load1 (i := 2) (v := .int .i64 t58.Moment) Try.isAgg3 rfl rfl rfl rfl rfl ?_
                refine l_val rfl rfl rfl (r_leq rfl rfl) ?_
                refine l_val rfl rfl rfl (r_pickT (v := .bool (decide (t58.Moment ≤ 6311433599))) rfl rfl) ?_
                refine l_nil ?_
                refine c_if (b := (decide (t58.Moment ≤ 6311433599))) rfl (fun hb => ?_) (fun hb => ?_)
                · have H109 := cnd_t hb H108; clear H108
                  refine c_seq ?_
                  refine c_region ?_
                  refine l_val rfl rfl rfl (r_move (v := v0) rfl) ?_
                  refine l_val rfl rfl rfl (r_field Try.runUnderlying69 rfl Try.sizeOf3 rfl rfl) ?_
                  refine l_load1 (i := 2) (v := .int .i64 t58.Moment) Try.isAgg3 rfl rfl rfl rfl rfl ?_
                  refine l_val rfl rfl rfl (r_move (v := .int .i64 a2) rfl) ?_
                  obtain ⟨t81, h_t81, H110⟩ := bnd_some H109; clear H109
                  refine l_callG (fun w hF hS => k32 (know_all w) (f0.mono (hw.now hF)) h_t81) Try.call32 rfl rfl rfl ?_
                  refine l_val rfl rfl rfl (r_move (v := .tuple #[.agg #[.int .i64 t81.1.Lat, .int .i64 t81.1.Lon], .bool t81.2]) rfl) ?_
                  refine l_val rfl rfl rfl (r_extract (v := .agg #[.int .i64 t81.1.Lat, .int .i64 t81.1.Lon]) rfl rfl) ?_
                  refine l_val rfl rfl rfl (r_extract (v := .bool t81.2) rfl rfl) ?_
                  refine l_alloc (cs := [.int .i64 0, .int .i64 0]) Try.zeroValue71 rfl rfl rfl (fun b8 => ?_)
                  refine l_store (i := 3) (vs := [.int .i64 t81.1.Lat, .int .i64 t81.1.Lon]) (cs' := [.int .i64 t81.1.Lat, .int .i64 t81.1.Lon]) Try.sizeOf71 rfl rfl rfl rfl rfl rfl rfl rfl rfl ?_
                  refine l_val rfl rfl rfl (r_assign (v := .bool t81.2) rfl) ?_
                  refine l_nil ?_
                  refine c_seq ?_
                  refine c_region ?_
                  refine l_val rfl rfl rfl (r_move (v := .bool t81.2) rfl) ?_
                  refine l_nil ?_
                  refine c_if (b := t81.2) rfl (fun hb => ?_) (fun hb => ?_)
                  · have H111 := cnd_t hb H110; clear H110
                    refine c_region ?_
                    refine l_loadN (i := 3) (vs := [.int .i64 t81.1.Lat, .int .i64 t81.1.Lon]) Try.isAgg71 Try.sizeOf71 rfl rfl rfl rfl rfl ?_
                    refine l_buildSlice (vs := [.agg #[.int .i64 t81.1.Lat, .int .i64 t81.1.Lon]]) (cs := [.int .i64 t81.1.Lat, .int .i64 t81.1.Lon]) Try.underlying65 Try.sizeOf71 Try.zeroValue71 rfl rfl rfl rfl rfl rfl rfl (fun b9 => ?_)
                    refine l_val rfl rfl rfl (r_assign (v := .slice (some ⟨b9, 0, none⟩) 1 1) rfl) ?_
                    refine l_nil ?_
                    refine c_freeze (Φ := fun H_ => FrS H_ 2 (.slice (some ⟨b9, 0, none⟩) 1 1) (([t81.1] : List T_api_Place).map e_api_Place)) 0 4 rfl rfl (by decide) (fun w hF => hw.now hF) (fz_box _ rfl rfl rfl rfl) (fun hp_5 hle_3 hf => ?_)
                    refine c_poolLe 0 rfl (fun hle_ => ?_)
                    refine c_close ([t81.1] : List T_api_Place) (hp_5, (.slice (some ⟨b9, 0, none⟩) 1 1)) 0 [0, 1, 2] (by exact ⟨rfl, rfl, rfl, rfl, rfl, rfl, rfl, rfl, rfl, trivial⟩) (by decide) rfl (by exact ⟨H111, ⟨hf, (pf_3.mono hle_3)⟩⟩) (Nat.lt_succ_self _)
                  · have H112 := cnd_f hb H110; clear H110
                    refine c_skip ?_
                    refine c_poolLe 0 rfl (fun hle_ => ?_)
                    refine c_close t58.Where (hp_3, (elH h v1 13 (Int.toNat x55_2) 4)) 0 [0, 1, 2] (by exact ⟨rfl, rfl, rfl, rfl, rfl, rfl, rfl, rfl, rfl, trivial⟩) (by decide) rfl (by exact ⟨H112, ⟨((show FrS h 2 (elH h v1 13 (Int.toNat x55_2) 4) (t58.Where.map e_api_Place) from (g_api_Photo_p4 (f1.at h_t58))).mono hle_), pf_3⟩⟩) (Nat.lt_succ_self _)
                · have H113 := cnd_f hb H108; clear H108
                  refine c_skip ?_
                  refine c_poolLe 0 rfl (fun hle_ => ?_)
                  refine c_close t58.Where (hp_3, (elH h v1 13 (Int.toNat x55_2) 4)) 0 [0, 1, 2] (by exact ⟨rfl, rfl, rfl, rfl, rfl, rfl, rfl, rfl, rfl, trivial⟩) (by decide) rfl (by exact ⟨H113, ⟨((show FrS h 2 (elH h v1 13 (Int.toNat x55_2) 4) (t58.Where.map e_api_Place) from (g_api_Photo_p4 (f1.at h_t58))).mono hle_), pf_3⟩⟩) (Nat.lt_succ_self _)
              · have H114 := cnd_f hb H107; clear H107
                refine l_passed rfl rfl rfl ?_
                refine l_passed rfl rfl rfl ?_
                refine l_passed rfl rfl rfl ?_
                refine l_val rfl rfl rfl (r_pickF (v := .bool false) rfl rfl) ?_
                refine l_nil ?_
                refine c_false rfl ?_
                refine c_skip ?_
                refine c_poolLe 0 rfl (fun hle_ => ?_)
                refine c_close t58.Where (hp_3, (elH h v1 13 (Int.toNat x55_2) 4)) 0 [0, 1, 2] (by exact ⟨rfl, rfl, rfl, rfl, rfl, rfl, rfl, rfl, rfl, trivial⟩) (by decide) rfl (by exact ⟨H114, ⟨((show FrS h 2 (elH h v1 13 (Int.toNat x55_2) 4) (t58.Where.map e_api_Place) from (g_api_Photo_p4 (f1.at h_t58))).mono hle_), pf_3⟩⟩) (Nat.lt_succ_self _)
            · have H115 := cnd_f hb H74; clear H74
              refine l_passed rfl rfl rfl ?_
              refine l_passed rfl rfl rfl ?_
              refine l_passed rfl rfl rfl ?_
              refine l_val rfl rfl rfl (r_pickF (v := .bool false) rfl rfl) ?_
              refine l_val rfl rfl rfl (r_move (v := .bool false) rfl) ?_
              refine l_passed rfl rfl rfl ?_
              refine l_passed rfl rfl rfl ?_
              refine l_passed rfl rfl rfl ?_
              refine l_val rfl rfl rfl (r_pickF (v := .bool false) rfl rfl) ?_
              refine l_nil ?_
              refine c_false rfl ?_
              refine c_skip ?_
              refine c_poolLe 0 rfl (fun hle_ => ?_)
              refine c_close t58.Where (hp_3, (elH h v1 13 (Int.toNat x55_2) 4)) 0 [0, 1, 2] (by exact ⟨rfl, rfl, rfl, rfl, rfl, rfl, rfl, rfl, rfl, trivial⟩) (by decide) rfl (by exact ⟨H115, ⟨((show FrS h 2 (elH h v1 13 (Int.toNat x55_2) 4) (t58.Where.map e_api_Place) from (g_api_Photo_p4 (f1.at h_t58))).mono hle_), pf_3⟩⟩) (Nat.lt_succ_self _)
          · rintro x12_2 ⟨hp_4, gv_2⟩ gg H75 ⟨gf_2, pf_4⟩
            replace H75 : Law_WherePlaced_j2 t20 x55_2 next1 t58 x12_2 = some r := H75
            refine c_tidyF [(0, v0), (2, .int .i64 a2), (7, .slice p.1 t20.1.length p.2), (10, .int .i64 x55_2), (11, .pointer (some ⟨b6, 0, none⟩)), (12, gv_2), (53, v1), (54, .int .i64 (a1.length : Int)), (55, .int .i64 x55_2)] [poolC h hp_4, roV 13 (.slice p.1 t20.1.length p.2) t20.1.length (css.map idC), cellsC b6 [.int .i64 t58.Id, str t58.File, .int .i64 t58.Moment, .int .i64 t58.Zone, (elH h v1 13 (Int.toNat x55_2) 4), .int .i64 t58.W, .int .i64 t58.H, .int .i64 t58.Turn, .int .i64 t58.Stars, (elH h v1 13 (Int.toNat x55_2) 9), str t58.Caption, (elH h v1 13 (Int.toNat x55_2) 11), .bool t58.Hidden] 69] rfl rfl ?_
            refine c_seq ?_
            refine c_region ?_
            refine l_val rfl rfl rfl (r_move (v := .slice p.1 t20.1.length p.2) rfl) ?_
            refine l_val rfl rfl rfl (r_move (v := .int .i64 x55_2) rfl) ?_
            obtain ⟨t89, h_t89, H76⟩ := bnd_some H75; clear H75
            refine l_read (fun w hF hS => run_indexO Try.underlying61 Try.sizeOf69 rfl rfl (roOf (i := 1) hS rfl) hn (pf_4.ix h_t89)) rfl rfl rfl ?_
            refine l_read (fun w hF hS => run_loadGN (f := idC) (i := x55_2) (sz := 13) (j := 0) (vs := [.int .i64 t89.Id, str t89.File, .int .i64 t89.Moment, .int .i64 t89.Zone, (List.getD (List.getD css (Int.toNat x55_2) []) 4 undef), .int .i64 t89.W, .int .i64 t89.H, .int .i64 t89.Turn, .int .i64 t89.Stars, (List.getD (List.getD css (Int.toNat x55_2) []) 9 undef), str t89.Caption, (List.getD (List.getD css (Int.toNat x55_2) []) 11 undef), .bool t89.Hidden]) Try.isAgg69 Try.sizeOf69 rfl rfl (roOf (i := 1) hS rfl) (pf_4.ix h_t89) (rd_of ((pf_4.eta h_t89).trans (cg_api_Photo (pf_4.at h_t89))) rfl)) rfl rfl rfl ?_
            refine l_alloc (cs := [.int .i64 0, str [], .int .i64 0, .int .i64 0, .slice none 0 0, .int .i64 0, .int .i64 0, .int .i64 0, .int .i64 0, .slice none 0 0, str [], .slice none 0 0, .bool false]) Try.zeroValue69 rfl rfl rfl (fun b7 => ?_)
            refine l_store (i := 3) (vs := [.int .i64 t89.Id, str t89.File, .int .i64 t89.Moment, .int .i64 t89.Zone, (List.getD (List.getD css (Int.toNat x55_2) []) 4 undef), .int .i64 t89.W, .int .i64 t89.H, .int .i64 t89.Turn, .int .i64 t89.Stars, (List.getD (List.getD css (Int.toNat x55_2) []) 9 undef), str t89.Caption, (List.getD (List.getD css (Int.toNat x55_2) []) 11 undef), .bool t89.Hidden]) (cs' := [.int .i64 t89.Id, str t89.File, .int .i64 t89.Moment, .int .i64 t89.Zone, (List.getD (List.getD css (Int.toNat x55_2) []) 4 undef), .int .i64 t89.W, .int .i64 t89.H, .int .i64 t89.Turn, .int .i64 t89.Stars, (List.getD (List.getD css (Int.toNat x55_2) []) 9 undef), str t89.Caption, (List.getD (List.getD css (Int.toNat x55_2) []) 11 undef), .bool t89.Hidden]) Try.sizeOf69 rfl rfl rfl rfl rfl rfl (by simp only [List.all_cons, List.all_nil, (show FrS hp_4 1 (List.getD (List.getD css (Int.toNat x55_2) []) 11 undef) (t89.People.map e_i64) from (g_api_Photo_p11 (pf_4.at h_t89))).one, (show FrS hp_4 1 (List.getD (List.getD css (Int.toNat x55_2) []) 9 undef) (t89.Tags.map e_string) from (g_api_Photo_p9 (pf_4.at h_t89))).one, (show FrS hp_4 2 (List.getD (List.getD css (Int.toNat x55_2) []) 4 undef) (t89.Where.map e_api_Place) from (g_api_Photo_p4 (pf_4.at h_t89))).one] <;> rfl) rfl rfl ?_
            refine l_nil ?_
            refine c_seq ?_
            refine c_region ?_
            refine l_val rfl rfl rfl (r_field Try.runUnderlying69 rfl Try.sizeOf65 rfl rfl) ?_
            refine l_load1 (i := 3) (v := (List.getD (List.getD css (Int.toNat x55_2) []) 4 undef)) Try.isAgg65 rfl rfl rfl rfl rfl ?_
            refine l_val rfl rfl rfl (r_move (v := gv_2) rfl) ?_
            obtain ⟨t94, h_t94, H77⟩ := bnd_some H76; clear H76
            refine l_callG (fun w hF hS => k33 (know_all w) ((show FrS hp_4 2 (List.getD (List.getD css (Int.toNat x55_2) []) 4 undef) (t89.Where.map e_api_Place) from (g_api_Photo_p4 (pf_4.at h_t89))).mono (pool_now (i := 0) hS rfl (hw.now hF))) (gf_2.mono (pool_now (i := 0) hS rfl (hw.now hF))) h_t94) Try.call33 rfl rfl rfl ?_
            refine l_val rfl rfl rfl (r_not rfl) ?_
            refine l_val rfl rfl rfl (r_move (v := .bool (!t94)) rfl) ?_
            refine split (fun hb => ?_) (fun hb => ?_)
            · have H78 := cnd_t hb H77; clear H77
              refine l_passed rfl rfl rfl ?_
              refine l_passed rfl rfl rfl ?_
              refine l_passed rfl rfl rfl ?_
              refine l_passed rfl rfl rfl ?_
              refine l_passed rfl rfl rfl ?_
              refine l_passed rfl rfl rfl ?_
              refine l_val rfl rfl rfl (r_pickT (v := .bool true) rfl rfl) ?_
              refine l_val rfl rfl rfl (r_move (v := .bool true) rfl) ?_
              refine l_passed rfl rfl rfl ?_
              refine l_passed rfl rfl rfl ?_
              refine l_passed rfl rfl rfl ?_
              refine l_passed rfl rfl rfl ?_
              refine l_passed rfl rfl rfl ?_
              refine l_passed rfl rfl rfl ?_
              refine l_val rfl rfl rfl (r_pickT (v := .bool true) rfl rfl) ?_
              refine l_val rfl rfl rfl (r_move (v := .bool true) rfl) ?_
              refine l_passed rfl rfl rfl ?_
              refine l_passed rfl rfl rfl ?_
              refine l_passed rfl rfl rfl ?_
              refine l_passed rfl rfl rfl ?_
              refine l_passed rfl rfl rfl ?_
              refine l_val rfl rfl rfl (r_pickT (v := .bool true) rfl rfl) ?_
              refine l_val rfl rfl rfl (r_move (v := .bool true) rfl) ?_
              refine l_passed rfl rfl rfl ?_
              refine l_passed rfl rfl rfl ?_
              refine l_passed rfl rfl rfl ?_
              refine l_passed rfl rfl rfl ?_
              refine l_passed rfl rfl rfl ?_
              refine l_val rfl rfl rfl (r_pickT (v := .bool true) rfl rfl) ?_
              refine l_val rfl rfl rfl (r_move (v := .bool true) rfl) ?_
              refine l_passed rfl rfl rfl ?_
              refine l_passed rfl rfl rfl ?_
              refine l_passed rfl rfl rfl ?_
              refine l_passed rfl rfl rfl ?_
              refine l_passed rfl rfl rfl ?_
              refine l_val rfl rfl rfl (r_pickT (v := .bool true) rfl rfl) ?_
              refine l_val rfl rfl rfl (r_move (v := .bool true) rfl) ?_
              refine l_passed rfl rfl rfl ?_
              refine l_passed rfl rfl rfl ?_
              refine l_passed rfl rfl rfl ?_
              refine l_passed rfl rfl rfl ?_
              refine l_passed rfl rfl rfl ?_
              refine l_val rfl rfl rfl (r_pickT (v := .bool true) rfl rfl) ?_
              refine l_val rfl rfl rfl (r_move (v := .bool true) rfl) ?_
              refine l_passed rfl rfl rfl ?_
              refine l_passed rfl rfl rfl ?_
              refine l_passed rfl rfl rfl ?_
              refine l_passed rfl rfl rfl ?_
              refine l_passed rfl rfl rfl ?_
              refine l_val rfl rfl rfl (r_pickT (v := .bool true) rfl rfl) ?_
              refine l_val rfl rfl rfl (r_move (v := .bool true) rfl) ?_
              refine l_passed rfl rfl rfl ?_
              refine l_passed rfl rfl rfl ?_
              refine l_passed rfl rfl rfl ?_
              refine l_passed rfl rfl rfl ?_
              refine l_passed rfl rfl rfl ?_
              refine l_val rfl rfl rfl (r_pickT (v := .bool true) rfl rfl) ?_
              refine l_val rfl rfl rfl (r_move (v := .bool true) rfl) ?_
              refine l_passed rfl rfl rfl ?_
              refine l_passed rfl rfl rfl ?_
              refine l_passed rfl rfl rfl ?_
              refine l_passed rfl rfl rfl ?_
              refine l_passed rfl rfl rfl ?_
              refine l_val rfl rfl rfl (r_pickT (v := .bool true) rfl rfl) ?_
              refine l_val rfl rfl rfl (r_move (v := .bool true) rfl) ?_
              refine l_passed rfl rfl rfl ?_
              refine l_passed rfl rfl rfl ?_
              refine l_passed rfl rfl rfl ?_
              refine l_passed rfl rfl rfl ?_
              refine l_passed rfl rfl rfl ?_
              refine l_val rfl rfl rfl (r_pickT (v := .bool true) rfl rfl) ?_
              refine l_val rfl rfl rfl (r_move (v := .bool true) rfl) ?_
              refine l_passed rfl rfl rfl ?_
              refine l_passed rfl rfl rfl ?_
              refine l_passed rfl rfl rfl ?_
              refine l_passed rfl rfl rfl ?_
              refine l_passed rfl rfl rfl ?_
              refine l_val rfl rfl rfl (r_pickT (v := .bool true) rfl rfl) ?_
              refine l_val rfl rfl rfl (r_move (v := .bool true) rfl) ?_
              refine l_passed rfl rfl rfl ?_
              refine l_passed rfl rfl rfl ?_
              refine l_passed rfl rfl rfl ?_
              refine l_passed rfl rfl rfl ?_
              refine l_passed rfl rfl rfl ?_
              refine l_val rfl rfl rfl (r_pickT (v := .bool true) rfl rfl) ?_
              refine l_nil ?_
              refine c_true rfl ?_
              refine c_seq ?_
              refine c_region ?_
              refine l_val rfl rfl rfl (r_assign (v := .bool false) rfl) ?_
              refine l_nil ?_
              refine c_ret ?_
              obtain rfl := Option.some.inj H78
              refine ret1 (v := .bool false) rfl rfl (fin rfl)
            · have H79 := cnd_f hb H77; clear H77
              refine l_val rfl rfl rfl (r_field Try.runUnderlying69 rfl Try.sizeOf66 rfl rfl) ?_
              refine l_load1 (i := 3) (v := (List.getD (List.getD css (Int.toNat x55_2) []) 9 undef)) Try.isAgg66 rfl rfl rfl rfl rfl ?_
              refine l_val rfl rfl rfl (r_field Try.runUnderlying69 rfl Try.sizeOf66 rfl rfl) ?_
              refine l_load1 (i := 2) (v := (elH h v1 13 (Int.toNat x55_2) 9)) Try.isAgg66 rfl rfl rfl rfl rfl ?_
              obtain ⟨t101, h_t101, H80⟩ := bnd_some H79; clear H79
              refine l_callG (fun w hF hS => k34 (know_all w) ((show FrS hp_4 1 (List.getD (List.getD css (Int.toNat x55_2) []) 9 undef) (t89.Tags.map e_string) from (g_api_Photo_p9 (pf_4.at h_t89))).mono (pool_now (i := 0) hS rfl (hw.now hF))) ((show FrS h 1 (elH h v1 13 (Int.toNat x55_2) 9) (t58.Tags.map e_string) from (g_api_Photo_p9 (f1.at h_t58))).mono (hw.now hF)) h_t101) Try.call34 rfl rfl rfl ?_
              refine l_val rfl rfl rfl (r_not rfl) ?_
              refine l_val rfl rfl rfl (r_pickF (v := .bool (!t101)) rfl rfl) ?_
              refine l_val rfl rfl rfl (r_move (v := .bool (!t101)) rfl) ?_
              refine split (fun hb => ?_) (fun hb => ?_)
              · have H81 := cnd_t hb H80; clear H80
                refine l_passed rfl rfl rfl ?_
                refine l_passed rfl rfl rfl ?_
                refine l_passed rfl rfl rfl ?_
                refine l_passed rfl rfl rfl ?_
                refine l_passed rfl rfl rfl ?_
                refine l_passed rfl rfl rfl ?_
                refine l_val rfl rfl rfl (r_pickT (v := .bool true) rfl rfl) ?_
                refine l_val rfl rfl rfl (r_move (v := .bool true) rfl) ?_
                refine l_passed rfl rfl rfl ?_
                refine l_passed rfl rfl rfl ?_
                refine l_passed rfl rfl rfl ?_
                refine l_passed rfl rfl rfl ?_
                refine l_passed rfl rfl rfl ?_
                refine l_val rfl rfl rfl (r_pickT (v := .bool true) rfl rfl) ?_
                refine l_val rfl rfl rfl (r_move (v := .bool true) rfl) ?_
                refine l_passed rfl rfl rfl ?_
                refine l_passed rfl rfl rfl ?_
                refine l_passed rfl rfl rfl ?_
                refine l_passed rfl rfl rfl ?_
                refine l_passed rfl rfl rfl ?_
                refine l_val rfl rfl rfl (r_pickT (v := .bool true) rfl rfl) ?_
                refine l_val rfl rfl rfl (r_move (v := .bool true) rfl) ?_
                refine l_passed rfl rfl rfl ?_
                refine l_passed rfl rfl rfl ?_
                refine l_passed rfl rfl rfl ?_
                refine l_passed rfl rfl rfl ?_
                refine l_passed rfl rfl rfl ?_
                refine l_val rfl rfl rfl (r_pickT (v := .bool true) rfl rfl) ?_
                refine l_val rfl rfl rfl (r_move (v := .bool true) rfl) ?_
                refine l_passed rfl rfl rfl ?_
                refine l_passed rfl rfl rfl ?_
                refine l_passed rfl rfl rfl ?_
                refine l_passed rfl rfl rfl ?_
                refine l_passed rfl rfl rfl ?_
                refine l_val rfl rfl rfl (r_pickT (v := .bool true) rfl rfl) ?_
                refine l_val rfl rfl rfl (r_move (v := .bool true) rfl) ?_
                refine l_passed rfl rfl rfl ?_
                refine l_passed rfl rfl rfl ?_
                refine l_passed rfl rfl rfl ?_
                refine l_passed rfl rfl rfl ?_
                refine l_passed rfl rfl rfl ?_
                refine l_val rfl rfl rfl (r_pickT (v := .bool true) rfl rfl) ?_
                refine l_val rfl rfl rfl (r_move (v := .bool true) rfl) ?_
                refine l_passed rfl rfl rfl ?_
                refine l_passed rfl rfl rfl ?_
                refine l_passed rfl rfl rfl ?_
                refine l_passed rfl rfl rfl ?_
                refine l_passed rfl rfl rfl ?_
                refine l_val rfl rfl rfl (r_pickT (v := .bool true) rfl rfl) ?_
                refine l_val rfl rfl rfl (r_move (v := .bool true) rfl) ?_
                refine l_passed rfl rfl rfl ?_
                refine l_passed rfl rfl rfl ?_
                refine l_passed rfl rfl rfl ?_
                refine l_passed rfl rfl rfl ?_
                refine l_passed rfl rfl rfl ?_
                refine l_val rfl rfl rfl (r_pickT (v := .bool true) rfl rfl) ?_
                refine l_val rfl rfl rfl (r_move (v := .bool true) rfl) ?_
                refine l_passed rfl rfl rfl ?_
                refine l_passed rfl rfl rfl ?_
                refine l_passed rfl rfl rfl ?_
                refine l_passed rfl rfl rfl ?_
                refine l_passed rfl rfl rfl ?_
                refine l_val rfl rfl rfl (r_pickT (v := .bool true) rfl rfl) ?_
                refine l_val rfl rfl rfl (r_move (v := .bool true) rfl) ?_
                refine l_passed rfl rfl rfl ?_
                refine l_passed rfl rfl rfl ?_
                refine l_passed rfl rfl rfl ?_
                refine l_passed rfl rfl rfl ?_
                refine l_passed rfl rfl rfl ?_
                refine l_val rfl rfl rfl (r_pickT (v := .bool true) rfl rfl) ?_
                refine l_val rfl rfl rfl (r_move (v := .bool true) rfl) ?_
                refine l_passed rfl rfl rfl ?_
                refine l_passed rfl rfl rfl ?_
                refine l_passed rfl rfl rfl ?_
                refine l_passed rfl rfl rfl ?_
                refine l_passed rfl rfl rfl ?_
                refine l_val rfl rfl rfl (r_pickT (v := .bool true) rfl rfl) ?_
                refine l_nil ?_
                refine c_true rfl ?_
                refine c_seq ?_
                refine c_region ?_
                refine l_val rfl rfl rfl (r_assign (v := .bool false) rfl) ?_
                refine l_nil ?_
                refine c_ret ?_
                obtain rfl := Option.some.inj H81
                refine ret1 (v := .bool false) rfl rfl (fin rfl)
              · have H82 := cnd_f hb H80; clear H80
                refine l_val rfl rfl rfl (r_field Try.runUnderlying69 rfl Try.sizeOf67 rfl rfl) ?_
                refine l_load1 (i := 3) (v := (List.getD (List.getD css (Int.toNat x55_2) []) 11 undef)) Try.isAgg67 rfl rfl rfl rfl rfl ?_
                refine l_val rfl rfl rfl (r_field Try.runUnderlying69 rfl Try.sizeOf67 rfl rfl) ?_
                refine l_load1 (i := 2) (v := (elH h v1 13 (Int.toNat x55_2) 11)) Try.isAgg67 rfl rfl rfl rfl rfl ?_
                obtain ⟨t109, h_t109, H83⟩ := bnd_some H82; clear H82
                refine l_callG (fun w hF hS => k35 (know_all w) ((show FrS hp_4 1 (List.getD (List.getD css (Int.toNat x55_2) []) 11 undef) (t89.People.map e_i64) from (g_api_Photo_p11 (pf_4.at h_t89))).mono (pool_now (i := 0) hS rfl (hw.now hF))) ((show FrS h 1 (elH h v1 13 (Int.toNat x55_2) 11) (t58.People.map e_i64) from (g_api_Photo_p11 (f1.at h_t58))).mono (hw.now hF)) h_t109) Try.call35 rfl rfl rfl ?_
                refine l_val rfl rfl rfl (r_not rfl) ?_
                refine l_val rfl rfl rfl (r_pickF (v := .bool (!t109)) rfl rfl) ?_
                refine l_val rfl rfl rfl (r_move (v := .bool (!t109)) rfl) ?_
                refine split (fun hb => ?_) (fun hb => ?_)
                · have H84 := cnd_t hb H83; clear H83
                  refine l_passed rfl rfl rfl ?_
                  refine l_passed rfl rfl rfl ?_
                  refine l_passed rfl rfl rfl ?_
                  refine l_passed rfl rfl rfl ?_
                  refine l_passed rfl rfl rfl ?_
                  refine l_val rfl rfl rfl (r_pickT (v := .bool true) rfl rfl) ?_
                  refine l_val rfl rfl rfl (r_move (v := .bool true) rfl) ?_
                  refine l_passed rfl rfl rfl ?_
                  refine l_passed rfl rfl rfl ?_
                  refine l_passed rfl rfl rfl ?_
                  refine l_passed rfl rfl rfl ?_
                  refine l_passed rfl rfl rfl ?_
                  refine l_val rfl rfl rfl (r_pickT (v := .bool true) rfl rfl) ?_
                  refine l_val rfl rfl rfl (r_move (v := .bool true) rfl) ?_
                  refine l_passed rfl rfl rfl ?_
                  refine l_passed rfl rfl rfl ?_
                  refine l_passed rfl rfl rfl ?_
                  refine l_passed rfl rfl rfl ?_
                  refine l_passed rfl rfl rfl ?_
                  refine l_val rfl rfl rfl (r_pickT (v := .bool true) rfl rfl) ?_
                  refine l_val rfl rfl rfl (r_move (v := .bool true) rfl) ?_
                  refine l_passed rfl rfl rfl ?_
                  refine l_passed rfl rfl rfl ?_
                  refine l_passed rfl rfl rfl ?_
                  refine l_passed rfl rfl rfl ?_
                  refine l_passed rfl rfl rfl ?_
                  refine l_val rfl rfl rfl (r_pickT (v := .bool true) rfl rfl) ?_
                  refine l_val rfl rfl rfl (r_move (v := .bool true) rfl) ?_
                  refine l_passed rfl rfl rfl ?_
                  refine l_passed rfl rfl rfl ?_
                  refine l_passed rfl rfl rfl ?_
                  refine l_passed rfl rfl rfl ?_
                  refine l_passed rfl rfl rfl ?_
                  refine l_val rfl rfl rfl (r_pickT (v := .bool true) rfl rfl) ?_
                  refine l_val rfl rfl rfl (r_move (v := .bool true) rfl) ?_
                  refine l_passed rfl rfl rfl ?_
                  refine l_passed rfl rfl rfl ?_
                  refine l_passed rfl rfl rfl ?_
                  refine l_passed rfl rfl rfl ?_
                  refine l_passed rfl rfl rfl ?_
                  refine l_val rfl rfl rfl (r_pickT (v := .bool true) rfl rfl) ?_
                  refine l_val rfl rfl rfl (r_move (v := .bool true) rfl) ?_
                  refine l_passed rfl rfl rfl ?_
                  refine l_passed rfl rfl rfl ?_
                  refine l_passed rfl rfl rfl ?_
                  refine l_passed rfl rfl rfl ?_
                  refine l_passed rfl rfl rfl ?_
                  refine l_val rfl rfl rfl (r_pickT (v := .bool true) rfl rfl) ?_
                  refine l_val rfl rfl rfl (r_move (v := .bool true) rfl) ?_
                  refine l_passed rfl rfl rfl ?_
                  refine l_passed rfl rfl rfl ?_
                  refine l_passed rfl rfl rfl ?_
                  refine l_passed rfl rfl rfl ?_
                  refine l_passed rfl rfl rfl ?_
                  refine l_val rfl rfl rfl (r_pickT (v := .bool true) rfl rfl) ?_
                  refine l_val rfl rfl rfl (r_move (v := .bool true) rfl) ?_
                  refine l_passed rfl rfl rfl ?_
                  refine l_passed rfl rfl rfl ?_
                  refine l_passed rfl rfl rfl ?_
                  refine l_passed rfl rfl rfl ?_
                  refine l_passed rfl rfl rfl ?_
                  refine l_val rfl rfl rfl (r_pickT (v := .bool true) rfl rfl) ?_
                  refine l_val rfl rfl rfl (r_move (v := .bool true) rfl) ?_
                  refine l_passed rfl rfl rfl ?_
                  refine l_passed rfl rfl rfl ?_
                  refine l_passed rfl rfl rfl ?_
                  refine l_passed rfl rfl rfl ?_
                  refine l_passed rfl rfl rfl ?_
                  refine l_val rfl rfl rfl (r_pickT (v := .bool true) rfl rfl) ?_
                  refine l_nil ?_
                  refine c_true rfl ?_
                  refine c_seq ?_
                  refine c_region ?_
                  refine l_val rfl rfl rfl (r_assign (v := .bool false) rfl) ?_
                  refine l_nil ?_
                  refine c_ret ?_
                  obtain rfl := Option.some.inj H84
                  refine ret1 (v := .bool false) rfl rfl (fin rfl)
                · have H85 := cnd_f hb H83; clear H83
                  refine l_val rfl rfl rfl (r_field Try.runUnderlying69 rfl Try.sizeOf3 rfl rfl) ?_
                  refine l_load1 (i := 3) (v := .int .i64 t89.Id) Try.isAgg3 rfl rfl rfl rfl rfl ?_
                  refine l_val rfl rfl rfl (r_field Try.runUnderlying69 rfl Try.sizeOf3 rfl rfl) ?_
                  refine l_load1 (i := 2) (v := .int .i64 t58.Id) Try.isAgg3 rfl rfl rfl rfl rfl ?_
                  refine l_val rfl rfl rfl (r_neq rfl rfl) ?_
                  refine l_val rfl rfl rfl (r_pickF (v := .bool (decide (t89.Id ≠ t58.Id))) rfl rfl) ?_
                  refine l_val rfl rfl rfl (r_move (v := .bool (decide (t89.Id ≠ t58.Id))) rfl) ?_
                  refine split (fun hb => ?_) (fun hb => ?_)
                  · have H86 := cnd_t hb H85; clear H85
                    refine l_passed rfl rfl rfl ?_
                    refine l_passed rfl rfl rfl ?_
                    refine l_passed rfl rfl rfl ?_
                    refine l_passed rfl rfl rfl ?_
                    refine l_passed rfl rfl rfl ?_
                    refine l_val rfl rfl rfl (r_pickT (v := .bool true) rfl rfl) ?_
                    refine l_val rfl rfl rfl (r_move (v := .bool true) rfl) ?_
                    refine l_passed rfl rfl rfl ?_
                    refine l_passed rfl rfl rfl ?_
                    refine l_passed rfl rfl rfl ?_
                    refine l_passed rfl rfl rfl ?_
                    refine l_passed rfl rfl rfl ?_
                    refine l_val rfl rfl rfl (r_pickT (v := .bool true) rfl rfl) ?_
                    refine l_val rfl rfl rfl (r_move (v := .bool true) rfl) ?_
                    refine l_passed rfl rfl rfl ?_
                    refine l_passed rfl rfl rfl ?_
                    refine l_passed rfl rfl rfl ?_
                    refine l_passed rfl rfl rfl ?_
                    refine l_passed rfl rfl rfl ?_
                    refine l_val rfl rfl rfl (r_pickT (v := .bool true) rfl rfl) ?_
                    refine l_val rfl rfl rfl (r_move (v := .bool true) rfl) ?_
                    refine l_passed rfl rfl rfl ?_
                    refine l_passed rfl rfl rfl ?_
                    refine l_passed rfl rfl rfl ?_
                    refine l_passed rfl rfl rfl ?_
                    refine l_passed rfl rfl rfl ?_
                    refine l_val rfl rfl rfl (r_pickT (v := .bool true) rfl rfl) ?_
                    refine l_val rfl rfl rfl (r_move (v := .bool true) rfl) ?_
                    refine l_passed rfl rfl rfl ?_
                    refine l_passed rfl rfl rfl ?_
                    refine l_passed rfl rfl rfl ?_
                    refine l_passed rfl rfl rfl ?_
                    refine l_passed rfl rfl rfl ?_
                    refine l_val rfl rfl rfl (r_pickT (v := .bool true) rfl rfl) ?_
                    refine l_val rfl rfl rfl (r_move (v := .bool true) rfl) ?_
                    refine l_passed rfl rfl rfl ?_
                    refine l_passed rfl rfl rfl ?_
                    refine l_passed rfl rfl rfl ?_
                    refine l_passed rfl rfl rfl ?_
                    refine l_passed rfl rfl rfl ?_
                    refine l_val rfl rfl rfl (r_pickT (v := .bool true) rfl rfl) ?_
                    refine l_val rfl rfl rfl (r_move (v := .bool true) rfl) ?_
                    refine l_passed rfl rfl rfl ?_
                    refine l_passed rfl rfl rfl ?_
                    refine l_passed rfl rfl rfl ?_
                    refine l_passed rfl rfl rfl ?_
                    refine l_passed rfl rfl rfl ?_
                    refine l_val rfl rfl rfl (r_pickT (v := .bool true) rfl rfl) ?_
                    refine l_val rfl rfl rfl (r_move (v := .bool true) rfl) ?_
                    refine l_passed rfl rfl rfl ?_
                    refine l_passed rfl rfl rfl ?_
                    refine l_passed rfl rfl rfl ?_
                    refine l_passed rfl rfl rfl ?_
                    refine l_passed rfl rfl rfl ?_
                    refine l_val rfl rfl rfl (r_pickT (v := .bool true) rfl rfl) ?_
                    refine l_val rfl rfl rfl (r_move (v := .bool true) rfl) ?_
                    refine l_passed rfl rfl rfl ?_
                    refine l_passed rfl rfl rfl ?_
                    refine l_passed rfl rfl rfl ?_
                    refine l_passed rfl rfl rfl ?_
                    refine l_passed rfl rfl rfl ?_
                    refine l_val rfl rfl rfl (r_pickT (v := .bool true) rfl rfl) ?_
                    refine l_nil ?_
                    refine c_true rfl ?_
                    refine c_seq ?_
                    refine c_region ?_
                    refine l_val rfl rfl rfl (r_assign (v := .bool false) rfl) ?_
                    refine l_nil ?_
                    refine c_ret ?_
                    obtain rfl := Option.some.inj H86
                    refine ret1 (v := .bool false) rfl rfl (fin rfl)
                  · have H87 := cnd_f hb H85; clear H85
                    refine l_val rfl rfl rfl (r_field Try.runUnderlying69 rfl Try.sizeOf9 rfl rfl) ?_
                    refine l_load1 (i := 3) (v := str t89.File) Try.isAgg9 rfl rfl rfl rfl rfl ?_
                    refine l_val rfl rfl rfl (r_field Try.runUnderlying69 rfl Try.sizeOf9 rfl rfl) ?_
                    refine l_load1 (i := 2) (v := str t58.File) Try.isAgg9 rfl rfl rfl rfl rfl ?_
                    refine l_val rfl rfl rfl (r_neqT rfl rfl) ?_
                    refine l_val rfl rfl rfl (r_pickF (v := .bool (decide (t89.File ≠ t58.File))) rfl rfl) ?_
                    refine l_val rfl rfl rfl (r_move (v := .bool (decide (t89.File ≠ t58.File))) rfl) ?_
                    refine split (fun hb => ?_) (fun hb => ?_)
                    · have H88 := cnd_t hb H87; clear H87
                      refine l_passed rfl rfl rfl ?_
                      refine l_passed rfl rfl rfl ?_
                      refine l_passed rfl rfl rfl ?_
                      refine l_passed rfl rfl rfl ?_
                      refine l_passed rfl rfl rfl ?_
                      refine l_val rfl rfl rfl (r_pickT (v := .bool true) rfl rfl) ?_
                      refine l_val rfl rfl rfl (r_move (v := .bool true) rfl) ?_
                      refine l_passed rfl rfl rfl ?_
                      refine l_passed rfl rfl rfl ?_
                      refine l_passed rfl rfl rfl ?_
                      refine l_passed rfl rfl rfl ?_
                      refine l_passed rfl rfl rfl ?_
                      refine l_val rfl rfl rfl (r_pickT (v := .bool true) rfl rfl) ?_
                      refine l_val rfl rfl rfl (r_move (v := .bool true) rfl) ?_
                      refine l_passed rfl rfl rfl ?_
                      refine l_passed rfl rfl rfl ?_
                      refine l_passed rfl rfl rfl ?_
                      refine l_passed rfl rfl rfl ?_
                      refine l_passed rfl rfl rfl ?_
                      refine l_val rfl rfl rfl (r_pickT (v := .bool true) rfl rfl) ?_
                      refine l_val rfl rfl rfl (r_move (v := .bool true) rfl) ?_
                      refine l_passed rfl rfl rfl ?_
                      refine l_passed rfl rfl rfl ?_
                      refine l_passed rfl rfl rfl ?_
                      refine l_passed rfl rfl rfl ?_
                      refine l_passed rfl rfl rfl ?_
                      refine l_val rfl rfl rfl (r_pickT (v := .bool true) rfl rfl) ?_
                      refine l_val rfl rfl rfl (r_move (v := .bool true) rfl) ?_
                      refine l_passed rfl rfl rfl ?_
                      refine l_passed rfl rfl rfl ?_
                      refine l_passed rfl rfl rfl ?_
                      refine l_passed rfl rfl rfl ?_
                      refine l_passed rfl rfl rfl ?_
                      refine l_val rfl rfl rfl (r_pickT (v := .bool true) rfl rfl) ?_
                      refine l_val rfl rfl rfl (r_move (v := .bool true) rfl) ?_
                      refine l_passed rfl rfl rfl ?_
                      refine l_passed rfl rfl rfl ?_
                      refine l_passed rfl rfl rfl ?_
                      refine l_passed rfl rfl rfl ?_
                      refine l_passed rfl rfl rfl ?_
                      refine l_val rfl rfl rfl (r_pickT (v := .bool true) rfl rfl) ?_
                      refine l_val rfl rfl rfl (r_move (v := .bool true) rfl) ?_
                      refine l_passed rfl rfl rfl ?_
                      refine l_passed rfl rfl rfl ?_
                      refine l_passed rfl rfl rfl ?_
                      refine l_passed rfl rfl rfl ?_
                      refine l_passed rfl rfl rfl ?_
                      refine l_val rfl rfl rfl (r_pickT (v := .bool true) rfl rfl) ?_
                      refine l_val rfl rfl rfl (r_move (v := .bool true) rfl) ?_
                      refine l_passed rfl rfl rfl ?_
                      refine l_passed rfl rfl rfl ?_
                      refine l_passed rfl rfl rfl ?_
                      refine l_passed rfl rfl rfl ?_
                      refine l_passed rfl rfl rfl ?_
                      refine l_val rfl rfl rfl (r_pickT (v := .bool true) rfl rfl) ?_
                      refine l_nil ?_
                      refine c_true rfl ?_
                      refine c_seq ?_
                      refine c_region ?_
                      refine l_val rfl rfl rfl (r_assign (v := .bool false) rfl) ?_
                      refine l_nil ?_
                      refine c_ret ?_
                      obtain rfl := Option.some.inj H88
                      refine ret1 (v := .bool false) rfl rfl (fin rfl)
                    · have H89 := cnd_f hb H87; clear H87
                      refine l_val rfl rfl rfl (r_field Try.runUnderlying69 rfl Try.sizeOf3 rfl rfl) ?_
                      refine l_load1 (i := 3) (v := .int .i64 t89.Moment) Try.isAgg3 rfl rfl rfl rfl rfl ?_
                      refine l_val rfl rfl rfl (r_field Try.runUnderlying69 rfl Try.sizeOf3 rfl rfl) ?_
                      refine l_load1 (i := 2) (v := .int .i64 t58.Moment) Try.isAgg3 rfl rfl rfl rfl rfl ?_
                      refine l_val rfl rfl rfl (r_neq rfl rfl) ?_
                      refine l_val rfl rfl rfl (r_pickF (v := .bool (decide (t89.Moment ≠ t58.Moment))) rfl rfl) ?_
                      refine l_val rfl rfl rfl (r_move (v := .bool (decide (t89.Moment ≠ t58.Moment))) rfl) ?_
                      refine split (fun hb => ?_) (fun hb => ?_)
                      · have H90 := cnd_t hb H89; clear H89
                        refine l_passed rfl rfl rfl ?_
                        refine l_passed rfl rfl rfl ?_
                        refine l_passed rfl rfl rfl ?_
                        refine l_passed rfl rfl rfl ?_
                        refine l_passed rfl rfl rfl ?_
                        refine l_val rfl rfl rfl (r_pickT (v := .bool true) rfl rfl) ?_
                        refine l_val rfl rfl rfl (r_move (v := .bool true) rfl) ?_
                        refine l_passed rfl rfl rfl ?_
                        refine l_passed rfl rfl rfl ?_
                        refine l_passed rfl rfl rfl ?_
                        refine l_passed rfl rfl rfl ?_
                        refine l_passed rfl rfl rfl ?_
                        refine l_val rfl rfl rfl (r_pickT (v := .bool true) rfl rfl) ?_
                        refine l_val rfl rfl rfl (r_move (v := .bool true) rfl) ?_
                        refine l_passed rfl rfl rfl ?_
                        refine l_passed rfl rfl rfl ?_
                        refine l_passed rfl rfl rfl ?_
                        refine l_passed rfl rfl rfl ?_
                        refine l_passed rfl rfl rfl ?_
                        refine l_val rfl rfl rfl (r_pickT (v := .bool true) rfl rfl) ?_
                        refine l_val rfl rfl rfl (r_move (v := .bool true) rfl) ?_
                        refine l_passed rfl rfl rfl ?_
                        refine l_passed rfl rfl rfl ?_
                        refine l_passed rfl rfl rfl ?_
                        refine l_passed rfl rfl rfl ?_
                        refine l_passed rfl rfl rfl ?_
                        refine l_val rfl rfl rfl (r_pickT (v := .bool true) rfl rfl) ?_
                        refine l_val rfl rfl rfl (r_move (v := .bool true) rfl) ?_
                        refine l_passed rfl rfl rfl ?_
                        refine l_passed rfl rfl rfl ?_
                        refine l_passed rfl rfl rfl ?_
                        refine l_passed rfl rfl rfl ?_
                        refine l_passed rfl rfl rfl ?_
                        refine l_val rfl rfl rfl (r_pickT (v := .bool true) rfl rfl) ?_
                        refine l_val rfl rfl rfl (r_move (v := .bool true) rfl) ?_
                        refine l_passed rfl rfl rfl ?_
                        refine l_passed rfl rfl rfl ?_
                        refine l_passed rfl rfl rfl ?_
                        refine l_passed rfl rfl rfl ?_
                        refine l_passed rfl rfl rfl ?_
                        refine l_val rfl rfl rfl (r_pickT (v := .bool true) rfl rfl) ?_
                        refine l_val rfl rfl rfl (r_move (v := .bool true) rfl) ?_
                        refine l_passed rfl rfl rfl ?_
                        refine l_passed rfl rfl rfl ?_
                        refine l_passed rfl rfl rfl ?_
                        refine l_passed rfl rfl rfl ?_
                        refine l_passed rfl rfl rfl ?_
                        refine l_val rfl rfl rfl (r_pickT (v := .bool true) rfl rfl) ?_
                        refine l_nil ?_
                        refine c_true rfl ?_
                        refine c_seq ?_
                        refine c_region ?_
                        refine l_val rfl rfl rfl (r_assign (v := .bool false) rfl) ?_
                        refine l_nil ?_
                        refine c_ret ?_
                        obtain rfl := Option.some.inj H90
                        refine ret1 (v := .bool false) rfl rfl (fin rfl)
                      · have H91 := cnd_f hb H89; clear H89
                        refine l_val rfl rfl rfl (r_field Try.runUnderlying69 rfl Try.sizeOf3 rfl rfl) ?_
                        refine l_load1 (i := 3) (v := .int .i64 t89.Zone) Try.isAgg3 rfl rfl rfl rfl rfl ?_
                        refine l_val rfl rfl rfl (r_field Try.runUnderlying69 rfl Try.sizeOf3 rfl rfl) ?_
                        refine l_load1 (i := 2) (v := .int .i64 t58.Zone) Try.isAgg3 rfl rfl rfl rfl rfl ?_
                        refine l_val rfl rfl rfl (r_neq rfl rfl) ?_
                        refine l_val rfl rfl rfl (r_pickF (v := .bool (decide (t89.Zone ≠ t58.Zone))) rfl rfl) ?_
                        refine l_val rfl rfl rfl (r_move (v := .bool (decide (t89.Zone ≠ t58.Zone))) rfl) ?_
                        refine split (fun hb => ?_) (fun hb => ?_)
                        · have H92 := cnd_t hb H91; clear H91
                          refine l_passed rfl rfl rfl ?_
                          refine l_passed rfl rfl rfl ?_
                          refine l_passed rfl rfl rfl ?_
                          refine l_passed rfl rfl rfl ?_
                          refine l_passed rfl rfl rfl ?_
                          refine l_val rfl rfl rfl (r_pickT (v := .bool true) rfl rfl) ?_
                          refine l_val rfl rfl rfl (r_move (v := .bool true) rfl) ?_
                          refine l_passed rfl rfl rfl ?_
                          refine l_passed rfl rfl rfl ?_
                          refine l_passed rfl rfl rfl ?_
                          refine l_passed rfl rfl rfl ?_
                          refine l_passed rfl rfl rfl ?_
                          refine l_val rfl rfl rfl (r_pickT (v := .bool true) rfl rfl) ?_
                          refine l_val rfl rfl rfl (r_move (v := .bool true) rfl) ?_
                          refine l_passed rfl rfl rfl ?_
                          refine l_passed rfl rfl rfl ?_
                          refine l_passed rfl rfl rfl ?_
                          refine l_passed rfl rfl rfl ?_
                          refine l_passed rfl rfl rfl ?_
                          refine l_val rfl rfl rfl (r_pickT (v := .bool true) rfl rfl) ?_
                          refine l_val rfl rfl rfl (r_move (v := .bool true) rfl) ?_
                          refine l_passed rfl rfl rfl ?_
                          refine l_passed rfl rfl rfl ?_
                          refine l_passed rfl rfl rfl ?_
                          refine l_passed rfl rfl rfl ?_
                          refine l_passed rfl rfl rfl ?_
                          refine l_val rfl rfl rfl (r_pickT (v := .bool true) rfl rfl) ?_
                          refine l_val rfl rfl rfl (r_move (v := .bool true) rfl) ?_
                          refine l_passed rfl rfl rfl ?_
                          refine l_passed rfl rfl rfl ?_
                          refine l_passed rfl rfl rfl ?_
                          refine l_passed rfl rfl rfl ?_
                          refine l_passed rfl rfl rfl ?_
                          refine l_val rfl rfl rfl (r_pickT (v := .bool true) rfl rfl) ?_
                          refine l_val rfl rfl rfl (r_move (v := .bool true) rfl) ?_
                          refine l_passed rfl rfl rfl ?_
                          refine l_passed rfl rfl rfl ?_
                          refine l_passed rfl rfl rfl ?_
                          refine l_passed rfl rfl rfl ?_
                          refine l_passed rfl rfl rfl ?_
                          refine l_val rfl rfl rfl (r_pickT (v := .bool true) rfl rfl) ?_
                          refine l_nil ?_
                          refine c_true rfl ?_
                          refine c_seq ?_
                          refine c_region ?_
                          refine l_val rfl rfl rfl (r_assign (v := .bool false) rfl) ?_
                          refine l_nil ?_
                          refine c_ret ?_
                          obtain rfl := Option.some.inj H92
                          refine ret1 (v := .bool false) rfl rfl (fin rfl)
                        · have H93 := cnd_f hb H91; clear H91
                          refine l_val rfl rfl rfl (r_field Try.runUnderlying69 rfl Try.sizeOf3 rfl rfl) ?_
                          refine l_load1 (i := 3) (v := .int .i64 t89.W) Try.isAgg3 rfl rfl rfl rfl rfl ?_
                          refine l_val rfl rfl rfl (r_field Try.runUnderlying69 rfl Try.sizeOf3 rfl rfl) ?_
                          refine l_load1 (i := 2) (v := .int .i64 t58.W) Try.isAgg3 rfl rfl rfl rfl rfl ?_
                          refine l_val rfl rfl rfl (r_neq rfl rfl) ?_
                          refine l_val rfl rfl rfl (r_pickF (v := .bool (decide (t89.W ≠ t58.W))) rfl rfl) ?_
                          refine l_val rfl rfl rfl (r_move (v := .bool (decide (t89.W ≠ t58.W))) rfl) ?_
                          refine split (fun hb => ?_) (fun hb => ?_)
                          · have H94 := cnd_t hb H93; clear H93
                            refine l_passed rfl rfl rfl ?_
                            refine l_passed rfl rfl rfl ?_
                            refine l_passed rfl rfl rfl ?_
                            refine l_passed rfl rfl rfl ?_
                            refine l_passed rfl rfl rfl ?_
                            refine l_val rfl rfl rfl (r_pickT (v := .bool true) rfl rfl) ?_
                            refine l_val rfl rfl rfl (r_move (v := .bool true) rfl) ?_
                            refine l_passed rfl rfl rfl ?_
                            refine l_passed rfl rfl rfl ?_
                            refine l_passed rfl rfl rfl ?_
                            refine l_passed rfl rfl rfl ?_
                            refine l_passed rfl rfl rfl ?_
                            refine l_val rfl rfl rfl (r_pickT (v := .bool true) rfl rfl) ?_
                            refine l_val rfl rfl rfl (r_move (v := .bool true) rfl) ?_
                            refine l_passed rfl rfl rfl ?_
                            refine l_passed rfl rfl rfl ?_
                            refine l_passed rfl rfl rfl ?_
                            refine l_passed rfl rfl rfl ?_
                            refine l_passed rfl rfl rfl ?_
                            refine l_val rfl rfl rfl (r_pickT (v := .bool true) rfl rfl) ?_
                            refine l_val rfl rfl rfl (r_move (v := .bool true) rfl) ?_
                            refine l_passed rfl rfl rfl ?_
                            refine l_passed rfl rfl rfl ?_
                            refine l_passed rfl rfl rfl ?_
                            refine l_passed rfl rfl rfl ?_
                            refine l_passed rfl rfl rfl ?_
                            refine l_val rfl rfl rfl (r_pickT (v := .bool true) rfl rfl) ?_
                            refine l_val rfl rfl rfl (r_move (v := .bool true) rfl) ?_
                            refine l_passed rfl rfl rfl ?_
                            refine l_passed rfl rfl rfl ?_
                            refine l_passed rfl rfl rfl ?_
                            refine l_passed rfl rfl rfl ?_
                            refine l_passed rfl rfl rfl ?_
                            refine l_val rfl rfl rfl (r_pickT (v := .bool true) rfl rfl) ?_
                            refine l_nil ?_
                            refine c_true rfl ?_
                            refine c_seq ?_
                            refine c_region ?_
                            refine l_val rfl rfl rfl (r_assign (v := .bool false) rfl) ?_
                            refine l_nil ?_
                            refine c_ret ?_
                            obtain rfl := Option.some.inj H94
                            refine ret1 (v := .bool false) rfl rfl (fin rfl)
                          · have H95 := cnd_f hb H93; clear H93
                            refine l_val rfl rfl rfl (r_field Try.runUnderlying69 rfl Try.sizeOf3 rfl rfl) ?_
                            refine l_load1 (i := 3) (v := .int .i64 t89.H) Try.isAgg3 rfl rfl rfl rfl rfl ?_
                            refine l_val rfl rfl rfl (r_field Try.runUnderlying69 rfl Try.sizeOf3 rfl rfl) ?_
                            refine l_load1 (i := 2) (v := .int .i64 t58.H) Try.isAgg3 rfl rfl rfl rfl rfl ?_
                            refine l_val rfl rfl rfl (r_neq rfl rfl) ?_
                            refine l_val rfl rfl rfl (r_pickF (v := .bool (decide (t89.H ≠ t58.H))) rfl rfl) ?_
                            refine l_val rfl rfl rfl (r_move (v := .bool (decide (t89.H ≠ t58.H))) rfl) ?_
                            refine split (fun hb => ?_) (fun hb => ?_)
                            · have H96 := cnd_t hb H95; clear H95
                              refine l_passed rfl rfl rfl ?_
                              refine l_passed rfl rfl rfl ?_
                              refine l_passed rfl rfl rfl ?_
                              refine l_passed rfl rfl rfl ?_
                              refine l_passed rfl rfl rfl ?_
                              refine l_val rfl rfl rfl (r_pickT (v := .bool true) rfl rfl) ?_
                              refine l_val rfl rfl rfl (r_move (v := .bool true) rfl) ?_
                              refine l_passed rfl rfl rfl ?_
                              refine l_passed rfl rfl rfl ?_
                              refine l_passed rfl rfl rfl ?_
                              refine l_passed rfl rfl rfl ?_
                              refine l_passed rfl rfl rfl ?_
                              refine l_val rfl rfl rfl (r_pickT (v := .bool true) rfl rfl) ?_
                              refine l_val rfl rfl rfl (r_move (v := .bool true) rfl) ?_
                              refine l_passed rfl rfl rfl ?_
                              refine l_passed rfl rfl rfl ?_
                              refine l_passed rfl rfl rfl ?_
                              refine l_passed rfl rfl rfl ?_
                              refine l_passed rfl rfl rfl ?_
                              refine l_val rfl rfl rfl (r_pickT (v := .bool true) rfl rfl) ?_
                              refine l_val rfl rfl rfl (r_move (v := .bool true) rfl) ?_
                              refine l_passed rfl rfl rfl ?_
                              refine l_passed rfl rfl rfl ?_
                              refine l_passed rfl rfl rfl ?_
                              refine l_passed rfl rfl rfl ?_
                              refine l_passed rfl rfl rfl ?_
                              refine l_val rfl rfl rfl (r_pickT (v := .bool true) rfl rfl) ?_
                              refine l_nil ?_
                              refine c_true rfl ?_
                              refine c_seq ?_
                              refine c_region ?_
                              refine l_val rfl rfl rfl (r_assign (v := .bool false) rfl) ?_
                              refine l_nil ?_
                              refine c_ret ?_
                              obtain rfl := Option.some.inj H96
                              refine ret1 (v := .bool false) rfl rfl (fin rfl)
                            · have H97 := cnd_f hb H95; clear H95
                              refine l_val rfl rfl rfl (r_field Try.runUnderlying69 rfl Try.sizeOf3 rfl rfl) ?_
                              refine l_load1 (i := 3) (v := .int .i64 t89.Turn) Try.isAgg3 rfl rfl rfl rfl rfl ?_
                              refine l_val rfl rfl rfl (r_field Try.runUnderlying69 rfl Try.sizeOf3 rfl rfl) ?_
                              refine l_load1 (i := 2) (v := .int .i64 t58.Turn) Try.isAgg3 rfl rfl rfl rfl rfl ?_
                              refine l_val rfl rfl rfl (r_neq rfl rfl) ?_
                              refine l_val rfl rfl rfl (r_pickF (v := .bool (decide (t89.Turn ≠ t58.Turn))) rfl rfl) ?_
                              refine l_val rfl rfl rfl (r_move (v := .bool (decide (t89.Turn ≠ t58.Turn))) rfl) ?_
                              refine split (fun hb => ?_) (fun hb => ?_)
                              · have H98 := cnd_t hb H97; clear H97
                                refine l_passed rfl rfl rfl ?_
                                refine l_passed rfl rfl rfl ?_
                                refine l_passed rfl rfl rfl ?_
                                refine l_passed rfl rfl rfl ?_
                                refine l_passed rfl rfl rfl ?_
                                refine l_val rfl rfl rfl (r_pickT (v := .bool true) rfl rfl) ?_
                                refine l_val rfl rfl rfl (r_move (v := .bool true) rfl) ?_
                                refine l_passed rfl rfl rfl ?_
                                refine l_passed rfl rfl rfl ?_
                                refine l_passed rfl rfl rfl ?_
                                refine l_passed rfl rfl rfl ?_
                                refine l_passed rfl rfl rfl ?_
                                refine l_val rfl rfl rfl (r_pickT (v := .bool true) rfl rfl) ?_
                                refine l_val rfl rfl rfl (r_move (v := .bool true) rfl) ?_
                                refine l_passed rfl rfl rfl ?_
                                refine l_passed rfl rfl rfl ?_
                                refine l_passed rfl rfl rfl ?_
                                refine l_passed rfl rfl rfl ?_
                                refine l_passed rfl rfl rfl ?_
                                refine l_val rfl rfl rfl (r_pickT (v := .bool true) rfl rfl) ?_
                                refine l_nil ?_
                                refine c_true rfl ?_
                                refine c_seq ?_
                                refine c_region ?_
                                refine l_val rfl rfl rfl (r_assign (v := .bool false) rfl) ?_
                                refine l_nil ?_
                                refine c_ret ?_
                                obtain rfl := Option.some.inj H98
                                refine ret1 (v := .bool false) rfl rfl (fin rfl)
                              · have H99 := cnd_f hb H97; clear H97
                                refine l_val rfl rfl rfl (r_field Try.runUnderlying69 rfl Try.sizeOf3 rfl rfl) ?_
                                refine l_load1 (i := 3) (v := .int .i64 t89.Stars) Try.isAgg3 rfl rfl rfl rfl rfl ?_
                                refine l_val rfl rfl rfl (r_field Try.runUnderlying69 rfl Try.sizeOf3 rfl rfl) ?_
                                refine l_load1 (i := 2) (v := .int .i64 t58.Stars) Try.isAgg3 rfl rfl rfl rfl rfl ?_
                                refine l_val rfl rfl rfl (r_neq rfl rfl) ?_
                                refine l_val rfl rfl rfl (r_pickF (v := .bool (decide (t89.Stars ≠ t58.Stars))) rfl rfl) ?_
                                refine l_val rfl rfl rfl (r_move (v := .bool (decide (t89.Stars ≠ t58.Stars))) rfl) ?_
                                refine split (fun hb => ?_) (fun hb => ?_)
                                · have H100 := cnd_t hb H99; clear H99
                                  refine l_passed rfl rfl rfl ?_
                                  refine l_passed rfl rfl rfl ?_
                                  refine l_passed rfl rfl rfl ?_
                                  refine l_passed rfl rfl rfl ?_
                                  refine l_passed rfl rfl rfl ?_
                                  refine l_val rfl rfl rfl (r_pickT (v := .bool true) rfl rfl) ?_
                                  refine l_val rfl rfl rfl (r_move (v := .bool true) rfl) ?_
                                  refine l_passed rfl rfl rfl ?_
                                  refine l_passed rfl rfl rfl ?_
                                  refine l_passed rfl rfl rfl ?_
                                  refine l_passed rfl rfl rfl ?_
                                  refine l_passed rfl rfl rfl ?_
                                  refine l_val rfl rfl rfl (r_pickT (v := .bool true) rfl rfl) ?_
                                  refine l_nil ?_
                                  refine c_true rfl ?_
                                  refine c_seq ?_
                                  refine c_region ?_
                                  refine l_val rfl rfl rfl (r_assign (v := .bool false) rfl) ?_
                                  refine l_nil ?_
                                  refine c_ret ?_
                                  obtain rfl := Option.some.inj H100
                                  refine ret1 (v := .bool false) rfl rfl (fin rfl)
                                · have H101 := cnd_f hb H99; clear H99
                                  refine l_val rfl rfl rfl (r_field Try.runUnderlying69 rfl Try.sizeOf9 rfl rfl) ?_
                                  refine l_load1 (i := 3) (v := str t89.Caption) Try.isAgg9 rfl rfl rfl rfl rfl ?_
                                  refine l_val rfl rfl rfl (r_field Try.runUnderlying69 rfl Try.sizeOf9 rfl rfl) ?_
                                  refine l_load1 (i := 2) (v := str t58.Caption) Try.isAgg9 rfl rfl rfl rfl rfl ?_
                                  refine l_val rfl rfl rfl (r_neqT rfl rfl) ?_
                                  refine l_val rfl rfl rfl (r_pickF (v := .bool (decide (t89.Caption ≠ t58.Caption))) rfl rfl) ?_
                                  refine l_val rfl rfl rfl (r_move (v := .bool (decide (t89.Caption ≠ t58.Caption))) rfl) ?_
                                  refine split (fun hb => ?_) (fun hb => ?_)
                                  · have H102 := cnd_t hb H101; clear H101
                                    refine l_passed rfl rfl rfl ?_
                                    refine l_passed rfl rfl rfl ?_
                                    refine l_passed rfl rfl rfl ?_
                                    refine l_passed rfl rfl rfl ?_
                                    refine l_passed rfl rfl rfl ?_
                                    refine l_val rfl rfl rfl (r_pickT (v := .bool true) rfl rfl) ?_
                                    refine l_nil ?_
                                    refine c_true rfl ?_
                                    refine c_seq ?_
                                    refine c_region ?_
                                    refine l_val rfl rfl rfl (r_assign (v := .bool false) rfl) ?_
                                    refine l_nil ?_
                                    refine c_ret ?_
                                    obtain rfl := Option.some.inj H102
                                    refine ret1 (v := .bool false) rfl rfl (fin rfl)
                                  · have H103 := cnd_f hb H101; clear H101
                                    refine l_val rfl rfl rfl (r_field Try.runUnderlying69 rfl Try.sizeOf4 rfl rfl) ?_
                                    refine l_load1 (i := 3) (v := .bool t89.Hidden) Try.isAgg4 rfl rfl rfl rfl rfl ?_
                                    refine l_val rfl rfl rfl (r_field Try.runUnderlying69 rfl Try.sizeOf4 rfl rfl) ?_
                                    refine l_load1 (i := 2) (v := .bool t58.Hidden) Try.isAgg4 rfl rfl rfl rfl rfl ?_
                                    refine l_val rfl rfl rfl (r_neqB Try.underlying4 rfl rfl) ?_
                                    refine l_val rfl rfl rfl (r_pickF (v := .bool (decide (t89.Hidden ≠ t58.Hidden))) rfl rfl) ?_
                                    refine l_nil ?_
                                    refine c_if (b := (decide (t89.Hidden ≠ t58.Hidden))) rfl (fun hb => ?_) (fun hb => ?_)
                                    · have H104 := cnd_t hb H103; clear H103
                                      refine c_seq ?_
                                      refine c_region ?_
                                      refine l_val rfl rfl rfl (r_assign (v := .bool false) rfl) ?_
                                      refine l_nil ?_
                                      refine c_ret ?_
                                      obtain rfl := Option.some.inj H104
                                      refine ret1 (v := .bool false) rfl rfl (fin rfl)
                                    · have H105 := cnd_f hb H103; clear H103
                                      refine c_skip ?_
                                      refine c_region ?_
                                      obtain ⟨t182, h_t182, H106⟩ := bnd_some H105; clear H105
                                      refine l_val rfl rfl rfl (r_addG rfl rfl h_t182) ?_
                                      refine l_val rfl rfl rfl (r_move (v := .int .i64 t182) rfl) ?_
                                      refine l_nil ?_
                                      refine c_close t182 hp_4 m1 [0, 1] (by exact ⟨rfl, rfl, rfl, rfl, rfl, rfl, trivial⟩) (by decide) rfl (by exact ⟨(by subst hn1; exact H106), pf_4⟩) (Nat.lt_succ_self _)
        · have H116 := cnd_f hb H72; clear H72
          refine c_exit ?_
          refine c_seq ?_
          refine c_region ?_
          refine l_val rfl rfl rfl (r_assign (v := .bool true) rfl) ?_
          refine l_nil ?_
          refine c_ret ?_
          obtain rfl := Option.some.inj H116
          refine ret1 (v := .bool true) rfl rfl (fin rfl)
end Go.Proofs.Ytinpjnlocahjjaa
