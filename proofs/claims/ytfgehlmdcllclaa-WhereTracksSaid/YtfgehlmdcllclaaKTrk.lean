/- WhereTracks: the walks, printed by our generator; each follows its model. Conditions: the model yields a value. -/
import Derived.Test.YtfgehlmdcllclaaKW
namespace Go.Proofs.Ytfgehlmdcllclaa
open Go Go.Vc Go.Md Go.M Go.Lx
set_option maxRecDepth 100000
set_option maxHeartbeats 4000000
set_option linter.unusedVariables false

theorem k79 {a0 : Int} {r : Int} (H : R_far a0 = some r) : Ret Try.prog 79 [.int .i64 a0] (.int .i64 r) := by
  refine enterRet (n := 7) Try.func79 rfl rfl rfl (fun wd => ?_)
  refine c_seq ?_
  refine c_region ?_
  refine l_val rfl rfl rfl (r_assign (v := .int .i64 0) rfl) ?_
  refine l_nil ?_
  refine c_seq ?_
  refine c_region ?_
  refine l_val rfl rfl rfl (r_move (v := .int .i64 a0) rfl) ?_
  refine l_val rfl rfl rfl (r_move (v := .int .i64 a0) rfl) ?_
  obtain ⟨t5, h_t5, H2⟩ := bnd_some H; clear H
  refine l_val rfl rfl rfl (r_negG rfl h_t5) ?_
  refine l_val rfl rfl rfl (r_max rfl rfl) ?_
  refine l_val rfl rfl rfl (r_assign (v := .int .i64 (max a0 t5)) rfl) ?_
  refine l_nil ?_
  refine c_ret ?_
  obtain rfl := Option.some.inj H2
  refine ret1 (v := .int .i64 (max a0 t5)) rfl rfl (fin rfl)
theorem k30 {a0 : (List T_where_Fix)} {v0 : Value} {a1 : Int} {a2 : Int} {r : T_api_Place × Bool} {w : World} {h : Heap} (hw : Know h w noS) (f0 : FrS h 3 v0 (a0.map e_where_Fix)) (H : R_AtOf a0 a1 a2 = some r) : Does Try.prog 30 (List.toArray [v0, .int .i64 a1, .int .i64 a2]) w (fun v w' => v = (.tuple #[.agg #[.int .i64 r.1.Lat, .int .i64 r.1.Lon], .bool r.2]) ∧ Grow w w') := by
  refine enter (n := 138) Try.func30 rfl rfl rfl noS [] (Sat.nil _ _) ?_
  refine c_seq ?_
  refine c_region ?_
  refine l_alloc (cs := [.int .i64 0, .int .i64 0]) Try.zeroValue25 rfl rfl rfl (fun b5 => ?_)
  refine l_val rfl rfl rfl (r_assign (v := .bool false) rfl) ?_
  refine l_nil ?_
  refine c_seq ?_
  refine c_region ?_
  refine l_val rfl rfl rfl (r_assign (v := .int .i64 (-1)) rfl) ?_
  refine l_val rfl rfl rfl (r_assign (v := .int .i64 (-1)) rfl) ?_
  refine l_nil ?_
  refine c_meet (r := r) (σ := Int × Int) (τ := Unit) (fun s => R_AtOf_j1 a0 a1 a2 s.1 s.2) (fun s t => [(0, v0), (1, .int .i64 a1), (2, .int .i64 a2), (6, .pointer (some ⟨b5, 0, none⟩)), (8, .int .i64 s.1), (9, .int .i64 s.2)]) (fun s t => [cellsC b5 [.int .i64 0, .int .i64 0] 25]) (fun s t => True) ?_ ?_
  · refine c_seq ?_
    refine c_region ?_
    refine l_val rfl rfl rfl (r_move (v := v0) rfl) ?_
    refine l_val rfl rfl rfl (r_lenF Try.underlying49 rfl f0 rfl) ?_
    refine l_val rfl rfl rfl (r_move (v := .int .i64 0) rfl) ?_
    refine l_nil ?_
    refine c_block ?_
    refine c_fix (σ := Int × Int × Int) (τ := Unit) (fun next6 s => R_AtOf_l6 a0 a1 a2 next6 s.1 s.2.1 s.2.2) (fun s t => [(0, v0), (1, .int .i64 a1), (2, .int .i64 a2), (6, .pointer (some ⟨b5, 0, none⟩)), (8, .int .i64 s.1), (9, .int .i64 s.2.1), (17, v0), (18, .int .i64 (a0.length : Int)), (19, .int .i64 s.2.2)]) (fun s t => [cellsC b5 [.int .i64 0, .int .i64 0] 25]) (fun s t => True) ((-1), (-1), 0) () [0] H (by exact trivial) (by exact ⟨rfl, rfl, rfl, rfl, rfl, rfl, rfl, rfl, rfl, trivial⟩) (by decide) rfl ?_
    rintro ⟨x8_3, x9_3, x19_2⟩ _ m6 gg H99 _
    clear H
    replace H99 : R_AtOf_l6 a0 a1 a2 (it (fun next6 s => R_AtOf_l6 a0 a1 a2 next6 s.1 s.2.1 s.2.2) m6) x8_3 x9_3 x19_2 = some r := H99
    generalize hn6 : it (fun next6 s => R_AtOf_l6 a0 a1 a2 next6 s.1 s.2.1 s.2.2) m6 = next6 at H99
    refine c_tidyF [(0, v0), (1, .int .i64 a1), (2, .int .i64 a2), (6, .pointer (some ⟨b5, 0, none⟩)), (8, .int .i64 x8_3), (9, .int .i64 x9_3), (17, v0), (18, .int .i64 (a0.length : Int)), (19, .int .i64 x19_2)] [cellsC b5 [.int .i64 0, .int .i64 0] 25] rfl rfl ?_
    refine c_seq ?_
    refine c_region ?_
    refine l_val rfl rfl rfl (r_lss rfl rfl) ?_
    refine l_nil ?_
    refine c_seq ?_
    refine c_if (b := (decide (x19_2 < (a0.length : Int)))) rfl (fun hb => ?_) (fun hb => ?_)
    · have H100 := cnd_t hb H99; clear H99
      refine c_skip ?_
      refine c_meet (r := r) (σ := Int × Int) (τ := Unit) (fun s => R_AtOf_j7 x19_2 next6 s.1 s.2) (fun s t => [(0, v0), (1, .int .i64 a1), (2, .int .i64 a2), (6, .pointer (some ⟨b5, 0, none⟩)), (8, .int .i64 s.1), (9, .int .i64 s.2), (17, v0), (18, .int .i64 (a0.length : Int)), (19, .int .i64 x19_2)]) (fun s t => [cellsC b5 [.int .i64 0, .int .i64 0] 25]) (fun s t => True) ?_ ?_
      · refine c_block ?_
        refine c_seq ?_
        refine c_region ?_
        refine l_val rfl rfl rfl (r_move (v := .int .i64 x19_2) rfl) ?_
        obtain ⟨t22, h_t22, H103⟩ := bnd_some H100; clear H100
        refine l_val rfl rfl rfl (r_indexF Try.underlying49 Try.sizeOf78 rfl rfl f0 h_t22) ?_
        refine l_read (fun w hF hS => run_loadGN (j := 0) (vs := [.int .i64 t22.Moment, .int .i64 t22.Place.Lat, .int .i64 t22.Place.Lon]) Try.isAgg78 Try.sizeOf78 rfl rfl (f0.row (hw.now hF)) h_t22 rfl) rfl rfl rfl ?_
        refine l_alloc (cs := [.int .i64 0, .int .i64 0, .int .i64 0]) Try.zeroValue78 rfl rfl rfl (fun b9 => ?_)
        refine l_val rfl rfl rfl (r_assign (v := .int .i64 x19_2) rfl) ?_
        refine l_store (i := 1) (vs := [.int .i64 t22.Moment, .int .i64 t22.Place.Lat, .int .i64 t22.Place.Lon]) (cs' := [.int .i64 t22.Moment, .int .i64 t22.Place.Lat, .int .i64 t22.Place.Lon]) Try.sizeOf78 rfl rfl rfl rfl rfl rfl rfl rfl rfl ?_
        refine l_nil ?_
        refine c_block ?_
        refine c_seq ?_
        refine c_region ?_
        refine l_val rfl rfl rfl (r_field Try.runUnderlying78 rfl Try.sizeOf3 rfl rfl) ?_
        refine l_load1 (i := 1) (v := .int .i64 t22.Moment) Try.isAgg3 rfl rfl rfl rfl rfl ?_
        refine l_val rfl rfl rfl (r_move (v := .int .i64 a1) rfl) ?_
        refine l_val rfl rfl rfl (r_eql rfl rfl) ?_
        refine l_val rfl rfl rfl (r_assign (v := .bool (decide (t22.Moment = a1))) rfl) ?_
        refine l_nil ?_
        refine c_if (b := (decide (t22.Moment = a1))) rfl (fun hb => ?_) (fun hb => ?_)
        · have H104 := cnd_t hb H103; clear H103
          refine c_seq ?_
          refine c_region ?_
          refine l_val rfl rfl rfl (r_field Try.runUnderlying78 rfl Try.sizeOf25 rfl rfl) ?_
          refine l_loadN (i := 1) (vs := [.int .i64 t22.Place.Lat, .int .i64 t22.Place.Lon]) Try.isAgg25 Try.sizeOf25 rfl rfl rfl rfl rfl ?_
          refine l_store (i := 0) (vs := [.int .i64 t22.Place.Lat, .int .i64 t22.Place.Lon]) (cs' := [.int .i64 t22.Place.Lat, .int .i64 t22.Place.Lon]) Try.sizeOf25 rfl rfl rfl rfl rfl rfl rfl rfl rfl ?_
          refine l_val rfl rfl rfl (r_assign (v := .bool true) rfl) ?_
          refine l_nil ?_
          refine c_ret ?_
          obtain rfl := Option.some.inj H104
          refine retCt (i := 0) (vs := [.int .i64 t22.Place.Lat, .int .i64 t22.Place.Lon]) (v2 := .bool true) Try.isAgg25 Try.sizeOf25 rfl rfl rfl rfl rfl (fin rfl)
        · have H105 := cnd_f hb H103; clear H103
          refine c_seq ?_
          refine c_region ?_
          refine l_val rfl rfl rfl (r_field Try.runUnderlying78 rfl Try.sizeOf3 rfl rfl) ?_
          refine l_load1 (i := 1) (v := .int .i64 t22.Moment) Try.isAgg3 rfl rfl rfl rfl rfl ?_
          refine l_val rfl rfl rfl (r_move (v := .int .i64 a1) rfl) ?_
          refine l_val rfl rfl rfl (r_lss rfl rfl) ?_
          refine l_val rfl rfl rfl (r_assign (v := .bool (decide (t22.Moment < a1))) rfl) ?_
          refine l_nil ?_
          refine c_if (b := (decide (t22.Moment < a1))) rfl (fun hb => ?_) (fun hb => ?_)
          · have H106 := cnd_t hb H105; clear H105
            refine c_region ?_
            refine l_val rfl rfl rfl (r_move (v := .int .i64 x19_2) rfl) ?_
            refine l_val rfl rfl rfl (r_assign (v := .int .i64 x19_2) rfl) ?_
            refine l_nil ?_
            refine c_close (x19_2, x9_3) () 0 [0] (by exact ⟨rfl, rfl, rfl, rfl, rfl, rfl, rfl, rfl, rfl, trivial⟩) (by decide) rfl (by exact ⟨H106, trivial⟩) (Nat.lt_succ_self _)
          · have H107 := cnd_f hb H105; clear H105
            refine c_seq ?_
            refine c_region ?_
            refine l_val rfl rfl rfl (r_move (v := .int .i64 x9_3) rfl) ?_
            refine l_val rfl rfl rfl (r_lss rfl rfl) ?_
            refine l_val rfl rfl rfl (r_assign (v := .bool (decide (x9_3 < 0))) rfl) ?_
            refine l_nil ?_
            refine c_if (b := (decide (x9_3 < 0))) rfl (fun hb => ?_) (fun hb => ?_)
            · have H108 := cnd_t hb H107; clear H107
              refine c_region ?_
              refine l_val rfl rfl rfl (r_move (v := .int .i64 x19_2) rfl) ?_
              refine l_val rfl rfl rfl (r_assign (v := .int .i64 x19_2) rfl) ?_
              refine l_nil ?_
              refine c_close (x8_3, x19_2) () 0 [0] (by exact ⟨rfl, rfl, rfl, rfl, rfl, rfl, rfl, rfl, rfl, trivial⟩) (by decide) rfl (by exact ⟨H108, trivial⟩) (Nat.lt_succ_self _)
            · have H109 := cnd_f hb H107; clear H107
              refine c_skip ?_
              refine c_close (x8_3, x9_3) () 0 [0] (by exact ⟨rfl, rfl, rfl, rfl, rfl, rfl, rfl, rfl, rfl, trivial⟩) (by decide) rfl (by exact ⟨H109, trivial⟩) (Nat.lt_succ_self _)
      · rintro ⟨x8_4, x9_4⟩ _ gg H101 _
        replace H101 : R_AtOf_j7 x19_2 next6 x8_4 x9_4 = some r := H101
        refine c_tidyF [(0, v0), (1, .int .i64 a1), (2, .int .i64 a2), (6, .pointer (some ⟨b5, 0, none⟩)), (8, .int .i64 x8_4), (9, .int .i64 x9_4), (17, v0), (18, .int .i64 (a0.length : Int)), (19, .int .i64 x19_2)] [cellsC b5 [.int .i64 0, .int .i64 0] 25] rfl rfl ?_
        refine c_region ?_
        obtain ⟨t41, h_t41, H102⟩ := bnd_some H101; clear H101
        refine l_val rfl rfl rfl (r_addG rfl rfl h_t41) ?_
        refine l_val rfl rfl rfl (r_move (v := .int .i64 t41) rfl) ?_
        refine l_nil ?_
        refine c_close (x8_4, x9_4, t41) () m6 [0] (by exact ⟨rfl, rfl, rfl, rfl, rfl, rfl, rfl, rfl, rfl, trivial⟩) (by decide) rfl (by exact ⟨(by subst hn6; exact H102), trivial⟩) (Nat.lt_succ_self _)
    · have H110 := cnd_f hb H99; clear H99
      refine c_exit ?_
      refine c_close (x8_3, x9_3) () 0 [0] (by exact ⟨rfl, rfl, rfl, rfl, rfl, rfl, trivial⟩) (by decide) rfl (by exact ⟨H110, trivial⟩) (Nat.lt_succ_self _)
  · rintro ⟨x8, x9⟩ _ gg H56 _
    replace H56 : R_AtOf_j1 a0 a1 a2 x8 x9 = some r := H56
    refine c_tidyF [(0, v0), (1, .int .i64 a1), (2, .int .i64 a2), (6, .pointer (some ⟨b5, 0, none⟩)), (8, .int .i64 x8), (9, .int .i64 x9)] [cellsC b5 [.int .i64 0, .int .i64 0] 25] rfl rfl ?_
    refine c_meet (r := r) (σ := Unit) (τ := Unit) (fun s => R_AtOf_j2 a0 a1 a2 x8 x9) (fun s t => [(0, v0), (1, .int .i64 a1), (2, .int .i64 a2), (6, .pointer (some ⟨b5, 0, none⟩)), (8, .int .i64 x8), (9, .int .i64 x9)]) (fun s t => [cellsC b5 [.int .i64 0, .int .i64 0] 25]) (fun s t => True) ?_ ?_
    · refine c_seq ?_
      exact c_regionD (Kd.p :: Kd.p :: Kd.p :: Kd.p :: Kd.p :: Kd.p :: Kd.p :: Kd.p :: Kd.p :: Kd.p :: Kd.p :: Kd.d [] _ :: Kd.p :: Kd.p :: Kd.p :: Kd.p :: Kd.d [] _ :: Kd.p :: Kd.p :: Kd.p :: Kd.p :: []) 0 mixed (by
        refine d_val rfl rfl (r_move (v := .int .i64 x8) rfl) ?_
        refine d_val rfl rfl (r_geq rfl rfl) ?_
        refine d_val rfl rfl (r_move (v := .bool (decide (0 ≤ x8))) rfl) ?_
        refine splitS (fun hb => ?_) (fun hb => ?_)
        · have H85 := cnd_t hb H56
          refine d_val rfl rfl (r_move (v := .int .i64 x9) rfl) ?_
          refine d_val rfl rfl (r_geq rfl rfl) ?_
          refine d_val rfl rfl (r_pickT (v := .bool (decide (0 ≤ x9))) rfl rfl) ?_
          refine d_val rfl rfl (r_move (v := .bool (decide (0 ≤ x9))) rfl) ?_
          refine splitS (fun hb => ?_) (fun hb => ?_)
          · have H86 := cnd_t hb H85
            refine d_val rfl rfl (r_move (v := v0) rfl) ?_
            refine d_val rfl rfl (r_move (v := .int .i64 x9) rfl) ?_
            have h_t51 := bnd_val H86
            have H87 := bnd_rest H86
            refine d_val rfl rfl (r_indexF Try.underlying49 Try.sizeOf78 rfl rfl f0 h_t51) ?_
            refine d_val rfl rfl (r_fieldP Try.runUnderlying78 rfl Try.sizeOf3 rfl rfl (some_of_at f0 h_t51)) ?_
            refine d_read (fun w hF => run_loadG1 (j := 0) (v := .int .i64 (val (gAt a0 x9)).Moment) Try.isAgg3 rfl rfl (f0.row (hw.now hF)) h_t51 rfl) rfl rfl ?_
            refine d_val rfl rfl (r_move (v := v0) rfl) ?_
            refine d_val rfl rfl (r_move (v := .int .i64 x8) rfl) ?_
            have h_t56 := bnd_val H87
            have H88 := bnd_rest H87
            refine d_val rfl rfl (r_indexF Try.underlying49 Try.sizeOf78 rfl rfl f0 h_t56) ?_
            refine d_val rfl rfl (r_fieldP Try.runUnderlying78 rfl Try.sizeOf3 rfl rfl (some_of_at f0 h_t56)) ?_
            refine d_read (fun w hF => run_loadG1 (j := 0) (v := .int .i64 (val (gAt a0 x8)).Moment) Try.isAgg3 rfl rfl (f0.row (hw.now hF)) h_t56 rfl) rfl rfl ?_
            have h_t59 := bnd_val H88
            have H89 := bnd_rest H88
            refine d_val rfl rfl (r_subG rfl rfl h_t59) ?_
            refine d_val rfl rfl (r_move (v := .int .i64 a2) rfl) ?_
            refine d_val rfl rfl (r_leq rfl rfl) ?_
            refine d_val rfl rfl (r_pickT (v := .bool (decide ((val (gI ((val (gAt a0 x9)).Moment - (val (gAt a0 x8)).Moment))) ≤ a2))) rfl rfl) ?_
            refine d_nil ?_
            refine c_if (b := (decide ((val (gI ((val (gAt a0 x9)).Moment - (val (gAt a0 x8)).Moment))) ≤ a2))) rfl (fun hb => ?_) (fun hb => ?_)
            · have H90 := cnd_t hb H89; clear H89
              refine c_seq ?_
              exact c_regionD (Kd.p :: Kd.p :: Kd.p :: Kd.d [] _ :: Kd.p :: Kd.p :: Kd.p :: Kd.d [] _ :: Kd.nw 1 [_, _, _] 78 :: Kd.nw 2 [_, _, _] 78 :: Kd.st 12 1 [_, _, _] 78 :: Kd.st 13 2 [_, _, _] 78 :: []) 2 mixed (by
                refine d_val rfl rfl (r_move (v := v0) rfl) ?_
                refine d_val rfl rfl (r_move (v := .int .i64 x8) rfl) ?_
                have h_t65 := bnd_val H90
                have H91 := bnd_rest H90
                refine d_val rfl rfl (r_indexF Try.underlying49 Try.sizeOf78 rfl rfl f0 h_t65) ?_
                refine d_read (fun w hF => run_loadGN (j := 0) (vs := [.int .i64 (val (gAt a0 x8)).Moment, .int .i64 (val (gAt a0 x8)).Place.Lat, .int .i64 (val (gAt a0 x8)).Place.Lon]) Try.isAgg78 Try.sizeOf78 rfl rfl (f0.row (hw.now hF)) h_t65 rfl) rfl rfl ?_
                refine d_val rfl rfl (r_move (v := v0) rfl) ?_
                refine d_val rfl rfl (r_move (v := .int .i64 x9) rfl) ?_
                have h_t69 := bnd_val H91
                have H92 := bnd_rest H91
                refine d_val rfl rfl (r_indexF Try.underlying49 Try.sizeOf78 rfl rfl f0 h_t69) ?_
                refine d_read (fun w hF => run_loadGN (j := 0) (vs := [.int .i64 (val (gAt a0 x9)).Moment, .int .i64 (val (gAt a0 x9)).Place.Lat, .int .i64 (val (gAt a0 x9)).Place.Lon]) Try.isAgg78 Try.sizeOf78 rfl rfl (f0.row (hw.now hF)) h_t69 rfl) rfl rfl ?_
                refine d_new rfl rfl (run_alloc (cs := [.int .i64 0, .int .i64 0, .int .i64 0]) Try.zeroValue78 rfl) rfl (fun b7 => ?_)
                refine d_new rfl rfl (run_alloc (cs := [.int .i64 0, .int .i64 0, .int .i64 0]) Try.zeroValue78 rfl) rfl (fun b8 => ?_)
                refine d_store (i := 1) (vs := [.int .i64 (val (gAt a0 x8)).Moment, .int .i64 (val (gAt a0 x8)).Place.Lat, .int .i64 (val (gAt a0 x8)).Place.Lon]) (cs' := [.int .i64 (val (gAt a0 x8)).Moment, .int .i64 (val (gAt a0 x8)).Place.Lat, .int .i64 (val (gAt a0 x8)).Place.Lon]) Try.sizeOf78 rfl rfl rfl rfl rfl rfl rfl rfl rfl ?_
                refine d_store (i := 2) (vs := [.int .i64 (val (gAt a0 x9)).Moment, .int .i64 (val (gAt a0 x9)).Place.Lat, .int .i64 (val (gAt a0 x9)).Place.Lon]) (cs' := [.int .i64 (val (gAt a0 x9)).Moment, .int .i64 (val (gAt a0 x9)).Place.Lat, .int .i64 (val (gAt a0 x9)).Place.Lon]) Try.sizeOf78 rfl rfl rfl rfl rfl rfl rfl rfl rfl ?_
                refine d_nil ?_
                refine c_seq ?_
                refine c_region ?_
                refine l_val rfl rfl rfl (r_field Try.runUnderlying78 rfl Try.sizeOf25 rfl rfl) ?_
                refine l_loadN (i := 1) (vs := [.int .i64 (val (gAt a0 x8)).Place.Lat, .int .i64 (val (gAt a0 x8)).Place.Lon]) Try.isAgg25 Try.sizeOf25 rfl rfl rfl rfl rfl ?_
                refine l_val rfl rfl rfl (r_field Try.runUnderlying78 rfl Try.sizeOf25 rfl rfl) ?_
                refine l_loadN (i := 2) (vs := [.int .i64 (val (gAt a0 x9)).Place.Lat, .int .i64 (val (gAt a0 x9)).Place.Lon]) Try.isAgg25 Try.sizeOf25 rfl rfl rfl rfl rfl ?_
                refine l_val rfl rfl rfl (r_move (v := .int .i64 a1) rfl) ?_
                refine l_val rfl rfl rfl (r_field Try.runUnderlying78 rfl Try.sizeOf3 rfl rfl) ?_
                refine l_load1 (i := 1) (v := .int .i64 (val (gAt a0 x8)).Moment) Try.isAgg3 rfl rfl rfl rfl rfl ?_
                obtain ⟨t78, h_t78, H93⟩ := bnd_some H92; clear H92
                refine l_val rfl rfl rfl (r_subG rfl rfl h_t78) ?_
                refine l_val rfl rfl rfl (r_field Try.runUnderlying78 rfl Try.sizeOf3 rfl rfl) ?_
                refine l_load1 (i := 2) (v := .int .i64 (val (gAt a0 x9)).Moment) Try.isAgg3 rfl rfl rfl rfl rfl ?_
                refine l_val rfl rfl rfl (r_field Try.runUnderlying78 rfl Try.sizeOf3 rfl rfl) ?_
                refine l_load1 (i := 1) (v := .int .i64 (val (gAt a0 x8)).Moment) Try.isAgg3 rfl rfl rfl rfl rfl ?_
                obtain ⟨t83, h_t83, H94⟩ := bnd_some H93; clear H93
                refine l_val rfl rfl rfl (r_subG rfl rfl h_t83) ?_
                obtain ⟨t84, h_t84, H95⟩ := bnd_some H94; clear H94
                refine l_call (k38 h_t84) Try.call38 rfl rfl rfl ?_
                refine l_store (i := 0) (vs := [.int .i64 t84.Lat, .int .i64 t84.Lon]) (cs' := [.int .i64 t84.Lat, .int .i64 t84.Lon]) Try.sizeOf25 rfl rfl rfl rfl rfl rfl rfl rfl rfl ?_
                refine l_val rfl rfl rfl (r_assign (v := .bool true) rfl) ?_
                refine l_nil ?_
                refine c_ret ?_
                obtain rfl := Option.some.inj H95
                refine retCt (i := 0) (vs := [.int .i64 t84.Lat, .int .i64 t84.Lon]) (v2 := .bool true) Try.isAgg25 Try.sizeOf25 rfl rfl rfl rfl rfl (fin rfl)
                ) (by kernel_rfl)
            · have H96 := cnd_f hb H89; clear H89
              refine c_skip ?_
              refine c_close () () 0 [0] (by exact ⟨rfl, rfl, rfl, rfl, rfl, rfl, trivial⟩) (by decide) rfl (by exact ⟨H96, trivial⟩) (Nat.lt_succ_self _)
          · have H97 := cnd_f hb H85
            refine d_pass rfl rfl ?_
            refine d_pass rfl rfl ?_
            refine d_pass rfl rfl ?_
            refine d_pass rfl rfl ?_
            refine d_pass rfl rfl ?_
            refine d_pass rfl rfl ?_
            refine d_pass rfl rfl ?_
            refine d_pass rfl rfl ?_
            refine d_pass rfl rfl ?_
            refine d_pass rfl rfl ?_
            refine d_pass rfl rfl ?_
            refine d_pass rfl rfl ?_
            refine d_pass rfl rfl ?_
            refine d_val rfl rfl (r_pickF (v := .bool false) rfl rfl) ?_
            refine d_nil ?_
            refine c_false rfl ?_
            refine c_skip ?_
            refine c_close () () 0 [0] (by exact ⟨rfl, rfl, rfl, rfl, rfl, rfl, trivial⟩) (by decide) rfl (by exact ⟨H97, trivial⟩) (Nat.lt_succ_self _)
        · have H98 := cnd_f hb H56
          refine d_pass rfl rfl ?_
          refine d_pass rfl rfl ?_
          refine d_val rfl rfl (r_pickF (v := .bool false) rfl rfl) ?_
          refine d_val rfl rfl (r_move (v := .bool false) rfl) ?_
          refine d_pass rfl rfl ?_
          refine d_pass rfl rfl ?_
          refine d_pass rfl rfl ?_
          refine d_pass rfl rfl ?_
          refine d_pass rfl rfl ?_
          refine d_pass rfl rfl ?_
          refine d_pass rfl rfl ?_
          refine d_pass rfl rfl ?_
          refine d_pass rfl rfl ?_
          refine d_pass rfl rfl ?_
          refine d_pass rfl rfl ?_
          refine d_pass rfl rfl ?_
          refine d_pass rfl rfl ?_
          refine d_val rfl rfl (r_pickF (v := .bool false) rfl rfl) ?_
          refine d_nil ?_
          refine c_false rfl ?_
          refine c_skip ?_
          refine c_close () () 0 [0] (by exact ⟨rfl, rfl, rfl, rfl, rfl, rfl, trivial⟩) (by decide) rfl (by exact ⟨H98, trivial⟩) (Nat.lt_succ_self _)
        ) (by kernel_rfl)
    · rintro _ _ gg H57 _
      replace H57 : R_AtOf_j2 a0 a1 a2 x8 x9 = some r := H57
      refine c_tidyF [(0, v0), (1, .int .i64 a1), (2, .int .i64 a2), (6, .pointer (some ⟨b5, 0, none⟩)), (8, .int .i64 x8), (9, .int .i64 x9)] [cellsC b5 [.int .i64 0, .int .i64 0] 25] rfl rfl ?_
      refine c_seq ?_
      refine c_region ?_
      refine l_val rfl rfl rfl (r_assign (v := .int .i64 (-1)) rfl) ?_
      refine l_nil ?_
      refine c_meet (r := r) (σ := Int) (τ := Unit) (fun s => R_AtOf_j3 a0 s) (fun s t => [(0, v0), (6, .pointer (some ⟨b5, 0, none⟩)), (14, .int .i64 s)]) (fun s t => [cellsC b5 [.int .i64 0, .int .i64 0] 25]) (fun s t => True) ?_ ?_
      · refine c_seq ?_
        refine c_region ?_
        refine l_val rfl rfl rfl (r_move (v := .int .i64 x8) rfl) ?_
        refine l_val rfl rfl rfl (r_move (v := .int .i64 x9) rfl) ?_
        refine l_buildSlice (vs := [.int .i64 x8, .int .i64 x9]) (cs := [.int .i64 x8, .int .i64 x9]) Try.underlying55 Try.sizeOf3 Try.zeroValue3 rfl rfl rfl rfl rfl rfl rfl (fun b6 => ?_)
        refine l_val rfl rfl rfl (r_len Try.underlying55 rfl) ?_
        refine l_val rfl rfl rfl (r_move (v := .int .i64 0) rfl) ?_
        refine l_nil ?_
        refine c_block ?_
        refine c_fix (σ := Int × Int) (τ := Unit) (fun next4 s => R_AtOf_l4 a0 a1 a2 x8 x9 next4 s.1 s.2) (fun s t => [(0, v0), (1, .int .i64 a1), (2, .int .i64 a2), (6, .pointer (some ⟨b5, 0, none⟩)), (14, .int .i64 s.1), (87, .slice (some ⟨b6, 0, none⟩) 2 2), (88, .int .i64 2), (89, .int .i64 s.2)]) (fun s t => [cellsC b5 [.int .i64 0, .int .i64 0] 25, cellsC b6 [.int .i64 x8, .int .i64 x9] 3]) (fun s t => True) ((-1), 0) () [0, 1] H57 (by exact trivial) (by exact ⟨rfl, rfl, rfl, rfl, rfl, rfl, rfl, rfl, trivial⟩) (by decide) rfl ?_
        rintro ⟨x14_3, x89_2⟩ _ m4 gg H62 _
        clear H57
        replace H62 : R_AtOf_l4 a0 a1 a2 x8 x9 (it (fun next4 s => R_AtOf_l4 a0 a1 a2 x8 x9 next4 s.1 s.2) m4) x14_3 x89_2 = some r := H62
        generalize hn4 : it (fun next4 s => R_AtOf_l4 a0 a1 a2 x8 x9 next4 s.1 s.2) m4 = next4 at H62
        refine c_tidyF [(0, v0), (1, .int .i64 a1), (2, .int .i64 a2), (6, .pointer (some ⟨b5, 0, none⟩)), (14, .int .i64 x14_3), (87, .slice (some ⟨b6, 0, none⟩) 2 2), (88, .int .i64 2), (89, .int .i64 x89_2)] [cellsC b5 [.int .i64 0, .int .i64 0] 25, cellsC b6 [.int .i64 x8, .int .i64 x9] 3] rfl rfl ?_
        refine c_seq ?_
        refine c_region ?_
        refine l_val rfl rfl rfl (r_lss rfl rfl) ?_
        refine l_nil ?_
        refine c_seq ?_
        refine c_if (b := (decide (x89_2 < 2))) rfl (fun hb => ?_) (fun hb => ?_)
        · have H63 := cnd_t hb H62; clear H62
          refine c_skip ?_
          refine c_meet (r := r) (σ := Int) (τ := Unit) (fun s => R_AtOf_j5 x89_2 next4 s) (fun s t => [(0, v0), (1, .int .i64 a1), (2, .int .i64 a2), (6, .pointer (some ⟨b5, 0, none⟩)), (14, .int .i64 s), (87, .slice (some ⟨b6, 0, none⟩) 2 2), (88, .int .i64 2), (89, .int .i64 x89_2)]) (fun s t => [cellsC b5 [.int .i64 0, .int .i64 0] 25, cellsC b6 [.int .i64 x8, .int .i64 x9] 3]) (fun s t => True) ?_ ?_
          · refine c_block ?_
            refine c_seq ?_
            refine c_region ?_
            obtain ⟨t91, h_t91, H66⟩ := bnd_some H63; clear H63
            refine l_val rfl rfl rfl (r_indexS Try.underlying55 Try.sizeOf3 rfl rfl h_t91 rfl) ?_
            refine l_read (fun w hF hS => run_loadG1 (j := 0) (v := .int .i64 t91) Try.isAgg3 rfl rfl (row_box (sz := 1) (xs := ([x8, x9] : List Int).map e_i64) (i := 1) hS rfl rfl rfl) h_t91 rfl) rfl rfl rfl ?_
            refine l_val rfl rfl rfl (r_assign (v := .int .i64 t91) rfl) ?_
            refine l_nil ?_
            refine c_seq ?_
            refine c_seq ?_
            refine c_region ?_
            refine l_val rfl rfl rfl (r_move (v := .int .i64 t91) rfl) ?_
            refine l_val rfl rfl rfl (r_lss rfl rfl) ?_
            refine l_val rfl rfl rfl (r_move (v := .bool (decide (t91 < 0))) rfl) ?_
            refine split (fun hb => ?_) (fun hb => ?_)
            · have H67 := cnd_t hb H66; clear H66
              refine l_passed rfl rfl rfl ?_
              refine l_passed rfl rfl rfl ?_
              refine l_passed rfl rfl rfl ?_
              refine l_passed rfl rfl rfl ?_
              refine l_passed rfl rfl rfl ?_
              refine l_passed rfl rfl rfl ?_
              refine l_passed rfl rfl rfl ?_
              refine l_passed rfl rfl rfl ?_
              refine l_passed rfl rfl rfl ?_
              refine l_passed rfl rfl rfl ?_
              refine l_val rfl rfl rfl (r_pickT (v := .bool true) rfl rfl) ?_
              refine l_nil ?_
              refine c_true rfl ?_
              refine c_exit ?_
              refine c_close x14_3 () 0 [0, 1] (by exact ⟨rfl, rfl, rfl, rfl, rfl, rfl, rfl, rfl, trivial⟩) (by decide) rfl (by exact ⟨H67, trivial⟩) (Nat.lt_succ_self _)
            · have H68 := cnd_f hb H66; clear H66
              refine l_val rfl rfl rfl (r_move (v := v0) rfl) ?_
              refine l_val rfl rfl rfl (r_move (v := .int .i64 t91) rfl) ?_
              obtain ⟨t98, h_t98, H69⟩ := bnd_some H68; clear H68
              refine l_val rfl rfl rfl (r_indexF Try.underlying49 Try.sizeOf78 rfl rfl f0 h_t98) ?_
              refine l_val rfl rfl rfl (r_fieldP Try.runUnderlying78 rfl Try.sizeOf3 rfl rfl (some_of_at f0 h_t98)) ?_
              refine l_read (fun w hF hS => run_loadG1 (j := 0) (v := .int .i64 t98.Moment) Try.isAgg3 rfl rfl (f0.row (hw.now hF)) h_t98 rfl) rfl rfl rfl ?_
              refine l_val rfl rfl rfl (r_move (v := .int .i64 a1) rfl) ?_
              obtain ⟨t102, h_t102, H70⟩ := bnd_some H69; clear H69
              refine l_val rfl rfl rfl (r_subG rfl rfl h_t102) ?_
              obtain ⟨t103, h_t103, H71⟩ := bnd_some H70; clear H70
              refine l_call (k79 h_t103) Try.call79 rfl rfl rfl ?_
              refine l_val rfl rfl rfl (r_move (v := .int .i64 a2) rfl) ?_
              refine l_val rfl rfl rfl (r_gtr rfl rfl) ?_
              refine l_val rfl rfl rfl (r_pickF (v := .bool (decide (a2 < t103))) rfl rfl) ?_
              refine l_nil ?_
              refine c_if (b := (decide (a2 < t103))) rfl (fun hb => ?_) (fun hb => ?_)
              · have H72 := cnd_t hb H71; clear H71
                refine c_exit ?_
                refine c_close x14_3 () 0 [0, 1] (by exact ⟨rfl, rfl, rfl, rfl, rfl, rfl, rfl, rfl, trivial⟩) (by decide) rfl (by exact ⟨H72, trivial⟩) (Nat.lt_succ_self _)
              · have H73 := cnd_f hb H71; clear H71
                refine c_skip ?_
                refine c_seq ?_
                exact c_regionD (Kd.p :: Kd.p :: Kd.p :: Kd.p :: Kd.p :: Kd.p :: Kd.p :: Kd.d [] _ :: Kd.p :: Kd.p :: Kd.d [] _ :: Kd.p :: Kd.p :: Kd.p :: Kd.p :: Kd.d [] _ :: Kd.p :: Kd.p :: Kd.d [] _ :: Kd.p :: Kd.p :: []) 0 mixed (by
                  refine d_val rfl rfl (r_move (v := .int .i64 x14_3) rfl) ?_
                  refine d_val rfl rfl (r_lss rfl rfl) ?_
                  refine d_val rfl rfl (r_move (v := .bool (decide (x14_3 < 0))) rfl) ?_
                  refine splitS (fun hb => ?_) (fun hb => ?_)
                  · have H74 := cnd_t hb H73
                    refine d_pass rfl rfl ?_
                    refine d_pass rfl rfl ?_
                    refine d_pass rfl rfl ?_
                    refine d_pass rfl rfl ?_
                    refine d_pass rfl rfl ?_
                    refine d_pass rfl rfl ?_
                    refine d_pass rfl rfl ?_
                    refine d_pass rfl rfl ?_
                    refine d_pass rfl rfl ?_
                    refine d_pass rfl rfl ?_
                    refine d_pass rfl rfl ?_
                    refine d_pass rfl rfl ?_
                    refine d_pass rfl rfl ?_
                    refine d_pass rfl rfl ?_
                    refine d_pass rfl rfl ?_
                    refine d_pass rfl rfl ?_
                    refine d_pass rfl rfl ?_
                    refine d_val rfl rfl (r_pickT (v := .bool true) rfl rfl) ?_
                    refine d_nil ?_
                    refine c_true rfl ?_
                    refine c_region ?_
                    refine l_val rfl rfl rfl (r_move (v := .int .i64 t91) rfl) ?_
                    refine l_val rfl rfl rfl (r_assign (v := .int .i64 t91) rfl) ?_
                    refine l_nil ?_
                    refine c_close t91 () 0 [0, 1] (by exact ⟨rfl, rfl, rfl, rfl, rfl, rfl, rfl, rfl, trivial⟩) (by decide) rfl (by exact ⟨H74, trivial⟩) (Nat.lt_succ_self _)
                  · have H75 := cnd_f hb H73
                    refine d_val rfl rfl (r_move (v := v0) rfl) ?_
                    refine d_val rfl rfl (r_move (v := .int .i64 t91) rfl) ?_
                    have h_t112 := bnd_val H75
                    have H76 := bnd_rest H75
                    refine d_val rfl rfl (r_indexF Try.underlying49 Try.sizeOf78 rfl rfl f0 h_t112) ?_
                    refine d_val rfl rfl (r_fieldP Try.runUnderlying78 rfl Try.sizeOf3 rfl rfl (some_of_at f0 h_t112)) ?_
                    refine d_read (fun w hF => run_loadG1 (j := 0) (v := .int .i64 (val (gAt a0 t91)).Moment) Try.isAgg3 rfl rfl (f0.row (hw.now hF)) h_t112 rfl) rfl rfl ?_
                    refine d_val rfl rfl (r_move (v := .int .i64 a1) rfl) ?_
                    have h_t116 := bnd_val H76
                    have H77 := bnd_rest H76
                    refine d_val rfl rfl (r_subG rfl rfl h_t116) ?_
                    have h_t117 := bnd_val H77
                    have H78 := bnd_rest H77
                    refine d_call (k79 h_t117) Try.call79 rfl rfl ?_
                    refine d_val rfl rfl (r_move (v := v0) rfl) ?_
                    refine d_val rfl rfl (r_move (v := .int .i64 x14_3) rfl) ?_
                    have h_t120 := bnd_val H78
                    have H79 := bnd_rest H78
                    refine d_val rfl rfl (r_indexF Try.underlying49 Try.sizeOf78 rfl rfl f0 h_t120) ?_
                    refine d_val rfl rfl (r_fieldP Try.runUnderlying78 rfl Try.sizeOf3 rfl rfl (some_of_at f0 h_t120)) ?_
                    refine d_read (fun w hF => run_loadG1 (j := 0) (v := .int .i64 (val (gAt a0 x14_3)).Moment) Try.isAgg3 rfl rfl (f0.row (hw.now hF)) h_t120 rfl) rfl rfl ?_
                    refine d_val rfl rfl (r_move (v := .int .i64 a1) rfl) ?_
                    have h_t124 := bnd_val H79
                    have H80 := bnd_rest H79
                    refine d_val rfl rfl (r_subG rfl rfl h_t124) ?_
                    have h_t125 := bnd_val H80
                    have H81 := bnd_rest H80
                    refine d_call (k79 h_t125) Try.call79 rfl rfl ?_
                    refine d_val rfl rfl (r_lss rfl rfl) ?_
                    refine d_val rfl rfl (r_pickF (v := .bool (decide ((val (R_far (val (gI ((val (gAt a0 t91)).Moment - a1))))) < (val (R_far (val (gI ((val (gAt a0 x14_3)).Moment - a1)))))))) rfl rfl) ?_
                    refine d_nil ?_
                    refine c_if (b := (decide ((val (R_far (val (gI ((val (gAt a0 t91)).Moment - a1))))) < (val (R_far (val (gI ((val (gAt a0 x14_3)).Moment - a1)))))))) rfl (fun hb => ?_) (fun hb => ?_)
                    · have H82 := cnd_t hb H81; clear H81
                      refine c_region ?_
                      refine l_val rfl rfl rfl (r_move (v := .int .i64 t91) rfl) ?_
                      refine l_val rfl rfl rfl (r_assign (v := .int .i64 t91) rfl) ?_
                      refine l_nil ?_
                      refine c_close t91 () 0 [0, 1] (by exact ⟨rfl, rfl, rfl, rfl, rfl, rfl, rfl, rfl, trivial⟩) (by decide) rfl (by exact ⟨H82, trivial⟩) (Nat.lt_succ_self _)
                    · have H83 := cnd_f hb H81; clear H81
                      refine c_skip ?_
                      refine c_close x14_3 () 0 [0, 1] (by exact ⟨rfl, rfl, rfl, rfl, rfl, rfl, rfl, rfl, trivial⟩) (by decide) rfl (by exact ⟨H83, trivial⟩) (Nat.lt_succ_self _)
                  ) (by kernel_rfl)
          · rintro x14_4 _ gg H64 _
            replace H64 : R_AtOf_j5 x89_2 next4 x14_4 = some r := H64
            refine c_tidyF [(0, v0), (1, .int .i64 a1), (2, .int .i64 a2), (6, .pointer (some ⟨b5, 0, none⟩)), (14, .int .i64 x14_4), (87, .slice (some ⟨b6, 0, none⟩) 2 2), (88, .int .i64 2), (89, .int .i64 x89_2)] [cellsC b5 [.int .i64 0, .int .i64 0] 25, cellsC b6 [.int .i64 x8, .int .i64 x9] 3] rfl rfl ?_
            refine c_region ?_
            obtain ⟨t129, h_t129, H65⟩ := bnd_some H64; clear H64
            refine l_val rfl rfl rfl (r_addG rfl rfl h_t129) ?_
            refine l_val rfl rfl rfl (r_move (v := .int .i64 t129) rfl) ?_
            refine l_nil ?_
            refine c_close (x14_4, t129) () m4 [0, 1] (by exact ⟨rfl, rfl, rfl, rfl, rfl, rfl, rfl, rfl, trivial⟩) (by decide) rfl (by exact ⟨(by subst hn4; exact H65), trivial⟩) (Nat.lt_succ_self _)
        · have H84 := cnd_f hb H62; clear H62
          refine c_exit ?_
          refine c_close x14_3 () 0 [0] (by exact ⟨rfl, rfl, rfl, trivial⟩) (by decide) rfl (by exact ⟨H84, trivial⟩) (Nat.lt_succ_self _)
      · rintro x14 _ gg H58 _
        replace H58 : R_AtOf_j3 a0 x14 = some r := H58
        refine c_tidyF [(0, v0), (6, .pointer (some ⟨b5, 0, none⟩)), (14, .int .i64 x14)] [cellsC b5 [.int .i64 0, .int .i64 0] 25] rfl rfl ?_
        refine c_seq ?_
        refine c_seq ?_
        refine c_region ?_
        refine l_val rfl rfl rfl (r_move (v := .int .i64 x14) rfl) ?_
        refine l_val rfl rfl rfl (r_lss rfl rfl) ?_
        refine l_nil ?_
        refine c_if (b := (decide (x14 < 0))) rfl (fun hb => ?_) (fun hb => ?_)
        · have H59 := cnd_t hb H58; clear H58
          refine c_seq ?_
          refine c_region ?_
          refine l_val rfl rfl rfl (r_build (pl := #[(0, 1), (1, 1)]) (ps := []) (cells := #[.int .i64 0, .int .i64 0]) Try.zeroValue25 Try.runUnderlying25 (fun w => by kernel_rfl) rfl rfl) ?_
          refine l_store (i := 0) (vs := [.int .i64 0, .int .i64 0]) (cs' := [.int .i64 0, .int .i64 0]) Try.sizeOf25 rfl rfl rfl rfl rfl rfl rfl rfl rfl ?_
          refine l_val rfl rfl rfl (r_assign (v := .bool false) rfl) ?_
          refine l_nil ?_
          refine c_ret ?_
          obtain rfl := Option.some.inj H59
          refine retCt (i := 0) (vs := [.int .i64 0, .int .i64 0]) (v2 := .bool false) Try.isAgg25 Try.sizeOf25 rfl rfl rfl rfl rfl (fin rfl)
        · have H60 := cnd_f hb H58; clear H58
          refine c_skip ?_
          refine c_seq ?_
          refine c_region ?_
          refine l_val rfl rfl rfl (r_move (v := v0) rfl) ?_
          refine l_val rfl rfl rfl (r_move (v := .int .i64 x14) rfl) ?_
          obtain ⟨t135, h_t135, H61⟩ := bnd_some H60; clear H60
          refine l_val rfl rfl rfl (r_indexF Try.underlying49 Try.sizeOf78 rfl rfl f0 h_t135) ?_
          refine l_val rfl rfl rfl (r_fieldP Try.runUnderlying78 rfl Try.sizeOf25 rfl rfl (some_of_at f0 h_t135)) ?_
          refine l_read (fun w hF hS => run_loadGN (j := 1) (vs := [.int .i64 t135.Place.Lat, .int .i64 t135.Place.Lon]) Try.isAgg25 Try.sizeOf25 rfl rfl (f0.row (hw.now hF)) h_t135 rfl) rfl rfl rfl ?_
          refine l_store (i := 0) (vs := [.int .i64 t135.Place.Lat, .int .i64 t135.Place.Lon]) (cs' := [.int .i64 t135.Place.Lat, .int .i64 t135.Place.Lon]) Try.sizeOf25 rfl rfl rfl rfl rfl rfl rfl rfl rfl ?_
          refine l_val rfl rfl rfl (r_assign (v := .bool true) rfl) ?_
          refine l_nil ?_
          refine c_ret ?_
          obtain rfl := Option.some.inj H61
          refine retCt (i := 0) (vs := [.int .i64 t135.Place.Lat, .int .i64 t135.Place.Lon]) (v2 := .bool true) Try.isAgg25 Try.sizeOf25 rfl rfl rfl rfl rfl (fin rfl)
theorem k115 {a0 : Int} {a1 : (Int → Option (Bool))} {v1 : Value} {r : Int} {w : World} {h : Heap} (hw : Know h w noS) (f1 : FnH Try.prog h v1 (fnR_func_int_bool a1)) (H : sort_Search a0 a1 = some r) : Does Try.prog 115 (List.toArray [.int .i64 a0, v1]) w (fun v w' => v = (.int .i64 r) ∧ Grow w w') := by
  refine enter (n := 26) Try.func115 rfl rfl rfl noS [] (Sat.nil _ _) ?_
  refine c_seq ?_
  refine c_region ?_
  refine l_val rfl rfl rfl (r_assign (v := .int .i64 0) rfl) ?_
  refine l_nil ?_
  refine c_seq ?_
  refine c_region ?_
  refine l_val rfl rfl rfl (r_move (v := .int .i64 a0) rfl) ?_
  refine l_val rfl rfl rfl (r_assign (v := .int .i64 0) rfl) ?_
  refine l_val rfl rfl rfl (r_assign (v := .int .i64 a0) rfl) ?_
  refine l_nil ?_
  refine c_seq ?_
  refine c_block ?_
  refine c_fix (σ := Int × Int) (τ := Unit) (fun next1 s => sort_Search_l1 a1 next1 s.1 s.2) (fun s t => [(1, v1), (5, .int .i64 s.1), (6, .int .i64 s.2)]) (fun s t => []) (fun s t => True) (0, a0) () [] H (by exact trivial) (by exact ⟨rfl, rfl, rfl, trivial⟩) (by decide) rfl ?_
  rintro ⟨x5_2, x6_2⟩ _ m1 gg H10 _
  clear H
  replace H10 : sort_Search_l1 a1 (it (fun next1 s => sort_Search_l1 a1 next1 s.1 s.2) m1) x5_2 x6_2 = some r := H10
  generalize hn1 : it (fun next1 s => sort_Search_l1 a1 next1 s.1 s.2) m1 = next1 at H10
  refine c_tidyF [(1, v1), (5, .int .i64 x5_2), (6, .int .i64 x6_2)] [] rfl rfl ?_
  refine c_seq ?_
  refine c_seq ?_
  refine c_region ?_
  refine l_val rfl rfl rfl (r_move (v := .int .i64 x5_2) rfl) ?_
  refine l_val rfl rfl rfl (r_move (v := .int .i64 x6_2) rfl) ?_
  refine l_val rfl rfl rfl (r_lss rfl rfl) ?_
  refine l_nil ?_
  refine c_if (b := (decide (x5_2 < x6_2))) rfl (fun hb => ?_) (fun hb => ?_)
  · have H11 := cnd_t hb H10; clear H10
    refine c_skip ?_
    refine c_block ?_
    refine c_seq ?_
    refine c_region ?_
    refine l_val rfl rfl rfl (r_move (v := .int .i64 x5_2) rfl) ?_
    refine l_val rfl rfl rfl (r_move (v := .int .i64 x6_2) rfl) ?_
    obtain ⟨t14, h_t14, H12⟩ := bnd_some H11; clear H11
    refine l_val rfl rfl rfl (r_addG rfl rfl h_t14) ?_
    refine l_val rfl rfl rfl (r_convG Try.runUnderlying3 Try.runUnderlying140 rfl (wr_u64 _)) ?_
    obtain ⟨t16, h_t16, H13⟩ := bnd_some H12; clear H12
    refine l_val rfl rfl rfl (r_shrG rfl rfl rfl h_t16) ?_
    refine l_val rfl rfl rfl (r_convG Try.runUnderlying140 Try.runUnderlying3 rfl (wr_i64 _)) ?_
    refine l_val rfl rfl rfl (r_assign (v := .int .i64 (wI64 t16)) rfl) ?_
    refine l_nil ?_
    refine c_seq ?_
    refine c_region ?_
    refine l_val rfl rfl rfl (r_move (v := v1) rfl) ?_
    refine l_val rfl rfl rfl (r_move (v := .int .i64 (wI64 t16)) rfl) ?_
    obtain ⟨t20, h_t20, H14⟩ := bnd_some H13; clear H13
    refine l_callV (R := fnR_func_int_bool a1) (r := .bool t20) (v := v1) (fun w hF hS => ⟨(f1.mono (hw.now hF)), ⟨(wI64 t16), _, rfl, h_t20, rfl⟩⟩) rfl rfl rfl rfl ?_
    refine l_val rfl rfl rfl (r_not rfl) ?_
    refine l_nil ?_
    refine c_if (b := (!t20)) rfl (fun hb => ?_) (fun hb => ?_)
    · have H15 := cnd_t hb H14; clear H14
      refine c_region ?_
      refine l_val rfl rfl rfl (r_move (v := .int .i64 (wI64 t16)) rfl) ?_
      obtain ⟨t23, h_t23, H16⟩ := bnd_some H15; clear H15
      refine l_val rfl rfl rfl (r_addG rfl rfl h_t23) ?_
      refine l_val rfl rfl rfl (r_assign (v := .int .i64 t23) rfl) ?_
      refine l_nil ?_
      refine c_close (t23, x6_2) () m1 [] (by exact ⟨rfl, rfl, rfl, trivial⟩) (by decide) rfl (by exact ⟨(by subst hn1; exact H16), trivial⟩) (Nat.lt_succ_self _)
    · have H17 := cnd_f hb H14; clear H14
      refine c_region ?_
      refine l_val rfl rfl rfl (r_move (v := .int .i64 (wI64 t16)) rfl) ?_
      refine l_val rfl rfl rfl (r_assign (v := .int .i64 (wI64 t16)) rfl) ?_
      refine l_nil ?_
      refine c_close (x5_2, (wI64 t16)) () m1 [] (by exact ⟨rfl, rfl, rfl, trivial⟩) (by decide) rfl (by exact ⟨(by subst hn1; exact H17), trivial⟩) (Nat.lt_succ_self _)
  · have H18 := cnd_f hb H10; clear H10
    refine c_exit ?_
    refine c_seq ?_
    refine c_region ?_
    refine l_val rfl rfl rfl (r_move (v := .int .i64 x5_2) rfl) ?_
    refine l_val rfl rfl rfl (r_assign (v := .int .i64 x5_2) rfl) ?_
    refine l_nil ?_
    refine c_ret ?_
    obtain rfl := Option.some.inj H18
    refine ret1 (v := .int .i64 x5_2) rfl rfl (fin rfl)
theorem k116 {q0 : (List T_where_Fix)} {vq0 : Value} {c0 : Nat} {q1 : Int} {c1 : Nat} {a0 : Int} {r : Bool} {w : World} {h : Heap} (hw : Know h w noS) (fq0 : FrS h 3 vq0 (q0.map e_where_Fix)) (hc0 : h c0 = some (.cells (List.toArray [vq0]) 49 (0, 0))) (hc1 : h c1 = some (.cells (List.toArray [.int .i64 q1]) 3 (0, 0))) (H : where_at_1 q0 q1 a0 = some r) : Does Try.prog 116 (List.toArray [.int .i64 a0, .pointer (some ⟨c0, 0, none⟩), .pointer (some ⟨c1, 0, none⟩)]) w (fun v w' => v = (.bool r) ∧ Grow w w') := by
  refine enter (n := 12) Try.func116 rfl rfl rfl noS [] (Sat.nil _ _) ?_
  refine c_seq ?_
  refine c_region ?_
  refine l_val rfl rfl rfl (r_assign (v := .bool false) rfl) ?_
  refine l_nil ?_
  refine c_seq ?_
  exact c_regionD (Kd.d [] _ :: Kd.p :: Kd.p :: Kd.p :: Kd.d [] _ :: Kd.d [] _ :: Kd.p :: Kd.p :: []) 0 mixed (by
    refine d_read (fun w hF => run_loadK1 (v := vq0) Try.isAgg49 rfl (hw.now hF _ _ hc0) rfl) rfl rfl ?_
    refine d_val rfl rfl (r_move (v := .int .i64 a0) rfl) ?_
    have h_t7 := bnd_val H
    have H2 := bnd_rest H
    refine d_val rfl rfl (r_indexF Try.underlying49 Try.sizeOf78 rfl rfl fq0 h_t7) ?_
    refine d_val rfl rfl (r_fieldP Try.runUnderlying78 rfl Try.sizeOf3 rfl rfl (some_of_at fq0 h_t7)) ?_
    refine d_read (fun w hF => run_loadG1 (j := 0) (v := .int .i64 (val (gAt q0 a0)).Moment) Try.isAgg3 rfl rfl (fq0.row (hw.now hF)) h_t7 rfl) rfl rfl ?_
    refine d_read (fun w hF => run_loadK1 (v := .int .i64 q1) Try.isAgg3 rfl (hw.now hF _ _ hc1) rfl) rfl rfl ?_
    refine d_val rfl rfl (r_geq rfl rfl) ?_
    refine d_val rfl rfl (r_assign (v := .bool (decide (q1 ≤ (val (gAt q0 a0)).Moment))) rfl) ?_
    refine d_nil ?_
    refine c_ret ?_
    obtain rfl := Option.some.inj H2
    refine ret1 (v := .bool (decide (q1 ≤ (val (gAt q0 a0)).Moment))) rfl rfl (fin rfl)
    ) (by kernel_rfl)
theorem k77 {a0 : (List T_where_Fix)} {v0 : Value} {a1 : Int} {a2 : Int} {r : T_api_Place × Bool} {w : World} {h : Heap} (hw : Know h w noS) (f0 : FrS h 3 v0 (a0.map e_where_Fix)) (H : where_at a0 a1 a2 = some r) : Does Try.prog 77 (List.toArray [v0, .int .i64 a1, .int .i64 a2]) w (fun v w' => v = (.tuple #[.agg #[.int .i64 r.1.Lat, .int .i64 r.1.Lon], .bool r.2]) ∧ Grow w w') := by
  refine enter (n := 129) Try.func77 rfl rfl rfl noS [] (Sat.nil _ _) ?_
  refine c_seq ?_
  refine c_region ?_
  refine l_box (cs := [v0]) rfl rfl rfl f0.cells (fun b3 => ?_)
  refine l_box (cs := [.int .i64 a1]) rfl rfl rfl rfl (fun b4 => ?_)
  refine l_alloc (cs := [.int .i64 0, .int .i64 0]) Try.zeroValue25 rfl rfl rfl (fun b5 => ?_)
  refine l_val rfl rfl rfl (r_assign (v := .bool false) rfl) ?_
  refine l_nil ?_
  refine c_seq ?_
  refine c_region ?_
  refine l_load1 (i := 0) (v := v0) Try.isAgg49 rfl rfl rfl rfl rfl ?_
  refine l_val rfl rfl rfl (r_lenF Try.underlying49 rfl f0 rfl) ?_
  refine l_val rfl rfl rfl (r_makeFn (caps := #[.pointer (some ⟨b3, 0, none⟩), .pointer (some ⟨b4, 0, none⟩)]) rfl) ?_
  obtain ⟨t14, h_t14, H50⟩ := bnd_some H; clear H
  refine l_callG (fun w hF hS => k115 (know_all w) (FnH.mk ⟨116, #[.pointer (some ⟨b3, 0, none⟩), .pointer (some ⟨b4, 0, none⟩)], rfl, Try.call116, fun args2 post2 w2 hk2 hR2 => by obtain ⟨a0_, r_, rfl, H_, rfl⟩ := hR2; exact k116 (know_all w2) ((f0.mono (hw.now hF)).mono hk2.up) (hk2.up _ _ (sat_cell (i := 0) hS rfl)) (hk2.up _ _ (sat_cell (i := 1) hS rfl)) H_⟩) h_t14) Try.call115 rfl rfl rfl ?_
  refine l_val rfl rfl rfl (r_assign (v := .int .i64 t14) rfl) ?_
  refine l_nil ?_
  refine c_meet (r := r) (σ := Unit) (τ := Unit) (fun s => where_at_j1 a0 a1 a2 t14) (fun s t => [(2, .int .i64 a2), (3, .pointer (some ⟨b3, 0, none⟩)), (4, .pointer (some ⟨b4, 0, none⟩)), (6, .pointer (some ⟨b5, 0, none⟩)), (8, .int .i64 t14)]) (fun s t => [cellsC b3 [v0] 49, cellsC b4 [.int .i64 a1] 3, cellsC b5 [.int .i64 0, .int .i64 0] 25]) (fun s t => True) ?_ ?_
  · refine c_seq ?_
    exact c_regionD (Kd.p :: Kd.d [0] _ :: Kd.p :: Kd.p :: Kd.p :: Kd.d [0] _ :: Kd.p :: Kd.p :: Kd.p :: Kd.d [] _ :: Kd.d [1] _ :: Kd.p :: Kd.p :: []) 0 mixed (by
      refine d_val rfl rfl (r_move (v := .int .i64 t14) rfl) ?_
      refine d_load1 (i := 0) (v := v0) Try.isAgg49 rfl rfl rfl rfl ?_
      refine d_val rfl rfl (r_lenF Try.underlying49 rfl f0 rfl) ?_
      refine d_val rfl rfl (r_lss rfl rfl) ?_
      refine d_val rfl rfl (r_move (v := .bool (decide (t14 < (a0.length : Int)))) rfl) ?_
      refine splitS (fun hb => ?_) (fun hb => ?_)
      · have H93 := cnd_t hb H50
        refine d_load1 (i := 0) (v := v0) Try.isAgg49 rfl rfl rfl rfl ?_
        refine d_val rfl rfl (r_move (v := .int .i64 t14) rfl) ?_
        have h_t22 := bnd_val H93
        have H94 := bnd_rest H93
        refine d_val rfl rfl (r_indexF Try.underlying49 Try.sizeOf78 rfl rfl f0 h_t22) ?_
        refine d_val rfl rfl (r_fieldP Try.runUnderlying78 rfl Try.sizeOf3 rfl rfl (some_of_at f0 h_t22)) ?_
        refine d_read (fun w hF => run_loadG1 (j := 0) (v := .int .i64 (val (gAt a0 t14)).Moment) Try.isAgg3 rfl rfl (f0.row (hw.now hF)) h_t22 rfl) rfl rfl ?_
        refine d_load1 (i := 1) (v := .int .i64 a1) Try.isAgg3 rfl rfl rfl rfl ?_
        refine d_val rfl rfl (r_eql rfl rfl) ?_
        refine d_val rfl rfl (r_pickT (v := .bool (decide ((val (gAt a0 t14)).Moment = a1))) rfl rfl) ?_
        refine d_nil ?_
        refine c_if (b := (decide ((val (gAt a0 t14)).Moment = a1))) rfl (fun hb => ?_) (fun hb => ?_)
        · have H95 := cnd_t hb H94; clear H94
          refine c_seq ?_
          refine c_region ?_
          refine l_load1 (i := 0) (v := v0) Try.isAgg49 rfl rfl rfl rfl rfl ?_
          refine l_val rfl rfl rfl (r_move (v := .int .i64 t14) rfl) ?_
          obtain ⟨t30, h_t30, H96⟩ := bnd_some H95; clear H95
          refine l_val rfl rfl rfl (r_indexF Try.underlying49 Try.sizeOf78 rfl rfl f0 h_t30) ?_
          refine l_val rfl rfl rfl (r_fieldP Try.runUnderlying78 rfl Try.sizeOf25 rfl rfl (some_of_at f0 h_t30)) ?_
          refine l_read (fun w hF hS => run_loadGN (j := 1) (vs := [.int .i64 t30.Place.Lat, .int .i64 t30.Place.Lon]) Try.isAgg25 Try.sizeOf25 rfl rfl (f0.row (hw.now hF)) h_t30 rfl) rfl rfl rfl ?_
          refine l_store (i := 2) (vs := [.int .i64 t30.Place.Lat, .int .i64 t30.Place.Lon]) (cs' := [.int .i64 t30.Place.Lat, .int .i64 t30.Place.Lon]) Try.sizeOf25 rfl rfl rfl rfl rfl rfl rfl rfl rfl ?_
          refine l_val rfl rfl rfl (r_assign (v := .bool true) rfl) ?_
          refine l_nil ?_
          refine c_ret ?_
          obtain rfl := Option.some.inj H96
          refine retCt (i := 2) (vs := [.int .i64 t30.Place.Lat, .int .i64 t30.Place.Lon]) (v2 := .bool true) Try.isAgg25 Try.sizeOf25 rfl rfl rfl rfl rfl (fin rfl)
        · have H97 := cnd_f hb H94; clear H94
          refine c_skip ?_
          refine c_close () () 0 [0, 1, 2] (by exact ⟨rfl, rfl, rfl, rfl, rfl, trivial⟩) (by decide) rfl (by exact ⟨H97, trivial⟩) (Nat.lt_succ_self _)
      · have H98 := cnd_f hb H50
        refine d_pass rfl rfl ?_
        refine d_pass rfl rfl ?_
        refine d_pass rfl rfl ?_
        refine d_pass rfl rfl ?_
        refine d_pass rfl rfl ?_
        refine d_pass rfl rfl ?_
        refine d_pass rfl rfl ?_
        refine d_val rfl rfl (r_pickF (v := .bool false) rfl rfl) ?_
        refine d_nil ?_
        refine c_false rfl ?_
        refine c_skip ?_
        refine c_close () () 0 [0, 1, 2] (by exact ⟨rfl, rfl, rfl, rfl, rfl, trivial⟩) (by decide) rfl (by exact ⟨H98, trivial⟩) (Nat.lt_succ_self _)
      ) (by kernel_rfl)
  · rintro _ _ gg H51 _
    replace H51 : where_at_j1 a0 a1 a2 t14 = some r := H51
    refine c_tidyF [(2, .int .i64 a2), (3, .pointer (some ⟨b3, 0, none⟩)), (4, .pointer (some ⟨b4, 0, none⟩)), (6, .pointer (some ⟨b5, 0, none⟩)), (8, .int .i64 t14)] [cellsC b3 [v0] 49, cellsC b4 [.int .i64 a1] 3, cellsC b5 [.int .i64 0, .int .i64 0] 25] rfl rfl ?_
    refine c_seq ?_
    refine c_region ?_
    refine l_val rfl rfl rfl (r_move (v := .int .i64 a2) rfl) ?_
    refine l_val rfl rfl rfl (r_move (v := .int .i64 a2) rfl) ?_
    refine l_val rfl rfl rfl (r_assign (v := .int .i64 a2) rfl) ?_
    refine l_val rfl rfl rfl (r_assign (v := .int .i64 a2) rfl) ?_
    refine l_nil ?_
    refine c_meet (r := r) (σ := Int × (List T_where_Fix)) (τ := Value) (fun s => where_at_j2 a1 a2 t14 s.1 s.2) (fun s t => [(2, .int .i64 a2), (3, .pointer (some ⟨b3, 0, none⟩)), (4, .pointer (some ⟨b4, 0, none⟩)), (6, .pointer (some ⟨b5, 0, none⟩)), (8, .int .i64 t14), (9, .int .i64 s.1), (10, .int .i64 a2)]) (fun s t => [cellsC b3 [t] 49, cellsC b4 [.int .i64 a1] 3, cellsC b5 [.int .i64 0, .int .i64 0] 25]) (fun s t => FrS h 3 t (s.2.map e_where_Fix)) ?_ ?_
    · refine c_seq ?_
      refine c_region ?_
      refine l_val rfl rfl rfl (r_move (v := .int .i64 t14) rfl) ?_
      refine l_val rfl rfl rfl (r_gtr rfl rfl) ?_
      refine l_nil ?_
      refine c_if (b := (decide (0 < t14))) rfl (fun hb => ?_) (fun hb => ?_)
      · have H88 := cnd_t hb H51; clear H51
        exact c_regionD (Kd.d [1] _ :: Kd.d [0] _ :: Kd.p :: Kd.p :: Kd.p :: Kd.p :: Kd.d [] _ :: Kd.p :: Kd.p :: []) 0 mixed (by
          refine d_load1 (i := 1) (v := .int .i64 a1) Try.isAgg3 rfl rfl rfl rfl ?_
          refine d_load1 (i := 0) (v := v0) Try.isAgg49 rfl rfl rfl rfl ?_
          refine d_val rfl rfl (r_move (v := .int .i64 t14) rfl) ?_
          have h_t40 := bnd_val H88
          have H89 := bnd_rest H88
          refine d_val rfl rfl (r_subG rfl rfl h_t40) ?_
          have h_t41 := bnd_val H89
          have H90 := bnd_rest H89
          refine d_val rfl rfl (r_indexF Try.underlying49 Try.sizeOf78 rfl rfl f0 h_t41) ?_
          refine d_val rfl rfl (r_fieldP Try.runUnderlying78 rfl Try.sizeOf3 rfl rfl (some_of_at f0 h_t41)) ?_
          refine d_read (fun w hF => run_loadG1 (j := 0) (v := .int .i64 (val (gAt a0 (val (gI (t14 - 1))))).Moment) Try.isAgg3 rfl rfl (f0.row (hw.now hF)) h_t41 rfl) rfl rfl ?_
          have h_t44 := bnd_val H90
          have H91 := bnd_rest H90
          refine d_val rfl rfl (r_subG rfl rfl h_t44) ?_
          refine d_val rfl rfl (r_assign (v := .int .i64 (val (gI (a1 - (val (gAt a0 (val (gI (t14 - 1))))).Moment)))) rfl) ?_
          refine d_nil ?_
          refine c_close ((val (gI (a1 - (val (gAt a0 (val (gI (t14 - 1))))).Moment))), a0) v0 0 [0, 1, 2] (by exact ⟨rfl, rfl, rfl, rfl, rfl, rfl, rfl, trivial⟩) (by decide) rfl (by exact ⟨H91, f0⟩) (Nat.lt_succ_self _)
          ) (by kernel_rfl)
      · have H92 := cnd_f hb H51; clear H51
        refine c_skip ?_
        refine c_close (a2, a0) v0 0 [0, 1, 2] (by exact ⟨rfl, rfl, rfl, rfl, rfl, rfl, rfl, trivial⟩) (by decide) rfl (by exact ⟨H92, f0⟩) (Nat.lt_succ_self _)
    · rintro ⟨x9, m⟩ gv gg H52 gf
      replace H52 : where_at_j2 a1 a2 t14 x9 m = some r := H52
      refine c_tidyF [(2, .int .i64 a2), (3, .pointer (some ⟨b3, 0, none⟩)), (4, .pointer (some ⟨b4, 0, none⟩)), (6, .pointer (some ⟨b5, 0, none⟩)), (8, .int .i64 t14), (9, .int .i64 x9), (10, .int .i64 a2)] [cellsC b3 [gv] 49, cellsC b4 [.int .i64 a1] 3, cellsC b5 [.int .i64 0, .int .i64 0] 25] rfl rfl ?_
      refine c_meet (r := r) (σ := Int × (List T_where_Fix)) (τ := Value) (fun s => where_at_j3 a2 t14 x9 s.1 s.2) (fun s t => [(2, .int .i64 a2), (3, .pointer (some ⟨b3, 0, none⟩)), (6, .pointer (some ⟨b5, 0, none⟩)), (8, .int .i64 t14), (9, .int .i64 x9), (10, .int .i64 s.1)]) (fun s t => [cellsC b3 [t] 49, cellsC b5 [.int .i64 0, .int .i64 0] 25]) (fun s t => FrS h 3 t (s.2.map e_where_Fix)) ?_ ?_
      · refine c_seq ?_
        refine c_region ?_
        refine l_val rfl rfl rfl (r_move (v := .int .i64 t14) rfl) ?_
        refine l_load1 (i := 0) (v := gv) Try.isAgg49 rfl rfl rfl rfl rfl ?_
        refine l_val rfl rfl rfl (r_lenF Try.underlying49 rfl gf rfl) ?_
        refine l_val rfl rfl rfl (r_lss rfl rfl) ?_
        refine l_nil ?_
        refine c_if (b := (decide (t14 < (m.length : Int)))) rfl (fun hb => ?_) (fun hb => ?_)
        · have H84 := cnd_t hb H52; clear H52
          exact c_regionD (Kd.d [0] _ :: Kd.p :: Kd.p :: Kd.p :: Kd.d [] _ :: Kd.d [1] _ :: Kd.p :: Kd.p :: []) 0 mixed (by
            refine d_load1 (i := 0) (v := gv) Try.isAgg49 rfl rfl rfl rfl ?_
            refine d_val rfl rfl (r_move (v := .int .i64 t14) rfl) ?_
            have h_t51 := bnd_val H84
            have H85 := bnd_rest H84
            refine d_val rfl rfl (r_indexF Try.underlying49 Try.sizeOf78 rfl rfl gf h_t51) ?_
            refine d_val rfl rfl (r_fieldP Try.runUnderlying78 rfl Try.sizeOf3 rfl rfl (some_of_at gf h_t51)) ?_
            refine d_read (fun w hF => run_loadG1 (j := 0) (v := .int .i64 (val (gAt m t14)).Moment) Try.isAgg3 rfl rfl (gf.row (hw.now hF)) h_t51 rfl) rfl rfl ?_
            refine d_load1 (i := 1) (v := .int .i64 a1) Try.isAgg3 rfl rfl rfl rfl ?_
            have h_t55 := bnd_val H85
            have H86 := bnd_rest H85
            refine d_val rfl rfl (r_subG rfl rfl h_t55) ?_
            refine d_val rfl rfl (r_assign (v := .int .i64 (val (gI ((val (gAt m t14)).Moment - a1)))) rfl) ?_
            refine d_nil ?_
            refine c_close ((val (gI ((val (gAt m t14)).Moment - a1))), m) gv 0 [0, 2] (by exact ⟨rfl, rfl, rfl, rfl, rfl, rfl, trivial⟩) (by decide) rfl (by exact ⟨H86, gf⟩) (Nat.lt_succ_self _)
            ) (by kernel_rfl)
        · have H87 := cnd_f hb H52; clear H52
          refine c_skip ?_
          refine c_close (a2, m) gv 0 [0, 2] (by exact ⟨rfl, rfl, rfl, rfl, rfl, rfl, trivial⟩) (by decide) rfl (by exact ⟨H87, gf⟩) (Nat.lt_succ_self _)
      · rintro ⟨x10, m_2⟩ gv_2 gg H53 gf_2
        replace H53 : where_at_j3 a2 t14 x9 x10 m_2 = some r := H53
        refine c_tidyF [(2, .int .i64 a2), (3, .pointer (some ⟨b3, 0, none⟩)), (6, .pointer (some ⟨b5, 0, none⟩)), (8, .int .i64 t14), (9, .int .i64 x9), (10, .int .i64 x10)] [cellsC b3 [gv_2] 49, cellsC b5 [.int .i64 0, .int .i64 0] 25] rfl rfl ?_
        refine c_meet (r := r) (σ := Unit) (τ := Unit) (fun s => where_at_j4) (fun s t => [(6, .pointer (some ⟨b5, 0, none⟩))]) (fun s t => [cellsC b5 [.int .i64 0, .int .i64 0] 25]) (fun s t => True) ?_ ?_
        · refine c_block ?_
          refine c_meet (r := r) (σ := Bool × (List T_where_Fix)) (τ := Value) (fun s => where_at_j5 a2 t14 x9 x10 s.1 s.2) (fun s t => [(2, .int .i64 a2), (3, .pointer (some ⟨b3, 0, none⟩)), (6, .pointer (some ⟨b5, 0, none⟩)), (8, .int .i64 t14), (9, .int .i64 x9), (10, .int .i64 x10), (56, .bool s.1)]) (fun s t => [cellsC b3 [t] 49, cellsC b5 [.int .i64 0, .int .i64 0] 25]) (fun s t => FrS h 3 t (s.2.map e_where_Fix)) ?_ ?_
          · refine c_region ?_
            refine l_val rfl rfl rfl (r_move (v := .int .i64 t14) rfl) ?_
            refine l_val rfl rfl rfl (r_gtr rfl rfl) ?_
            refine l_val rfl rfl rfl (r_move (v := .bool (decide (0 < t14))) rfl) ?_
            refine split (fun hb => ?_) (fun hb => ?_)
            · have H79 := cnd_t hb H53; clear H53
              refine l_val rfl rfl rfl (r_move (v := .int .i64 t14) rfl) ?_
              refine l_load1 (i := 0) (v := gv_2) Try.isAgg49 rfl rfl rfl rfl rfl ?_
              refine l_val rfl rfl rfl (r_lenF Try.underlying49 rfl gf_2 rfl) ?_
              refine l_val rfl rfl rfl (r_lss rfl rfl) ?_
              refine l_val rfl rfl rfl (r_pickT (v := .bool (decide (t14 < (m_2.length : Int)))) rfl rfl) ?_
              refine l_val rfl rfl rfl (r_move (v := .bool (decide (t14 < (m_2.length : Int)))) rfl) ?_
              refine split (fun hb => ?_) (fun hb => ?_)
              · have H80 := cnd_t hb H79; clear H79
                refine l_val rfl rfl rfl (r_move (v := .int .i64 x9) rfl) ?_
                refine l_val rfl rfl rfl (r_move (v := .int .i64 x10) rfl) ?_
                obtain ⟨t68, h_t68, H81⟩ := bnd_some H80; clear H80
                refine l_val rfl rfl rfl (r_addG rfl rfl h_t68) ?_
                refine l_val rfl rfl rfl (r_move (v := .int .i64 a2) rfl) ?_
                refine l_val rfl rfl rfl (r_leq rfl rfl) ?_
                refine l_val rfl rfl rfl (r_pickT (v := .bool (decide (t68 ≤ a2))) rfl rfl) ?_
                refine l_val rfl rfl rfl (r_assign (v := .bool (decide (t68 ≤ a2))) rfl) ?_
                refine l_nil ?_
                refine c_close ((decide (t68 ≤ a2)), m_2) gv_2 0 [0, 1] (by exact ⟨rfl, rfl, rfl, rfl, rfl, rfl, rfl, trivial⟩) (by decide) rfl (by exact ⟨H81, gf_2⟩) (Nat.lt_succ_self _)
              · have H82 := cnd_f hb H79; clear H79
                refine l_passed rfl rfl rfl ?_
                refine l_passed rfl rfl rfl ?_
                refine l_passed rfl rfl rfl ?_
                refine l_passed rfl rfl rfl ?_
                refine l_passed rfl rfl rfl ?_
                refine l_val rfl rfl rfl (r_pickF (v := .bool false) rfl rfl) ?_
                refine l_val rfl rfl rfl (r_assign (v := .bool false) rfl) ?_
                refine l_nil ?_
                refine c_close (false, m_2) gv_2 0 [0, 1] (by exact ⟨rfl, rfl, rfl, rfl, rfl, rfl, rfl, trivial⟩) (by decide) rfl (by exact ⟨H82, gf_2⟩) (Nat.lt_succ_self _)
            · have H83 := cnd_f hb H53; clear H53
              refine l_passed rfl rfl rfl ?_
              refine l_passed rfl rfl rfl ?_
              refine l_passed rfl rfl rfl ?_
              refine l_passed rfl rfl rfl ?_
              refine l_val rfl rfl rfl (r_pickF (v := .bool false) rfl rfl) ?_
              refine l_val rfl rfl rfl (r_move (v := .bool false) rfl) ?_
              refine l_passed rfl rfl rfl ?_
              refine l_passed rfl rfl rfl ?_
              refine l_passed rfl rfl rfl ?_
              refine l_passed rfl rfl rfl ?_
              refine l_passed rfl rfl rfl ?_
              refine l_val rfl rfl rfl (r_pickF (v := .bool false) rfl rfl) ?_
              refine l_val rfl rfl rfl (r_assign (v := .bool false) rfl) ?_
              refine l_nil ?_
              refine c_close (false, m_2) gv_2 0 [0, 1] (by exact ⟨rfl, rfl, rfl, rfl, rfl, rfl, rfl, trivial⟩) (by decide) rfl (by exact ⟨H83, gf_2⟩) (Nat.lt_succ_self _)
          · rintro ⟨x56, m_3⟩ gv_3 gg H55 gf_3
            replace H55 : where_at_j5 a2 t14 x9 x10 x56 m_3 = some r := H55
            refine c_tidyF [(2, .int .i64 a2), (3, .pointer (some ⟨b3, 0, none⟩)), (6, .pointer (some ⟨b5, 0, none⟩)), (8, .int .i64 t14), (9, .int .i64 x9), (10, .int .i64 x10), (56, .bool x56)] [cellsC b3 [gv_3] 49, cellsC b5 [.int .i64 0, .int .i64 0] 25] rfl rfl ?_
            refine c_if (b := x56) rfl (fun hb => ?_) (fun hb => ?_)
            · have H56 := cnd_t hb H55; clear H55
              refine c_seq ?_
              exact c_regionD (Kd.d [0] _ :: Kd.p :: Kd.p :: Kd.p :: Kd.p :: Kd.d [] _ :: Kd.d [0] _ :: Kd.p :: Kd.p :: Kd.p :: Kd.d [] _ :: Kd.p :: Kd.p :: Kd.p :: Kd.p :: Kd.d [] _ :: Kd.st 6 1 [_, _] 25 :: Kd.p :: []) 0 mixed (by
                refine d_load1 (i := 0) (v := gv_3) Try.isAgg49 rfl rfl rfl rfl ?_
                refine d_val rfl rfl (r_move (v := .int .i64 t14) rfl) ?_
                have h_t74 := bnd_val H56
                have H57 := bnd_rest H56
                refine d_val rfl rfl (r_subG rfl rfl h_t74) ?_
                have h_t75 := bnd_val H57
                have H58 := bnd_rest H57
                refine d_val rfl rfl (r_indexF Try.underlying49 Try.sizeOf78 rfl rfl gf_3 h_t75) ?_
                refine d_val rfl rfl (r_fieldP Try.runUnderlying78 rfl Try.sizeOf25 rfl rfl (some_of_at gf_3 h_t75)) ?_
                refine d_read (fun w hF => run_loadGN (j := 1) (vs := [.int .i64 (val (gAt m_3 (val (gI (t14 - 1))))).Place.Lat, .int .i64 (val (gAt m_3 (val (gI (t14 - 1))))).Place.Lon]) Try.isAgg25 Try.sizeOf25 rfl rfl (gf_3.row (hw.now hF)) h_t75 rfl) rfl rfl ?_
                refine d_load1 (i := 0) (v := gv_3) Try.isAgg49 rfl rfl rfl rfl ?_
                refine d_val rfl rfl (r_move (v := .int .i64 t14) rfl) ?_
                have h_t80 := bnd_val H58
                have H59 := bnd_rest H58
                refine d_val rfl rfl (r_indexF Try.underlying49 Try.sizeOf78 rfl rfl gf_3 h_t80) ?_
                refine d_val rfl rfl (r_fieldP Try.runUnderlying78 rfl Try.sizeOf25 rfl rfl (some_of_at gf_3 h_t80)) ?_
                refine d_read (fun w hF => run_loadGN (j := 1) (vs := [.int .i64 (val (gAt m_3 t14)).Place.Lat, .int .i64 (val (gAt m_3 t14)).Place.Lon]) Try.isAgg25 Try.sizeOf25 rfl rfl (gf_3.row (hw.now hF)) h_t80 rfl) rfl rfl ?_
                refine d_val rfl rfl (r_move (v := .int .i64 x9) rfl) ?_
                refine d_val rfl rfl (r_move (v := .int .i64 x9) rfl) ?_
                refine d_val rfl rfl (r_move (v := .int .i64 x10) rfl) ?_
                have h_t86 := bnd_val H59
                have H60 := bnd_rest H59
                refine d_val rfl rfl (r_addG rfl rfl h_t86) ?_
                have h_t87 := bnd_val H60
                have H61 := bnd_rest H60
                refine d_call (k82 h_t87) Try.call82 rfl rfl ?_
                refine d_store (i := 1) (vs := [.int .i64 (val (where_between (val (gAt m_3 (val (gI (t14 - 1))))).Place (val (gAt m_3 t14)).Place x9 (val (gI (x9 + x10))))).Lat, .int .i64 (val (where_between (val (gAt m_3 (val (gI (t14 - 1))))).Place (val (gAt m_3 t14)).Place x9 (val (gI (x9 + x10))))).Lon]) (cs' := [.int .i64 (val (where_between (val (gAt m_3 (val (gI (t14 - 1))))).Place (val (gAt m_3 t14)).Place x9 (val (gI (x9 + x10))))).Lat, .int .i64 (val (where_between (val (gAt m_3 (val (gI (t14 - 1))))).Place (val (gAt m_3 t14)).Place x9 (val (gI (x9 + x10))))).Lon]) Try.sizeOf25 rfl rfl rfl rfl rfl rfl rfl rfl rfl ?_
                refine d_val rfl rfl (r_assign (v := .bool true) rfl) ?_
                refine d_nil ?_
                refine c_ret ?_
                obtain rfl := Option.some.inj H61
                refine retCt (i := 1) (vs := [.int .i64 (val (where_between (val (gAt m_3 (val (gI (t14 - 1))))).Place (val (gAt m_3 t14)).Place x9 (val (gI (x9 + x10))))).Lat, .int .i64 (val (where_between (val (gAt m_3 (val (gI (t14 - 1))))).Place (val (gAt m_3 t14)).Place x9 (val (gI (x9 + x10))))).Lon]) (v2 := .bool true) Try.isAgg25 Try.sizeOf25 rfl rfl rfl rfl rfl (fin rfl)
                ) (by kernel_rfl)
            · have H62 := cnd_f hb H55; clear H55
              refine c_meet (r := r) (σ := Bool × (List T_where_Fix)) (τ := Value) (fun s => where_at_j6 a2 t14 x10 s.1 s.2) (fun s t => [(2, .int .i64 a2), (3, .pointer (some ⟨b3, 0, none⟩)), (6, .pointer (some ⟨b5, 0, none⟩)), (8, .int .i64 t14), (10, .int .i64 x10), (88, .bool s.1)]) (fun s t => [cellsC b3 [t] 49, cellsC b5 [.int .i64 0, .int .i64 0] 25]) (fun s t => FrS h 3 t (s.2.map e_where_Fix)) ?_ ?_
              · refine c_region ?_
                refine l_val rfl rfl rfl (r_move (v := .int .i64 t14) rfl) ?_
                refine l_val rfl rfl rfl (r_gtr rfl rfl) ?_
                refine l_val rfl rfl rfl (r_move (v := .bool (decide (0 < t14))) rfl) ?_
                refine split (fun hb => ?_) (fun hb => ?_)
                · have H73 := cnd_t hb H62; clear H62
                  refine l_val rfl rfl rfl (r_move (v := .int .i64 x9) rfl) ?_
                  refine l_val rfl rfl rfl (r_move (v := .int .i64 a2) rfl) ?_
                  refine l_val rfl rfl rfl (r_leq rfl rfl) ?_
                  refine l_val rfl rfl rfl (r_pickT (v := .bool (decide (x9 ≤ a2))) rfl rfl) ?_
                  refine l_val rfl rfl rfl (r_move (v := .bool (decide (x9 ≤ a2))) rfl) ?_
                  refine split (fun hb => ?_) (fun hb => ?_)
                  · have H74 := cnd_t hb H73; clear H73
                    refine l_val rfl rfl rfl (r_move (v := .int .i64 t14) rfl) ?_
                    refine l_load1 (i := 0) (v := gv_3) Try.isAgg49 rfl rfl rfl rfl rfl ?_
                    refine l_val rfl rfl rfl (r_lenF Try.underlying49 rfl gf_3 rfl) ?_
                    refine l_val rfl rfl rfl (r_eql rfl rfl) ?_
                    refine l_val rfl rfl rfl (r_move (v := .bool (decide (t14 = (m_3.length : Int)))) rfl) ?_
                    refine split (fun hb => ?_) (fun hb => ?_)
                    · have H75 := cnd_t hb H74; clear H74
                      refine l_passed rfl rfl rfl ?_
                      refine l_passed rfl rfl rfl ?_
                      refine l_passed rfl rfl rfl ?_
                      refine l_val rfl rfl rfl (r_pickT (v := .bool true) rfl rfl) ?_
                      refine l_val rfl rfl rfl (r_pickT (v := .bool true) rfl rfl) ?_
                      refine l_val rfl rfl rfl (r_assign (v := .bool true) rfl) ?_
                      refine l_nil ?_
                      refine c_close (true, m_3) gv_3 0 [0, 1] (by exact ⟨rfl, rfl, rfl, rfl, rfl, rfl, trivial⟩) (by decide) rfl (by exact ⟨H75, gf_3⟩) (Nat.lt_succ_self _)
                    · have H76 := cnd_f hb H74; clear H74
                      refine l_val rfl rfl rfl (r_move (v := .int .i64 x9) rfl) ?_
                      refine l_val rfl rfl rfl (r_move (v := .int .i64 x10) rfl) ?_
                      refine l_val rfl rfl rfl (r_leq rfl rfl) ?_
                      refine l_val rfl rfl rfl (r_pickF (v := .bool (decide (x9 ≤ x10))) rfl rfl) ?_
                      refine l_val rfl rfl rfl (r_pickT (v := .bool (decide (x9 ≤ x10))) rfl rfl) ?_
                      refine l_val rfl rfl rfl (r_assign (v := .bool (decide (x9 ≤ x10))) rfl) ?_
                      refine l_nil ?_
                      refine c_close ((decide (x9 ≤ x10)), m_3) gv_3 0 [0, 1] (by exact ⟨rfl, rfl, rfl, rfl, rfl, rfl, trivial⟩) (by decide) rfl (by exact ⟨H76, gf_3⟩) (Nat.lt_succ_self _)
                  · have H77 := cnd_f hb H73; clear H73
                    refine l_passed rfl rfl rfl ?_
                    refine l_passed rfl rfl rfl ?_
                    refine l_passed rfl rfl rfl ?_
                    refine l_passed rfl rfl rfl ?_
                    refine l_passed rfl rfl rfl ?_
                    refine l_passed rfl rfl rfl ?_
                    refine l_passed rfl rfl rfl ?_
                    refine l_passed rfl rfl rfl ?_
                    refine l_passed rfl rfl rfl ?_
                    refine l_val rfl rfl rfl (r_pickF (v := .bool false) rfl rfl) ?_
                    refine l_val rfl rfl rfl (r_assign (v := .bool false) rfl) ?_
                    refine l_nil ?_
                    refine c_close (false, m_3) gv_3 0 [0, 1] (by exact ⟨rfl, rfl, rfl, rfl, rfl, rfl, trivial⟩) (by decide) rfl (by exact ⟨H77, gf_3⟩) (Nat.lt_succ_self _)
                · have H78 := cnd_f hb H62; clear H62
                  refine l_passed rfl rfl rfl ?_
                  refine l_passed rfl rfl rfl ?_
                  refine l_passed rfl rfl rfl ?_
                  refine l_val rfl rfl rfl (r_pickF (v := .bool false) rfl rfl) ?_
                  refine l_val rfl rfl rfl (r_move (v := .bool false) rfl) ?_
                  refine l_passed rfl rfl rfl ?_
                  refine l_passed rfl rfl rfl ?_
                  refine l_passed rfl rfl rfl ?_
                  refine l_passed rfl rfl rfl ?_
                  refine l_passed rfl rfl rfl ?_
                  refine l_passed rfl rfl rfl ?_
                  refine l_passed rfl rfl rfl ?_
                  refine l_passed rfl rfl rfl ?_
                  refine l_passed rfl rfl rfl ?_
                  refine l_val rfl rfl rfl (r_pickF (v := .bool false) rfl rfl) ?_
                  refine l_val rfl rfl rfl (r_assign (v := .bool false) rfl) ?_
                  refine l_nil ?_
                  refine c_close (false, m_3) gv_3 0 [0, 1] (by exact ⟨rfl, rfl, rfl, rfl, rfl, rfl, trivial⟩) (by decide) rfl (by exact ⟨H78, gf_3⟩) (Nat.lt_succ_self _)
              · rintro ⟨x88, m_4⟩ gv_4 gg H63 gf_4
                replace H63 : where_at_j6 a2 t14 x10 x88 m_4 = some r := H63
                refine c_tidyF [(2, .int .i64 a2), (3, .pointer (some ⟨b3, 0, none⟩)), (6, .pointer (some ⟨b5, 0, none⟩)), (8, .int .i64 t14), (10, .int .i64 x10), (88, .bool x88)] [cellsC b3 [gv_4] 49, cellsC b5 [.int .i64 0, .int .i64 0] 25] rfl rfl ?_
                refine c_if (b := x88) rfl (fun hb => ?_) (fun hb => ?_)
                · have H64 := cnd_t hb H63; clear H63
                  refine c_seq ?_
                  refine c_region ?_
                  refine l_load1 (i := 0) (v := gv_4) Try.isAgg49 rfl rfl rfl rfl rfl ?_
                  refine l_val rfl rfl rfl (r_move (v := .int .i64 t14) rfl) ?_
                  obtain ⟨t109, h_t109, H65⟩ := bnd_some H64; clear H64
                  refine l_val rfl rfl rfl (r_subG rfl rfl h_t109) ?_
                  obtain ⟨t110, h_t110, H66⟩ := bnd_some H65; clear H65
                  refine l_val rfl rfl rfl (r_indexF Try.underlying49 Try.sizeOf78 rfl rfl gf_4 h_t110) ?_
                  refine l_val rfl rfl rfl (r_fieldP Try.runUnderlying78 rfl Try.sizeOf25 rfl rfl (some_of_at gf_4 h_t110)) ?_
                  refine l_read (fun w hF hS => run_loadGN (j := 1) (vs := [.int .i64 t110.Place.Lat, .int .i64 t110.Place.Lon]) Try.isAgg25 Try.sizeOf25 rfl rfl (gf_4.row (hw.now hF)) h_t110 rfl) rfl rfl rfl ?_
                  refine l_store (i := 1) (vs := [.int .i64 t110.Place.Lat, .int .i64 t110.Place.Lon]) (cs' := [.int .i64 t110.Place.Lat, .int .i64 t110.Place.Lon]) Try.sizeOf25 rfl rfl rfl rfl rfl rfl rfl rfl rfl ?_
                  refine l_val rfl rfl rfl (r_assign (v := .bool true) rfl) ?_
                  refine l_nil ?_
                  refine c_ret ?_
                  obtain rfl := Option.some.inj H66
                  refine retCt (i := 1) (vs := [.int .i64 t110.Place.Lat, .int .i64 t110.Place.Lon]) (v2 := .bool true) Try.isAgg25 Try.sizeOf25 rfl rfl rfl rfl rfl (fin rfl)
                · have H67 := cnd_f hb H63; clear H63
                  refine c_seq ?_
                  refine c_region ?_
                  refine l_val rfl rfl rfl (r_move (v := .int .i64 t14) rfl) ?_
                  refine l_load1 (i := 0) (v := gv_4) Try.isAgg49 rfl rfl rfl rfl rfl ?_
                  refine l_val rfl rfl rfl (r_lenF Try.underlying49 rfl gf_4 rfl) ?_
                  refine l_val rfl rfl rfl (r_lss rfl rfl) ?_
                  refine l_val rfl rfl rfl (r_move (v := .bool (decide (t14 < (m_4.length : Int)))) rfl) ?_
                  refine split (fun hb => ?_) (fun hb => ?_)
                  · have H68 := cnd_t hb H67; clear H67
                    refine l_val rfl rfl rfl (r_move (v := .int .i64 x10) rfl) ?_
                    refine l_val rfl rfl rfl (r_move (v := .int .i64 a2) rfl) ?_
                    refine l_val rfl rfl rfl (r_leq rfl rfl) ?_
                    refine l_val rfl rfl rfl (r_pickT (v := .bool (decide (x10 ≤ a2))) rfl rfl) ?_
                    refine l_val rfl rfl rfl (r_assign (v := .bool (decide (x10 ≤ a2))) rfl) ?_
                    refine l_nil ?_
                    refine c_if (b := (decide (x10 ≤ a2))) rfl (fun hb => ?_) (fun hb => ?_)
                    · have H69 := cnd_t hb H68; clear H68
                      refine c_seq ?_
                      refine c_region ?_
                      refine l_load1 (i := 0) (v := gv_4) Try.isAgg49 rfl rfl rfl rfl rfl ?_
                      refine l_val rfl rfl rfl (r_move (v := .int .i64 t14) rfl) ?_
                      obtain ⟨t125, h_t125, H70⟩ := bnd_some H69; clear H69
                      refine l_val rfl rfl rfl (r_indexF Try.underlying49 Try.sizeOf78 rfl rfl gf_4 h_t125) ?_
                      refine l_val rfl rfl rfl (r_fieldP Try.runUnderlying78 rfl Try.sizeOf25 rfl rfl (some_of_at gf_4 h_t125)) ?_
                      refine l_read (fun w hF hS => run_loadGN (j := 1) (vs := [.int .i64 t125.Place.Lat, .int .i64 t125.Place.Lon]) Try.isAgg25 Try.sizeOf25 rfl rfl (gf_4.row (hw.now hF)) h_t125 rfl) rfl rfl rfl ?_
                      refine l_store (i := 1) (vs := [.int .i64 t125.Place.Lat, .int .i64 t125.Place.Lon]) (cs' := [.int .i64 t125.Place.Lat, .int .i64 t125.Place.Lon]) Try.sizeOf25 rfl rfl rfl rfl rfl rfl rfl rfl rfl ?_
                      refine l_val rfl rfl rfl (r_assign (v := .bool true) rfl) ?_
                      refine l_nil ?_
                      refine c_ret ?_
                      obtain rfl := Option.some.inj H70
                      refine retCt (i := 1) (vs := [.int .i64 t125.Place.Lat, .int .i64 t125.Place.Lon]) (v2 := .bool true) Try.isAgg25 Try.sizeOf25 rfl rfl rfl rfl rfl (fin rfl)
                    · have H71 := cnd_f hb H68; clear H68
                      refine c_skip ?_
                      refine c_close () () 0 [1] (by exact ⟨rfl, trivial⟩) (by decide) rfl (by exact ⟨H71, trivial⟩) (Nat.lt_succ_self _)
                  · have H72 := cnd_f hb H67; clear H67
                    refine l_passed rfl rfl rfl ?_
                    refine l_passed rfl rfl rfl ?_
                    refine l_passed rfl rfl rfl ?_
                    refine l_val rfl rfl rfl (r_pickF (v := .bool false) rfl rfl) ?_
                    refine l_val rfl rfl rfl (r_assign (v := .bool false) rfl) ?_
                    refine l_nil ?_
                    refine c_false rfl ?_
                    refine c_skip ?_
                    refine c_close () () 0 [1] (by exact ⟨rfl, trivial⟩) (by decide) rfl (by exact ⟨H72, trivial⟩) (Nat.lt_succ_self _)
        · rintro _ _ gg H54 _
          replace H54 : where_at_j4 = some r := H54
          refine c_tidyF [(6, .pointer (some ⟨b5, 0, none⟩))] [cellsC b5 [.int .i64 0, .int .i64 0] 25] rfl rfl ?_
          refine c_seq ?_
          refine c_region ?_
          refine l_val rfl rfl rfl (r_build (pl := #[(0, 1), (1, 1)]) (ps := []) (cells := #[.int .i64 0, .int .i64 0]) Try.zeroValue25 Try.runUnderlying25 (fun w => by kernel_rfl) rfl rfl) ?_
          refine l_store (i := 0) (vs := [.int .i64 0, .int .i64 0]) (cs' := [.int .i64 0, .int .i64 0]) Try.sizeOf25 rfl rfl rfl rfl rfl rfl rfl rfl rfl ?_
          refine l_val rfl rfl rfl (r_assign (v := .bool false) rfl) ?_
          refine l_nil ?_
          refine c_ret ?_
          obtain rfl := Option.some.inj H54
          refine retCt (i := 0) (vs := [.int .i64 0, .int .i64 0]) (v2 := .bool false) Try.isAgg25 Try.sizeOf25 rfl rfl rfl rfl rfl (fin rfl)
theorem k43 {a0 : (List T_where_Fix)} {v0 : Value} {a1 : Int} {a2 : Int} {r : T_api_Place × Int} {w : World} {h : Heap} (hw : Know h w noS) (f0 : FrS h 3 v0 (a0.map e_where_Fix)) (H : where_At a0 a1 a2 = some r) : Does Try.prog 43 (List.toArray [v0, .int .i64 a1, .int .i64 a2]) w (fun v w' => v = (.tuple #[.agg #[.int .i64 r.1.Lat, .int .i64 r.1.Lon], .int .i64 r.2]) ∧ Grow w w') := by
  refine enter (n := 36) Try.func43 rfl rfl rfl noS [] (Sat.nil _ _) ?_
  refine c_seq ?_
  refine c_region ?_
  refine l_alloc (cs := [.int .i64 0, .int .i64 0]) Try.zeroValue25 rfl rfl rfl (fun b2 => ?_)
  refine l_val rfl rfl rfl (r_assign (v := .int .i64 0) rfl) ?_
  refine l_nil ?_
  refine c_seq ?_
  refine c_seq ?_
  refine c_region ?_
  refine l_val rfl rfl rfl (r_move (v := v0) rfl) ?_
  obtain ⟨t12, h_t12, H12⟩ := bnd_some H; clear H
  refine l_callG (fun w hF hS => k47 (know_all w) (f0.mono (hw.now hF)) h_t12) Try.call47 rfl rfl rfl ?_
  refine l_val rfl rfl rfl (r_assign (v := .int .i64 t12) rfl) ?_
  refine l_nil ?_
  refine c_seq ?_
  refine c_region ?_
  refine l_val rfl rfl rfl (r_move (v := .int .i64 t12) rfl) ?_
  refine l_val rfl rfl rfl (r_neq rfl rfl) ?_
  refine l_nil ?_
  refine c_if (b := (decide (t12 ≠ 0))) rfl (fun hb => ?_) (fun hb => ?_)
  · have H13 := cnd_t hb H12; clear H12
    refine c_seq ?_
    refine c_region ?_
    refine l_val rfl rfl rfl (r_build (pl := #[(0, 1), (1, 1)]) (ps := []) (cells := #[.int .i64 0, .int .i64 0]) Try.zeroValue25 Try.runUnderlying25 (fun w => by kernel_rfl) rfl rfl) ?_
    refine l_val rfl rfl rfl (r_move (v := .int .i64 t12) rfl) ?_
    refine l_store (i := 0) (vs := [.int .i64 0, .int .i64 0]) (cs' := [.int .i64 0, .int .i64 0]) Try.sizeOf25 rfl rfl rfl rfl rfl rfl rfl rfl rfl ?_
    refine l_val rfl rfl rfl (r_assign (v := .int .i64 t12) rfl) ?_
    refine l_nil ?_
    refine c_ret ?_
    obtain rfl := Option.some.inj H13
    refine retCt (i := 0) (vs := [.int .i64 0, .int .i64 0]) (v2 := .int .i64 t12) Try.isAgg25 Try.sizeOf25 rfl rfl rfl rfl rfl (fin rfl)
  · have H14 := cnd_f hb H12; clear H12
    refine c_skip ?_
    refine c_seq ?_
    refine c_seq ?_
    refine c_region ?_
    refine l_val rfl rfl rfl (r_move (v := .int .i64 a1) rfl) ?_
    obtain ⟨t18, h_t18, H15⟩ := bnd_some H14; clear H14
    refine l_call (k76 h_t18) Try.call76 rfl rfl rfl ?_
    refine l_val rfl rfl rfl (r_not rfl) ?_
    refine l_val rfl rfl rfl (r_move (v := .bool (!t18)) rfl) ?_
    refine split (fun hb => ?_) (fun hb => ?_)
    · have H16 := cnd_t hb H15; clear H15
      refine l_passed rfl rfl rfl ?_
      refine l_passed rfl rfl rfl ?_
      refine l_val rfl rfl rfl (r_pickT (v := .bool true) rfl rfl) ?_
      refine l_nil ?_
      refine c_true rfl ?_
      refine c_seq ?_
      refine c_region ?_
      refine l_val rfl rfl rfl (r_build (pl := #[(0, 1), (1, 1)]) (ps := []) (cells := #[.int .i64 0, .int .i64 0]) Try.zeroValue25 Try.runUnderlying25 (fun w => by kernel_rfl) rfl rfl) ?_
      refine l_store (i := 0) (vs := [.int .i64 0, .int .i64 0]) (cs' := [.int .i64 0, .int .i64 0]) Try.sizeOf25 rfl rfl rfl rfl rfl rfl rfl rfl rfl ?_
      refine l_val rfl rfl rfl (r_assign (v := .int .i64 2) rfl) ?_
      refine l_nil ?_
      refine c_ret ?_
      obtain rfl := Option.some.inj H16
      refine retCt (i := 0) (vs := [.int .i64 0, .int .i64 0]) (v2 := .int .i64 2) Try.isAgg25 Try.sizeOf25 rfl rfl rfl rfl rfl (fin rfl)
    · have H17 := cnd_f hb H15; clear H15
      refine l_val rfl rfl rfl (r_move (v := .int .i64 a2) rfl) ?_
      refine l_val rfl rfl rfl (r_lss rfl rfl) ?_
      refine l_val rfl rfl rfl (r_pickF (v := .bool (decide (a2 < 0))) rfl rfl) ?_
      refine l_nil ?_
      refine c_if (b := (decide (a2 < 0))) rfl (fun hb => ?_) (fun hb => ?_)
      · have H18 := cnd_t hb H17; clear H17
        refine c_seq ?_
        refine c_region ?_
        refine l_val rfl rfl rfl (r_build (pl := #[(0, 1), (1, 1)]) (ps := []) (cells := #[.int .i64 0, .int .i64 0]) Try.zeroValue25 Try.runUnderlying25 (fun w => by kernel_rfl) rfl rfl) ?_
        refine l_store (i := 0) (vs := [.int .i64 0, .int .i64 0]) (cs' := [.int .i64 0, .int .i64 0]) Try.sizeOf25 rfl rfl rfl rfl rfl rfl rfl rfl rfl ?_
        refine l_val rfl rfl rfl (r_assign (v := .int .i64 2) rfl) ?_
        refine l_nil ?_
        refine c_ret ?_
        obtain rfl := Option.some.inj H18
        refine retCt (i := 0) (vs := [.int .i64 0, .int .i64 0]) (v2 := .int .i64 2) Try.isAgg25 Try.sizeOf25 rfl rfl rfl rfl rfl (fin rfl)
      · have H19 := cnd_f hb H17; clear H17
        refine c_skip ?_
        refine c_seq ?_
        refine c_region ?_
        refine l_val rfl rfl rfl (r_move (v := v0) rfl) ?_
        refine l_val rfl rfl rfl (r_move (v := .int .i64 a1) rfl) ?_
        refine l_val rfl rfl rfl (r_move (v := .int .i64 a2) rfl) ?_
        obtain ⟨t29, h_t29, H20⟩ := bnd_some H19; clear H19
        refine l_callG (fun w hF hS => k77 (know_all w) (f0.mono (hw.now hF)) h_t29) Try.call77 rfl rfl rfl ?_
        refine l_val rfl rfl rfl (r_move (v := .tuple #[.agg #[.int .i64 t29.1.Lat, .int .i64 t29.1.Lon], .bool t29.2]) rfl) ?_
        refine l_val rfl rfl rfl (r_extract (v := .agg #[.int .i64 t29.1.Lat, .int .i64 t29.1.Lon]) rfl rfl) ?_
        refine l_val rfl rfl rfl (r_extract (v := .bool t29.2) rfl rfl) ?_
        refine l_alloc (cs := [.int .i64 0, .int .i64 0]) Try.zeroValue25 rfl rfl rfl (fun b3 => ?_)
        refine l_store (i := 1) (vs := [.int .i64 t29.1.Lat, .int .i64 t29.1.Lon]) (cs' := [.int .i64 t29.1.Lat, .int .i64 t29.1.Lon]) Try.sizeOf25 rfl rfl rfl rfl rfl rfl rfl rfl rfl ?_
        refine l_val rfl rfl rfl (r_assign (v := .bool t29.2) rfl) ?_
        refine l_nil ?_
        refine c_seq ?_
        refine c_seq ?_
        refine c_region ?_
        refine l_val rfl rfl rfl (r_move (v := .bool t29.2) rfl) ?_
        refine l_val rfl rfl rfl (r_not rfl) ?_
        refine l_nil ?_
        refine c_if (b := (!t29.2)) rfl (fun hb => ?_) (fun hb => ?_)
        · have H21 := cnd_t hb H20; clear H20
          refine c_seq ?_
          refine c_region ?_
          refine l_val rfl rfl rfl (r_build (pl := #[(0, 1), (1, 1)]) (ps := []) (cells := #[.int .i64 0, .int .i64 0]) Try.zeroValue25 Try.runUnderlying25 (fun w => by kernel_rfl) rfl rfl) ?_
          refine l_store (i := 0) (vs := [.int .i64 0, .int .i64 0]) (cs' := [.int .i64 0, .int .i64 0]) Try.sizeOf25 rfl rfl rfl rfl rfl rfl rfl rfl rfl ?_
          refine l_val rfl rfl rfl (r_assign (v := .int .i64 7) rfl) ?_
          refine l_nil ?_
          refine c_ret ?_
          obtain rfl := Option.some.inj H21
          refine retCt (i := 0) (vs := [.int .i64 0, .int .i64 0]) (v2 := .int .i64 7) Try.isAgg25 Try.sizeOf25 rfl rfl rfl rfl rfl (fin rfl)
        · have H22 := cnd_f hb H20; clear H20
          refine c_skip ?_
          refine c_seq ?_
          refine c_region ?_
          refine l_loadN (i := 1) (vs := [.int .i64 t29.1.Lat, .int .i64 t29.1.Lon]) Try.isAgg25 Try.sizeOf25 rfl rfl rfl rfl rfl ?_
          refine l_store (i := 0) (vs := [.int .i64 t29.1.Lat, .int .i64 t29.1.Lon]) (cs' := [.int .i64 t29.1.Lat, .int .i64 t29.1.Lon]) Try.sizeOf25 rfl rfl rfl rfl rfl rfl rfl rfl rfl ?_
          refine l_val rfl rfl rfl (r_assign (v := .int .i64 0) rfl) ?_
          refine l_nil ?_
          refine c_ret ?_
          obtain rfl := Option.some.inj H22
          refine retCt (i := 0) (vs := [.int .i64 t29.1.Lat, .int .i64 t29.1.Lon]) (v2 := .int .i64 0) Try.isAgg25 Try.sizeOf25 rfl rfl rfl rfl rfl (fin rfl)
theorem k44 {a0 : (List T_where_Fix)} {v0 : Value} {r : Int × Int} {w : World} {h : Heap} (hw : Know h w noS) (f0 : FrS h 3 v0 (a0.map e_where_Fix)) (H : where_Length a0 = some r) : Does Try.prog 44 (List.toArray [v0]) w (fun v w' => v = (.tuple #[.int .i64 r.1, .int .i64 r.2]) ∧ Grow w w') := by
  refine enter (n := 33) Try.func44 rfl rfl rfl noS [] (Sat.nil _ _) ?_
  refine c_seq ?_
  refine c_region ?_
  refine l_val rfl rfl rfl (r_assign (v := .int .i64 0) rfl) ?_
  refine l_val rfl rfl rfl (r_assign (v := .int .i64 0) rfl) ?_
  refine l_nil ?_
  refine c_seq ?_
  refine c_seq ?_
  refine c_region ?_
  refine l_val rfl rfl rfl (r_move (v := v0) rfl) ?_
  obtain ⟨t8, h_t8, H13⟩ := bnd_some H; clear H
  refine l_callG (fun w hF hS => k47 (know_all w) (f0.mono (hw.now hF)) h_t8) Try.call47 rfl rfl rfl ?_
  refine l_val rfl rfl rfl (r_assign (v := .int .i64 t8) rfl) ?_
  refine l_nil ?_
  refine c_seq ?_
  refine c_region ?_
  refine l_val rfl rfl rfl (r_move (v := .int .i64 t8) rfl) ?_
  refine l_val rfl rfl rfl (r_neq rfl rfl) ?_
  refine l_nil ?_
  refine c_if (b := (decide (t8 ≠ 0))) rfl (fun hb => ?_) (fun hb => ?_)
  · have H14 := cnd_t hb H13; clear H13
    refine c_seq ?_
    refine c_region ?_
    refine l_val rfl rfl rfl (r_move (v := .int .i64 t8) rfl) ?_
    refine l_val rfl rfl rfl (r_assign (v := .int .i64 0) rfl) ?_
    refine l_val rfl rfl rfl (r_assign (v := .int .i64 t8) rfl) ?_
    refine l_nil ?_
    refine c_ret ?_
    obtain rfl := Option.some.inj H14
    refine ret2 (v1 := .int .i64 0) (v2 := .int .i64 t8) rfl rfl rfl (fin rfl)
  · have H15 := cnd_f hb H13; clear H13
    refine c_skip ?_
    refine c_seq ?_
    refine c_region ?_
    refine l_val rfl rfl rfl (r_assign (v := .int .i64 0) rfl) ?_
    refine l_nil ?_
    refine c_seq ?_
    refine c_seq ?_
    refine c_region ?_
    refine l_val rfl rfl rfl (r_assign (v := .int .i64 1) rfl) ?_
    refine l_nil ?_
    refine c_block ?_
    refine c_fix (σ := Int × Int) (τ := Unit) (fun next1 s => where_Length_l1 a0 next1 s.1 s.2) (fun s t => [(0, v0), (5, .int .i64 s.1), (6, .int .i64 s.2)]) (fun s t => []) (fun s t => True) (0, 1) () [] H15 (by exact trivial) (by exact ⟨rfl, rfl, rfl, trivial⟩) (by decide) rfl ?_
    rintro ⟨x5_2, x6_2⟩ _ m1 gg H16 _
    clear H15
    replace H16 : where_Length_l1 a0 (it (fun next1 s => where_Length_l1 a0 next1 s.1 s.2) m1) x5_2 x6_2 = some r := H16
    generalize hn1 : it (fun next1 s => where_Length_l1 a0 next1 s.1 s.2) m1 = next1 at H16
    refine c_tidyF [(0, v0), (5, .int .i64 x5_2), (6, .int .i64 x6_2)] [] rfl rfl ?_
    refine c_seq ?_
    refine c_seq ?_
    refine c_region ?_
    refine l_val rfl rfl rfl (r_move (v := .int .i64 x6_2) rfl) ?_
    refine l_val rfl rfl rfl (r_move (v := v0) rfl) ?_
    refine l_val rfl rfl rfl (r_lenF Try.underlying49 rfl f0 rfl) ?_
    refine l_val rfl rfl rfl (r_lss rfl rfl) ?_
    refine l_nil ?_
    refine c_if (b := (decide (x6_2 < (a0.length : Int)))) rfl (fun hb => ?_) (fun hb => ?_)
    · have H17 := cnd_t hb H16; clear H16
      refine c_skip ?_
      refine c_seq ?_
      refine c_block ?_
      exact c_regionD (Kd.p :: Kd.p :: Kd.p :: Kd.p :: Kd.p :: Kd.p :: Kd.d [] _ :: Kd.p :: Kd.p :: Kd.p :: Kd.p :: Kd.d [] _ :: Kd.d [] _ :: Kd.p :: Kd.p :: []) 0 mixed (by
        refine d_val rfl rfl (r_move (v := .int .i64 x5_2) rfl) ?_
        refine d_val rfl rfl (r_move (v := v0) rfl) ?_
        refine d_val rfl rfl (r_move (v := .int .i64 x6_2) rfl) ?_
        have h_t21 := bnd_val H17
        have H18 := bnd_rest H17
        refine d_val rfl rfl (r_subG rfl rfl h_t21) ?_
        have h_t22 := bnd_val H18
        have H19 := bnd_rest H18
        refine d_val rfl rfl (r_indexF Try.underlying49 Try.sizeOf78 rfl rfl f0 h_t22) ?_
        refine d_val rfl rfl (r_fieldP Try.runUnderlying78 rfl Try.sizeOf25 rfl rfl (some_of_at f0 h_t22)) ?_
        refine d_read (fun w hF => run_loadGN (j := 1) (vs := [.int .i64 (val (gAt a0 (val (gI (x6_2 - 1))))).Place.Lat, .int .i64 (val (gAt a0 (val (gI (x6_2 - 1))))).Place.Lon]) Try.isAgg25 Try.sizeOf25 rfl rfl (f0.row (hw.now hF)) h_t22 rfl) rfl rfl ?_
        refine d_val rfl rfl (r_move (v := v0) rfl) ?_
        refine d_val rfl rfl (r_move (v := .int .i64 x6_2) rfl) ?_
        have h_t27 := bnd_val H19
        have H20 := bnd_rest H19
        refine d_val rfl rfl (r_indexF Try.underlying49 Try.sizeOf78 rfl rfl f0 h_t27) ?_
        refine d_val rfl rfl (r_fieldP Try.runUnderlying78 rfl Try.sizeOf25 rfl rfl (some_of_at f0 h_t27)) ?_
        refine d_read (fun w hF => run_loadGN (j := 1) (vs := [.int .i64 (val (gAt a0 x6_2)).Place.Lat, .int .i64 (val (gAt a0 x6_2)).Place.Lon]) Try.isAgg25 Try.sizeOf25 rfl rfl (f0.row (hw.now hF)) h_t27 rfl) rfl rfl ?_
        have h_t30 := bnd_val H20
        have H21 := bnd_rest H20
        refine d_call (k81 h_t30) Try.call81 rfl rfl ?_
        have h_t31 := bnd_val H21
        have H22 := bnd_rest H21
        refine d_val rfl rfl (r_addG rfl rfl h_t31) ?_
        refine d_val rfl rfl (r_assign (v := .int .i64 (val (gI (x5_2 + (val (where_distance (val (gAt a0 (val (gI (x6_2 - 1))))).Place (val (gAt a0 x6_2)).Place)))))) rfl) ?_
        refine d_nil ?_
        refine c_region ?_
        refine l_val rfl rfl rfl (r_move (v := .int .i64 x6_2) rfl) ?_
        obtain ⟨t17, h_t17, H23⟩ := bnd_some H22; clear H22
        refine l_val rfl rfl rfl (r_addG rfl rfl h_t17) ?_
        refine l_val rfl rfl rfl (r_assign (v := .int .i64 t17) rfl) ?_
        refine l_nil ?_
        refine c_close ((val (gI (x5_2 + (val (where_distance (val (gAt a0 (val (gI (x6_2 - 1))))).Place (val (gAt a0 x6_2)).Place))))), t17) () m1 [] (by exact ⟨rfl, rfl, rfl, trivial⟩) (by decide) rfl (by exact ⟨(by subst hn1; exact H23), trivial⟩) (Nat.lt_succ_self _)
        ) (by kernel_rfl)
    · have H24 := cnd_f hb H16; clear H16
      refine c_exit ?_
      refine c_seq ?_
      refine c_region ?_
      refine l_val rfl rfl rfl (r_move (v := .int .i64 x5_2) rfl) ?_
      refine l_val rfl rfl rfl (r_assign (v := .int .i64 x5_2) rfl) ?_
      refine l_val rfl rfl rfl (r_assign (v := .int .i64 0) rfl) ?_
      refine l_nil ?_
      refine c_ret ?_
      obtain rfl := Option.some.inj H24
      refine ret2 (v1 := .int .i64 x5_2) (v2 := .int .i64 0) rfl rfl rfl (fin rfl)
theorem k46 {a0 : (List T_where_Fix)} {v0 : Value} {r : Int} {w : World} {h : Heap} (hw : Know h w noS) (f0 : FrS h 3 v0 (a0.map e_where_Fix)) (H : R_LengthOf a0 = some r) : Does Try.prog 46 (List.toArray [v0]) w (fun v w' => v = (.int .i64 r) ∧ Grow w w') := by
  refine enter (n := 26) Try.func46 rfl rfl rfl noS [] (Sat.nil _ _) ?_
  refine c_seq ?_
  refine c_region ?_
  refine l_val rfl rfl rfl (r_assign (v := .int .i64 0) rfl) ?_
  refine l_nil ?_
  refine c_seq ?_
  refine c_region ?_
  refine l_val rfl rfl rfl (r_assign (v := .int .i64 0) rfl) ?_
  refine l_nil ?_
  refine c_seq ?_
  refine c_seq ?_
  refine c_region ?_
  refine l_val rfl rfl rfl (r_assign (v := .int .i64 1) rfl) ?_
  refine l_nil ?_
  refine c_block ?_
  refine c_fix (σ := Int × Int) (τ := Unit) (fun next1 s => R_LengthOf_l1 a0 next1 s.1 s.2) (fun s t => [(0, v0), (3, .int .i64 s.1), (4, .int .i64 s.2)]) (fun s t => []) (fun s t => True) (0, 1) () [] H (by exact trivial) (by exact ⟨rfl, rfl, rfl, trivial⟩) (by decide) rfl ?_
  rintro ⟨x3_2, x4_2⟩ _ m1 gg H10 _
  clear H
  replace H10 : R_LengthOf_l1 a0 (it (fun next1 s => R_LengthOf_l1 a0 next1 s.1 s.2) m1) x3_2 x4_2 = some r := H10
  generalize hn1 : it (fun next1 s => R_LengthOf_l1 a0 next1 s.1 s.2) m1 = next1 at H10
  refine c_tidyF [(0, v0), (3, .int .i64 x3_2), (4, .int .i64 x4_2)] [] rfl rfl ?_
  refine c_seq ?_
  refine c_seq ?_
  refine c_region ?_
  refine l_val rfl rfl rfl (r_move (v := .int .i64 x4_2) rfl) ?_
  refine l_val rfl rfl rfl (r_move (v := v0) rfl) ?_
  refine l_val rfl rfl rfl (r_lenF Try.underlying49 rfl f0 rfl) ?_
  refine l_val rfl rfl rfl (r_lss rfl rfl) ?_
  refine l_nil ?_
  refine c_if (b := (decide (x4_2 < (a0.length : Int)))) rfl (fun hb => ?_) (fun hb => ?_)
  · have H11 := cnd_t hb H10; clear H10
    refine c_skip ?_
    refine c_seq ?_
    refine c_block ?_
    exact c_regionD (Kd.p :: Kd.p :: Kd.p :: Kd.p :: Kd.p :: Kd.p :: Kd.d [] _ :: Kd.p :: Kd.p :: Kd.p :: Kd.p :: Kd.d [] _ :: Kd.d [] _ :: Kd.p :: Kd.p :: []) 0 mixed (by
      refine d_val rfl rfl (r_move (v := .int .i64 x3_2) rfl) ?_
      refine d_val rfl rfl (r_move (v := v0) rfl) ?_
      refine d_val rfl rfl (r_move (v := .int .i64 x4_2) rfl) ?_
      have h_t14 := bnd_val H11
      have H12 := bnd_rest H11
      refine d_val rfl rfl (r_subG rfl rfl h_t14) ?_
      have h_t15 := bnd_val H12
      have H13 := bnd_rest H12
      refine d_val rfl rfl (r_indexF Try.underlying49 Try.sizeOf78 rfl rfl f0 h_t15) ?_
      refine d_val rfl rfl (r_fieldP Try.runUnderlying78 rfl Try.sizeOf25 rfl rfl (some_of_at f0 h_t15)) ?_
      refine d_read (fun w hF => run_loadGN (j := 1) (vs := [.int .i64 (val (gAt a0 (val (gI (x4_2 - 1))))).Place.Lat, .int .i64 (val (gAt a0 (val (gI (x4_2 - 1))))).Place.Lon]) Try.isAgg25 Try.sizeOf25 rfl rfl (f0.row (hw.now hF)) h_t15 rfl) rfl rfl ?_
      refine d_val rfl rfl (r_move (v := v0) rfl) ?_
      refine d_val rfl rfl (r_move (v := .int .i64 x4_2) rfl) ?_
      have h_t20 := bnd_val H13
      have H14 := bnd_rest H13
      refine d_val rfl rfl (r_indexF Try.underlying49 Try.sizeOf78 rfl rfl f0 h_t20) ?_
      refine d_val rfl rfl (r_fieldP Try.runUnderlying78 rfl Try.sizeOf25 rfl rfl (some_of_at f0 h_t20)) ?_
      refine d_read (fun w hF => run_loadGN (j := 1) (vs := [.int .i64 (val (gAt a0 x4_2)).Place.Lat, .int .i64 (val (gAt a0 x4_2)).Place.Lon]) Try.isAgg25 Try.sizeOf25 rfl rfl (f0.row (hw.now hF)) h_t20 rfl) rfl rfl ?_
      have h_t23 := bnd_val H14
      have H15 := bnd_rest H14
      refine d_call (k39 h_t23) Try.call39 rfl rfl ?_
      have h_t24 := bnd_val H15
      have H16 := bnd_rest H15
      refine d_val rfl rfl (r_addG rfl rfl h_t24) ?_
      refine d_val rfl rfl (r_assign (v := .int .i64 (val (gI (x3_2 + (val (R_DistanceOf (val (gAt a0 (val (gI (x4_2 - 1))))).Place (val (gAt a0 x4_2)).Place)))))) rfl) ?_
      refine d_nil ?_
      refine c_region ?_
      refine l_val rfl rfl rfl (r_move (v := .int .i64 x4_2) rfl) ?_
      obtain ⟨t10, h_t10, H17⟩ := bnd_some H16; clear H16
      refine l_val rfl rfl rfl (r_addG rfl rfl h_t10) ?_
      refine l_val rfl rfl rfl (r_assign (v := .int .i64 t10) rfl) ?_
      refine l_nil ?_
      refine c_close ((val (gI (x3_2 + (val (R_DistanceOf (val (gAt a0 (val (gI (x4_2 - 1))))).Place (val (gAt a0 x4_2)).Place))))), t10) () m1 [] (by exact ⟨rfl, rfl, rfl, trivial⟩) (by decide) rfl (by exact ⟨(by subst hn1; exact H17), trivial⟩) (Nat.lt_succ_self _)
      ) (by kernel_rfl)
  · have H18 := cnd_f hb H10; clear H10
    refine c_exit ?_
    refine c_seq ?_
    refine c_region ?_
    refine l_val rfl rfl rfl (r_move (v := .int .i64 x3_2) rfl) ?_
    refine l_val rfl rfl rfl (r_assign (v := .int .i64 x3_2) rfl) ?_
    refine l_nil ?_
    refine c_ret ?_
    obtain rfl := Option.some.inj H18
    refine ret1 (v := .int .i64 x3_2) rfl rfl (fin rfl)
theorem k8 {a0 : (List T_where_Fix)} {v0 : Value} {a1 : Int} {a2 : Int} {r : Bool} {w : World} {h : Heap} (hw : Know h w noS) (f0 : FrS h 3 v0 (a0.map e_where_Fix)) (H : Law_WhereTracks a0 a1 a2 = some r) : Does Try.prog 8 (List.toArray [v0, .int .i64 a1, .int .i64 a2]) w (fun v w' => v = (.bool r) ∧ Grow w w') := by
  refine enter (n := 71) Try.func8 rfl rfl rfl noS [] (Sat.nil _ _) ?_
  refine c_seq ?_
  refine c_region ?_
  refine l_val rfl rfl rfl (r_assign (v := .bool false) rfl) ?_
  refine l_nil ?_
  refine c_seq ?_
  refine c_region ?_
  refine l_val rfl rfl rfl (r_move (v := v0) rfl) ?_
  obtain ⟨t17, h_t17, H23⟩ := bnd_some H; clear H
  refine l_callG (fun w hF hS => k29 (know_all w) (f0.mono (hw.now hF)) h_t17) Try.call29 rfl rfl rfl ?_
  refine l_val rfl rfl rfl (r_assign (v := .int .i64 t17) rfl) ?_
  refine l_nil ?_
  refine c_seq ?_
  refine c_region ?_
  refine l_val rfl rfl rfl (r_move (v := v0) rfl) ?_
  refine l_val rfl rfl rfl (r_move (v := .int .i64 a1) rfl) ?_
  refine l_val rfl rfl rfl (r_move (v := .int .i64 a2) rfl) ?_
  obtain ⟨t22, h_t22, H24⟩ := bnd_some H23; clear H23
  refine l_callG (fun w hF hS => k43 (know_all w) (f0.mono (hw.now hF)) h_t22) Try.call43 rfl rfl rfl ?_
  refine l_val rfl rfl rfl (r_move (v := .tuple #[.agg #[.int .i64 t22.1.Lat, .int .i64 t22.1.Lon], .int .i64 t22.2]) rfl) ?_
  refine l_val rfl rfl rfl (r_extract (v := .agg #[.int .i64 t22.1.Lat, .int .i64 t22.1.Lon]) rfl rfl) ?_
  refine l_val rfl rfl rfl (r_extract (v := .int .i64 t22.2) rfl rfl) ?_
  refine l_alloc (cs := [.int .i64 0, .int .i64 0]) Try.zeroValue25 rfl rfl rfl (fun b3 => ?_)
  refine l_store (i := 0) (vs := [.int .i64 t22.1.Lat, .int .i64 t22.1.Lon]) (cs' := [.int .i64 t22.1.Lat, .int .i64 t22.1.Lon]) Try.sizeOf25 rfl rfl rfl rfl rfl rfl rfl rfl rfl ?_
  refine l_val rfl rfl rfl (r_assign (v := .int .i64 t22.2) rfl) ?_
  refine l_nil ?_
  refine c_seq ?_
  refine c_region ?_
  refine l_val rfl rfl rfl (r_move (v := v0) rfl) ?_
  obtain ⟨t27, h_t27, H25⟩ := bnd_some H24; clear H24
  refine l_callG (fun w hF hS => k44 (know_all w) (f0.mono (hw.now hF)) h_t27) Try.call44 rfl rfl rfl ?_
  refine l_val rfl rfl rfl (r_move (v := .tuple #[.int .i64 t27.1, .int .i64 t27.2]) rfl) ?_
  refine l_val rfl rfl rfl (r_extract (v := .int .i64 t27.1) rfl rfl) ?_
  refine l_val rfl rfl rfl (r_extract (v := .int .i64 t27.2) rfl rfl) ?_
  refine l_val rfl rfl rfl (r_assign (v := .int .i64 t27.1) rfl) ?_
  refine l_val rfl rfl rfl (r_assign (v := .int .i64 t27.2) rfl) ?_
  refine l_nil ?_
  refine c_seq ?_
  refine c_region ?_
  refine l_val rfl rfl rfl (r_move (v := .int .i64 t17) rfl) ?_
  refine l_val rfl rfl rfl (r_move (v := .int .i64 a1) rfl) ?_
  obtain ⟨t32, h_t32, H26⟩ := bnd_some H25; clear H25
  refine l_call (k45 h_t32) Try.call45 rfl rfl rfl ?_
  refine l_val rfl rfl rfl (r_move (v := .int .i64 a2) rfl) ?_
  refine l_val rfl rfl rfl (r_geq rfl rfl) ?_
  obtain ⟨t35, h_t35, H27⟩ := bnd_some H26; clear H26
  refine l_call (k25 h_t35) Try.call25 rfl rfl rfl ?_
  refine l_buildSlice (vs := [.int .i64 t17, .int .i64 t32, .int .i64 t35]) (cs := [.int .i64 t17, .int .i64 t32, .int .i64 t35]) Try.underlying106 Try.sizeOf26 Try.zeroValue26 rfl rfl rfl rfl rfl rfl rfl (fun b4 => ?_)
  obtain ⟨t37, h_t37, H28⟩ := bnd_some H27; clear H27
  refine l_callG (fun w hF hS => k15 (know_all w) (frs_box (i := 1) (xs := ([t17, t32, t35] : List Int)) (f := e_i64) hS rfl rfl rfl rfl rfl) h_t37) Try.call15 rfl rfl rfl ?_
  refine l_val rfl rfl rfl (r_assign (v := .int .i64 t37) rfl) ?_
  refine l_nil ?_
  refine c_seq ?_
  refine c_region ?_
  refine l_alloc (cs := [.int .i64 0, .int .i64 0]) Try.zeroValue25 rfl rfl rfl (fun b5 => ?_)
  refine l_nil ?_
  refine c_meet (r := r) (σ := Int × Int × Int) (τ := Unit) (fun s => Law_WhereTracks_j1 a0 t17 t22 t27 s.1 s.2.1 s.2.2) (fun s t => [(0, v0), (7, .int .i64 t17), (8, .pointer (some ⟨b3, 0, none⟩)), (9, .int .i64 t22.2), (10, .int .i64 t27.1), (11, .int .i64 t27.2), (12, .int .i64 s.1), (13, .pointer (some ⟨b5, 0, none⟩))]) (fun s t => [cellsC b3 [.int .i64 t22.1.Lat, .int .i64 t22.1.Lon] 25, cellsC b5 [.int .i64 s.2.1, .int .i64 s.2.2] 25]) (fun s t => True) ?_ ?_
  · refine c_seq ?_
    refine c_region ?_
    refine l_val rfl rfl rfl (r_move (v := .int .i64 t37) rfl) ?_
    refine l_val rfl rfl rfl (r_eql rfl rfl) ?_
    refine l_nil ?_
    refine c_if (b := (decide (t37 = 0))) rfl (fun hb => ?_) (fun hb => ?_)
    · have H41 := cnd_t hb H28; clear H28
      refine c_seq ?_
      refine c_region ?_
      refine l_val rfl rfl rfl (r_assign (v := .bool false) rfl) ?_
      refine l_nil ?_
      refine c_seq ?_
      refine c_region ?_
      refine l_val rfl rfl rfl (r_move (v := v0) rfl) ?_
      refine l_val rfl rfl rfl (r_move (v := .int .i64 a1) rfl) ?_
      refine l_val rfl rfl rfl (r_move (v := .int .i64 a2) rfl) ?_
      obtain ⟨t44, h_t44, H42⟩ := bnd_some H41; clear H41
      refine l_callG (fun w hF hS => k30 (know_all w) (f0.mono (hw.now hF)) h_t44) Try.call30 rfl rfl rfl ?_
      refine l_val rfl rfl rfl (r_move (v := .tuple #[.agg #[.int .i64 t44.1.Lat, .int .i64 t44.1.Lon], .bool t44.2]) rfl) ?_
      refine l_val rfl rfl rfl (r_extract (v := .agg #[.int .i64 t44.1.Lat, .int .i64 t44.1.Lon]) rfl rfl) ?_
      refine l_val rfl rfl rfl (r_extract (v := .bool t44.2) rfl rfl) ?_
      refine l_store (i := 2) (vs := [.int .i64 t44.1.Lat, .int .i64 t44.1.Lon]) (cs' := [.int .i64 t44.1.Lat, .int .i64 t44.1.Lon]) Try.sizeOf25 rfl rfl rfl rfl rfl rfl rfl rfl rfl ?_
      refine l_val rfl rfl rfl (r_assign (v := .bool t44.2) rfl) ?_
      refine l_nil ?_
      refine c_region ?_
      refine l_val rfl rfl rfl (r_move (v := .bool t44.2) rfl) ?_
      obtain ⟨t48, h_t48, H43⟩ := bnd_some H42; clear H42
      refine l_call (k25 h_t48) Try.call25 rfl rfl rfl ?_
      refine l_val rfl rfl rfl (r_assign (v := .int .i64 t48) rfl) ?_
      refine l_nil ?_
      refine c_close (t48, t44.1.Lat, t44.1.Lon) () 0 [0, 2] (by exact ⟨rfl, rfl, rfl, rfl, rfl, rfl, rfl, rfl, trivial⟩) (by decide) rfl (by exact ⟨H43, trivial⟩) (Nat.lt_succ_self _)
    · have H44 := cnd_f hb H28; clear H28
      refine c_skip ?_
      refine c_close (t37, 0, 0) () 0 [0, 2] (by exact ⟨rfl, rfl, rfl, rfl, rfl, rfl, rfl, rfl, trivial⟩) (by decide) rfl (by exact ⟨H44, trivial⟩) (Nat.lt_succ_self _)
  · rintro ⟨x12, m, m_2⟩ _ gg H29 _
    replace H29 : Law_WhereTracks_j1 a0 t17 t22 t27 x12 m m_2 = some r := H29
    refine c_tidyF [(0, v0), (7, .int .i64 t17), (8, .pointer (some ⟨b3, 0, none⟩)), (9, .int .i64 t22.2), (10, .int .i64 t27.1), (11, .int .i64 t27.2), (12, .int .i64 x12), (13, .pointer (some ⟨b5, 0, none⟩))] [cellsC b3 [.int .i64 t22.1.Lat, .int .i64 t22.1.Lon] 25, cellsC b5 [.int .i64 m, .int .i64 m_2] 25] rfl rfl ?_
    refine c_seq ?_
    refine c_region ?_
    refine l_val rfl rfl rfl (r_assign (v := .int .i64 0) rfl) ?_
    refine l_nil ?_
    refine c_meet (r := r) (σ := Int) (τ := Unit) (fun s => Law_WhereTracks_j2 a0 t17 t22 t27 x12 m m_2 s) (fun s t => [(0, v0), (7, .int .i64 t17), (8, .pointer (some ⟨b3, 0, none⟩)), (9, .int .i64 t22.2), (10, .int .i64 t27.1), (11, .int .i64 t27.2), (12, .int .i64 x12), (13, .pointer (some ⟨b5, 0, none⟩)), (15, .int .i64 s)]) (fun s t => [cellsC b3 [.int .i64 t22.1.Lat, .int .i64 t22.1.Lon] 25, cellsC b5 [.int .i64 m, .int .i64 m_2] 25]) (fun s t => True) ?_ ?_
    · refine c_seq ?_
      refine c_region ?_
      refine l_val rfl rfl rfl (r_move (v := .int .i64 t17) rfl) ?_
      refine l_val rfl rfl rfl (r_eql rfl rfl) ?_
      refine l_nil ?_
      refine c_if (b := (decide (t17 = 0))) rfl (fun hb => ?_) (fun hb => ?_)
      · have H38 := cnd_t hb H29; clear H29
        refine c_region ?_
        refine l_val rfl rfl rfl (r_move (v := v0) rfl) ?_
        obtain ⟨t52, h_t52, H39⟩ := bnd_some H38; clear H38
        refine l_callG (fun w hF hS => k46 (know_all w) (f0.mono (hw.now hF)) h_t52) Try.call46 rfl rfl rfl ?_
        refine l_val rfl rfl rfl (r_assign (v := .int .i64 t52) rfl) ?_
        refine l_nil ?_
        refine c_close t52 () 0 [0, 1] (by exact ⟨rfl, rfl, rfl, rfl, rfl, rfl, rfl, rfl, rfl, trivial⟩) (by decide) rfl (by exact ⟨H39, trivial⟩) (Nat.lt_succ_self _)
      · have H40 := cnd_f hb H29; clear H29
        refine c_skip ?_
        refine c_close 0 () 0 [0, 1] (by exact ⟨rfl, rfl, rfl, rfl, rfl, rfl, rfl, rfl, rfl, trivial⟩) (by decide) rfl (by exact ⟨H40, trivial⟩) (Nat.lt_succ_self _)
    · rintro x15 _ gg H30 _
      replace H30 : Law_WhereTracks_j2 a0 t17 t22 t27 x12 m m_2 x15 = some r := H30
      refine c_tidyF [(0, v0), (7, .int .i64 t17), (8, .pointer (some ⟨b3, 0, none⟩)), (9, .int .i64 t22.2), (10, .int .i64 t27.1), (11, .int .i64 t27.2), (12, .int .i64 x12), (13, .pointer (some ⟨b5, 0, none⟩)), (15, .int .i64 x15)] [cellsC b3 [.int .i64 t22.1.Lat, .int .i64 t22.1.Lon] 25, cellsC b5 [.int .i64 m, .int .i64 m_2] 25] rfl rfl ?_
      refine c_seq ?_
      refine c_region ?_
      refine l_val rfl rfl rfl (r_move (v := v0) rfl) ?_
      obtain ⟨t54, h_t54, H31⟩ := bnd_some H30; clear H30
      refine l_callG (fun w hF hS => k47 (know_all w) (f0.mono (hw.now hF)) h_t54) Try.call47 rfl rfl rfl ?_
      refine l_val rfl rfl rfl (r_move (v := .int .i64 t17) rfl) ?_
      refine l_val rfl rfl rfl (r_eql rfl rfl) ?_
      refine l_val rfl rfl rfl (r_move (v := .bool (decide (t54 = t17))) rfl) ?_
      refine split (fun hb => ?_) (fun hb => ?_)
      · have H32 := cnd_t hb H31; clear H31
        refine l_loadN (i := 0) (vs := [.int .i64 t22.1.Lat, .int .i64 t22.1.Lon]) Try.isAgg25 Try.sizeOf25 rfl rfl rfl rfl rfl ?_
        refine l_val rfl rfl rfl (r_move (v := .int .i64 t22.2) rfl) ?_
        refine l_loadN (i := 1) (vs := [.int .i64 m, .int .i64 m_2]) Try.isAgg25 Try.sizeOf25 rfl rfl rfl rfl rfl ?_
        refine l_val rfl rfl rfl (r_move (v := .int .i64 x12) rfl) ?_
        obtain ⟨t62, h_t62, H33⟩ := bnd_some H32; clear H32
        refine l_call (k37 h_t62) Try.call37 rfl rfl rfl ?_
        refine l_val rfl rfl rfl (r_pickT (v := .bool t62) rfl rfl) ?_
        refine l_val rfl rfl rfl (r_move (v := .bool t62) rfl) ?_
        refine split (fun hb => ?_) (fun hb => ?_)
        · have H34 := cnd_t hb H33; clear H33
          refine l_val rfl rfl rfl (r_move (v := .int .i64 t27.1) rfl) ?_
          refine l_val rfl rfl rfl (r_move (v := .int .i64 t27.2) rfl) ?_
          refine l_val rfl rfl rfl (r_move (v := .int .i64 x15) rfl) ?_
          refine l_val rfl rfl rfl (r_move (v := .int .i64 t17) rfl) ?_
          obtain ⟨t69, h_t69, H35⟩ := bnd_some H34; clear H34
          refine l_call (k36 h_t69) Try.call36 rfl rfl rfl ?_
          refine l_val rfl rfl rfl (r_pickT (v := .bool t69) rfl rfl) ?_
          refine l_val rfl rfl rfl (r_assign (v := .bool t69) rfl) ?_
          refine l_nil ?_
          refine c_ret ?_
          obtain rfl := Option.some.inj H35
          refine ret1 (v := .bool t69) rfl rfl (fin rfl)
        · have H36 := cnd_f hb H33; clear H33
          refine l_passed rfl rfl rfl ?_
          refine l_passed rfl rfl rfl ?_
          refine l_passed rfl rfl rfl ?_
          refine l_passed rfl rfl rfl ?_
          refine l_passed rfl rfl rfl ?_
          refine l_val rfl rfl rfl (r_pickF (v := .bool false) rfl rfl) ?_
          refine l_val rfl rfl rfl (r_assign (v := .bool false) rfl) ?_
          refine l_nil ?_
          refine c_ret ?_
          obtain rfl := Option.some.inj H36
          refine ret1 (v := .bool false) rfl rfl (fin rfl)
      · have H37 := cnd_f hb H31; clear H31
        refine l_passed rfl rfl rfl ?_
        refine l_passed rfl rfl rfl ?_
        refine l_passed rfl rfl rfl ?_
        refine l_passed rfl rfl rfl ?_
        refine l_passed rfl rfl rfl ?_
        refine l_val rfl rfl rfl (r_pickF (v := .bool false) rfl rfl) ?_
        refine l_val rfl rfl rfl (r_move (v := .bool false) rfl) ?_
        refine l_passed rfl rfl rfl ?_
        refine l_passed rfl rfl rfl ?_
        refine l_passed rfl rfl rfl ?_
        refine l_passed rfl rfl rfl ?_
        refine l_passed rfl rfl rfl ?_
        refine l_val rfl rfl rfl (r_pickF (v := .bool false) rfl rfl) ?_
        refine l_val rfl rfl rfl (r_assign (v := .bool false) rfl) ?_
        refine l_nil ?_
        refine c_ret ?_
        obtain rfl := Option.some.inj H37
        refine ret1 (v := .bool false) rfl rfl (fin rfl)
end Go.Proofs.Ytfgehlmdcllclaa
