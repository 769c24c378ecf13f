/- WhereSimple: the walks, printed by our generator; each follows its model. Conditions: the model yields a value. -/
import Derived.Test.YtfgehlmdcllclaaKW
namespace Go.Proofs.Ytfgehlmdcllclaa
open Go Go.Vc Go.Md Go.M Go.Lx
set_option maxRecDepth 100000
set_option maxHeartbeats 4000000
set_option linter.unusedVariables false

theorem k87_it (mm : Nat) : ∀ {a0 : (List T_where_Fix)} {v0 : Value} {a1 : Int} {a2 : Int} {a3 : Int} {a4 : (List Bool)} {p4 : Option Addr × Nat} {n4 : Nat} {r : (List Bool)} {w : World} {h : Heap} {S : Nat → Prop} (hcs : (rowV 4 1 (.slice p4.1 n4 p4.2) n4 (a4.map e_bool)).P S w) (hlt : ∀ b, S b → b < w.heap.size) (hw : Know h w S) (f0 : FrS h 3 v0 (a0.map e_where_Fix)) (hn4 : n4 = a4.length) (H : it (fun (self : ((List T_where_Fix) × Int × Int × Int × (List Bool)) → Option ((List Bool))) (s : (List T_where_Fix) × Int × Int × Int × (List Bool)) => where_simplify_body self s.1 s.2.1 s.2.2.1 s.2.2.2.1 s.2.2.2.2) mm (a0, a1, a2, a3, a4) = some r), Does Try.prog 87 (List.toArray [v0, .int .i64 a1, .int .i64 a2, .int .i64 a3, .slice p4.1 n4 p4.2]) w (fun v w' => ∃ x : Unit, v = (.tuple #[]) ∧ Turn w w' S (rowV 4 1 (.slice p4.1 n4 p4.2) n4 (r.map e_bool))) := by
  induction mm with
  | zero => intros; rename_i H; exact absurd H (by simp [it])
  | succ mm ih =>
    intro a0 v0 a1 a2 a3 a4 p4 n4 r w h S hcs hlt hw f0 hn4 H
    replace H : where_simplify_body (it (fun (self : ((List T_where_Fix) × Int × Int × Int × (List Bool)) → Option ((List Bool))) (s : (List T_where_Fix) × Int × Int × Int × (List Bool)) => where_simplify_body self s.1 s.2.1 s.2.2.1 s.2.2.2.1 s.2.2.2.2) mm) a0 a1 a2 a3 a4 = some r := H
    generalize it (fun (self : ((List T_where_Fix) × Int × Int × Int × (List Bool)) → Option ((List Bool))) (s : (List T_where_Fix) × Int × Int × Int × (List Bool)) => where_simplify_body self s.1 s.2.1 s.2.2.1 s.2.2.2.1 s.2.2.2.2) mm = self at H ih
    refine enter (n := 80) Try.func87 rfl rfl rfl S [rowV 4 1 (.slice p4.1 n4 p4.2) n4 (a4.map e_bool)] (Sat.one hcs hlt) ?_
    refine c_seq ?_
    refine c_region ?_
    refine l_val rfl rfl rfl (r_move (v := .int .i64 a3) rfl) ?_
    refine l_val rfl rfl rfl (r_assign (v := .int .i64 (-1)) rfl) ?_
    refine l_val rfl rfl rfl (r_assign (v := .int .i64 a3) rfl) ?_
    refine l_nil ?_
    refine c_seq ?_
    exact c_regionD (Kd.p :: Kd.p :: Kd.p :: Kd.d [] _ :: Kd.p :: Kd.p :: Kd.p :: Kd.d [] _ :: Kd.nw 1 [_, _, _] 78 :: Kd.nw 2 [_, _, _] 78 :: Kd.st 12 1 [_, _, _] 78 :: Kd.st 13 2 [_, _, _] 78 :: []) 2 mixed (by
      refine d_val rfl rfl (r_move (v := v0) rfl) ?_
      refine d_val rfl rfl (r_move (v := .int .i64 a1) rfl) ?_
      have h_t20 := bnd_val H
      have H24 := bnd_rest H
      refine d_val rfl rfl (r_indexF Try.underlying49 Try.sizeOf78 rfl rfl f0 h_t20) ?_
      refine d_read (fun w hF => run_loadGN (j := 0) (vs := [.int .i64 (val (gAt a0 a1)).Moment, .int .i64 (val (gAt a0 a1)).Place.Lat, .int .i64 (val (gAt a0 a1)).Place.Lon]) Try.isAgg78 Try.sizeOf78 rfl rfl (f0.row (hw.now hF)) h_t20 rfl) rfl rfl ?_
      refine d_val rfl rfl (r_move (v := v0) rfl) ?_
      refine d_val rfl rfl (r_move (v := .int .i64 a2) rfl) ?_
      have h_t24 := bnd_val H24
      have H25 := bnd_rest H24
      refine d_val rfl rfl (r_indexF Try.underlying49 Try.sizeOf78 rfl rfl f0 h_t24) ?_
      refine d_read (fun w hF => run_loadGN (j := 0) (vs := [.int .i64 (val (gAt a0 a2)).Moment, .int .i64 (val (gAt a0 a2)).Place.Lat, .int .i64 (val (gAt a0 a2)).Place.Lon]) Try.isAgg78 Try.sizeOf78 rfl rfl (f0.row (hw.now hF)) h_t24 rfl) rfl rfl ?_
      refine d_new rfl rfl (run_alloc (cs := [.int .i64 0, .int .i64 0, .int .i64 0]) Try.zeroValue78 rfl) rfl (fun b3 => ?_)
      refine d_new rfl rfl (run_alloc (cs := [.int .i64 0, .int .i64 0, .int .i64 0]) Try.zeroValue78 rfl) rfl (fun b4 => ?_)
      refine d_store (i := 1) (vs := [.int .i64 (val (gAt a0 a1)).Moment, .int .i64 (val (gAt a0 a1)).Place.Lat, .int .i64 (val (gAt a0 a1)).Place.Lon]) (cs' := [.int .i64 (val (gAt a0 a1)).Moment, .int .i64 (val (gAt a0 a1)).Place.Lat, .int .i64 (val (gAt a0 a1)).Place.Lon]) Try.sizeOf78 rfl rfl rfl rfl rfl rfl rfl rfl rfl ?_
      refine d_store (i := 2) (vs := [.int .i64 (val (gAt a0 a2)).Moment, .int .i64 (val (gAt a0 a2)).Place.Lat, .int .i64 (val (gAt a0 a2)).Place.Lon]) (cs' := [.int .i64 (val (gAt a0 a2)).Moment, .int .i64 (val (gAt a0 a2)).Place.Lat, .int .i64 (val (gAt a0 a2)).Place.Lon]) Try.sizeOf78 rfl rfl rfl rfl rfl rfl rfl rfl rfl ?_
      refine d_nil ?_
      refine c_meet (r := r) (σ := Int) (τ := Unit) (fun s => where_simplify_j1 a0 a1 a2 a3 a4 self s) (fun s t => [(0, v0), (1, .int .i64 a1), (2, .int .i64 a2), (3, .int .i64 a3), (4, .slice p4.1 n4 p4.2), (10, .int .i64 s)]) (fun s t => [rowV 4 1 (.slice p4.1 n4 p4.2) n4 (a4.map e_bool)]) (fun s t => True) ?_ ?_
      · refine c_seq ?_
        refine c_region ?_
        refine l_val rfl rfl rfl (r_move (v := .int .i64 a1) rfl) ?_
        obtain ⟨t27, h_t27, H33⟩ := bnd_some H25; clear H25
        refine l_val rfl rfl rfl (r_addG rfl rfl h_t27) ?_
        refine l_val rfl rfl rfl (r_assign (v := .int .i64 t27) rfl) ?_
        refine l_nil ?_
        refine c_block ?_
        refine c_fix (σ := Int × Int × Int) (τ := Unit) (fun next2 s => where_simplify_l2 a0 a1 a2 a3 a4 self (val (gAt a0 a1)) (val (gAt a0 a2)) next2 s.1 s.2.1 s.2.2) (fun s t => [(0, v0), (1, .int .i64 a1), (2, .int .i64 a2), (3, .int .i64 a3), (4, .slice p4.1 n4 p4.2), (10, .int .i64 s.1), (11, .int .i64 s.2.1), (12, .pointer (some ⟨b3, 0, none⟩)), (13, .pointer (some ⟨b4, 0, none⟩)), (14, .int .i64 s.2.2)]) (fun s t => [rowV 4 1 (.slice p4.1 n4 p4.2) n4 (a4.map e_bool), cellsC b3 [.int .i64 (val (gAt a0 a1)).Moment, .int .i64 (val (gAt a0 a1)).Place.Lat, .int .i64 (val (gAt a0 a1)).Place.Lon] 78, cellsC b4 [.int .i64 (val (gAt a0 a2)).Moment, .int .i64 (val (gAt a0 a2)).Place.Lat, .int .i64 (val (gAt a0 a2)).Place.Lon] 78]) (fun s t => True) ((-1), a3, t27) () [0, 1, 2] H33 (by exact trivial) (by exact ⟨rfl, rfl, rfl, rfl, rfl, rfl, rfl, rfl, rfl, rfl, trivial⟩) (by decide) rfl ?_
        rintro ⟨x10_3, x11_2, x14_2⟩ _ m2 gg H34 _
        clear H33
        replace H34 : where_simplify_l2 a0 a1 a2 a3 a4 self (val (gAt a0 a1)) (val (gAt a0 a2)) (it (fun next2 s => where_simplify_l2 a0 a1 a2 a3 a4 self (val (gAt a0 a1)) (val (gAt a0 a2)) next2 s.1 s.2.1 s.2.2) m2) x10_3 x11_2 x14_2 = some r := H34
        generalize hn2 : it (fun next2 s => where_simplify_l2 a0 a1 a2 a3 a4 self (val (gAt a0 a1)) (val (gAt a0 a2)) next2 s.1 s.2.1 s.2.2) m2 = next2 at H34
        refine c_tidyF [(0, v0), (1, .int .i64 a1), (2, .int .i64 a2), (3, .int .i64 a3), (4, .slice p4.1 n4 p4.2), (10, .int .i64 x10_3), (11, .int .i64 x11_2), (12, .pointer (some ⟨b3, 0, none⟩)), (13, .pointer (some ⟨b4, 0, none⟩)), (14, .int .i64 x14_2)] [rowV 4 1 (.slice p4.1 n4 p4.2) n4 (a4.map e_bool), cellsC b3 [.int .i64 (val (gAt a0 a1)).Moment, .int .i64 (val (gAt a0 a1)).Place.Lat, .int .i64 (val (gAt a0 a1)).Place.Lon] 78, cellsC b4 [.int .i64 (val (gAt a0 a2)).Moment, .int .i64 (val (gAt a0 a2)).Place.Lat, .int .i64 (val (gAt a0 a2)).Place.Lon] 78] rfl rfl ?_
        refine c_seq ?_
        refine c_seq ?_
        refine c_region ?_
        refine l_val rfl rfl rfl (r_move (v := .int .i64 x14_2) rfl) ?_
        refine l_val rfl rfl rfl (r_move (v := .int .i64 a2) rfl) ?_
        refine l_val rfl rfl rfl (r_lss rfl rfl) ?_
        refine l_nil ?_
        refine c_if (b := (decide (x14_2 < a2))) rfl (fun hb => ?_) (fun hb => ?_)
        · have H35 := cnd_t hb H34; clear H34
          refine c_skip ?_
          refine c_meet (r := r) (σ := Int × Int) (τ := Unit) (fun s => where_simplify_j3 x14_2 next2 s.1 s.2) (fun s t => [(0, v0), (1, .int .i64 a1), (2, .int .i64 a2), (3, .int .i64 a3), (4, .slice p4.1 n4 p4.2), (10, .int .i64 s.1), (11, .int .i64 s.2), (12, .pointer (some ⟨b3, 0, none⟩)), (13, .pointer (some ⟨b4, 0, none⟩)), (14, .int .i64 x14_2)]) (fun s t => [rowV 4 1 (.slice p4.1 n4 p4.2) n4 (a4.map e_bool), cellsC b3 [.int .i64 (val (gAt a0 a1)).Moment, .int .i64 (val (gAt a0 a1)).Place.Lat, .int .i64 (val (gAt a0 a1)).Place.Lon] 78, cellsC b4 [.int .i64 (val (gAt a0 a2)).Moment, .int .i64 (val (gAt a0 a2)).Place.Lat, .int .i64 (val (gAt a0 a2)).Place.Lon] 78]) (fun s t => True) ?_ ?_
          · refine c_block ?_
            refine c_seq ?_
            exact c_regionD (Kd.p :: Kd.d [1] _ :: Kd.p :: Kd.d [2] _ :: Kd.p :: Kd.p :: Kd.p :: Kd.p :: Kd.d [] _ :: Kd.p :: Kd.d [1] _ :: Kd.p :: Kd.p :: Kd.d [2] _ :: Kd.p :: Kd.d [1] _ :: Kd.p :: Kd.d [] _ :: Kd.nw 3 [_, _] 25 :: Kd.st 15 3 [_, _] 25 :: []) 1 mixed (by
              refine d_val rfl rfl (r_field Try.runUnderlying78 rfl Try.sizeOf25 rfl rfl) ?_
              refine d_loadN (i := 1) (vs := [.int .i64 (val (gAt a0 a1)).Place.Lat, .int .i64 (val (gAt a0 a1)).Place.Lon]) Try.isAgg25 Try.sizeOf25 rfl rfl rfl rfl ?_
              refine d_val rfl rfl (r_field Try.runUnderlying78 rfl Try.sizeOf25 rfl rfl) ?_
              refine d_loadN (i := 2) (vs := [.int .i64 (val (gAt a0 a2)).Place.Lat, .int .i64 (val (gAt a0 a2)).Place.Lon]) Try.isAgg25 Try.sizeOf25 rfl rfl rfl rfl ?_
              refine d_val rfl rfl (r_move (v := v0) rfl) ?_
              refine d_val rfl rfl (r_move (v := .int .i64 x14_2) rfl) ?_
              have h_t39 := bnd_val H35
              have H38 := bnd_rest H35
              refine d_val rfl rfl (r_indexF Try.underlying49 Try.sizeOf78 rfl rfl f0 h_t39) ?_
              refine d_val rfl rfl (r_fieldP Try.runUnderlying78 rfl Try.sizeOf3 rfl rfl (some_of_at f0 h_t39)) ?_
              refine d_read (fun w hF => run_loadG1 (j := 0) (v := .int .i64 (val (gAt a0 x14_2)).Moment) Try.isAgg3 rfl rfl (f0.row (hw.now hF)) h_t39 rfl) rfl rfl ?_
              refine d_val rfl rfl (r_field Try.runUnderlying78 rfl Try.sizeOf3 rfl rfl) ?_
              refine d_load1 (i := 1) (v := .int .i64 (val (gAt a0 a1)).Moment) Try.isAgg3 rfl rfl rfl rfl ?_
              have h_t44 := bnd_val H38
              have H39 := bnd_rest H38
              refine d_val rfl rfl (r_subG rfl rfl h_t44) ?_
              refine d_val rfl rfl (r_field Try.runUnderlying78 rfl Try.sizeOf3 rfl rfl) ?_
              refine d_load1 (i := 2) (v := .int .i64 (val (gAt a0 a2)).Moment) Try.isAgg3 rfl rfl rfl rfl ?_
              refine d_val rfl rfl (r_field Try.runUnderlying78 rfl Try.sizeOf3 rfl rfl) ?_
              refine d_load1 (i := 1) (v := .int .i64 (val (gAt a0 a1)).Moment) Try.isAgg3 rfl rfl rfl rfl ?_
              have h_t49 := bnd_val H39
              have H40 := bnd_rest H39
              refine d_val rfl rfl (r_subG rfl rfl h_t49) ?_
              have h_t50 := bnd_val H40
              have H41 := bnd_rest H40
              refine d_call (k82 h_t50) Try.call82 rfl rfl ?_
              refine d_new rfl rfl (run_alloc (cs := [.int .i64 0, .int .i64 0]) Try.zeroValue25 rfl) rfl (fun b5 => ?_)
              refine d_store (i := 3) (vs := [.int .i64 (val (where_between (val (gAt a0 a1)).Place (val (gAt a0 a2)).Place (val (gI ((val (gAt a0 x14_2)).Moment - (val (gAt a0 a1)).Moment))) (val (gI ((val (gAt a0 a2)).Moment - (val (gAt a0 a1)).Moment))))).Lat, .int .i64 (val (where_between (val (gAt a0 a1)).Place (val (gAt a0 a2)).Place (val (gI ((val (gAt a0 x14_2)).Moment - (val (gAt a0 a1)).Moment))) (val (gI ((val (gAt a0 a2)).Moment - (val (gAt a0 a1)).Moment))))).Lon]) (cs' := [.int .i64 (val (where_between (val (gAt a0 a1)).Place (val (gAt a0 a2)).Place (val (gI ((val (gAt a0 x14_2)).Moment - (val (gAt a0 a1)).Moment))) (val (gI ((val (gAt a0 a2)).Moment - (val (gAt a0 a1)).Moment))))).Lat, .int .i64 (val (where_between (val (gAt a0 a1)).Place (val (gAt a0 a2)).Place (val (gI ((val (gAt a0 x14_2)).Moment - (val (gAt a0 a1)).Moment))) (val (gI ((val (gAt a0 a2)).Moment - (val (gAt a0 a1)).Moment))))).Lon]) Try.sizeOf25 rfl rfl rfl rfl rfl rfl rfl rfl rfl ?_
              refine d_nil ?_
              refine c_seq ?_
              exact c_regionD (Kd.p :: Kd.p :: Kd.p :: Kd.p :: Kd.d [] _ :: Kd.d [3] _ :: Kd.d [] _ :: Kd.p :: []) 0 mixed (by
                refine d_val rfl rfl (r_move (v := v0) rfl) ?_
                refine d_val rfl rfl (r_move (v := .int .i64 x14_2) rfl) ?_
                have h_t53 := bnd_val H41
                have H42 := bnd_rest H41
                refine d_val rfl rfl (r_indexF Try.underlying49 Try.sizeOf78 rfl rfl f0 h_t53) ?_
                refine d_val rfl rfl (r_fieldP Try.runUnderlying78 rfl Try.sizeOf25 rfl rfl (some_of_at f0 h_t53)) ?_
                refine d_read (fun w hF => run_loadGN (j := 1) (vs := [.int .i64 (val (gAt a0 x14_2)).Place.Lat, .int .i64 (val (gAt a0 x14_2)).Place.Lon]) Try.isAgg25 Try.sizeOf25 rfl rfl (f0.row (hw.now hF)) h_t53 rfl) rfl rfl ?_
                refine d_loadN (i := 3) (vs := [.int .i64 (val (where_between (val (gAt a0 a1)).Place (val (gAt a0 a2)).Place (val (gI ((val (gAt a0 x14_2)).Moment - (val (gAt a0 a1)).Moment))) (val (gI ((val (gAt a0 a2)).Moment - (val (gAt a0 a1)).Moment))))).Lat, .int .i64 (val (where_between (val (gAt a0 a1)).Place (val (gAt a0 a2)).Place (val (gI ((val (gAt a0 x14_2)).Moment - (val (gAt a0 a1)).Moment))) (val (gI ((val (gAt a0 a2)).Moment - (val (gAt a0 a1)).Moment))))).Lon]) Try.isAgg25 Try.sizeOf25 rfl rfl rfl rfl ?_
                have h_t57 := bnd_val H42
                have H43 := bnd_rest H42
                refine d_call (k81 h_t57) Try.call81 rfl rfl ?_
                refine d_val rfl rfl (r_assign (v := .int .i64 (val (where_distance (val (gAt a0 x14_2)).Place (val (where_between (val (gAt a0 a1)).Place (val (gAt a0 a2)).Place (val (gI ((val (gAt a0 x14_2)).Moment - (val (gAt a0 a1)).Moment))) (val (gI ((val (gAt a0 a2)).Moment - (val (gAt a0 a1)).Moment)))))))) rfl) ?_
                refine d_nil ?_
                refine c_seq ?_
                refine c_region ?_
                refine l_val rfl rfl rfl (r_move (v := .int .i64 (val (where_distance (val (gAt a0 x14_2)).Place (val (where_between (val (gAt a0 a1)).Place (val (gAt a0 a2)).Place (val (gI ((val (gAt a0 x14_2)).Moment - (val (gAt a0 a1)).Moment))) (val (gI ((val (gAt a0 a2)).Moment - (val (gAt a0 a1)).Moment)))))))) rfl) ?_
                refine l_val rfl rfl rfl (r_move (v := .int .i64 x11_2) rfl) ?_
                refine l_val rfl rfl rfl (r_gtr rfl rfl) ?_
                refine l_nil ?_
                refine c_if (b := (decide (x11_2 < (val (where_distance (val (gAt a0 x14_2)).Place (val (where_between (val (gAt a0 a1)).Place (val (gAt a0 a2)).Place (val (gI ((val (gAt a0 x14_2)).Moment - (val (gAt a0 a1)).Moment))) (val (gI ((val (gAt a0 a2)).Moment - (val (gAt a0 a1)).Moment)))))))))) rfl (fun hb => ?_) (fun hb => ?_)
                · have H44 := cnd_t hb H43; clear H43
                  refine c_region ?_
                  refine l_val rfl rfl rfl (r_move (v := .int .i64 x14_2) rfl) ?_
                  refine l_val rfl rfl rfl (r_move (v := .int .i64 (val (where_distance (val (gAt a0 x14_2)).Place (val (where_between (val (gAt a0 a1)).Place (val (gAt a0 a2)).Place (val (gI ((val (gAt a0 x14_2)).Moment - (val (gAt a0 a1)).Moment))) (val (gI ((val (gAt a0 a2)).Moment - (val (gAt a0 a1)).Moment)))))))) rfl) ?_
                  refine l_val rfl rfl rfl (r_assign (v := .int .i64 x14_2) rfl) ?_
                  refine l_val rfl rfl rfl (r_assign (v := .int .i64 (val (where_distance (val (gAt a0 x14_2)).Place (val (where_between (val (gAt a0 a1)).Place (val (gAt a0 a2)).Place (val (gI ((val (gAt a0 x14_2)).Moment - (val (gAt a0 a1)).Moment))) (val (gI ((val (gAt a0 a2)).Moment - (val (gAt a0 a1)).Moment)))))))) rfl) ?_
                  refine l_nil ?_
                  refine c_close (x14_2, (val (where_distance (val (gAt a0 x14_2)).Place (val (where_between (val (gAt a0 a1)).Place (val (gAt a0 a2)).Place (val (gI ((val (gAt a0 x14_2)).Moment - (val (gAt a0 a1)).Moment))) (val (gI ((val (gAt a0 a2)).Moment - (val (gAt a0 a1)).Moment)))))))) () 0 [0, 1, 2] (by exact ⟨rfl, rfl, rfl, rfl, rfl, rfl, rfl, rfl, rfl, rfl, trivial⟩) (by decide) rfl (by exact ⟨H44, trivial⟩) (Nat.lt_succ_self _)
                · have H45 := cnd_f hb H43; clear H43
                  refine c_skip ?_
                  refine c_close (x10_3, x11_2) () 0 [0, 1, 2] (by exact ⟨rfl, rfl, rfl, rfl, rfl, rfl, rfl, rfl, rfl, rfl, trivial⟩) (by decide) rfl (by exact ⟨H45, trivial⟩) (Nat.lt_succ_self _)
                ) (by kernel_rfl)
              ) (by kernel_rfl)
          · rintro ⟨x10_4, x11_3⟩ _ gg H36 _
            replace H36 : where_simplify_j3 x14_2 next2 x10_4 x11_3 = some r := H36
            refine c_tidyF [(0, v0), (1, .int .i64 a1), (2, .int .i64 a2), (3, .int .i64 a3), (4, .slice p4.1 n4 p4.2), (10, .int .i64 x10_4), (11, .int .i64 x11_3), (12, .pointer (some ⟨b3, 0, none⟩)), (13, .pointer (some ⟨b4, 0, none⟩)), (14, .int .i64 x14_2)] [rowV 4 1 (.slice p4.1 n4 p4.2) n4 (a4.map e_bool), cellsC b3 [.int .i64 (val (gAt a0 a1)).Moment, .int .i64 (val (gAt a0 a1)).Place.Lat, .int .i64 (val (gAt a0 a1)).Place.Lon] 78, cellsC b4 [.int .i64 (val (gAt a0 a2)).Moment, .int .i64 (val (gAt a0 a2)).Place.Lat, .int .i64 (val (gAt a0 a2)).Place.Lon] 78] rfl rfl ?_
            refine c_region ?_
            refine l_val rfl rfl rfl (r_move (v := .int .i64 x14_2) rfl) ?_
            obtain ⟨t32, h_t32, H37⟩ := bnd_some H36; clear H36
            refine l_val rfl rfl rfl (r_addG rfl rfl h_t32) ?_
            refine l_val rfl rfl rfl (r_assign (v := .int .i64 t32) rfl) ?_
            refine l_nil ?_
            refine c_close (x10_4, x11_3, t32) () m2 [0, 1, 2] (by exact ⟨rfl, rfl, rfl, rfl, rfl, rfl, rfl, rfl, rfl, rfl, trivial⟩) (by decide) rfl (by exact ⟨(by subst hn2; exact H37), trivial⟩) (Nat.lt_succ_self _)
        · have H46 := cnd_f hb H34; clear H34
          refine c_exit ?_
          refine c_close x10_3 () 0 [0] (by exact ⟨rfl, rfl, rfl, rfl, rfl, rfl, trivial⟩) (by decide) rfl (by exact ⟨H46, trivial⟩) (Nat.lt_succ_self _)
      · rintro x10 _ gg H26 _
        replace H26 : where_simplify_j1 a0 a1 a2 a3 a4 self x10 = some r := H26
        refine c_tidyF [(0, v0), (1, .int .i64 a1), (2, .int .i64 a2), (3, .int .i64 a3), (4, .slice p4.1 n4 p4.2), (10, .int .i64 x10)] [rowV 4 1 (.slice p4.1 n4 p4.2) n4 (a4.map e_bool)] rfl rfl ?_
        refine c_seq ?_
        refine c_seq ?_
        refine c_region ?_
        refine l_val rfl rfl rfl (r_move (v := .int .i64 x10) rfl) ?_
        refine l_val rfl rfl rfl (r_lss rfl rfl) ?_
        refine l_nil ?_
        refine c_if (b := (decide (x10 < 0))) rfl (fun hb => ?_) (fun hb => ?_)
        · have H27 := cnd_t hb H26; clear H26
          refine c_ret ?_
          obtain rfl := Option.some.inj H27
          refine ret0 rfl (finX () (i := 0) rfl rfl (Imp.refl _))
        · have H28 := cnd_f hb H26; clear H26
          refine c_skip ?_
          refine c_seq ?_
          refine c_region ?_
          refine l_val rfl rfl rfl (r_move (v := .slice p4.1 n4 p4.2) rfl) ?_
          refine l_val rfl rfl rfl (r_move (v := .int .i64 x10) rfl) ?_
          obtain ⟨t67, h_t67, H29⟩ := bnd_some H28; clear H28
          refine l_read (fun w hF hS => run_indexO Try.underlying116 Try.sizeOf4 rfl rfl (rowOf (i := 0) hS rfl) hn4 h_t67) rfl rfl rfl ?_
          obtain ⟨l0, h_l0, H30⟩ := bnd_some H29; clear H29
          refine l_storeG (q := 0) (j := 0) (i := x10) (sz := 1) (hm := hn4) (f := e_bool) (vs := [.bool true]) Try.sizeOf4 rfl rfl rfl rfl rfl rfl rfl rfl rfl (fun y_ hy_ => by first | rfl | (cases hy_.symm.trans h_t67; rfl)) h_l0 ?_
          refine l_nil ?_
          refine c_seq ?_
          refine c_region ?_
          refine l_val rfl rfl rfl (r_move (v := v0) rfl) ?_
          refine l_val rfl rfl rfl (r_move (v := .int .i64 a1) rfl) ?_
          refine l_val rfl rfl rfl (r_move (v := .int .i64 x10) rfl) ?_
          refine l_val rfl rfl rfl (r_move (v := .int .i64 a3) rfl) ?_
          refine l_val rfl rfl rfl (r_move (v := .slice p4.1 n4 p4.2) rfl) ?_
          obtain ⟨t73, h_t73, H31⟩ := bnd_some H30; clear H30
          refine l_turn (turns_callB (i := 0) (rds := []) (G := fun x : Unit => .tuple #[]) (C := fun x : Unit => rowV 4 1 (.slice p4.1 n4 p4.2) n4 (t73.map e_bool)) rfl (fun w L' S hF hS hi hp hlt ho hA => ih hp hlt (know_but w S) (f0.mono (hw.but hF ho)) (gSet_n hn4 h_l0) h_t73) Try.call87 rfl) rfl rfl rfl (fun _ => ?_)
          refine c_know (fun w hF hS => lenOf (i := 0) hS rfl) (fun hl_ => ?_)
          have hl : n4 = t73.length := by simpa using hl_.symm
          refine l_nil ?_
          refine c_region ?_
          refine l_val rfl rfl rfl (r_move (v := v0) rfl) ?_
          refine l_val rfl rfl rfl (r_move (v := .int .i64 x10) rfl) ?_
          refine l_val rfl rfl rfl (r_move (v := .int .i64 a2) rfl) ?_
          refine l_val rfl rfl rfl (r_move (v := .int .i64 a3) rfl) ?_
          refine l_val rfl rfl rfl (r_move (v := .slice p4.1 n4 p4.2) rfl) ?_
          obtain ⟨t79, h_t79, H32⟩ := bnd_some H31; clear H31
          refine l_turn (turns_callB (i := 0) (rds := []) (G := fun x : Unit => .tuple #[]) (C := fun x : Unit => rowV 4 1 (.slice p4.1 n4 p4.2) n4 (t79.map e_bool)) rfl (fun w L' S hF hS hi hp hlt ho hA => ih hp hlt (know_but w S) (f0.mono (hw.but hF ho)) hl h_t79) Try.call87 rfl) rfl rfl rfl (fun _ => ?_)
          refine c_know (fun w hF hS => lenOf (i := 0) hS rfl) (fun hl_2_ => ?_)
          have hl_2 : n4 = t79.length := by simpa using hl_2_.symm
          refine l_nil ?_
          obtain rfl := Option.some.inj H32
          refine ret0n rfl (finX () (i := 0) rfl rfl (Imp.refl _))
      ) (by kernel_rfl)
theorem k87 {a0 : (List T_where_Fix)} {v0 : Value} {a1 : Int} {a2 : Int} {a3 : Int} {a4 : (List Bool)} {p4 : Option Addr × Nat} {n4 : Nat} {r : (List Bool)} {w : World} {h : Heap} {S : Nat → Prop} (hcs : (rowV 4 1 (.slice p4.1 n4 p4.2) n4 (a4.map e_bool)).P S w) (hlt : ∀ b, S b → b < w.heap.size) (hw : Know h w S) (f0 : FrS h 3 v0 (a0.map e_where_Fix)) (hn4 : n4 = a4.length) (H : where_simplify a0 a1 a2 a3 a4 = some r) : Does Try.prog 87 (List.toArray [v0, .int .i64 a1, .int .i64 a2, .int .i64 a3, .slice p4.1 n4 p4.2]) w (fun v w' => ∃ x : Unit, v = (.tuple #[]) ∧ Turn w w' S (rowV 4 1 (.slice p4.1 n4 p4.2) n4 (r.map e_bool))) := by
  obtain ⟨mm, hm⟩ := fix_it (show fix (fun (self : ((List T_where_Fix) × Int × Int × Int × (List Bool)) → Option ((List Bool))) (s : (List T_where_Fix) × Int × Int × Int × (List Bool)) => where_simplify_body self s.1 s.2.1 s.2.2.1 s.2.2.2.1 s.2.2.2.2) (a0, a1, a2, a3, a4) = some r from H)
  exact k87_it mm hcs hlt hw f0 hn4 hm
theorem k88 {a : Option Addr} {n c : Nat} (hc : n ≤ c) : Ret Try.prog 88 [.slice a n c] (.slice (cutA a 0 n 3) n n) := by
  refine enterRet (n := 9) Try.func88 rfl rfl rfl (fun wd => ?_)
  refine c_seq ?_
  refine c_region ?_
  refine l_val rfl rfl rfl (r_assign (v := .slice none 0 0) rfl) ?_
  refine l_nil ?_
  refine c_seq ?_
  refine c_region ?_
  refine l_val rfl rfl rfl (r_move (v := .slice a n c) rfl) ?_
  refine l_val rfl rfl rfl (r_move (v := .slice a n c) rfl) ?_
  refine l_val rfl rfl rfl (r_len Try.underlying49 rfl) ?_
  refine l_val rfl rfl rfl (r_move (v := .slice a n c) rfl) ?_
  refine l_val rfl rfl rfl (r_len Try.underlying49 rfl) ?_
  refine l_val rfl rfl rfl (r_sliceHM (a := a) (m := n) (c := c) (h := (n : Int)) (q := (n : Int)) Try.underlying49 Try.sizeOf78 rfl rfl rfl (Int.natCast_nonneg n) (Int.le_refl _) (Int.ofNat_le.2 hc)) ?_
  refine l_val rfl rfl rfl (r_assign (v := .slice (cutA a 0 n 3) n n) rfl) ?_
  refine l_nil ?_
  refine c_ret ?_
  exact ret1 (v := .slice (cutA a 0 n 3) n n) rfl rfl (fin rfl)

theorem k40 {a0 : (List T_where_Fix)} {v0 : Value} {a1 : Int} {r : (List T_where_Fix) × Int} {w : World} {h : Heap} (hw : Know h w noS) (f0 : FrS h 3 v0 (a0.map e_where_Fix)) (H : where_Simple a0 a1 = some r) : Does Try.prog 40 (List.toArray [v0, .int .i64 a1]) w (fun v w' => ∃ x : (Option Addr × Nat), v = (.tuple #[.slice x.1 r.1.length x.2, .int .i64 r.2]) ∧ Turn w w' noS (roV 3 (.slice x.1 r.1.length x.2) r.1.length (r.1.map e_where_Fix))) := by
  refine enter (n := 55) Try.func40 rfl rfl rfl noS [] (Sat.nil _ _) ?_
  refine c_seq ?_
  refine c_region ?_
  refine l_val rfl rfl rfl (r_assign (v := .slice none 0 0) rfl) ?_
  refine l_val rfl rfl rfl (r_assign (v := .int .i64 0) rfl) ?_
  refine l_nil ?_
  refine c_seq ?_
  refine c_seq ?_
  refine c_region ?_
  refine l_val rfl rfl rfl (r_move (v := v0) rfl) ?_
  obtain ⟨t13, h_t13, H55⟩ := bnd_some H; clear H
  refine l_callG (fun w hF hS => k47 (know_all w) (f0.mono (hw.now hF)) h_t13) Try.call47 rfl rfl rfl ?_
  refine l_val rfl rfl rfl (r_assign (v := .int .i64 t13) rfl) ?_
  refine l_nil ?_
  refine c_seq ?_
  refine c_region ?_
  refine l_val rfl rfl rfl (r_move (v := .int .i64 t13) rfl) ?_
  refine l_val rfl rfl rfl (r_neq rfl rfl) ?_
  refine l_nil ?_
  refine c_if (b := (decide (t13 ≠ 0))) rfl (fun hb => ?_) (fun hb => ?_)
  · have H56 := cnd_t hb H55; clear H55
    refine c_seq ?_
    refine c_region ?_
    refine l_val rfl rfl rfl (r_move (v := .int .i64 t13) rfl) ?_
    refine l_val rfl rfl rfl (r_assign (v := .slice none 0 0) rfl) ?_
    refine l_val rfl rfl rfl (r_assign (v := .int .i64 t13) rfl) ?_
    refine l_nil ?_
    refine c_ret ?_
    refine c_nilRow 78 3 ?_
    obtain rfl := Option.some.inj H56
    refine c_imp 0 rfl (row_ro _ _ _ _ _) ?_
    refine ret2 (v1 := .slice ((none, 0) : Option Addr × Nat).1 ([] : List T_where_Fix).length ((none, 0) : Option Addr × Nat).2) (v2 := .int .i64 t13) rfl rfl rfl (finX ((none, 0) : Option Addr × Nat) (i := 0) rfl rfl (Imp.refl _))
  · have H57 := cnd_f hb H55; clear H55
    refine c_skip ?_
    refine c_seq ?_
    refine c_seq ?_
    refine c_region ?_
    refine l_val rfl rfl rfl (r_move (v := .int .i64 a1) rfl) ?_
    obtain ⟨t18, h_t18, H58⟩ := bnd_some H57; clear H57
    refine l_call (k61 h_t18) Try.call61 rfl rfl rfl ?_
    refine l_nil ?_
    refine c_if (b := t18) rfl (fun hb => ?_) (fun hb => ?_)
    · have H59 := cnd_t hb H58; clear H58
      refine c_seq ?_
      refine c_region ?_
      refine l_val rfl rfl rfl (r_assign (v := .slice none 0 0) rfl) ?_
      refine l_val rfl rfl rfl (r_assign (v := .int .i64 2) rfl) ?_
      refine l_nil ?_
      refine c_ret ?_
      refine c_nilRow 78 3 ?_
      obtain rfl := Option.some.inj H59
      refine c_imp 0 rfl (row_ro _ _ _ _ _) ?_
      refine ret2 (v1 := .slice ((none, 0) : Option Addr × Nat).1 ([] : List T_where_Fix).length ((none, 0) : Option Addr × Nat).2) (v2 := .int .i64 2) rfl rfl rfl (finX ((none, 0) : Option Addr × Nat) (i := 0) rfl rfl (Imp.refl _))
    · have H60 := cnd_f hb H58; clear H58
      refine c_skip ?_
      refine c_seq ?_
      refine c_region ?_
      refine l_val rfl rfl rfl (r_move (v := v0) rfl) ?_
      refine l_val rfl rfl rfl (r_lenF Try.underlying49 rfl f0 rfl) ?_
      obtain ⟨t21, h_t21, H61⟩ := bnd_some H60; clear H60
      refine l_make (rds := []) (makes_makeG (E := 4) (sz := 1) (f := e_bool) (xs := t21) Try.underlying116 (info_of Try.typeInfo4) rfl rfl rfl rfl rfl rfl ⟨rfl, rfl⟩ h_t21) rfl rfl rfl (fun p => ?_)
      refine l_val rfl rfl rfl (r_assign (v := .slice p.1 t21.length p.2) rfl) ?_
      refine l_nil ?_
      refine c_meet (r := r) (σ := (List Bool)) (τ := Unit) (fun s => where_Simple_j1 a0 s) (fun s t => [(0, v0), (7, .slice p.1 t21.length p.2)]) (fun s t => [rowV 4 1 (.slice p.1 t21.length p.2) t21.length (s.map e_bool)]) (fun s t => t21.length = s.length) ?_ ?_
      · refine c_seq ?_
        refine c_region ?_
        refine l_val rfl rfl rfl (r_move (v := v0) rfl) ?_
        refine l_val rfl rfl rfl (r_lenF Try.underlying49 rfl f0 rfl) ?_
        obtain ⟨t24, h_t24, H74⟩ := bnd_some H61; clear H61
        refine l_val rfl rfl rfl (r_subG rfl rfl h_t24) ?_
        refine l_val rfl rfl rfl (r_assign (v := .int .i64 t24) rfl) ?_
        refine l_nil ?_
        refine c_seq ?_
        refine c_region ?_
        refine l_val rfl rfl rfl (r_move (v := .int .i64 t24) rfl) ?_
        refine l_val rfl rfl rfl (r_geq rfl rfl) ?_
        refine l_nil ?_
        refine c_if (b := (decide (0 ≤ t24))) rfl (fun hb => ?_) (fun hb => ?_)
        · have H75 := cnd_t hb H74; clear H74
          refine c_seq ?_
          refine c_region ?_
          refine l_val rfl rfl rfl (r_move (v := .slice p.1 t21.length p.2) rfl) ?_
          refine l_val rfl rfl rfl (r_move (v := .slice p.1 t21.length p.2) rfl) ?_
          refine l_val rfl rfl rfl (r_move (v := .int .i64 t24) rfl) ?_
          obtain ⟨t30, h_t30, H76⟩ := bnd_some H75; clear H75
          refine l_read (fun w hF hS => run_indexO Try.underlying116 Try.sizeOf4 rfl rfl (rowOf (i := 0) hS rfl) rfl h_t30) rfl rfl rfl ?_
          obtain ⟨l0, h_l0, H77⟩ := bnd_some H76; clear H76
          refine l_storeG (q := 0) (j := 0) (i := 0) (sz := 1) (hm := rfl) (f := e_bool) (vs := [.bool true]) Try.sizeOf4 rfl rfl rfl rfl rfl rfl rfl rfl rfl (fun y_ hy_ => by first | rfl | (cases hy_.symm.trans h_t30; rfl)) h_l0 ?_
          obtain ⟨t31, h_t31, H78⟩ := bnd_some H77; clear H77
          refine l_read (fun w hF hS => run_indexO Try.underlying116 Try.sizeOf4 rfl rfl (rowOf (i := 0) hS rfl) (gSet_n rfl h_l0) h_t31) rfl rfl rfl ?_
          obtain ⟨l0_2, h_l0_2, H79⟩ := bnd_some H78; clear H78
          refine l_storeG (q := 0) (j := 0) (i := t24) (sz := 1) (hm := (gSet_n rfl h_l0)) (f := e_bool) (vs := [.bool true]) Try.sizeOf4 rfl rfl rfl rfl rfl rfl rfl rfl rfl (fun y_ hy_ => by first | rfl | (cases hy_.symm.trans h_t31; rfl)) h_l0_2 ?_
          refine l_nil ?_
          refine c_region ?_
          refine l_val rfl rfl rfl (r_move (v := v0) rfl) ?_
          refine l_val rfl rfl rfl (r_move (v := .int .i64 t24) rfl) ?_
          refine l_val rfl rfl rfl (r_move (v := .int .i64 a1) rfl) ?_
          refine l_val rfl rfl rfl (r_move (v := .slice p.1 t21.length p.2) rfl) ?_
          obtain ⟨t36, h_t36, H80⟩ := bnd_some H79; clear H79
          refine l_turn (turns_callB (i := 0) (rds := []) (G := fun x : Unit => .tuple #[]) (C := fun x : Unit => rowV 4 1 (.slice p.1 t21.length p.2) t21.length (t36.map e_bool)) rfl (fun w L' S hF hS hi hp hlt ho hA => k87 hp hlt (know_but w S) (f0.mono (hw.but hF ho)) (gSet_n (gSet_n rfl h_l0) h_l0_2) h_t36) Try.call87 rfl) rfl rfl rfl (fun _ => ?_)
          refine c_know (fun w hF hS => lenOf (i := 0) hS rfl) (fun hl_2_ => ?_)
          have hl_2 : t21.length = t36.length := by simpa using hl_2_.symm
          refine l_nil ?_
          refine c_close t36 () 0 [0] (by exact ⟨rfl, rfl, trivial⟩) (by decide) rfl (by exact ⟨H80, hl_2⟩) (Nat.lt_succ_self _)
        · have H81 := cnd_f hb H74; clear H74
          refine c_skip ?_
          refine c_close t21 () 0 [0] (by exact ⟨rfl, rfl, trivial⟩) (by decide) rfl (by exact ⟨H81, rfl⟩) (Nat.lt_succ_self _)
      · rintro l _ gg H62 hl
        replace H62 : where_Simple_j1 a0 l = some r := H62
        refine c_tidyF [(0, v0), (7, .slice p.1 t21.length p.2)] [rowV 4 1 (.slice p.1 t21.length p.2) t21.length (l.map e_bool)] rfl rfl ?_
        refine c_seq ?_
        refine c_region ?_
        refine l_val rfl rfl rfl (r_assign (v := .slice none 0 0) rfl) ?_
        refine l_nil ?_
        refine c_meet (r := r) (σ := (List T_where_Fix)) (τ := (Option Addr × Nat)) (fun s => where_Simple_j2 s) (fun s t => [(9, .slice t.1 s.length t.2)]) (fun s t => [rowV 78 3 (.slice t.1 s.length t.2) s.length (s.map e_where_Fix)]) (fun s t => True) ?_ ?_
        · refine c_seq ?_
          refine c_region ?_
          refine l_val rfl rfl rfl (r_move (v := v0) rfl) ?_
          refine l_val rfl rfl rfl (r_lenF Try.underlying49 rfl f0 rfl) ?_
          refine l_val rfl rfl rfl (r_move (v := .int .i64 0) rfl) ?_
          refine l_nil ?_
          refine c_block ?_
          refine c_nilRow 78 3 ?_
          refine c_fix (σ := Int × (List T_where_Fix)) (τ := (Option Addr × Nat)) (fun next3 s => where_Simple_l3 a0 l next3 s.1 s.2) (fun s t => [(7, .slice p.1 t21.length p.2), (9, .slice t.1 s.2.length t.2), (37, v0), (38, .int .i64 (a0.length : Int)), (39, .int .i64 s.1)]) (fun s t => [rowV 4 1 (.slice p.1 t21.length p.2) t21.length (l.map e_bool), rowV 78 3 (.slice t.1 s.2.length t.2) s.2.length (s.2.map e_where_Fix)]) (fun s t => True) (0, ([] : List T_where_Fix)) ((none, 0) : Option Addr × Nat) [0, 1] H62 (by exact trivial) (by exact ⟨rfl, rfl, rfl, rfl, rfl, trivial⟩) (by decide) rfl ?_
          rintro ⟨x39_2, l_4⟩ p_3 m3 gg H64 _
          clear H62
          replace H64 : where_Simple_l3 a0 l (it (fun next3 s => where_Simple_l3 a0 l next3 s.1 s.2) m3) x39_2 l_4 = some r := H64
          generalize hn3 : it (fun next3 s => where_Simple_l3 a0 l next3 s.1 s.2) m3 = next3 at H64
          refine c_tidyF [(7, .slice p.1 t21.length p.2), (9, .slice p_3.1 l_4.length p_3.2), (37, v0), (38, .int .i64 (a0.length : Int)), (39, .int .i64 x39_2)] [rowV 4 1 (.slice p.1 t21.length p.2) t21.length (l.map e_bool), rowV 78 3 (.slice p_3.1 l_4.length p_3.2) l_4.length (l_4.map e_where_Fix)] rfl rfl ?_
          refine c_seq ?_
          refine c_region ?_
          refine l_val rfl rfl rfl (r_lss rfl rfl) ?_
          refine l_nil ?_
          refine c_seq ?_
          refine c_if (b := (decide (x39_2 < (a0.length : Int)))) rfl (fun hb => ?_) (fun hb => ?_)
          · have H65 := cnd_t hb H64; clear H64
            refine c_skip ?_
            refine c_meet (r := r) (σ := (List T_where_Fix)) (τ := (Option Addr × Nat)) (fun s => where_Simple_j4 x39_2 next3 s) (fun s t => [(7, .slice p.1 t21.length p.2), (9, .slice t.1 s.length t.2), (37, v0), (38, .int .i64 (a0.length : Int)), (39, .int .i64 x39_2)]) (fun s t => [rowV 4 1 (.slice p.1 t21.length p.2) t21.length (l.map e_bool), rowV 78 3 (.slice t.1 s.length t.2) s.length (s.map e_where_Fix)]) (fun s t => True) ?_ ?_
            · refine c_block ?_
              refine c_seq ?_
              refine c_region ?_
              refine l_val rfl rfl rfl (r_move (v := .int .i64 x39_2) rfl) ?_
              obtain ⟨t42, h_t42, H68⟩ := bnd_some H65; clear H65
              refine l_val rfl rfl rfl (r_indexF Try.underlying49 Try.sizeOf78 rfl rfl f0 h_t42) ?_
              refine l_read (fun w hF hS => run_loadGN (j := 0) (vs := [.int .i64 t42.Moment, .int .i64 t42.Place.Lat, .int .i64 t42.Place.Lon]) Try.isAgg78 Try.sizeOf78 rfl rfl (f0.row (hw.now hF)) h_t42 rfl) rfl rfl rfl ?_
              refine l_alloc (cs := [.int .i64 0, .int .i64 0, .int .i64 0]) Try.zeroValue78 rfl rfl rfl (fun b4 => ?_)
              refine l_val rfl rfl rfl (r_assign (v := .int .i64 x39_2) rfl) ?_
              refine l_store (i := 2) (vs := [.int .i64 t42.Moment, .int .i64 t42.Place.Lat, .int .i64 t42.Place.Lon]) (cs' := [.int .i64 t42.Moment, .int .i64 t42.Place.Lat, .int .i64 t42.Place.Lon]) Try.sizeOf78 rfl rfl rfl rfl rfl rfl rfl rfl rfl ?_
              refine l_nil ?_
              refine c_seq ?_
              refine c_region ?_
              refine l_val rfl rfl rfl (r_move (v := .slice p.1 t21.length p.2) rfl) ?_
              refine l_val rfl rfl rfl (r_move (v := .int .i64 x39_2) rfl) ?_
              obtain ⟨t46, h_t46, H69⟩ := bnd_some H68; clear H68
              refine l_read (fun w hF hS => run_indexO Try.underlying116 Try.sizeOf4 rfl rfl (rowOf (i := 0) hS rfl) hl h_t46) rfl rfl rfl ?_
              refine l_read (fun w hF hS => run_loadG1 (j := 0) (v := .bool t46) Try.isAgg4 rfl rfl (rowOf (i := 0) hS rfl) h_t46 rfl) rfl rfl rfl ?_
              refine l_nil ?_
              refine c_if (b := t46) rfl (fun hb => ?_) (fun hb => ?_)
              · have H70 := cnd_t hb H69; clear H69
                refine c_region ?_
                refine l_val rfl rfl rfl (r_move (v := .slice p_3.1 l_4.length p_3.2) rfl) ?_
                refine l_loadN (i := 2) (vs := [.int .i64 t42.Moment, .int .i64 t42.Place.Lat, .int .i64 t42.Place.Lon]) Try.isAgg78 Try.sizeOf78 rfl rfl rfl rfl rfl ?_
                refine l_buildSlice (vs := [.agg #[.int .i64 t42.Moment, .int .i64 t42.Place.Lat, .int .i64 t42.Place.Lon]]) (cs := [.int .i64 t42.Moment, .int .i64 t42.Place.Lat, .int .i64 t42.Place.Lon]) Try.underlying49 Try.sizeOf78 Try.zeroValue78 rfl rfl rfl rfl rfl rfl rfl (fun b5 => ?_)
                obtain ⟨l51, h_l51, H71⟩ := bnd_some H70; clear H70
                refine l_turn (turns_appG (i := 1) (hn := rfl) (rds := [3]) (p := p_3) (sz := 3) (by_ := 24) (f := e_where_Fix) (ys := l_4) (ls := ([t42] : List T_where_Fix)) (V := .slice (some ⟨b5, 0, none⟩) 1 1) Try.underlying49 (info_of Try.typeInfo78) rfl rfl rfl rfl rfl rfl rfl rfl rfl rfl (fun w L' hF hS hi => row_box (i := 3) hS ((hi 3 (by simp)).trans rfl) rfl rfl) (fun _ => rfl) (fun _ => rfl) h_l51) rfl rfl rfl (fun p_5 => ?_)
                refine l_val rfl rfl rfl (r_assign (v := .slice p_5.1 l51.length p_5.2) rfl) ?_
                refine l_nil ?_
                refine c_close l51 p_5 0 [0, 1] (by exact ⟨rfl, rfl, rfl, rfl, rfl, trivial⟩) (by decide) rfl (by exact ⟨H71, trivial⟩) (Nat.lt_succ_self _)
              · have H72 := cnd_f hb H69; clear H69
                refine c_skip ?_
                refine c_close l_4 p_3 0 [0, 1] (by exact ⟨rfl, rfl, rfl, rfl, rfl, trivial⟩) (by decide) rfl (by exact ⟨H72, trivial⟩) (Nat.lt_succ_self _)
            · rintro l_5 p_4 gg H66 _
              replace H66 : where_Simple_j4 x39_2 next3 l_5 = some r := H66
              refine c_tidyF [(7, .slice p.1 t21.length p.2), (9, .slice p_4.1 l_5.length p_4.2), (37, v0), (38, .int .i64 (a0.length : Int)), (39, .int .i64 x39_2)] [rowV 4 1 (.slice p.1 t21.length p.2) t21.length (l.map e_bool), rowV 78 3 (.slice p_4.1 l_5.length p_4.2) l_5.length (l_5.map e_where_Fix)] rfl rfl ?_
              refine c_region ?_
              obtain ⟨t52, h_t52, H67⟩ := bnd_some H66; clear H66
              refine l_val rfl rfl rfl (r_addG rfl rfl h_t52) ?_
              refine l_val rfl rfl rfl (r_move (v := .int .i64 t52) rfl) ?_
              refine l_nil ?_
              refine c_close (t52, l_5) p_4 m3 [0, 1] (by exact ⟨rfl, rfl, rfl, rfl, rfl, trivial⟩) (by decide) rfl (by exact ⟨(by subst hn3; exact H67), trivial⟩) (Nat.lt_succ_self _)
          · have H73 := cnd_f hb H64; clear H64
            refine c_exit ?_
            refine c_close l_4 p_3 0 [1] (by exact ⟨rfl, trivial⟩) (by decide) rfl (by exact ⟨H73, trivial⟩) (Nat.lt_succ_self _)
        · rintro l_2 p_2 gg H63 _
          replace H63 : where_Simple_j2 l_2 = some r := H63
          refine c_tidyF [(9, .slice p_2.1 l_2.length p_2.2)] [rowV 78 3 (.slice p_2.1 l_2.length p_2.2) l_2.length (l_2.map e_where_Fix)] rfl rfl ?_
          refine c_seq ?_
          refine c_region ?_
          refine l_val rfl rfl rfl (r_move (v := .slice p_2.1 l_2.length p_2.2) rfl) ?_
          refine l_callG (fun w hF hS => k88 (capOf (i := 0) hS rfl) w) Try.call88 rfl rfl rfl ?_
          refine l_val rfl rfl rfl (r_assign (v := .slice (cutA p_2.1 0 l_2.length 3) l_2.length l_2.length) rfl) ?_
          refine l_val rfl rfl rfl (r_assign (v := .int .i64 0) rfl) ?_
          refine l_nil ?_
          refine c_ret ?_
          obtain rfl := Option.some.inj H63
          refine c_imp 0 rfl (imp_clipO _ _ _ _ _ _) ?_
          refine ret2 (v1 := .slice (cutA p_2.1 0 l_2.length 3) l_2.length l_2.length) (v2 := .int .i64 0) rfl rfl rfl (finX (cutA p_2.1 0 l_2.length 3, l_2.length) (i := 0) rfl rfl (Imp.refl _))
theorem k89_it (mm : Nat) : ∀ {q0 : Int} {c0 : Nat} {q1 : (List T_where_Fix)} {vq1 : Value} {c1 : Nat} {q2 : (List Bool)} {pbq2 : Nat} {pq2 : Option Addr × Nat} {nq2 : Nat} {c3 : Nat} {a0 : Int} {a1 : Int} {r : (List Bool)} {w : World} {h : Heap} {S : Nat → Prop} (hcs : (bothC (cellsC pbq2 [.slice pq2.1 nq2 pq2.2] 116) (rowV 4 1 (.slice pq2.1 nq2 pq2.2) nq2 (q2.map e_bool))).P S w) (hlt : ∀ b, S b → b < w.heap.size) (hw : Know h w S) (hc0 : h c0 = some (.cells (List.toArray [.int .i64 q0]) 3 (0, 0))) (fq1 : FrS h 3 vq1 (q1.map e_where_Fix)) (hc1 : h c1 = some (.cells (List.toArray [vq1]) 49 (0, 0))) (hnq2 : nq2 = q2.length) (hc3 : h c3 = some (.cells (List.toArray [.func (.func 89) #[] #[.pointer (some ⟨c0, 0, none⟩), .pointer (some ⟨c1, 0, none⟩), .pointer (some ⟨pbq2, 0, none⟩), .pointer (some ⟨c3, 0, none⟩)]]) 119 (0, 0))) (H : it (fun (self : (Int × (List T_where_Fix) × (List Bool) × Int × Int) → Option ((List Bool))) (s : Int × (List T_where_Fix) × (List Bool) × Int × Int) => R_SimpleOf_1_body self s.1 s.2.1 s.2.2.1 s.2.2.2.1 s.2.2.2.2) mm (q0, q1, q2, a0, a1) = some r), Does Try.prog 89 (List.toArray [.int .i64 a0, .int .i64 a1, .pointer (some ⟨c0, 0, none⟩), .pointer (some ⟨c1, 0, none⟩), .pointer (some ⟨pbq2, 0, none⟩), .pointer (some ⟨c3, 0, none⟩)]) w (fun v w' => ∃ x : (Option Addr × Nat), v = (.tuple #[]) ∧ Turn w w' S (bothC (cellsC pbq2 [.slice x.1 r.length x.2] 116) (rowV 4 1 (.slice x.1 r.length x.2) r.length (r.map e_bool)))) := by
  induction mm with
  | zero => intros; rename_i H; exact absurd H (by simp [it])
  | succ mm ih =>
    intro q0 c0 q1 vq1 c1 q2 pbq2 pq2 nq2 c3 a0 a1 r w h S hcs hlt hw hc0 fq1 hc1 hnq2 hc3 H
    replace H : R_SimpleOf_1_body (it (fun (self : (Int × (List T_where_Fix) × (List Bool) × Int × Int) → Option ((List Bool))) (s : Int × (List T_where_Fix) × (List Bool) × Int × Int) => R_SimpleOf_1_body self s.1 s.2.1 s.2.2.1 s.2.2.2.1 s.2.2.2.2) mm) q0 q1 q2 a0 a1 = some r := H
    generalize it (fun (self : (Int × (List T_where_Fix) × (List Bool) × Int × Int) → Option ((List Bool))) (s : Int × (List T_where_Fix) × (List Bool) × Int × Int) => R_SimpleOf_1_body self s.1 s.2.1 s.2.2.1 s.2.2.2.1 s.2.2.2.2) mm = self at H ih
    refine enter (n := 79) Try.func89 rfl rfl rfl S [bothC (cellsC pbq2 [.slice pq2.1 nq2 pq2.2] 116) (rowV 4 1 (.slice pq2.1 nq2 pq2.2) nq2 (q2.map e_bool))] (Sat.one hcs hlt) ?_
    refine c_split 0 rfl ?_
    refine c_seq ?_
    exact c_regionD (Kd.d [] _ :: Kd.p :: Kd.p :: []) 0 mixed (by
      refine d_read (fun w hF => run_loadK1 (v := .int .i64 q0) Try.isAgg3 rfl (hw.now hF _ _ hc0) rfl) rfl rfl ?_
      refine d_val rfl rfl (r_assign (v := .int .i64 (-1)) rfl) ?_
      refine d_val rfl rfl (r_assign (v := .int .i64 q0) rfl) ?_
      refine d_nil ?_
      refine c_meet (r := r) (σ := Int) (τ := Unit) (fun s => R_SimpleOf_1_j1 q0 q1 q2 a0 a1 self s) (fun s t => [(0, .int .i64 a0), (1, .int .i64 a1), (4, .pointer (some ⟨pbq2, 0, none⟩)), (5, .pointer (some ⟨c3, 0, none⟩)), (8, .int .i64 s)]) (fun s t => [cellsC pbq2 [.slice pq2.1 nq2 pq2.2] 116, rowV 4 1 (.slice pq2.1 nq2 pq2.2) nq2 (q2.map e_bool)]) (fun s t => True) ?_ ?_
      · refine c_seq ?_
        refine c_region ?_
        refine l_val rfl rfl rfl (r_move (v := .int .i64 a0) rfl) ?_
        obtain ⟨t15, h_t15, H34⟩ := bnd_some H; clear H
        refine l_val rfl rfl rfl (r_addG rfl rfl h_t15) ?_
        refine l_val rfl rfl rfl (r_assign (v := .int .i64 t15) rfl) ?_
        refine l_nil ?_
        refine c_block ?_
        refine c_fix (σ := Int × Int × Int) (τ := Unit) (fun next2 s => R_SimpleOf_1_l2 q0 q1 q2 a0 a1 self next2 s.1 s.2.1 s.2.2) (fun s t => [(0, .int .i64 a0), (1, .int .i64 a1), (3, .pointer (some ⟨c1, 0, none⟩)), (4, .pointer (some ⟨pbq2, 0, none⟩)), (5, .pointer (some ⟨c3, 0, none⟩)), (8, .int .i64 s.1), (9, .int .i64 s.2.1), (10, .int .i64 s.2.2)]) (fun s t => [cellsC pbq2 [.slice pq2.1 nq2 pq2.2] 116, rowV 4 1 (.slice pq2.1 nq2 pq2.2) nq2 (q2.map e_bool)]) (fun s t => True) ((-1), q0, t15) () [0, 1] H34 (by exact trivial) (by exact ⟨rfl, rfl, rfl, rfl, rfl, rfl, rfl, rfl, trivial⟩) (by decide) rfl ?_
        rintro ⟨x8_3, x9_2, x10_2⟩ _ m2 gg H35 _
        clear H34
        replace H35 : R_SimpleOf_1_l2 q0 q1 q2 a0 a1 self (it (fun next2 s => R_SimpleOf_1_l2 q0 q1 q2 a0 a1 self next2 s.1 s.2.1 s.2.2) m2) x8_3 x9_2 x10_2 = some r := H35
        generalize hn2 : it (fun next2 s => R_SimpleOf_1_l2 q0 q1 q2 a0 a1 self next2 s.1 s.2.1 s.2.2) m2 = next2 at H35
        refine c_tidyF [(0, .int .i64 a0), (1, .int .i64 a1), (3, .pointer (some ⟨c1, 0, none⟩)), (4, .pointer (some ⟨pbq2, 0, none⟩)), (5, .pointer (some ⟨c3, 0, none⟩)), (8, .int .i64 x8_3), (9, .int .i64 x9_2), (10, .int .i64 x10_2)] [cellsC pbq2 [.slice pq2.1 nq2 pq2.2] 116, rowV 4 1 (.slice pq2.1 nq2 pq2.2) nq2 (q2.map e_bool)] rfl rfl ?_
        refine c_seq ?_
        refine c_seq ?_
        refine c_region ?_
        refine l_val rfl rfl rfl (r_move (v := .int .i64 x10_2) rfl) ?_
        refine l_val rfl rfl rfl (r_move (v := .int .i64 a1) rfl) ?_
        refine l_val rfl rfl rfl (r_lss rfl rfl) ?_
        refine l_nil ?_
        refine c_if (b := (decide (x10_2 < a1))) rfl (fun hb => ?_) (fun hb => ?_)
        · have H36 := cnd_t hb H35; clear H35
          refine c_skip ?_
          refine c_meet (r := r) (σ := Int × Int) (τ := Unit) (fun s => R_SimpleOf_1_j3 x10_2 next2 s.1 s.2) (fun s t => [(0, .int .i64 a0), (1, .int .i64 a1), (3, .pointer (some ⟨c1, 0, none⟩)), (4, .pointer (some ⟨pbq2, 0, none⟩)), (5, .pointer (some ⟨c3, 0, none⟩)), (8, .int .i64 s.1), (9, .int .i64 s.2), (10, .int .i64 x10_2)]) (fun s t => [cellsC pbq2 [.slice pq2.1 nq2 pq2.2] 116, rowV 4 1 (.slice pq2.1 nq2 pq2.2) nq2 (q2.map e_bool)]) (fun s t => True) ?_ ?_
          · refine c_block ?_
            refine c_seq ?_
            exact c_regionD (Kd.d [] _ :: Kd.p :: Kd.p :: Kd.p :: Kd.d [] _ :: Kd.d [] _ :: Kd.p :: Kd.p :: Kd.p :: Kd.d [] _ :: Kd.d [] _ :: Kd.p :: Kd.p :: Kd.p :: Kd.d [] _ :: Kd.d [] _ :: Kd.p :: Kd.p :: Kd.p :: Kd.d [] _ :: Kd.p :: Kd.d [] _ :: Kd.p :: Kd.p :: Kd.p :: Kd.d [] _ :: Kd.d [] _ :: Kd.p :: Kd.p :: Kd.p :: Kd.d [] _ :: Kd.p :: Kd.d [] _ :: Kd.nw 2 [_, _] 25 :: Kd.st 11 2 [_, _] 25 :: []) 1 mixed (by
              refine d_read (fun w hF => run_loadK1 (v := vq1) Try.isAgg49 rfl (hw.now hF _ _ hc1) rfl) rfl rfl ?_
              refine d_val rfl rfl (r_move (v := .int .i64 a0) rfl) ?_
              have h_t23 := bnd_val H36
              have H39 := bnd_rest H36
              refine d_val rfl rfl (r_indexF Try.underlying49 Try.sizeOf78 rfl rfl fq1 h_t23) ?_
              refine d_val rfl rfl (r_fieldP Try.runUnderlying78 rfl Try.sizeOf25 rfl rfl (some_of_at fq1 h_t23)) ?_
              refine d_read (fun w hF => run_loadGN (j := 1) (vs := [.int .i64 (val (gAt q1 a0)).Place.Lat, .int .i64 (val (gAt q1 a0)).Place.Lon]) Try.isAgg25 Try.sizeOf25 rfl rfl (fq1.row (hw.now hF)) h_t23 rfl) rfl rfl ?_
              refine d_read (fun w hF => run_loadK1 (v := vq1) Try.isAgg49 rfl (hw.now hF _ _ hc1) rfl) rfl rfl ?_
              refine d_val rfl rfl (r_move (v := .int .i64 a1) rfl) ?_
              have h_t28 := bnd_val H39
              have H40 := bnd_rest H39
              refine d_val rfl rfl (r_indexF Try.underlying49 Try.sizeOf78 rfl rfl fq1 h_t28) ?_
              refine d_val rfl rfl (r_fieldP Try.runUnderlying78 rfl Try.sizeOf25 rfl rfl (some_of_at fq1 h_t28)) ?_
              refine d_read (fun w hF => run_loadGN (j := 1) (vs := [.int .i64 (val (gAt q1 a1)).Place.Lat, .int .i64 (val (gAt q1 a1)).Place.Lon]) Try.isAgg25 Try.sizeOf25 rfl rfl (fq1.row (hw.now hF)) h_t28 rfl) rfl rfl ?_
              refine d_read (fun w hF => run_loadK1 (v := vq1) Try.isAgg49 rfl (hw.now hF _ _ hc1) rfl) rfl rfl ?_
              refine d_val rfl rfl (r_move (v := .int .i64 x10_2) rfl) ?_
              have h_t33 := bnd_val H40
              have H41 := bnd_rest H40
              refine d_val rfl rfl (r_indexF Try.underlying49 Try.sizeOf78 rfl rfl fq1 h_t33) ?_
              refine d_val rfl rfl (r_fieldP Try.runUnderlying78 rfl Try.sizeOf3 rfl rfl (some_of_at fq1 h_t33)) ?_
              refine d_read (fun w hF => run_loadG1 (j := 0) (v := .int .i64 (val (gAt q1 x10_2)).Moment) Try.isAgg3 rfl rfl (fq1.row (hw.now hF)) h_t33 rfl) rfl rfl ?_
              refine d_read (fun w hF => run_loadK1 (v := vq1) Try.isAgg49 rfl (hw.now hF _ _ hc1) rfl) rfl rfl ?_
              refine d_val rfl rfl (r_move (v := .int .i64 a0) rfl) ?_
              have h_t38 := bnd_val H41
              have H42 := bnd_rest H41
              refine d_val rfl rfl (r_indexF Try.underlying49 Try.sizeOf78 rfl rfl fq1 h_t38) ?_
              refine d_val rfl rfl (r_fieldP Try.runUnderlying78 rfl Try.sizeOf3 rfl rfl (some_of_at fq1 h_t38)) ?_
              refine d_read (fun w hF => run_loadG1 (j := 0) (v := .int .i64 (val (gAt q1 a0)).Moment) Try.isAgg3 rfl rfl (fq1.row (hw.now hF)) h_t38 rfl) rfl rfl ?_
              have h_t41 := bnd_val H42
              have H43 := bnd_rest H42
              refine d_val rfl rfl (r_subG rfl rfl h_t41) ?_
              refine d_read (fun w hF => run_loadK1 (v := vq1) Try.isAgg49 rfl (hw.now hF _ _ hc1) rfl) rfl rfl ?_
              refine d_val rfl rfl (r_move (v := .int .i64 a1) rfl) ?_
              have h_t44 := bnd_val H43
              have H44 := bnd_rest H43
              refine d_val rfl rfl (r_indexF Try.underlying49 Try.sizeOf78 rfl rfl fq1 h_t44) ?_
              refine d_val rfl rfl (r_fieldP Try.runUnderlying78 rfl Try.sizeOf3 rfl rfl (some_of_at fq1 h_t44)) ?_
              refine d_read (fun w hF => run_loadG1 (j := 0) (v := .int .i64 (val (gAt q1 a1)).Moment) Try.isAgg3 rfl rfl (fq1.row (hw.now hF)) h_t44 rfl) rfl rfl ?_
              refine d_read (fun w hF => run_loadK1 (v := vq1) Try.isAgg49 rfl (hw.now hF _ _ hc1) rfl) rfl rfl ?_
              refine d_val rfl rfl (r_move (v := .int .i64 a0) rfl) ?_
              have h_t49 := bnd_val H44
              have H45 := bnd_rest H44
              refine d_val rfl rfl (r_indexF Try.underlying49 Try.sizeOf78 rfl rfl fq1 h_t49) ?_
              refine d_val rfl rfl (r_fieldP Try.runUnderlying78 rfl Try.sizeOf3 rfl rfl (some_of_at fq1 h_t49)) ?_
              refine d_read (fun w hF => run_loadG1 (j := 0) (v := .int .i64 (val (gAt q1 a0)).Moment) Try.isAgg3 rfl rfl (fq1.row (hw.now hF)) h_t49 rfl) rfl rfl ?_
              have h_t52 := bnd_val H45
              have H46 := bnd_rest H45
              refine d_val rfl rfl (r_subG rfl rfl h_t52) ?_
              have h_t53 := bnd_val H46
              have H47 := bnd_rest H46
              refine d_call (k38 h_t53) Try.call38 rfl rfl ?_
              refine d_new rfl rfl (run_alloc (cs := [.int .i64 0, .int .i64 0]) Try.zeroValue25 rfl) rfl (fun b1 => ?_)
              refine d_store (i := 2) (vs := [.int .i64 (val (R_BetweenOf (val (gAt q1 a0)).Place (val (gAt q1 a1)).Place (val (gI ((val (gAt q1 x10_2)).Moment - (val (gAt q1 a0)).Moment))) (val (gI ((val (gAt q1 a1)).Moment - (val (gAt q1 a0)).Moment))))).Lat, .int .i64 (val (R_BetweenOf (val (gAt q1 a0)).Place (val (gAt q1 a1)).Place (val (gI ((val (gAt q1 x10_2)).Moment - (val (gAt q1 a0)).Moment))) (val (gI ((val (gAt q1 a1)).Moment - (val (gAt q1 a0)).Moment))))).Lon]) (cs' := [.int .i64 (val (R_BetweenOf (val (gAt q1 a0)).Place (val (gAt q1 a1)).Place (val (gI ((val (gAt q1 x10_2)).Moment - (val (gAt q1 a0)).Moment))) (val (gI ((val (gAt q1 a1)).Moment - (val (gAt q1 a0)).Moment))))).Lat, .int .i64 (val (R_BetweenOf (val (gAt q1 a0)).Place (val (gAt q1 a1)).Place (val (gI ((val (gAt q1 x10_2)).Moment - (val (gAt q1 a0)).Moment))) (val (gI ((val (gAt q1 a1)).Moment - (val (gAt q1 a0)).Moment))))).Lon]) Try.sizeOf25 rfl rfl rfl rfl rfl rfl rfl rfl rfl ?_
              refine d_nil ?_
              refine c_seq ?_
              exact c_regionD (Kd.d [2] _ :: Kd.d [] _ :: Kd.p :: Kd.p :: Kd.p :: Kd.d [] _ :: Kd.d [] _ :: Kd.p :: []) 0 mixed (by
                refine d_loadN (i := 2) (vs := [.int .i64 (val (R_BetweenOf (val (gAt q1 a0)).Place (val (gAt q1 a1)).Place (val (gI ((val (gAt q1 x10_2)).Moment - (val (gAt q1 a0)).Moment))) (val (gI ((val (gAt q1 a1)).Moment - (val (gAt q1 a0)).Moment))))).Lat, .int .i64 (val (R_BetweenOf (val (gAt q1 a0)).Place (val (gAt q1 a1)).Place (val (gI ((val (gAt q1 x10_2)).Moment - (val (gAt q1 a0)).Moment))) (val (gI ((val (gAt q1 a1)).Moment - (val (gAt q1 a0)).Moment))))).Lon]) Try.isAgg25 Try.sizeOf25 rfl rfl rfl rfl ?_
                refine d_read (fun w hF => run_loadK1 (v := vq1) Try.isAgg49 rfl (hw.now hF _ _ hc1) rfl) rfl rfl ?_
                refine d_val rfl rfl (r_move (v := .int .i64 x10_2) rfl) ?_
                have h_t57 := bnd_val H47
                have H48 := bnd_rest H47
                refine d_val rfl rfl (r_indexF Try.underlying49 Try.sizeOf78 rfl rfl fq1 h_t57) ?_
                refine d_val rfl rfl (r_fieldP Try.runUnderlying78 rfl Try.sizeOf25 rfl rfl (some_of_at fq1 h_t57)) ?_
                refine d_read (fun w hF => run_loadGN (j := 1) (vs := [.int .i64 (val (gAt q1 x10_2)).Place.Lat, .int .i64 (val (gAt q1 x10_2)).Place.Lon]) Try.isAgg25 Try.sizeOf25 rfl rfl (fq1.row (hw.now hF)) h_t57 rfl) rfl rfl ?_
                have h_t60 := bnd_val H48
                have H49 := bnd_rest H48
                refine d_call (k39 h_t60) Try.call39 rfl rfl ?_
                refine d_val rfl rfl (r_assign (v := .int .i64 (val (R_DistanceOf (val (R_BetweenOf (val (gAt q1 a0)).Place (val (gAt q1 a1)).Place (val (gI ((val (gAt q1 x10_2)).Moment - (val (gAt q1 a0)).Moment))) (val (gI ((val (gAt q1 a1)).Moment - (val (gAt q1 a0)).Moment))))) (val (gAt q1 x10_2)).Place))) rfl) ?_
                refine d_nil ?_
                refine c_seq ?_
                refine c_region ?_
                refine l_val rfl rfl rfl (r_move (v := .int .i64 (val (R_DistanceOf (val (R_BetweenOf (val (gAt q1 a0)).Place (val (gAt q1 a1)).Place (val (gI ((val (gAt q1 x10_2)).Moment - (val (gAt q1 a0)).Moment))) (val (gI ((val (gAt q1 a1)).Moment - (val (gAt q1 a0)).Moment))))) (val (gAt q1 x10_2)).Place))) rfl) ?_
                refine l_val rfl rfl rfl (r_move (v := .int .i64 x9_2) rfl) ?_
                refine l_val rfl rfl rfl (r_gtr rfl rfl) ?_
                refine l_nil ?_
                refine c_if (b := (decide (x9_2 < (val (R_DistanceOf (val (R_BetweenOf (val (gAt q1 a0)).Place (val (gAt q1 a1)).Place (val (gI ((val (gAt q1 x10_2)).Moment - (val (gAt q1 a0)).Moment))) (val (gI ((val (gAt q1 a1)).Moment - (val (gAt q1 a0)).Moment))))) (val (gAt q1 x10_2)).Place))))) rfl (fun hb => ?_) (fun hb => ?_)
                · have H50 := cnd_t hb H49; clear H49
                  refine c_region ?_
                  refine l_val rfl rfl rfl (r_move (v := .int .i64 x10_2) rfl) ?_
                  refine l_val rfl rfl rfl (r_move (v := .int .i64 (val (R_DistanceOf (val (R_BetweenOf (val (gAt q1 a0)).Place (val (gAt q1 a1)).Place (val (gI ((val (gAt q1 x10_2)).Moment - (val (gAt q1 a0)).Moment))) (val (gI ((val (gAt q1 a1)).Moment - (val (gAt q1 a0)).Moment))))) (val (gAt q1 x10_2)).Place))) rfl) ?_
                  refine l_val rfl rfl rfl (r_assign (v := .int .i64 x10_2) rfl) ?_
                  refine l_val rfl rfl rfl (r_assign (v := .int .i64 (val (R_DistanceOf (val (R_BetweenOf (val (gAt q1 a0)).Place (val (gAt q1 a1)).Place (val (gI ((val (gAt q1 x10_2)).Moment - (val (gAt q1 a0)).Moment))) (val (gI ((val (gAt q1 a1)).Moment - (val (gAt q1 a0)).Moment))))) (val (gAt q1 x10_2)).Place))) rfl) ?_
                  refine l_nil ?_
                  refine c_close (x10_2, (val (R_DistanceOf (val (R_BetweenOf (val (gAt q1 a0)).Place (val (gAt q1 a1)).Place (val (gI ((val (gAt q1 x10_2)).Moment - (val (gAt q1 a0)).Moment))) (val (gI ((val (gAt q1 a1)).Moment - (val (gAt q1 a0)).Moment))))) (val (gAt q1 x10_2)).Place))) () 0 [0, 1] (by exact ⟨rfl, rfl, rfl, rfl, rfl, rfl, rfl, rfl, trivial⟩) (by decide) rfl (by exact ⟨H50, trivial⟩) (Nat.lt_succ_self _)
                · have H51 := cnd_f hb H49; clear H49
                  refine c_skip ?_
                  refine c_close (x8_3, x9_2) () 0 [0, 1] (by exact ⟨rfl, rfl, rfl, rfl, rfl, rfl, rfl, rfl, trivial⟩) (by decide) rfl (by exact ⟨H51, trivial⟩) (Nat.lt_succ_self _)
                ) (by kernel_rfl)
              ) (by kernel_rfl)
          · rintro ⟨x8_4, x9_3⟩ _ gg H37 _
            replace H37 : R_SimpleOf_1_j3 x10_2 next2 x8_4 x9_3 = some r := H37
            refine c_tidyF [(0, .int .i64 a0), (1, .int .i64 a1), (3, .pointer (some ⟨c1, 0, none⟩)), (4, .pointer (some ⟨pbq2, 0, none⟩)), (5, .pointer (some ⟨c3, 0, none⟩)), (8, .int .i64 x8_4), (9, .int .i64 x9_3), (10, .int .i64 x10_2)] [cellsC pbq2 [.slice pq2.1 nq2 pq2.2] 116, rowV 4 1 (.slice pq2.1 nq2 pq2.2) nq2 (q2.map e_bool)] rfl rfl ?_
            refine c_region ?_
            refine l_val rfl rfl rfl (r_move (v := .int .i64 x10_2) rfl) ?_
            obtain ⟨t20, h_t20, H38⟩ := bnd_some H37; clear H37
            refine l_val rfl rfl rfl (r_addG rfl rfl h_t20) ?_
            refine l_val rfl rfl rfl (r_assign (v := .int .i64 t20) rfl) ?_
            refine l_nil ?_
            refine c_close (x8_4, x9_3, t20) () m2 [0, 1] (by exact ⟨rfl, rfl, rfl, rfl, rfl, rfl, rfl, rfl, trivial⟩) (by decide) rfl (by exact ⟨(by subst hn2; exact H38), trivial⟩) (Nat.lt_succ_self _)
        · have H52 := cnd_f hb H35; clear H35
          refine c_exit ?_
          refine c_close x8_3 () 0 [0, 1] (by exact ⟨rfl, rfl, rfl, rfl, rfl, trivial⟩) (by decide) rfl (by exact ⟨H52, trivial⟩) (Nat.lt_succ_self _)
      · rintro x8 _ gg H27 _
        replace H27 : R_SimpleOf_1_j1 q0 q1 q2 a0 a1 self x8 = some r := H27
        refine c_tidyF [(0, .int .i64 a0), (1, .int .i64 a1), (4, .pointer (some ⟨pbq2, 0, none⟩)), (5, .pointer (some ⟨c3, 0, none⟩)), (8, .int .i64 x8)] [cellsC pbq2 [.slice pq2.1 nq2 pq2.2] 116, rowV 4 1 (.slice pq2.1 nq2 pq2.2) nq2 (q2.map e_bool)] rfl rfl ?_
        refine c_seq ?_
        refine c_region ?_
        refine l_val rfl rfl rfl (r_move (v := .int .i64 x8) rfl) ?_
        refine l_val rfl rfl rfl (r_geq rfl rfl) ?_
        refine l_nil ?_
        refine c_if (b := (decide (0 ≤ x8))) rfl (fun hb => ?_) (fun hb => ?_)
        · have H28 := cnd_t hb H27; clear H27
          refine c_seq ?_
          refine c_region ?_
          refine l_load1 (i := 0) (v := .slice pq2.1 nq2 pq2.2) Try.isAgg116 rfl rfl rfl rfl rfl ?_
          refine l_val rfl rfl rfl (r_move (v := .int .i64 x8) rfl) ?_
          obtain ⟨t70, h_t70, H29⟩ := bnd_some H28; clear H28
          refine l_read (fun w hF hS => run_indexO Try.underlying116 Try.sizeOf4 rfl rfl (rowOf (i := 1) hS rfl) hnq2 h_t70) rfl rfl rfl ?_
          obtain ⟨l1, h_l1, H30⟩ := bnd_some H29; clear H29
          refine l_storeG (q := 1) (j := 0) (i := x8) (sz := 1) (hm := hnq2) (f := e_bool) (vs := [.bool true]) Try.sizeOf4 rfl rfl rfl rfl rfl rfl rfl rfl rfl (fun y_ hy_ => by first | rfl | (cases hy_.symm.trans h_t70; rfl)) h_l1 ?_
          refine l_nil ?_
          refine c_seq ?_
          refine c_region ?_
          refine l_read (fun w hF hS => run_loadK1 (v := .func (.func 89) #[] #[.pointer (some ⟨c0, 0, none⟩), .pointer (some ⟨c1, 0, none⟩), .pointer (some ⟨pbq2, 0, none⟩), .pointer (some ⟨c3, 0, none⟩)]) Try.isAgg119 rfl (hw.now hF _ _ hc3) rfl) rfl rfl rfl ?_
          refine l_val rfl rfl rfl (r_move (v := .int .i64 a0) rfl) ?_
          refine l_val rfl rfl rfl (r_move (v := .int .i64 x8) rfl) ?_
          obtain ⟨t74, h_t74, H31⟩ := bnd_some H30; clear H30
          refine c_both 0 1 rfl rfl (by decide) ?_
          refine l_turn (turns_callBV (caps := #[.pointer (some ⟨c0, 0, none⟩), .pointer (some ⟨c1, 0, none⟩), .pointer (some ⟨pbq2, 0, none⟩), .pointer (some ⟨c3, 0, none⟩)]) (args := [.int .i64 a0, .int .i64 x8]) (i := 0) (rds := []) (G := fun x : (Option Addr × Nat) => .tuple #[]) (C := fun x : (Option Addr × Nat) => bothC (cellsC pbq2 [.slice x.1 t74.length x.2] 116) (rowV 4 1 (.slice x.1 t74.length x.2) t74.length (t74.map e_bool))) rfl (fun w L' S hF hS hi hp hlt ho hA => ih hp hlt (know_but w S) (hw.but hF ho _ _ hc0) (fq1.mono (hw.but hF ho)) (hw.but hF ho _ _ hc1) (gSet_n hnq2 h_l1) (hw.but hF ho _ _ hc3) h_t74) Try.call89 rfl rfl) rfl rfl rfl (fun p => ?_)
          refine c_splitAt 0 1 rfl rfl (by decide) ?_
          refine l_nil ?_
          refine c_region ?_
          refine l_read (fun w hF hS => run_loadK1 (v := .func (.func 89) #[] #[.pointer (some ⟨c0, 0, none⟩), .pointer (some ⟨c1, 0, none⟩), .pointer (some ⟨pbq2, 0, none⟩), .pointer (some ⟨c3, 0, none⟩)]) Try.isAgg119 rfl (hw.now hF _ _ hc3) rfl) rfl rfl rfl ?_
          refine l_val rfl rfl rfl (r_move (v := .int .i64 x8) rfl) ?_
          refine l_val rfl rfl rfl (r_move (v := .int .i64 a1) rfl) ?_
          obtain ⟨t78, h_t78, H32⟩ := bnd_some H31; clear H31
          refine c_both 0 1 rfl rfl (by decide) ?_
          refine l_turn (turns_callBV (caps := #[.pointer (some ⟨c0, 0, none⟩), .pointer (some ⟨c1, 0, none⟩), .pointer (some ⟨pbq2, 0, none⟩), .pointer (some ⟨c3, 0, none⟩)]) (args := [.int .i64 x8, .int .i64 a1]) (i := 0) (rds := []) (G := fun x : (Option Addr × Nat) => .tuple #[]) (C := fun x : (Option Addr × Nat) => bothC (cellsC pbq2 [.slice x.1 t78.length x.2] 116) (rowV 4 1 (.slice x.1 t78.length x.2) t78.length (t78.map e_bool))) rfl (fun w L' S hF hS hi hp hlt ho hA => ih hp hlt (know_but w S) (hw.but hF ho _ _ hc0) (fq1.mono (hw.but hF ho)) (hw.but hF ho _ _ hc1) rfl (hw.but hF ho _ _ hc3) h_t78) Try.call89 rfl rfl) rfl rfl rfl (fun p_2 => ?_)
          refine c_splitAt 0 1 rfl rfl (by decide) ?_
          refine l_nil ?_
          obtain rfl := Option.some.inj H32
          refine c_both 0 1 rfl rfl (by decide) ?_
          refine ret0n rfl (finX p_2 (i := 0) rfl rfl (Imp.refl _))
        · have H33 := cnd_f hb H27; clear H27
          refine c_skip ?_
          obtain rfl := Option.some.inj H33
          refine c_both 0 1 rfl rfl (by decide) ?_
          refine ret0n rfl (finX pq2 (i := 0) rfl (by first | rfl | rw [(hnq2 : nq2 = q2.length)]) (Imp.of (by rw [(hnq2 : nq2 = q2.length)])))
      ) (by kernel_rfl)
theorem k89 {q0 : Int} {c0 : Nat} {q1 : (List T_where_Fix)} {vq1 : Value} {c1 : Nat} {q2 : (List Bool)} {pbq2 : Nat} {pq2 : Option Addr × Nat} {nq2 : Nat} {c3 : Nat} {a0 : Int} {a1 : Int} {r : (List Bool)} {w : World} {h : Heap} {S : Nat → Prop} (hcs : (bothC (cellsC pbq2 [.slice pq2.1 nq2 pq2.2] 116) (rowV 4 1 (.slice pq2.1 nq2 pq2.2) nq2 (q2.map e_bool))).P S w) (hlt : ∀ b, S b → b < w.heap.size) (hw : Know h w S) (hc0 : h c0 = some (.cells (List.toArray [.int .i64 q0]) 3 (0, 0))) (fq1 : FrS h 3 vq1 (q1.map e_where_Fix)) (hc1 : h c1 = some (.cells (List.toArray [vq1]) 49 (0, 0))) (hnq2 : nq2 = q2.length) (hc3 : h c3 = some (.cells (List.toArray [.func (.func 89) #[] #[.pointer (some ⟨c0, 0, none⟩), .pointer (some ⟨c1, 0, none⟩), .pointer (some ⟨pbq2, 0, none⟩), .pointer (some ⟨c3, 0, none⟩)]]) 119 (0, 0))) (H : R_SimpleOf_1 q0 q1 q2 a0 a1 = some r) : Does Try.prog 89 (List.toArray [.int .i64 a0, .int .i64 a1, .pointer (some ⟨c0, 0, none⟩), .pointer (some ⟨c1, 0, none⟩), .pointer (some ⟨pbq2, 0, none⟩), .pointer (some ⟨c3, 0, none⟩)]) w (fun v w' => ∃ x : (Option Addr × Nat), v = (.tuple #[]) ∧ Turn w w' S (bothC (cellsC pbq2 [.slice x.1 r.length x.2] 116) (rowV 4 1 (.slice x.1 r.length x.2) r.length (r.map e_bool)))) := by
  obtain ⟨mm, hm⟩ := fix_it (show fix (fun (self : (Int × (List T_where_Fix) × (List Bool) × Int × Int) → Option ((List Bool))) (s : Int × (List T_where_Fix) × (List Bool) × Int × Int) => R_SimpleOf_1_body self s.1 s.2.1 s.2.2.1 s.2.2.2.1 s.2.2.2.2) (q0, q1, q2, a0, a1) = some r from H)
  exact k89_it mm hcs hlt hw hc0 fq1 hc1 hnq2 hc3 hm
theorem k41 {a0 : (List T_where_Fix)} {v0 : Value} {a1 : Int} {r : (List T_where_Fix)} {w : World} {h : Heap} (hw : Know h w noS) (f0 : FrS h 3 v0 (a0.map e_where_Fix)) (H : R_SimpleOf a0 a1 = some r) : Does Try.prog 41 (List.toArray [v0, .int .i64 a1]) w (fun v w' => ∃ x : (Option Addr × Nat), v = (.slice x.1 r.length x.2) ∧ Turn w w' noS (rowV 78 3 (.slice x.1 r.length x.2) r.length (r.map e_where_Fix))) := by
  refine enter (n := 46) Try.func41 rfl rfl rfl noS [] (Sat.nil _ _) ?_
  refine c_seq ?_
  refine c_region ?_
  refine l_box (cs := [v0]) rfl rfl rfl f0.cells (fun b6 => ?_)
  refine l_box (cs := [.int .i64 a1]) rfl rfl rfl rfl (fun b7 => ?_)
  refine l_val rfl rfl rfl (r_assign (v := .slice none 0 0) rfl) ?_
  refine l_nil ?_
  refine c_seq ?_
  refine c_region ?_
  refine l_load1 (i := 0) (v := v0) Try.isAgg49 rfl rfl rfl rfl rfl ?_
  refine l_val rfl rfl rfl (r_lenF Try.underlying49 rfl f0 rfl) ?_
  obtain ⟨t12, h_t12, H22⟩ := bnd_some H; clear H
  refine l_make (rds := []) (makes_makeG (E := 4) (sz := 1) (f := e_bool) (xs := t12) Try.underlying116 (info_of Try.typeInfo4) rfl rfl rfl rfl rfl rfl ⟨rfl, rfl⟩ h_t12) rfl rfl rfl (fun p => ?_)
  refine l_alloc (cs := [.slice none 0 0]) Try.zeroValue116 rfl rfl rfl (fun b8 => ?_)
  refine l_store (i := 3) (vs := [.slice p.1 t12.length p.2]) (cs' := [.slice p.1 t12.length p.2]) Try.sizeOf116 rfl rfl rfl rfl rfl rfl rfl rfl rfl ?_
  refine l_nil ?_
  refine c_seq ?_
  refine c_region ?_
  refine l_alloc (cs := [.nilFunc]) Try.zeroValue119 rfl rfl rfl (fun b9 => ?_)
  refine l_nil ?_
  refine c_seq ?_
  refine c_region ?_
  refine l_val rfl rfl rfl (r_makeFn (caps := #[.pointer (some ⟨b7, 0, none⟩), .pointer (some ⟨b6, 0, none⟩), .pointer (some ⟨b8, 0, none⟩), .pointer (some ⟨b9, 0, none⟩)]) rfl) ?_
  refine l_store (i := 4) (vs := [.func (.func 89) #[] #[.pointer (some ⟨b7, 0, none⟩), .pointer (some ⟨b6, 0, none⟩), .pointer (some ⟨b8, 0, none⟩), .pointer (some ⟨b9, 0, none⟩)]]) (cs' := [.func (.func 89) #[] #[.pointer (some ⟨b7, 0, none⟩), .pointer (some ⟨b6, 0, none⟩), .pointer (some ⟨b8, 0, none⟩), .pointer (some ⟨b9, 0, none⟩)]]) Try.sizeOf119 rfl rfl rfl rfl rfl rfl rfl rfl rfl ?_
  refine l_nil ?_
  refine c_meet (r := r) (σ := (List Bool)) (τ := (Option Addr × Nat)) (fun s => R_SimpleOf_j1 a0 s) (fun s t => [(2, .pointer (some ⟨b6, 0, none⟩)), (5, .pointer (some ⟨b8, 0, none⟩))]) (fun s t => [cellsC b6 [v0] 49, rowV 4 1 (.slice t.1 s.length t.2) s.length (s.map e_bool), cellsC b8 [.slice t.1 s.length t.2] 116]) (fun s t => True) ?_ ?_
  · refine c_seq ?_
    refine c_region ?_
    refine l_load1 (i := 0) (v := v0) Try.isAgg49 rfl rfl rfl rfl rfl ?_
    refine l_val rfl rfl rfl (r_lenF Try.underlying49 rfl f0 rfl) ?_
    refine l_val rfl rfl rfl (r_gtr rfl rfl) ?_
    refine l_nil ?_
    refine c_if (b := (decide (0 < (a0.length : Int)))) rfl (fun hb => ?_) (fun hb => ?_)
    · have H34 := cnd_t hb H22; clear H22
      refine c_seq ?_
      exact c_regionD (Kd.d [3] _ :: Kd.d [3] _ :: Kd.d [0] _ :: Kd.p :: Kd.p :: Kd.d [2] _ :: Kd.sr 2 _ :: Kd.d [2] _ :: Kd.sr 2 _ :: []) 0 mixed (by
        refine d_load1 (i := 3) (v := .slice p.1 t12.length p.2) Try.isAgg116 rfl rfl rfl rfl ?_
        refine d_load1 (i := 3) (v := .slice p.1 t12.length p.2) Try.isAgg116 rfl rfl rfl rfl ?_
        refine d_load1 (i := 0) (v := v0) Try.isAgg49 rfl rfl rfl rfl ?_
        refine d_val rfl rfl (r_lenF Try.underlying49 rfl f0 rfl) ?_
        have h_t21 := bnd_val H34
        have H35 := bnd_rest H34
        refine d_val rfl rfl (r_subG rfl rfl h_t21) ?_
        have h_t22 := bnd_val H35
        have H36 := bnd_rest H35
        refine d_readD (fun w L' hF hS hi => run_indexO Try.underlying116 Try.sizeOf4 rfl rfl (rowOf (i := 2) hS ((hi 2 (by simp)).trans rfl)) rfl h_t22) rfl rfl ?_
        have h_l2 := bnd_val H36
        have H37 := bnd_rest H36
        refine d_storeG (q := 2) (j := 0) (i := 0) (sz := 1) (hm := rfl) (f := e_bool) (vs := [.bool true]) Try.sizeOf4 rfl rfl rfl rfl rfl rfl rfl rfl rfl (fun y_ hy_ => by first | rfl | (cases hy_.symm.trans h_t22; rfl)) h_l2 ?_
        have h_t23 := bnd_val H37
        have H38 := bnd_rest H37
        refine d_readD (fun w L' hF hS hi => run_indexO Try.underlying116 Try.sizeOf4 rfl rfl (rowOf (i := 2) hS ((hi 2 (by simp)).trans rfl)) (gSet_n rfl h_l2) h_t23) rfl rfl ?_
        have h_l2_2 := bnd_val H38
        have H39 := bnd_rest H38
        refine d_storeG (q := 2) (j := 0) (i := (val (gI ((a0.length : Int) - 1)))) (sz := 1) (hm := (gSet_n rfl h_l2)) (f := e_bool) (vs := [.bool true]) Try.sizeOf4 rfl rfl rfl rfl rfl rfl rfl rfl rfl (fun y_ hy_ => by first | rfl | (cases hy_.symm.trans h_t23; rfl)) h_l2_2 ?_
        refine d_nil ?_
        refine c_region ?_
        refine l_load1 (i := 4) (v := .func (.func 89) #[] #[.pointer (some ⟨b7, 0, none⟩), .pointer (some ⟨b6, 0, none⟩), .pointer (some ⟨b8, 0, none⟩), .pointer (some ⟨b9, 0, none⟩)]) Try.isAgg119 rfl rfl rfl rfl rfl ?_
        refine l_load1 (i := 0) (v := v0) Try.isAgg49 rfl rfl rfl rfl rfl ?_
        refine l_val rfl rfl rfl (r_lenF Try.underlying49 rfl f0 rfl) ?_
        obtain ⟨t27, h_t27, H40⟩ := bnd_some H39; clear H39
        refine l_val rfl rfl rfl (r_subG rfl rfl h_t27) ?_
        obtain ⟨t28, h_t28, H41⟩ := bnd_some H40; clear H40
        refine c_both 3 2 rfl rfl (by decide) ?_
        refine l_turn (turns_callBV (caps := #[.pointer (some ⟨b7, 0, none⟩), .pointer (some ⟨b6, 0, none⟩), .pointer (some ⟨b8, 0, none⟩), .pointer (some ⟨b9, 0, none⟩)]) (args := [.int .i64 0, .int .i64 t27]) (i := 3) (rds := [0, 1, 4]) (G := fun x : (Option Addr × Nat) => .tuple #[]) (C := fun x : (Option Addr × Nat) => bothC (cellsC b8 [.slice x.1 t28.length x.2] 116) (rowV 4 1 (.slice x.1 t28.length x.2) t28.length (t28.map e_bool))) rfl (fun w L' S hF hS hi hp hlt ho hA => k89 hp hlt (know_but w S) (cell_but (j := 1) hA hS (by decide) ((hi 1 (by simp)).trans rfl)) (f0.mono (hw.but hF ho)) (cell_but (j := 0) hA hS (by decide) ((hi 0 (by simp)).trans rfl)) (gSet_n (gSet_n rfl h_l2) h_l2_2) (cell_but (j := 4) hA hS (by decide) ((hi 4 (by simp)).trans rfl)) h_t28) Try.call89 rfl rfl) rfl rfl rfl (fun p_6 => ?_)
        refine c_splitAt 3 2 rfl rfl (by decide) ?_
        refine l_nil ?_
        refine c_close t28 p_6 0 [0, 2, 3] (by exact ⟨rfl, rfl, trivial⟩) (by decide) rfl (by exact ⟨H41, trivial⟩) (Nat.lt_succ_self _)
        ) (by kernel_rfl)
    · have H42 := cnd_f hb H22; clear H22
      refine c_skip ?_
      refine c_close t12 p 0 [0, 2, 3] (by exact ⟨rfl, rfl, trivial⟩) (by decide) rfl (by exact ⟨H42, trivial⟩) (Nat.lt_succ_self _)
  · rintro l p_2 gg H23 _
    replace H23 : R_SimpleOf_j1 a0 l = some r := H23
    refine c_tidyF [(2, .pointer (some ⟨b6, 0, none⟩)), (5, .pointer (some ⟨b8, 0, none⟩))] [cellsC b6 [v0] 49, rowV 4 1 (.slice p_2.1 l.length p_2.2) l.length (l.map e_bool), cellsC b8 [.slice p_2.1 l.length p_2.2] 116] rfl rfl ?_
    refine c_seq ?_
    refine c_region ?_
    refine l_val rfl rfl rfl (r_assign (v := .slice none 0 0) rfl) ?_
    refine l_nil ?_
    refine c_seq ?_
    refine c_seq ?_
    refine c_region ?_
    refine l_load1 (i := 0) (v := v0) Try.isAgg49 rfl rfl rfl rfl rfl ?_
    refine l_val rfl rfl rfl (r_lenF Try.underlying49 rfl f0 rfl) ?_
    refine l_val rfl rfl rfl (r_move (v := .int .i64 0) rfl) ?_
    refine l_nil ?_
    refine c_block ?_
    refine c_sel [1, 2] [rowV 4 1 (.slice p_2.1 l.length p_2.2) l.length (l.map e_bool), cellsC b8 [.slice p_2.1 l.length p_2.2] 116] rfl (by decide) ?_
    refine c_nilRow 78 3 ?_
    refine c_fix (σ := Int × (List T_where_Fix)) (τ := (Option Addr × Nat)) (fun next2 s => R_SimpleOf_l2 a0 l next2 s.1 s.2) (fun s t => [(5, .pointer (some ⟨b8, 0, none⟩)), (7, .slice t.1 s.2.length t.2), (29, v0), (30, .int .i64 (a0.length : Int)), (31, .int .i64 s.1)]) (fun s t => [rowV 4 1 (.slice p_2.1 l.length p_2.2) l.length (l.map e_bool), cellsC b8 [.slice p_2.1 l.length p_2.2] 116, rowV 78 3 (.slice t.1 s.2.length t.2) s.2.length (s.2.map e_where_Fix)]) (fun s t => True) (0, ([] : List T_where_Fix)) ((none, 0) : Option Addr × Nat) [0, 1, 2] H23 (by exact trivial) (by exact ⟨rfl, rfl, rfl, rfl, rfl, trivial⟩) (by decide) rfl ?_
    rintro ⟨x31_2, l_3⟩ p_3 m2 gg H24 _
    clear H23
    replace H24 : R_SimpleOf_l2 a0 l (it (fun next2 s => R_SimpleOf_l2 a0 l next2 s.1 s.2) m2) x31_2 l_3 = some r := H24
    generalize hn2 : it (fun next2 s => R_SimpleOf_l2 a0 l next2 s.1 s.2) m2 = next2 at H24
    refine c_tidyF [(5, .pointer (some ⟨b8, 0, none⟩)), (7, .slice p_3.1 l_3.length p_3.2), (29, v0), (30, .int .i64 (a0.length : Int)), (31, .int .i64 x31_2)] [rowV 4 1 (.slice p_2.1 l.length p_2.2) l.length (l.map e_bool), cellsC b8 [.slice p_2.1 l.length p_2.2] 116, rowV 78 3 (.slice p_3.1 l_3.length p_3.2) l_3.length (l_3.map e_where_Fix)] rfl rfl ?_
    refine c_seq ?_
    refine c_region ?_
    refine l_val rfl rfl rfl (r_lss rfl rfl) ?_
    refine l_nil ?_
    refine c_seq ?_
    refine c_if (b := (decide (x31_2 < (a0.length : Int)))) rfl (fun hb => ?_) (fun hb => ?_)
    · have H25 := cnd_t hb H24; clear H24
      refine c_skip ?_
      refine c_meet (r := r) (σ := (List T_where_Fix)) (τ := (Option Addr × Nat)) (fun s => R_SimpleOf_j3 x31_2 next2 s) (fun s t => [(5, .pointer (some ⟨b8, 0, none⟩)), (7, .slice t.1 s.length t.2), (29, v0), (30, .int .i64 (a0.length : Int)), (31, .int .i64 x31_2)]) (fun s t => [rowV 4 1 (.slice p_2.1 l.length p_2.2) l.length (l.map e_bool), cellsC b8 [.slice p_2.1 l.length p_2.2] 116, rowV 78 3 (.slice t.1 s.length t.2) s.length (s.map e_where_Fix)]) (fun s t => True) ?_ ?_
      · refine c_block ?_
        refine c_seq ?_
        refine c_region ?_
        refine l_val rfl rfl rfl (r_move (v := .int .i64 x31_2) rfl) ?_
        obtain ⟨t34, h_t34, H28⟩ := bnd_some H25; clear H25
        refine l_val rfl rfl rfl (r_indexF Try.underlying49 Try.sizeOf78 rfl rfl f0 h_t34) ?_
        refine l_read (fun w hF hS => run_loadGN (j := 0) (vs := [.int .i64 t34.Moment, .int .i64 t34.Place.Lat, .int .i64 t34.Place.Lon]) Try.isAgg78 Try.sizeOf78 rfl rfl (f0.row (hw.now hF)) h_t34 rfl) rfl rfl rfl ?_
        refine l_alloc (cs := [.int .i64 0, .int .i64 0, .int .i64 0]) Try.zeroValue78 rfl rfl rfl (fun b10 => ?_)
        refine l_val rfl rfl rfl (r_assign (v := .int .i64 x31_2) rfl) ?_
        refine l_store (i := 3) (vs := [.int .i64 t34.Moment, .int .i64 t34.Place.Lat, .int .i64 t34.Place.Lon]) (cs' := [.int .i64 t34.Moment, .int .i64 t34.Place.Lat, .int .i64 t34.Place.Lon]) Try.sizeOf78 rfl rfl rfl rfl rfl rfl rfl rfl rfl ?_
        refine l_nil ?_
        refine c_seq ?_
        refine c_region ?_
        refine l_load1 (i := 1) (v := .slice p_2.1 l.length p_2.2) Try.isAgg116 rfl rfl rfl rfl rfl ?_
        refine l_val rfl rfl rfl (r_move (v := .int .i64 x31_2) rfl) ?_
        obtain ⟨t38, h_t38, H29⟩ := bnd_some H28; clear H28
        refine l_read (fun w hF hS => run_indexO Try.underlying116 Try.sizeOf4 rfl rfl (rowOf (i := 0) hS rfl) rfl h_t38) rfl rfl rfl ?_
        refine l_read (fun w hF hS => run_loadG1 (j := 0) (v := .bool t38) Try.isAgg4 rfl rfl (rowOf (i := 0) hS rfl) h_t38 rfl) rfl rfl rfl ?_
        refine l_nil ?_
        refine c_if (b := t38) rfl (fun hb => ?_) (fun hb => ?_)
        · have H30 := cnd_t hb H29; clear H29
          refine c_region ?_
          refine l_val rfl rfl rfl (r_move (v := .slice p_3.1 l_3.length p_3.2) rfl) ?_
          refine l_loadN (i := 3) (vs := [.int .i64 t34.Moment, .int .i64 t34.Place.Lat, .int .i64 t34.Place.Lon]) Try.isAgg78 Try.sizeOf78 rfl rfl rfl rfl rfl ?_
          refine l_buildSlice (vs := [.agg #[.int .i64 t34.Moment, .int .i64 t34.Place.Lat, .int .i64 t34.Place.Lon]]) (cs := [.int .i64 t34.Moment, .int .i64 t34.Place.Lat, .int .i64 t34.Place.Lon]) Try.underlying49 Try.sizeOf78 Try.zeroValue78 rfl rfl rfl rfl rfl rfl rfl (fun b11 => ?_)
          obtain ⟨l43, h_l43, H31⟩ := bnd_some H30; clear H30
          refine l_turn (turns_appG (i := 2) (hn := rfl) (rds := [4]) (p := p_3) (sz := 3) (by_ := 24) (f := e_where_Fix) (ys := l_3) (ls := ([t34] : List T_where_Fix)) (V := .slice (some ⟨b11, 0, none⟩) 1 1) Try.underlying49 (info_of Try.typeInfo78) rfl rfl rfl rfl rfl rfl rfl rfl rfl rfl (fun w L' hF hS hi => row_box (i := 4) hS ((hi 4 (by simp)).trans rfl) rfl rfl) (fun _ => rfl) (fun _ => rfl) h_l43) rfl rfl rfl (fun p_5 => ?_)
          refine l_val rfl rfl rfl (r_assign (v := .slice p_5.1 l43.length p_5.2) rfl) ?_
          refine l_nil ?_
          refine c_close l43 p_5 0 [0, 1, 2] (by exact ⟨rfl, rfl, rfl, rfl, rfl, trivial⟩) (by decide) rfl (by exact ⟨H31, trivial⟩) (Nat.lt_succ_self _)
        · have H32 := cnd_f hb H29; clear H29
          refine c_skip ?_
          refine c_close l_3 p_3 0 [0, 1, 2] (by exact ⟨rfl, rfl, rfl, rfl, rfl, trivial⟩) (by decide) rfl (by exact ⟨H32, trivial⟩) (Nat.lt_succ_self _)
      · rintro l_4 p_4 gg H26 _
        replace H26 : R_SimpleOf_j3 x31_2 next2 l_4 = some r := H26
        refine c_tidyF [(5, .pointer (some ⟨b8, 0, none⟩)), (7, .slice p_4.1 l_4.length p_4.2), (29, v0), (30, .int .i64 (a0.length : Int)), (31, .int .i64 x31_2)] [rowV 4 1 (.slice p_2.1 l.length p_2.2) l.length (l.map e_bool), cellsC b8 [.slice p_2.1 l.length p_2.2] 116, rowV 78 3 (.slice p_4.1 l_4.length p_4.2) l_4.length (l_4.map e_where_Fix)] rfl rfl ?_
        refine c_region ?_
        obtain ⟨t44, h_t44, H27⟩ := bnd_some H26; clear H26
        refine l_val rfl rfl rfl (r_addG rfl rfl h_t44) ?_
        refine l_val rfl rfl rfl (r_move (v := .int .i64 t44) rfl) ?_
        refine l_nil ?_
        refine c_close (t44, l_4) p_4 m2 [0, 1, 2] (by exact ⟨rfl, rfl, rfl, rfl, rfl, trivial⟩) (by decide) rfl (by exact ⟨(by subst hn2; exact H27), trivial⟩) (Nat.lt_succ_self _)
    · have H33 := cnd_f hb H24; clear H24
      refine c_exit ?_
      refine c_seq ?_
      refine c_region ?_
      refine l_val rfl rfl rfl (r_move (v := .slice p_3.1 l_3.length p_3.2) rfl) ?_
      refine l_val rfl rfl rfl (r_assign (v := .slice p_3.1 l_3.length p_3.2) rfl) ?_
      refine l_nil ?_
      refine c_ret ?_
      obtain rfl := Option.some.inj H33
      refine ret1 (v := .slice p_3.1 l_3.length p_3.2) rfl rfl (finX p_3 (i := 2) rfl rfl (Imp.refl _))
theorem k90 {a0 : (List T_where_Fix)} {v0 : Value} {a1 : (List T_where_Fix)} {v1 : Value} {r : Bool} {w : World} {h : Heap} (hw : Know h w noS) (f0 : FrS h 3 v0 (a0.map e_where_Fix)) (f1 : FrS h 3 v1 (a1.map e_where_Fix)) (H : slices_Equal_where_Fix a0 a1 = some r) : Does Try.prog 90 (List.toArray [v0, v1]) w (fun v w' => v = (.bool r) ∧ Grow w w') := by
  refine enter (n := 26) Try.func90 rfl rfl rfl noS [] (Sat.nil _ _) ?_
  refine c_seq ?_
  refine c_region ?_
  refine l_val rfl rfl rfl (r_assign (v := .bool false) rfl) ?_
  refine l_nil ?_
  refine c_seq ?_
  refine c_seq ?_
  refine c_region ?_
  refine l_val rfl rfl rfl (r_move (v := v0) rfl) ?_
  refine l_val rfl rfl rfl (r_lenF Try.underlying49 rfl f0 rfl) ?_
  refine l_val rfl rfl rfl (r_move (v := v1) rfl) ?_
  refine l_val rfl rfl rfl (r_lenF Try.underlying49 rfl f1 rfl) ?_
  refine l_val rfl rfl rfl (r_neq rfl rfl) ?_
  refine l_nil ?_
  refine c_if (b := (decide ((a0.length : Int) ≠ (a1.length : Int)))) rfl (fun hb => ?_) (fun hb => ?_)
  · have H11 := cnd_t hb H; clear H
    refine c_seq ?_
    refine c_region ?_
    refine l_val rfl rfl rfl (r_assign (v := .bool false) rfl) ?_
    refine l_nil ?_
    refine c_ret ?_
    obtain rfl := Option.some.inj H11
    refine ret1 (v := .bool false) rfl rfl (fin rfl)
  · have H12 := cnd_f hb H; clear H
    refine c_skip ?_
    refine c_seq ?_
    refine c_seq ?_
    refine c_region ?_
    refine l_val rfl rfl rfl (r_move (v := v0) rfl) ?_
    refine l_val rfl rfl rfl (r_lenF Try.underlying49 rfl f0 rfl) ?_
    refine l_val rfl rfl rfl (r_move (v := .int .i64 0) rfl) ?_
    refine l_nil ?_
    refine c_block ?_
    refine c_fix (σ := Int) (τ := Unit) (fun next1 s => slices_Equal_where_Fix_l1 a0 a1 next1 s) (fun s t => [(0, v0), (1, v1), (12, .int .i64 (a0.length : Int)), (13, .int .i64 s)]) (fun s t => []) (fun s t => True) 0 () [] H12 (by exact trivial) (by exact ⟨rfl, rfl, rfl, rfl, trivial⟩) (by decide) rfl ?_
    rintro x13_2 _ m1 gg H13 _
    clear H12
    replace H13 : slices_Equal_where_Fix_l1 a0 a1 (it (fun next1 s => slices_Equal_where_Fix_l1 a0 a1 next1 s) m1) x13_2 = some r := H13
    generalize hn1 : it (fun next1 s => slices_Equal_where_Fix_l1 a0 a1 next1 s) m1 = next1 at H13
    refine c_tidyF [(0, v0), (1, v1), (12, .int .i64 (a0.length : Int)), (13, .int .i64 x13_2)] [] rfl rfl ?_
    refine c_seq ?_
    refine c_region ?_
    refine l_val rfl rfl rfl (r_lss rfl rfl) ?_
    refine l_nil ?_
    refine c_seq ?_
    refine c_if (b := (decide (x13_2 < (a0.length : Int)))) rfl (fun hb => ?_) (fun hb => ?_)
    · have H14 := cnd_t hb H13; clear H13
      refine c_skip ?_
      refine c_seq ?_
      refine c_block ?_
      refine c_seq ?_
      refine c_region ?_
      refine l_val rfl rfl rfl (r_move (v := .int .i64 x13_2) rfl) ?_
      refine l_val rfl rfl rfl (r_assign (v := .int .i64 x13_2) rfl) ?_
      refine l_nil ?_
      refine c_seq ?_
      exact c_regionD (Kd.p :: Kd.p :: Kd.p :: Kd.d [] _ :: Kd.p :: Kd.p :: Kd.p :: Kd.d [] _ :: Kd.p :: []) 0 mixed (by
        refine d_val rfl rfl (r_move (v := v0) rfl) ?_
        refine d_val rfl rfl (r_move (v := .int .i64 x13_2) rfl) ?_
        have h_t18 := bnd_val H14
        have H15 := bnd_rest H14
        refine d_val rfl rfl (r_indexF Try.underlying49 Try.sizeOf78 rfl rfl f0 h_t18) ?_
        refine d_read (fun w hF => run_loadGN (j := 0) (vs := [.int .i64 (val (gAt a0 x13_2)).Moment, .int .i64 (val (gAt a0 x13_2)).Place.Lat, .int .i64 (val (gAt a0 x13_2)).Place.Lon]) Try.isAgg78 Try.sizeOf78 rfl rfl (f0.row (hw.now hF)) h_t18 rfl) rfl rfl ?_
        refine d_val rfl rfl (r_move (v := v1) rfl) ?_
        refine d_val rfl rfl (r_move (v := .int .i64 x13_2) rfl) ?_
        have h_t22 := bnd_val H15
        have H16 := bnd_rest H15
        refine d_val rfl rfl (r_indexF Try.underlying49 Try.sizeOf78 rfl rfl f1 h_t22) ?_
        refine d_read (fun w hF => run_loadGN (j := 0) (vs := [.int .i64 (val (gAt a1 x13_2)).Moment, .int .i64 (val (gAt a1 x13_2)).Place.Lat, .int .i64 (val (gAt a1 x13_2)).Place.Lon]) Try.isAgg78 Try.sizeOf78 rfl rfl (f1.row (hw.now hF)) h_t22 rfl) rfl rfl ?_
        refine d_val rfl rfl (r_neqA (xs := #[.int .i64 (val (gAt a0 x13_2)).Moment, .int .i64 (val (gAt a0 x13_2)).Place.Lat, .int .i64 (val (gAt a0 x13_2)).Place.Lon]) (ys := #[.int .i64 (val (gAt a1 x13_2)).Moment, .int .i64 (val (gAt a1 x13_2)).Place.Lat, .int .i64 (val (gAt a1 x13_2)).Place.Lon]) Try.eqGuardType78 (fun w => run_eq_where_Fix w (val (gAt a0 x13_2)) (val (gAt a1 x13_2))) rfl rfl) ?_
        refine d_nil ?_
        refine c_if (b := (!(eq_where_Fix (val (gAt a0 x13_2)) (val (gAt a1 x13_2))))) rfl (fun hb => ?_) (fun hb => ?_)
        · have H17 := cnd_t hb H16; clear H16
          refine c_seq ?_
          refine c_region ?_
          refine l_val rfl rfl rfl (r_assign (v := .bool false) rfl) ?_
          refine l_nil ?_
          refine c_ret ?_
          obtain rfl := Option.some.inj H17
          refine ret1 (v := .bool false) rfl rfl (fin rfl)
        · have H18 := cnd_f hb H16; clear H16
          refine c_skip ?_
          refine c_region ?_
          obtain ⟨t25, h_t25, H19⟩ := bnd_some H18; clear H18
          refine l_val rfl rfl rfl (r_addG rfl rfl h_t25) ?_
          refine l_val rfl rfl rfl (r_move (v := .int .i64 t25) rfl) ?_
          refine l_nil ?_
          refine c_close t25 () m1 [] (by exact ⟨rfl, rfl, rfl, rfl, trivial⟩) (by decide) rfl (by exact ⟨(by subst hn1; exact H19), trivial⟩) (Nat.lt_succ_self _)
        ) (by kernel_rfl)
    · have H20 := cnd_f hb H13; clear H13
      refine c_exit ?_
      refine c_seq ?_
      refine c_region ?_
      refine l_val rfl rfl rfl (r_assign (v := .bool true) rfl) ?_
      refine l_nil ?_
      refine c_ret ?_
      obtain rfl := Option.some.inj H20
      refine ret1 (v := .bool true) rfl rfl (fin rfl)
theorem k42 {a0 : (List T_where_Fix)} {v0 : Value} {a1 : Int} {a2 : (List T_where_Fix)} {v2 : Value} {a3 : Int} {r : Bool} {w : World} {h : Heap} (hw : Know h w noS) (f0 : FrS h 3 v0 (a0.map e_where_Fix)) (f2 : FrS h 3 v2 (a2.map e_where_Fix)) (H : Law_listed_where_Fix a0 a1 a2 a3 = some r) : Does Try.prog 42 (List.toArray [v0, .int .i64 a1, v2, .int .i64 a3]) w (fun v w' => v = (.bool r) ∧ Grow w w') := by
  refine enter (n := 19) Try.func42 rfl rfl rfl noS [] (Sat.nil _ _) ?_
  refine c_seq ?_
  refine c_region ?_
  refine l_val rfl rfl rfl (r_assign (v := .bool false) rfl) ?_
  refine l_nil ?_
  refine c_meet (r := r) (σ := (List T_where_Fix)) (τ := Value) (fun s => Law_listed_where_Fix_j1 a0 a1 a3 s) (fun s t => [(0, v0), (1, .int .i64 a1), (2, t), (3, .int .i64 a3)]) (fun s t => []) (fun s t => FrS h 3 t (s.map e_where_Fix)) ?_ ?_
  · refine c_seq ?_
    refine c_region ?_
    refine l_val rfl rfl rfl (r_move (v := .int .i64 a3) rfl) ?_
    refine l_val rfl rfl rfl (r_neq rfl rfl) ?_
    refine l_nil ?_
    refine c_if (b := (decide (a3 ≠ 0))) rfl (fun hb => ?_) (fun hb => ?_)
    · have H11 := cnd_t hb H; clear H
      refine c_region ?_
      refine l_val rfl rfl rfl (r_assign (v := .slice none 0 0) rfl) ?_
      refine l_nil ?_
      refine c_close ([] : (List T_where_Fix)) (.slice none 0 0) 0 [] (by exact ⟨rfl, rfl, rfl, rfl, trivial⟩) (by decide) rfl (by exact ⟨H11, (FrS.nil _ _)⟩) (Nat.lt_succ_self _)
    · have H12 := cnd_f hb H; clear H
      refine c_skip ?_
      refine c_close a2 v2 0 [] (by exact ⟨rfl, rfl, rfl, rfl, trivial⟩) (by decide) rfl (by exact ⟨H12, f2⟩) (Nat.lt_succ_self _)
  · rintro x2 gv gg H7 gf
    replace H7 : Law_listed_where_Fix_j1 a0 a1 a3 x2 = some r := H7
    refine c_tidyF [(0, v0), (1, .int .i64 a1), (2, gv), (3, .int .i64 a3)] [] rfl rfl ?_
    refine c_seq ?_
    refine c_region ?_
    refine l_val rfl rfl rfl (r_move (v := v0) rfl) ?_
    refine l_val rfl rfl rfl (r_move (v := gv) rfl) ?_
    obtain ⟨t13, h_t13, H8⟩ := bnd_some H7; clear H7
    refine l_callG (fun w hF hS => k90 (know_all w) (f0.mono (hw.now hF)) (gf.mono (hw.now hF)) h_t13) Try.call90 rfl rfl rfl ?_
    refine l_val rfl rfl rfl (r_move (v := .bool t13) rfl) ?_
    refine split (fun hb => ?_) (fun hb => ?_)
    · have H9 := cnd_t hb H8; clear H8
      refine l_val rfl rfl rfl (r_move (v := .int .i64 a1) rfl) ?_
      refine l_val rfl rfl rfl (r_move (v := .int .i64 a3) rfl) ?_
      refine l_val rfl rfl rfl (r_eql rfl rfl) ?_
      refine l_val rfl rfl rfl (r_pickT (v := .bool (decide (a1 = a3))) rfl rfl) ?_
      refine l_val rfl rfl rfl (r_assign (v := .bool (decide (a1 = a3))) rfl) ?_
      refine l_nil ?_
      refine c_ret ?_
      obtain rfl := Option.some.inj H9
      refine ret1 (v := .bool (decide (a1 = a3))) rfl rfl (fin rfl)
    · have H10 := cnd_f hb H8; clear H8
      refine l_passed rfl rfl rfl ?_
      refine l_passed rfl rfl rfl ?_
      refine l_passed rfl rfl rfl ?_
      refine l_val rfl rfl rfl (r_pickF (v := .bool false) rfl rfl) ?_
      refine l_val rfl rfl rfl (r_assign (v := .bool false) rfl) ?_
      refine l_nil ?_
      refine c_ret ?_
      obtain rfl := Option.some.inj H10
      refine ret1 (v := .bool false) rfl rfl (fin rfl)
theorem k7 {a0 : (List T_where_Fix)} {v0 : Value} {a1 : Int} {r : Bool} {w : World} {h : Heap} (hw : Know h w noS) (f0 : FrS h 3 v0 (a0.map e_where_Fix)) (H : Law_WhereSimple a0 a1 = some r) : Does Try.prog 7 (List.toArray [v0, .int .i64 a1]) w (fun v w' => v = (.bool r) ∧ Grow w w') := by
  refine enter (n := 31) Try.func7 rfl rfl rfl noS [] (Sat.nil _ _) ?_
  refine c_seq ?_
  refine c_region ?_
  refine l_val rfl rfl rfl (r_assign (v := .bool false) rfl) ?_
  refine l_nil ?_
  refine c_seq ?_
  refine c_region ?_
  refine l_val rfl rfl rfl (r_move (v := v0) rfl) ?_
  refine l_val rfl rfl rfl (r_move (v := .int .i64 a1) rfl) ?_
  obtain ⟨t12, h_t12, H10⟩ := bnd_some H; clear H
  refine l_make (makes_call (rds := []) (G := fun x : (Option Addr × Nat) => .tuple #[.slice x.1 t12.1.length x.2, .int .i64 t12.2]) (C := fun x : (Option Addr × Nat) => roV 3 (.slice x.1 t12.1.length x.2) t12.1.length (t12.1.map e_where_Fix)) (fun w L' hF hS hi => k40 (know_all w) (f0.mono (hw.now hF)) h_t12) Try.call40 rfl) rfl rfl rfl (fun p => ?_)
  refine l_val rfl rfl rfl (r_move (v := .tuple #[.slice p.1 t12.1.length p.2, .int .i64 t12.2]) rfl) ?_
  refine l_val rfl rfl rfl (r_extract (v := .slice p.1 t12.1.length p.2) rfl rfl) ?_
  refine l_val rfl rfl rfl (r_extract (v := .int .i64 t12.2) rfl rfl) ?_
  refine l_val rfl rfl rfl (r_assign (v := .slice p.1 t12.1.length p.2) rfl) ?_
  refine l_val rfl rfl rfl (r_assign (v := .int .i64 t12.2) rfl) ?_
  refine l_nil ?_
  refine c_seq ?_
  refine c_region ?_
  refine l_val rfl rfl rfl (r_move (v := v0) rfl) ?_
  obtain ⟨t16, h_t16, H11⟩ := bnd_some H10; clear H10
  refine l_callG (fun w hF hS => k29 (know_all w) (f0.mono (hw.now hF)) h_t16) Try.call29 rfl rfl rfl ?_
  refine l_val rfl rfl rfl (r_move (v := .int .i64 a1) rfl) ?_
  obtain ⟨t18, h_t18, H12⟩ := bnd_some H11; clear H11
  refine l_call (k17 h_t18) Try.call17 rfl rfl rfl ?_
  refine l_buildSlice (vs := [.int .i64 t16, .int .i64 t18]) (cs := [.int .i64 t16, .int .i64 t18]) Try.underlying106 Try.sizeOf26 Try.zeroValue26 rfl rfl rfl rfl rfl rfl rfl (fun b1 => ?_)
  obtain ⟨t20, h_t20, H13⟩ := bnd_some H12; clear H12
  refine l_callG (fun w hF hS => k15 (know_all w) (frs_box (i := 1) (xs := ([t16, t18] : List Int)) (f := e_i64) hS rfl rfl rfl rfl rfl) h_t20) Try.call15 rfl rfl rfl ?_
  refine l_val rfl rfl rfl (r_assign (v := .int .i64 t20) rfl) ?_
  refine l_nil ?_
  refine c_seq ?_
  refine c_region ?_
  refine l_val rfl rfl rfl (r_assign (v := .slice none 0 0) rfl) ?_
  refine l_nil ?_
  refine c_meet (r := r) (σ := (List T_where_Fix)) (τ := (Option Addr × Nat)) (fun s => Law_WhereSimple_j1 t12 t20 s) (fun s t => [(5, .slice p.1 t12.1.length p.2), (6, .int .i64 t12.2), (7, .int .i64 t20), (8, .slice t.1 s.length t.2)]) (fun s t => [roV 3 (.slice p.1 t12.1.length p.2) t12.1.length (t12.1.map e_where_Fix), rowV 78 3 (.slice t.1 s.length t.2) s.length (s.map e_where_Fix)]) (fun s t => True) ?_ ?_
  · refine c_seq ?_
    refine c_region ?_
    refine l_val rfl rfl rfl (r_move (v := .int .i64 t20) rfl) ?_
    refine l_val rfl rfl rfl (r_eql rfl rfl) ?_
    refine l_nil ?_
    refine c_if (b := (decide (t20 = 0))) rfl (fun hb => ?_) (fun hb => ?_)
    · have H16 := cnd_t hb H13; clear H13
      refine c_region ?_
      refine l_val rfl rfl rfl (r_move (v := v0) rfl) ?_
      refine l_val rfl rfl rfl (r_move (v := .int .i64 a1) rfl) ?_
      obtain ⟨t25, h_t25, H17⟩ := bnd_some H16; clear H16
      refine l_make (makes_call (rds := []) (G := fun x : (Option Addr × Nat) => .slice x.1 t25.length x.2) (C := fun x : (Option Addr × Nat) => rowV 78 3 (.slice x.1 t25.length x.2) t25.length (t25.map e_where_Fix)) (fun w L' hF hS hi => k41 (know_all w) (f0.mono (hw.now hF)) h_t25) Try.call41 rfl) rfl rfl rfl (fun p_3 => ?_)
      refine l_val rfl rfl rfl (r_assign (v := .slice p_3.1 t25.length p_3.2) rfl) ?_
      refine l_nil ?_
      refine c_close t25 p_3 0 [0, 2] (by exact ⟨rfl, rfl, rfl, rfl, trivial⟩) (by decide) rfl (by exact ⟨H17, trivial⟩) (Nat.lt_succ_self _)
    · have H18 := cnd_f hb H13; clear H13
      refine c_skip ?_
      refine c_nilRow 78 3 ?_
      refine c_close ([] : List T_where_Fix) ((none, 0) : Option Addr × Nat) 0 [0, 2] (by exact ⟨rfl, rfl, rfl, rfl, trivial⟩) (by decide) rfl (by exact ⟨H18, trivial⟩) (Nat.lt_succ_self _)
  · rintro l p_2 gg H14 _
    replace H14 : Law_WhereSimple_j1 t12 t20 l = some r := H14
    refine c_tidyF [(5, .slice p.1 t12.1.length p.2), (6, .int .i64 t12.2), (7, .int .i64 t20), (8, .slice p_2.1 l.length p_2.2)] [roV 3 (.slice p.1 t12.1.length p.2) t12.1.length (t12.1.map e_where_Fix), rowV 78 3 (.slice p_2.1 l.length p_2.2) l.length (l.map e_where_Fix)] rfl rfl ?_
    refine c_seq ?_
    refine c_region ?_
    refine l_val rfl rfl rfl (r_move (v := .slice p.1 t12.1.length p.2) rfl) ?_
    refine l_val rfl rfl rfl (r_move (v := .int .i64 t12.2) rfl) ?_
    refine l_val rfl rfl rfl (r_move (v := .slice p_2.1 l.length p_2.2) rfl) ?_
    refine l_val rfl rfl rfl (r_move (v := .int .i64 t20) rfl) ?_
    obtain ⟨t30, h_t30, H15⟩ := bnd_some H14; clear H14
    refine l_callG (fun w hF hS => k42 (know_all w) (frs_rd (i := 0) hS rfl) (frs_own (i := 1) rfl hS rfl) h_t30) Try.call42 rfl rfl rfl ?_
    refine l_val rfl rfl rfl (r_assign (v := .bool t30) rfl) ?_
    refine l_nil ?_
    refine c_ret ?_
    obtain rfl := Option.some.inj H15
    refine ret1 (v := .bool t30) rfl rfl (fin rfl)
end Go.Proofs.Ytfgehlmdcllclaa
