/- WhereSimpleNear: the walks, printed by our generator; each follows its model. Conditions: the model yields a value. -/
import Derived.Test.YtcfckcchalpkdaaDoorKAw
namespace Go.Proofs.YtcfckcchalpkdaaDoor
open Go Go.Vc Go.Md Go.M Go.Lx
set_option maxRecDepth 100000
set_option maxHeartbeats 4000000
set_option linter.unusedVariables false

theorem k102 {a0 : Int} {r : Int} (H : where_wrap a0 = some r) : Ret Tryd.prog 102 [.int .i64 a0] (.int .i64 r) := by
  refine enterRet (n := 6) Tryd.func102 rfl rfl rfl (fun wd => ?_)
  refine c_seq ?_
  refine c_region ?_
  refine l_val rfl rfl rfl (r_assign (v := .int .i64 0) rfl) ?_
  refine l_nil ?_
  refine c_seq ?_
  refine c_region ?_
  refine l_val rfl rfl rfl (r_move (v := .int .i64 a0) rfl) ?_
  obtain ⟨t4, h_t4, H3⟩ := bnd_some H; clear H
  refine l_call (k89 h_t4) Tryd.call89 rfl rfl rfl ?_
  obtain ⟨t5, h_t5, H4⟩ := bnd_some H3; clear H3
  refine l_val rfl rfl rfl (r_subG rfl rfl h_t5) ?_
  refine l_val rfl rfl rfl (r_assign (v := .int .i64 t5) rfl) ?_
  refine l_nil ?_
  refine c_ret ?_
  obtain rfl := Option.some.inj H4
  refine ret1 (v := .int .i64 t5) rfl rfl (fin rfl)
theorem k71 {a0 : T_api_Place} {a1 : T_api_Place} {a2 : Int} {a3 : Int} {r : T_api_Place} (H : where_between a0 a1 a2 a3 = some r) : Ret Tryd.prog 71 [.agg #[.int .i64 a0.Lat, .int .i64 a0.Lon], .agg #[.int .i64 a1.Lat, .int .i64 a1.Lon], .int .i64 a2, .int .i64 a3] (.agg #[.int .i64 r.Lat, .int .i64 r.Lon]) := by
  refine enterRet (n := 35) Tryd.func71 rfl rfl rfl (fun wd => ?_)
  refine c_seq ?_
  refine c_region ?_
  refine l_box (cs := [.int .i64 a0.Lat, .int .i64 a0.Lon]) rfl rfl rfl rfl (fun b3 => ?_)
  refine l_box (cs := [.int .i64 a1.Lat, .int .i64 a1.Lon]) rfl rfl rfl rfl (fun b4 => ?_)
  refine l_alloc (cs := [.int .i64 0, .int .i64 0]) Tryd.zeroValue29 rfl rfl rfl (fun b5 => ?_)
  refine l_nil ?_
  refine c_seq ?_
  exact c_regionD (Kd.p :: Kd.d [0] _ :: Kd.p :: Kd.d [1] _ :: Kd.p :: Kd.d [0] _ :: Kd.p :: Kd.p :: Kd.p :: Kd.p :: Kd.d [] _ :: Kd.p :: Kd.p :: Kd.d [0] _ :: Kd.p :: Kd.d [0] _ :: Kd.p :: Kd.d [1] _ :: Kd.d [] _ :: Kd.p :: Kd.p :: Kd.p :: Kd.d [] _ :: Kd.p :: Kd.d [] _ :: Kd.p :: Kd.st 8 2 [_, _] 29 :: []) 0 mixed (by
    refine d_val rfl rfl (r_field Tryd.runUnderlying29 rfl Tryd.sizeOf3 rfl rfl) ?_
    refine d_load1 (i := 0) (v := .int .i64 a0.Lat) Tryd.isAgg3 rfl rfl rfl rfl ?_
    refine d_val rfl rfl (r_field Tryd.runUnderlying29 rfl Tryd.sizeOf3 rfl rfl) ?_
    refine d_load1 (i := 1) (v := .int .i64 a1.Lat) Tryd.isAgg3 rfl rfl rfl rfl ?_
    refine d_val rfl rfl (r_field Tryd.runUnderlying29 rfl Tryd.sizeOf3 rfl rfl) ?_
    refine d_load1 (i := 0) (v := .int .i64 a0.Lat) Tryd.isAgg3 rfl rfl rfl rfl ?_
    have h_t15 := bnd_val H
    have H10 := bnd_rest H
    refine d_val rfl rfl (r_subG rfl rfl h_t15) ?_
    refine d_val rfl rfl (r_move (v := .int .i64 a2) rfl) ?_
    have h_t17 := bnd_val H10
    have H11 := bnd_rest H10
    refine d_val rfl rfl (r_mulG rfl rfl h_t17) ?_
    refine d_val rfl rfl (r_move (v := .int .i64 a3) rfl) ?_
    have h_t19 := bnd_val H11
    have H12 := bnd_rest H11
    refine d_call (k84 h_t19) Tryd.call84 rfl rfl ?_
    have h_t20 := bnd_val H12
    have H13 := bnd_rest H12
    refine d_val rfl rfl (r_addG rfl rfl h_t20) ?_
    refine d_val rfl rfl (r_field Tryd.runUnderlying29 rfl Tryd.sizeOf3 rfl rfl) ?_
    refine d_load1 (i := 0) (v := .int .i64 a0.Lon) Tryd.isAgg3 rfl rfl rfl rfl ?_
    refine d_val rfl rfl (r_field Tryd.runUnderlying29 rfl Tryd.sizeOf3 rfl rfl) ?_
    refine d_load1 (i := 0) (v := .int .i64 a0.Lon) Tryd.isAgg3 rfl rfl rfl rfl ?_
    refine d_val rfl rfl (r_field Tryd.runUnderlying29 rfl Tryd.sizeOf3 rfl rfl) ?_
    refine d_load1 (i := 1) (v := .int .i64 a1.Lon) Tryd.isAgg3 rfl rfl rfl rfl ?_
    have h_t27 := bnd_val H13
    have H14 := bnd_rest H13
    refine d_call (k83 h_t27) Tryd.call83 rfl rfl ?_
    refine d_val rfl rfl (r_move (v := .int .i64 a2) rfl) ?_
    have h_t29 := bnd_val H14
    have H15 := bnd_rest H14
    refine d_val rfl rfl (r_mulG rfl rfl h_t29) ?_
    refine d_val rfl rfl (r_move (v := .int .i64 a3) rfl) ?_
    have h_t31 := bnd_val H15
    have H16 := bnd_rest H15
    refine d_call (k84 h_t31) Tryd.call84 rfl rfl ?_
    have h_t32 := bnd_val H16
    have H17 := bnd_rest H16
    refine d_val rfl rfl (r_addG rfl rfl h_t32) ?_
    have h_t33 := bnd_val H17
    have H18 := bnd_rest H17
    refine d_call (k102 h_t33) Tryd.call102 rfl rfl ?_
    refine d_val rfl rfl (r_build (pl := #[(0, 1), (1, 1)]) (ps := [(0, .int .i64 (val (gI (a0.Lat + (val (where_floor (val (gI ((val (gI (a1.Lat - a0.Lat))) * a2))) a3)))))), (1, .int .i64 (val (where_wrap (val (gI (a0.Lon + (val (where_floor (val (gI ((val (where_short a0.Lon a1.Lon)) * a2))) a3))))))))]) (cells := #[.int .i64 (val (gI (a0.Lat + (val (where_floor (val (gI ((val (gI (a1.Lat - a0.Lat))) * a2))) a3))))), .int .i64 (val (where_wrap (val (gI (a0.Lon + (val (where_floor (val (gI ((val (where_short a0.Lon a1.Lon)) * a2))) a3)))))))]) Tryd.zeroValue29 Tryd.runUnderlying29 (fun w => by kernel_rfl) rfl rfl) ?_
    refine d_store (i := 2) (vs := [.int .i64 (val (gI (a0.Lat + (val (where_floor (val (gI ((val (gI (a1.Lat - a0.Lat))) * a2))) a3))))), .int .i64 (val (where_wrap (val (gI (a0.Lon + (val (where_floor (val (gI ((val (where_short a0.Lon a1.Lon)) * a2))) a3)))))))]) (cs' := [.int .i64 (val (gI (a0.Lat + (val (where_floor (val (gI ((val (gI (a1.Lat - a0.Lat))) * a2))) a3))))), .int .i64 (val (where_wrap (val (gI (a0.Lon + (val (where_floor (val (gI ((val (where_short a0.Lon a1.Lon)) * a2))) a3)))))))]) Tryd.sizeOf29 rfl rfl rfl rfl rfl rfl rfl rfl rfl ?_
    refine d_nil ?_
    refine c_ret ?_
    obtain rfl := Option.some.inj H18
    refine retC (i := 2) (vs := [.int .i64 (val (gI (a0.Lat + (val (where_floor (val (gI ((val (gI (a1.Lat - a0.Lat))) * a2))) a3))))), .int .i64 (val (where_wrap (val (gI (a0.Lon + (val (where_floor (val (gI ((val (where_short a0.Lon a1.Lon)) * a2))) a3)))))))]) Tryd.isAgg29 Tryd.sizeOf29 rfl rfl rfl rfl (fin rfl)
    ) (by kernel_rfl)
theorem k52_it (mm : Nat) : ∀ {a0 : (List T_where_Fix)} {v0 : Value} {a1 : Int} {a2 : Int} {a3 : Int} {a4 : (List Bool)} {p4 : Option Addr × Nat} {n4 : Nat} {r : (List Bool)} {w : World} {h : Heap} {S : Nat → Prop} (hcs : (rowV 4 1 (.slice p4.1 n4 p4.2) n4 (a4.map e_bool)).P S w) (hlt : ∀ b, S b → b < w.heap.size) (hw : Know h w S) (f0 : FrS h 3 v0 (a0.map e_where_Fix)) (hn4 : n4 = a4.length) (H : it (fun (self : ((List T_where_Fix) × Int × Int × Int × (List Bool)) → Option ((List Bool))) (s : (List T_where_Fix) × Int × Int × Int × (List Bool)) => where_simplify_body self s.1 s.2.1 s.2.2.1 s.2.2.2.1 s.2.2.2.2) mm (a0, a1, a2, a3, a4) = some r), Does Tryd.prog 52 (List.toArray [v0, .int .i64 a1, .int .i64 a2, .int .i64 a3, .slice p4.1 n4 p4.2]) w (fun v w' => ∃ x : Unit, v = (.tuple #[]) ∧ Turn w w' S (rowV 4 1 (.slice p4.1 n4 p4.2) n4 (r.map e_bool))) := by
  induction mm with
  | zero => intros; rename_i H; exact absurd H (by simp [it])
  | succ mm ih =>
    intro a0 v0 a1 a2 a3 a4 p4 n4 r w h S hcs hlt hw f0 hn4 H
    replace H : where_simplify_body (it (fun (self : ((List T_where_Fix) × Int × Int × Int × (List Bool)) → Option ((List Bool))) (s : (List T_where_Fix) × Int × Int × Int × (List Bool)) => where_simplify_body self s.1 s.2.1 s.2.2.1 s.2.2.2.1 s.2.2.2.2) mm) a0 a1 a2 a3 a4 = some r := H
    generalize it (fun (self : ((List T_where_Fix) × Int × Int × Int × (List Bool)) → Option ((List Bool))) (s : (List T_where_Fix) × Int × Int × Int × (List Bool)) => where_simplify_body self s.1 s.2.1 s.2.2.1 s.2.2.2.1 s.2.2.2.2) mm = self at H ih
    refine enter (n := 80) Tryd.func52 rfl rfl rfl S [rowV 4 1 (.slice p4.1 n4 p4.2) n4 (a4.map e_bool)] (Sat.one hcs hlt) ?_
    refine c_seq ?_
    refine c_region ?_
    refine l_val rfl rfl rfl (r_move (v := .int .i64 a3) rfl) ?_
    refine l_val rfl rfl rfl (r_assign (v := .int .i64 (-1)) rfl) ?_
    refine l_val rfl rfl rfl (r_assign (v := .int .i64 a3) rfl) ?_
    refine l_nil ?_
    refine c_seq ?_
    exact c_regionD (Kd.p :: Kd.p :: Kd.p :: Kd.d [] _ :: Kd.p :: Kd.p :: Kd.p :: Kd.d [] _ :: Kd.nw 1 [_, _, _] 33 :: Kd.nw 2 [_, _, _] 33 :: Kd.st 12 1 [_, _, _] 33 :: Kd.st 13 2 [_, _, _] 33 :: []) 2 mixed (by
      refine d_val rfl rfl (r_move (v := v0) rfl) ?_
      refine d_val rfl rfl (r_move (v := .int .i64 a1) rfl) ?_
      have h_t20 := bnd_val H
      have H24 := bnd_rest H
      refine d_val rfl rfl (r_indexF Tryd.underlying22 Tryd.sizeOf33 rfl rfl f0 h_t20) ?_
      refine d_read (fun w hF => run_loadGN (f := e_where_Fix) (i := a1) (sz := 3) (j := 0) (vs := [.int .i64 (val (gAt a0 a1)).Moment, .int .i64 (val (gAt a0 a1)).Place.Lat, .int .i64 (val (gAt a0 a1)).Place.Lon]) Tryd.isAgg33 Tryd.sizeOf33 rfl rfl (f0.row (hw.now hF)) h_t20 rfl) rfl rfl ?_
      refine d_val rfl rfl (r_move (v := v0) rfl) ?_
      refine d_val rfl rfl (r_move (v := .int .i64 a2) rfl) ?_
      have h_t24 := bnd_val H24
      have H25 := bnd_rest H24
      refine d_val rfl rfl (r_indexF Tryd.underlying22 Tryd.sizeOf33 rfl rfl f0 h_t24) ?_
      refine d_read (fun w hF => run_loadGN (f := e_where_Fix) (i := a2) (sz := 3) (j := 0) (vs := [.int .i64 (val (gAt a0 a2)).Moment, .int .i64 (val (gAt a0 a2)).Place.Lat, .int .i64 (val (gAt a0 a2)).Place.Lon]) Tryd.isAgg33 Tryd.sizeOf33 rfl rfl (f0.row (hw.now hF)) h_t24 rfl) rfl rfl ?_
      refine d_new rfl rfl (run_alloc (cs := [.int .i64 0, .int .i64 0, .int .i64 0]) Tryd.zeroValue33 rfl) rfl (fun b3 => ?_)
      refine d_new rfl rfl (run_alloc (cs := [.int .i64 0, .int .i64 0, .int .i64 0]) Tryd.zeroValue33 rfl) rfl (fun b4 => ?_)
      refine d_store (i := 1) (vs := [.int .i64 (val (gAt a0 a1)).Moment, .int .i64 (val (gAt a0 a1)).Place.Lat, .int .i64 (val (gAt a0 a1)).Place.Lon]) (cs' := [.int .i64 (val (gAt a0 a1)).Moment, .int .i64 (val (gAt a0 a1)).Place.Lat, .int .i64 (val (gAt a0 a1)).Place.Lon]) Tryd.sizeOf33 rfl rfl rfl rfl rfl rfl rfl rfl rfl ?_
      refine d_store (i := 2) (vs := [.int .i64 (val (gAt a0 a2)).Moment, .int .i64 (val (gAt a0 a2)).Place.Lat, .int .i64 (val (gAt a0 a2)).Place.Lon]) (cs' := [.int .i64 (val (gAt a0 a2)).Moment, .int .i64 (val (gAt a0 a2)).Place.Lat, .int .i64 (val (gAt a0 a2)).Place.Lon]) Tryd.sizeOf33 rfl rfl rfl rfl rfl rfl rfl rfl rfl ?_
      refine d_nil ?_
      refine c_meet (r := r) (σ := Int) (τ := Unit) (fun s => where_simplify_j1 a0 a1 a2 a3 a4 self s) (fun s t => [(0, v0), (1, .int .i64 a1), (2, .int .i64 a2), (3, .int .i64 a3), (4, .slice p4.1 n4 p4.2), (10, .int .i64 s)]) (fun s t => [rowV 4 1 (.slice p4.1 n4 p4.2) n4 (a4.map e_bool)]) (fun s t => True) ?_ ?_
      · refine c_seq ?_
        refine c_region ?_
        refine l_val rfl rfl rfl (r_move (v := .int .i64 a1) rfl) ?_
        obtain ⟨t27, h_t27, H33⟩ := bnd_some H25; clear H25
        refine l_val rfl rfl rfl (r_addG rfl rfl h_t27) ?_
        refine l_val rfl rfl rfl (r_assign (v := .int .i64 t27) rfl) ?_
        refine l_nil ?_
        refine c_block ?_
        refine c_fix (σ := Int × Int × Int) (τ := Unit) (fun next2 s => where_simplify_l2 a0 a1 a2 a3 a4 self (val (gAt a0 a1)) (val (gAt a0 a2)) next2 s.1 s.2.1 s.2.2) (fun s t => [(0, v0), (1, .int .i64 a1), (2, .int .i64 a2), (3, .int .i64 a3), (4, .slice p4.1 n4 p4.2), (10, .int .i64 s.1), (11, .int .i64 s.2.1), (12, .pointer (some ⟨b3, 0, none⟩)), (13, .pointer (some ⟨b4, 0, none⟩)), (14, .int .i64 s.2.2)]) (fun s t => [rowV 4 1 (.slice p4.1 n4 p4.2) n4 (a4.map e_bool), cellsC b3 [.int .i64 (val (gAt a0 a1)).Moment, .int .i64 (val (gAt a0 a1)).Place.Lat, .int .i64 (val (gAt a0 a1)).Place.Lon] 33, cellsC b4 [.int .i64 (val (gAt a0 a2)).Moment, .int .i64 (val (gAt a0 a2)).Place.Lat, .int .i64 (val (gAt a0 a2)).Place.Lon] 33]) (fun s t => True) ((-1), a3, t27) () [0, 1, 2] H33 (by exact trivial) (by exact ⟨rfl, rfl, rfl, rfl, rfl, rfl, rfl, rfl, rfl, rfl, trivial⟩) (by decide) rfl ?_
        rintro ⟨x10_3, x11_2, x14_2⟩ _ m2 gg H34 _
        clear H33
        replace H34 : where_simplify_l2 a0 a1 a2 a3 a4 self (val (gAt a0 a1)) (val (gAt a0 a2)) (it (fun next2 s => where_simplify_l2 a0 a1 a2 a3 a4 self (val (gAt a0 a1)) (val (gAt a0 a2)) next2 s.1 s.2.1 s.2.2) m2) x10_3 x11_2 x14_2 = some r := H34
        generalize hn2 : it (fun next2 s => where_simplify_l2 a0 a1 a2 a3 a4 self (val (gAt a0 a1)) (val (gAt a0 a2)) next2 s.1 s.2.1 s.2.2) m2 = next2 at H34
        refine c_tidyF [(0, v0), (1, .int .i64 a1), (2, .int .i64 a2), (3, .int .i64 a3), (4, .slice p4.1 n4 p4.2), (10, .int .i64 x10_3), (11, .int .i64 x11_2), (12, .pointer (some ⟨b3, 0, none⟩)), (13, .pointer (some ⟨b4, 0, none⟩)), (14, .int .i64 x14_2)] [rowV 4 1 (.slice p4.1 n4 p4.2) n4 (a4.map e_bool), cellsC b3 [.int .i64 (val (gAt a0 a1)).Moment, .int .i64 (val (gAt a0 a1)).Place.Lat, .int .i64 (val (gAt a0 a1)).Place.Lon] 33, cellsC b4 [.int .i64 (val (gAt a0 a2)).Moment, .int .i64 (val (gAt a0 a2)).Place.Lat, .int .i64 (val (gAt a0 a2)).Place.Lon] 33] rfl rfl ?_
        refine c_seq ?_
        refine c_seq ?_
        refine c_region ?_
        refine l_val rfl rfl rfl (r_move (v := .int .i64 x14_2) rfl) ?_
        refine l_val rfl rfl rfl (r_move (v := .int .i64 a2) rfl) ?_
        refine l_val rfl rfl rfl (r_lss rfl rfl) ?_
        refine l_nil ?_
        refine c_if (b := (decide (x14_2 < a2))) rfl (fun hb => ?_) (fun hb => ?_)
        · have H35 := cnd_t hb H34; clear H34
          refine c_skip ?_
          refine c_meet (r := r) (σ := Int × Int) (τ := Unit) (fun s => where_simplify_j3 x14_2 next2 s.1 s.2) (fun s t => [(0, v0), (1, .int .i64 a1), (2, .int .i64 a2), (3, .int .i64 a3), (4, .slice p4.1 n4 p4.2), (10, .int .i64 s.1), (11, .int .i64 s.2), (12, .pointer (some ⟨b3, 0, none⟩)), (13, .pointer (some ⟨b4, 0, none⟩)), (14, .int .i64 x14_2)]) (fun s t => [rowV 4 1 (.slice p4.1 n4 p4.2) n4 (a4.map e_bool), cellsC b3 [.int .i64 (val (gAt a0 a1)).Moment, .int .i64 (val (gAt a0 a1)).Place.Lat, .int .i64 (val (gAt a0 a1)).Place.Lon] 33, cellsC b4 [.int .i64 (val (gAt a0 a2)).Moment, .int .i64 (val (gAt a0 a2)).Place.Lat, .int .i64 (val (gAt a0 a2)).Place.Lon] 33]) (fun s t => True) ?_ ?_
          · refine c_block ?_
            refine c_seq ?_
            exact c_regionD (Kd.p :: Kd.d [1] _ :: Kd.p :: Kd.d [2] _ :: Kd.p :: Kd.p :: Kd.p :: Kd.p :: Kd.d [] _ :: Kd.p :: Kd.d [1] _ :: Kd.p :: Kd.p :: Kd.d [2] _ :: Kd.p :: Kd.d [1] _ :: Kd.p :: Kd.d [] _ :: Kd.nw 3 [_, _] 29 :: Kd.st 15 3 [_, _] 29 :: []) 1 mixed (by
              refine d_val rfl rfl (r_field Tryd.runUnderlying33 rfl Tryd.sizeOf29 rfl rfl) ?_
              refine d_loadN (i := 1) (vs := [.int .i64 (val (gAt a0 a1)).Place.Lat, .int .i64 (val (gAt a0 a1)).Place.Lon]) Tryd.isAgg29 Tryd.sizeOf29 rfl rfl rfl rfl ?_
              refine d_val rfl rfl (r_field Tryd.runUnderlying33 rfl Tryd.sizeOf29 rfl rfl) ?_
              refine d_loadN (i := 2) (vs := [.int .i64 (val (gAt a0 a2)).Place.Lat, .int .i64 (val (gAt a0 a2)).Place.Lon]) Tryd.isAgg29 Tryd.sizeOf29 rfl rfl rfl rfl ?_
              refine d_val rfl rfl (r_move (v := v0) rfl) ?_
              refine d_val rfl rfl (r_move (v := .int .i64 x14_2) rfl) ?_
              have h_t39 := bnd_val H35
              have H38 := bnd_rest H35
              refine d_val rfl rfl (r_indexF Tryd.underlying22 Tryd.sizeOf33 rfl rfl f0 h_t39) ?_
              refine d_val rfl rfl (r_fieldP Tryd.runUnderlying33 rfl Tryd.sizeOf3 rfl rfl (some_of_at f0 h_t39)) ?_
              refine d_read (fun w hF => run_loadG1 (f := e_where_Fix) (i := x14_2) (sz := 3) (j := 0) (v := .int .i64 (val (gAt a0 x14_2)).Moment) Tryd.isAgg3 rfl rfl (f0.row (hw.now hF)) h_t39 rfl) rfl rfl ?_
              refine d_val rfl rfl (r_field Tryd.runUnderlying33 rfl Tryd.sizeOf3 rfl rfl) ?_
              refine d_load1 (i := 1) (v := .int .i64 (val (gAt a0 a1)).Moment) Tryd.isAgg3 rfl rfl rfl rfl ?_
              have h_t44 := bnd_val H38
              have H39 := bnd_rest H38
              refine d_val rfl rfl (r_subG rfl rfl h_t44) ?_
              refine d_val rfl rfl (r_field Tryd.runUnderlying33 rfl Tryd.sizeOf3 rfl rfl) ?_
              refine d_load1 (i := 2) (v := .int .i64 (val (gAt a0 a2)).Moment) Tryd.isAgg3 rfl rfl rfl rfl ?_
              refine d_val rfl rfl (r_field Tryd.runUnderlying33 rfl Tryd.sizeOf3 rfl rfl) ?_
              refine d_load1 (i := 1) (v := .int .i64 (val (gAt a0 a1)).Moment) Tryd.isAgg3 rfl rfl rfl rfl ?_
              have h_t49 := bnd_val H39
              have H40 := bnd_rest H39
              refine d_val rfl rfl (r_subG rfl rfl h_t49) ?_
              have h_t50 := bnd_val H40
              have H41 := bnd_rest H40
              refine d_call (k71 h_t50) Tryd.call71 rfl rfl ?_
              refine d_new rfl rfl (run_alloc (cs := [.int .i64 0, .int .i64 0]) Tryd.zeroValue29 rfl) rfl (fun b5 => ?_)
              refine d_store (i := 3) (vs := [.int .i64 (val (where_between (val (gAt a0 a1)).Place (val (gAt a0 a2)).Place (val (gI ((val (gAt a0 x14_2)).Moment - (val (gAt a0 a1)).Moment))) (val (gI ((val (gAt a0 a2)).Moment - (val (gAt a0 a1)).Moment))))).Lat, .int .i64 (val (where_between (val (gAt a0 a1)).Place (val (gAt a0 a2)).Place (val (gI ((val (gAt a0 x14_2)).Moment - (val (gAt a0 a1)).Moment))) (val (gI ((val (gAt a0 a2)).Moment - (val (gAt a0 a1)).Moment))))).Lon]) (cs' := [.int .i64 (val (where_between (val (gAt a0 a1)).Place (val (gAt a0 a2)).Place (val (gI ((val (gAt a0 x14_2)).Moment - (val (gAt a0 a1)).Moment))) (val (gI ((val (gAt a0 a2)).Moment - (val (gAt a0 a1)).Moment))))).Lat, .int .i64 (val (where_between (val (gAt a0 a1)).Place (val (gAt a0 a2)).Place (val (gI ((val (gAt a0 x14_2)).Moment - (val (gAt a0 a1)).Moment))) (val (gI ((val (gAt a0 a2)).Moment - (val (gAt a0 a1)).Moment))))).Lon]) Tryd.sizeOf29 rfl rfl rfl rfl rfl rfl rfl rfl rfl ?_
              refine d_nil ?_
              refine c_seq ?_
              exact c_regionD (Kd.p :: Kd.p :: Kd.p :: Kd.p :: Kd.d [] _ :: Kd.d [3] _ :: Kd.d [] _ :: Kd.p :: []) 0 mixed (by
                refine d_val rfl rfl (r_move (v := v0) rfl) ?_
                refine d_val rfl rfl (r_move (v := .int .i64 x14_2) rfl) ?_
                have h_t53 := bnd_val H41
                have H42 := bnd_rest H41
                refine d_val rfl rfl (r_indexF Tryd.underlying22 Tryd.sizeOf33 rfl rfl f0 h_t53) ?_
                refine d_val rfl rfl (r_fieldP Tryd.runUnderlying33 rfl Tryd.sizeOf29 rfl rfl (some_of_at f0 h_t53)) ?_
                refine d_read (fun w hF => run_loadGN (f := e_where_Fix) (i := x14_2) (sz := 3) (j := 1) (vs := [.int .i64 (val (gAt a0 x14_2)).Place.Lat, .int .i64 (val (gAt a0 x14_2)).Place.Lon]) Tryd.isAgg29 Tryd.sizeOf29 rfl rfl (f0.row (hw.now hF)) h_t53 rfl) rfl rfl ?_
                refine d_loadN (i := 3) (vs := [.int .i64 (val (where_between (val (gAt a0 a1)).Place (val (gAt a0 a2)).Place (val (gI ((val (gAt a0 x14_2)).Moment - (val (gAt a0 a1)).Moment))) (val (gI ((val (gAt a0 a2)).Moment - (val (gAt a0 a1)).Moment))))).Lat, .int .i64 (val (where_between (val (gAt a0 a1)).Place (val (gAt a0 a2)).Place (val (gI ((val (gAt a0 x14_2)).Moment - (val (gAt a0 a1)).Moment))) (val (gI ((val (gAt a0 a2)).Moment - (val (gAt a0 a1)).Moment))))).Lon]) Tryd.isAgg29 Tryd.sizeOf29 rfl rfl rfl rfl ?_
                have h_t57 := bnd_val H42
                have H43 := bnd_rest H42
                refine d_call (k43 h_t57) Tryd.call43 rfl rfl ?_
                refine d_val rfl rfl (r_assign (v := .int .i64 (val (where_distance (val (gAt a0 x14_2)).Place (val (where_between (val (gAt a0 a1)).Place (val (gAt a0 a2)).Place (val (gI ((val (gAt a0 x14_2)).Moment - (val (gAt a0 a1)).Moment))) (val (gI ((val (gAt a0 a2)).Moment - (val (gAt a0 a1)).Moment)))))))) rfl) ?_
                refine d_nil ?_
                refine c_seq ?_
                refine c_region ?_
                refine l_val rfl rfl rfl (r_move (v := .int .i64 (val (where_distance (val (gAt a0 x14_2)).Place (val (where_between (val (gAt a0 a1)).Place (val (gAt a0 a2)).Place (val (gI ((val (gAt a0 x14_2)).Moment - (val (gAt a0 a1)).Moment))) (val (gI ((val (gAt a0 a2)).Moment - (val (gAt a0 a1)).Moment)))))))) rfl) ?_
                refine l_val rfl rfl rfl (r_move (v := .int .i64 x11_2) rfl) ?_
                refine l_val rfl rfl rfl (r_gtr rfl rfl) ?_
                refine l_nil ?_
                refine c_if (b := (decide (x11_2 < (val (where_distance (val (gAt a0 x14_2)).Place (val (where_between (val (gAt a0 a1)).Place (val (gAt a0 a2)).Place (val (gI ((val (gAt a0 x14_2)).Moment - (val (gAt a0 a1)).Moment))) (val (gI ((val (gAt a0 a2)).Moment - (val (gAt a0 a1)).Moment)))))))))) rfl (fun hb => ?_) (fun hb => ?_)
                · have H44 := cnd_t hb H43; clear H43
                  refine c_region ?_
                  refine l_val rfl rfl rfl (r_move (v := .int .i64 x14_2) rfl) ?_
                  refine l_val rfl rfl rfl (r_move (v := .int .i64 (val (where_distance (val (gAt a0 x14_2)).Place (val (where_between (val (gAt a0 a1)).Place (val (gAt a0 a2)).Place (val (gI ((val (gAt a0 x14_2)).Moment - (val (gAt a0 a1)).Moment))) (val (gI ((val (gAt a0 a2)).Moment - (val (gAt a0 a1)).Moment)))))))) rfl) ?_
                  refine l_val rfl rfl rfl (r_assign (v := .int .i64 x14_2) rfl) ?_
                  refine l_val rfl rfl rfl (r_assign (v := .int .i64 (val (where_distance (val (gAt a0 x14_2)).Place (val (where_between (val (gAt a0 a1)).Place (val (gAt a0 a2)).Place (val (gI ((val (gAt a0 x14_2)).Moment - (val (gAt a0 a1)).Moment))) (val (gI ((val (gAt a0 a2)).Moment - (val (gAt a0 a1)).Moment)))))))) rfl) ?_
                  refine l_nil ?_
                  refine c_close (x14_2, (val (where_distance (val (gAt a0 x14_2)).Place (val (where_between (val (gAt a0 a1)).Place (val (gAt a0 a2)).Place (val (gI ((val (gAt a0 x14_2)).Moment - (val (gAt a0 a1)).Moment))) (val (gI ((val (gAt a0 a2)).Moment - (val (gAt a0 a1)).Moment)))))))) () 0 [0, 1, 2] (by exact ⟨rfl, rfl, rfl, rfl, rfl, rfl, rfl, rfl, rfl, rfl, trivial⟩) (by decide) rfl (by exact ⟨H44, trivial⟩) (Nat.lt_succ_self _)
                · have H45 := cnd_f hb H43; clear H43
                  refine c_skip ?_
                  refine c_close (x10_3, x11_2) () 0 [0, 1, 2] (by exact ⟨rfl, rfl, rfl, rfl, rfl, rfl, rfl, rfl, rfl, rfl, trivial⟩) (by decide) rfl (by exact ⟨H45, trivial⟩) (Nat.lt_succ_self _)
                ) (by kernel_rfl)
              ) (by kernel_rfl)
          · rintro ⟨x10_4, x11_3⟩ _ gg H36 _
            replace H36 : where_simplify_j3 x14_2 next2 x10_4 x11_3 = some r := H36
            refine c_tidyF [(0, v0), (1, .int .i64 a1), (2, .int .i64 a2), (3, .int .i64 a3), (4, .slice p4.1 n4 p4.2), (10, .int .i64 x10_4), (11, .int .i64 x11_3), (12, .pointer (some ⟨b3, 0, none⟩)), (13, .pointer (some ⟨b4, 0, none⟩)), (14, .int .i64 x14_2)] [rowV 4 1 (.slice p4.1 n4 p4.2) n4 (a4.map e_bool), cellsC b3 [.int .i64 (val (gAt a0 a1)).Moment, .int .i64 (val (gAt a0 a1)).Place.Lat, .int .i64 (val (gAt a0 a1)).Place.Lon] 33, cellsC b4 [.int .i64 (val (gAt a0 a2)).Moment, .int .i64 (val (gAt a0 a2)).Place.Lat, .int .i64 (val (gAt a0 a2)).Place.Lon] 33] rfl rfl ?_
            refine c_region ?_
            refine l_val rfl rfl rfl (r_move (v := .int .i64 x14_2) rfl) ?_
            obtain ⟨t32, h_t32, H37⟩ := bnd_some H36; clear H36
            refine l_val rfl rfl rfl (r_addG rfl rfl h_t32) ?_
            refine l_val rfl rfl rfl (r_assign (v := .int .i64 t32) rfl) ?_
            refine l_nil ?_
            refine c_close (x10_4, x11_3, t32) () m2 [0, 1, 2] (by exact ⟨rfl, rfl, rfl, rfl, rfl, rfl, rfl, rfl, rfl, rfl, trivial⟩) (by decide) rfl (by exact ⟨(by subst hn2; exact H37), trivial⟩) (Nat.lt_succ_self _)
        · have H46 := cnd_f hb H34; clear H34
          refine c_exit ?_
          refine c_close x10_3 () 0 [0] (by exact ⟨rfl, rfl, rfl, rfl, rfl, rfl, trivial⟩) (by decide) rfl (by exact ⟨H46, trivial⟩) (Nat.lt_succ_self _)
      · rintro x10 _ gg H26 _
        replace H26 : where_simplify_j1 a0 a1 a2 a3 a4 self x10 = some r := H26
        refine c_tidyF [(0, v0), (1, .int .i64 a1), (2, .int .i64 a2), (3, .int .i64 a3), (4, .slice p4.1 n4 p4.2), (10, .int .i64 x10)] [rowV 4 1 (.slice p4.1 n4 p4.2) n4 (a4.map e_bool)] rfl rfl ?_
        refine c_seq ?_
        refine c_seq ?_
        refine c_region ?_
        refine l_val rfl rfl rfl (r_move (v := .int .i64 x10) rfl) ?_
        refine l_val rfl rfl rfl (r_lss rfl rfl) ?_
        refine l_nil ?_
        refine c_if (b := (decide (x10 < 0))) rfl (fun hb => ?_) (fun hb => ?_)
        · have H27 := cnd_t hb H26; clear H26
          refine c_ret ?_
          obtain rfl := Option.some.inj H27
          refine ret0 rfl (finX () (i := 0) rfl rfl (Imp.refl _))
        · have H28 := cnd_f hb H26; clear H26
          refine c_skip ?_
          refine c_seq ?_
          refine c_region ?_
          refine l_val rfl rfl rfl (r_move (v := .slice p4.1 n4 p4.2) rfl) ?_
          refine l_val rfl rfl rfl (r_move (v := .int .i64 x10) rfl) ?_
          obtain ⟨t67, h_t67, H29⟩ := bnd_some H28; clear H28
          refine l_read (fun w hF hS => run_indexO Tryd.underlying94 Tryd.sizeOf4 rfl rfl (rowOf (i := 0) hS rfl) hn4 h_t67) rfl rfl rfl ?_
          obtain ⟨l0, h_l0, H30⟩ := bnd_some H29; clear H29
          refine l_storeG (q := 0) (j := 0) (i := x10) (sz := 1) (hm := hn4) (f := e_bool) (vs := [.bool true]) Tryd.sizeOf4 rfl rfl rfl rfl rfl rfl rfl rfl rfl (fun y_ hy_ => by first | rfl | (cases hy_.symm.trans h_t67; rfl)) h_l0 ?_
          refine l_nil ?_
          refine c_seq ?_
          refine c_region ?_
          refine l_val rfl rfl rfl (r_move (v := v0) rfl) ?_
          refine l_val rfl rfl rfl (r_move (v := .int .i64 a1) rfl) ?_
          refine l_val rfl rfl rfl (r_move (v := .int .i64 x10) rfl) ?_
          refine l_val rfl rfl rfl (r_move (v := .int .i64 a3) rfl) ?_
          refine l_val rfl rfl rfl (r_move (v := .slice p4.1 n4 p4.2) rfl) ?_
          obtain ⟨t73, h_t73, H31⟩ := bnd_some H30; clear H30
          refine l_turn (turns_callB (i := 0) (rds := []) (G := fun x : Unit => .tuple #[]) (C := fun x : Unit => rowV 4 1 (.slice p4.1 n4 p4.2) n4 (t73.map e_bool)) rfl (fun w L' S hF hS hi hp hlt ho hA => ih hp hlt (know_but w S) (f0.mono (hw.but hF ho)) (gSet_n hn4 h_l0) h_t73) Tryd.call52 rfl) rfl rfl rfl (fun _ => ?_)
          refine c_know (fun w hF hS => lenOf (i := 0) hS rfl) (fun hl_ => ?_)
          have hl : n4 = t73.length := by simpa using hl_.symm
          refine l_nil ?_
          refine c_region ?_
          refine l_val rfl rfl rfl (r_move (v := v0) rfl) ?_
          refine l_val rfl rfl rfl (r_move (v := .int .i64 x10) rfl) ?_
          refine l_val rfl rfl rfl (r_move (v := .int .i64 a2) rfl) ?_
          refine l_val rfl rfl rfl (r_move (v := .int .i64 a3) rfl) ?_
          refine l_val rfl rfl rfl (r_move (v := .slice p4.1 n4 p4.2) rfl) ?_
          obtain ⟨t79, h_t79, H32⟩ := bnd_some H31; clear H31
          refine l_turn (turns_callB (i := 0) (rds := []) (G := fun x : Unit => .tuple #[]) (C := fun x : Unit => rowV 4 1 (.slice p4.1 n4 p4.2) n4 (t79.map e_bool)) rfl (fun w L' S hF hS hi hp hlt ho hA => ih hp hlt (know_but w S) (f0.mono (hw.but hF ho)) hl h_t79) Tryd.call52 rfl) rfl rfl rfl (fun _ => ?_)
          refine c_know (fun w hF hS => lenOf (i := 0) hS rfl) (fun hl_2_ => ?_)
          have hl_2 : n4 = t79.length := by simpa using hl_2_.symm
          refine l_nil ?_
          obtain rfl := Option.some.inj H32
          refine ret0n rfl (finX () (i := 0) rfl rfl (Imp.refl _))
      ) (by kernel_rfl)
theorem k52 {a0 : (List T_where_Fix)} {v0 : Value} {a1 : Int} {a2 : Int} {a3 : Int} {a4 : (List Bool)} {p4 : Option Addr × Nat} {n4 : Nat} {r : (List Bool)} {w : World} {h : Heap} {S : Nat → Prop} (hcs : (rowV 4 1 (.slice p4.1 n4 p4.2) n4 (a4.map e_bool)).P S w) (hlt : ∀ b, S b → b < w.heap.size) (hw : Know h w S) (f0 : FrS h 3 v0 (a0.map e_where_Fix)) (hn4 : n4 = a4.length) (H : where_simplify a0 a1 a2 a3 a4 = some r) : Does Tryd.prog 52 (List.toArray [v0, .int .i64 a1, .int .i64 a2, .int .i64 a3, .slice p4.1 n4 p4.2]) w (fun v w' => ∃ x : Unit, v = (.tuple #[]) ∧ Turn w w' S (rowV 4 1 (.slice p4.1 n4 p4.2) n4 (r.map e_bool))) := by
  obtain ⟨mm, hm⟩ := fix_it (show fix (fun (self : ((List T_where_Fix) × Int × Int × Int × (List Bool)) → Option ((List Bool))) (s : (List T_where_Fix) × Int × Int × Int × (List Bool)) => where_simplify_body self s.1 s.2.1 s.2.2.1 s.2.2.2.1 s.2.2.2.2) (a0, a1, a2, a3, a4) = some r from H)
  exact k52_it mm hcs hlt hw f0 hn4 hm
theorem k53 {a : Option Addr} {n c : Nat} (hc : n ≤ c) : Ret Tryd.prog 53 [.slice a n c] (.slice (cutA a 0 n 3) n n) := by
  refine enterRet (n := 9) Tryd.func53 rfl rfl rfl (fun wd => ?_)
  refine c_seq ?_
  refine c_region ?_
  refine l_val rfl rfl rfl (r_assign (v := .slice none 0 0) rfl) ?_
  refine l_nil ?_
  refine c_seq ?_
  refine c_region ?_
  refine l_val rfl rfl rfl (r_move (v := .slice a n c) rfl) ?_
  refine l_val rfl rfl rfl (r_move (v := .slice a n c) rfl) ?_
  refine l_val rfl rfl rfl (r_len Tryd.underlying22 rfl) ?_
  refine l_val rfl rfl rfl (r_move (v := .slice a n c) rfl) ?_
  refine l_val rfl rfl rfl (r_len Tryd.underlying22 rfl) ?_
  refine l_val rfl rfl rfl (r_sliceHM (a := a) (m := n) (c := c) (h := (n : Int)) (q := (n : Int)) Tryd.underlying22 Tryd.sizeOf33 rfl rfl rfl (Int.natCast_nonneg n) (Int.le_refl _) (Int.ofNat_le.2 hc)) ?_
  refine l_val rfl rfl rfl (r_assign (v := .slice (cutA a 0 n 3) n n) rfl) ?_
  refine l_nil ?_
  refine c_ret ?_
  exact ret1 (v := .slice (cutA a 0 n 3) n n) rfl rfl (fin rfl)

theorem k12 {a0 : (List T_where_Fix)} {v0 : Value} {a1 : Int} {r : (List T_where_Fix) × Int} {w : World} {h : Heap} (hw : Know h w noS) (f0 : FrS h 3 v0 (a0.map e_where_Fix)) (H : where_Simple a0 a1 = some r) : Does Tryd.prog 12 (List.toArray [v0, .int .i64 a1]) w (fun v w' => ∃ x : (Option Addr × Nat), v = (.tuple #[.slice x.1 r.1.length x.2, .int .i64 r.2]) ∧ Turn w w' noS (roV 3 (.slice x.1 r.1.length x.2) r.1.length (r.1.map e_where_Fix))) := by
  refine enter (n := 55) Tryd.func12 rfl rfl rfl noS [] (Sat.nil _ _) ?_
  refine c_seq ?_
  refine c_region ?_
  refine l_val rfl rfl rfl (r_assign (v := .slice none 0 0) rfl) ?_
  refine l_val rfl rfl rfl (r_assign (v := .int .i64 0) rfl) ?_
  refine l_nil ?_
  refine c_seq ?_
  refine c_seq ?_
  refine c_region ?_
  refine l_val rfl rfl rfl (r_move (v := v0) rfl) ?_
  obtain ⟨t13, h_t13, H55⟩ := bnd_some H; clear H
  refine l_callG (fun w hF hS => k50 (know_all w) (f0.mono (hw.now hF)) h_t13) Tryd.call50 rfl rfl rfl ?_
  refine l_val rfl rfl rfl (r_assign (v := .int .i64 t13) rfl) ?_
  refine l_nil ?_
  refine c_seq ?_
  refine c_region ?_
  refine l_val rfl rfl rfl (r_move (v := .int .i64 t13) rfl) ?_
  refine l_val rfl rfl rfl (r_neq rfl rfl) ?_
  refine l_nil ?_
  refine c_if (b := (decide (t13 ≠ 0))) rfl (fun hb => ?_) (fun hb => ?_)
  · have H56 := cnd_t hb H55; clear H55
    refine c_seq ?_
    refine c_region ?_
    refine l_val rfl rfl rfl (r_move (v := .int .i64 t13) rfl) ?_
    refine l_val rfl rfl rfl (r_assign (v := .slice none 0 0) rfl) ?_
    refine l_val rfl rfl rfl (r_assign (v := .int .i64 t13) rfl) ?_
    refine l_nil ?_
    refine c_ret ?_
    refine c_nilRow 33 3 ?_
    obtain rfl := Option.some.inj H56
    refine c_imp 0 rfl (row_ro _ _ _ _ _) ?_
    refine ret2 (v1 := .slice ((none, 0) : Option Addr × Nat).1 ([] : List T_where_Fix).length ((none, 0) : Option Addr × Nat).2) (v2 := .int .i64 t13) rfl rfl rfl (finX ((none, 0) : Option Addr × Nat) (i := 0) rfl rfl (Imp.refl _))
  · have H57 := cnd_f hb H55; clear H55
    refine c_skip ?_
    refine c_seq ?_
    refine c_seq ?_
    refine c_region ?_
    refine l_val rfl rfl rfl (r_move (v := .int .i64 a1) rfl) ?_
    obtain ⟨t18, h_t18, H58⟩ := bnd_some H57; clear H57
    refine l_call (k51 h_t18) Tryd.call51 rfl rfl rfl ?_
    refine l_nil ?_
    refine c_if (b := t18) rfl (fun hb => ?_) (fun hb => ?_)
    · have H59 := cnd_t hb H58; clear H58
      refine c_seq ?_
      refine c_region ?_
      refine l_val rfl rfl rfl (r_assign (v := .slice none 0 0) rfl) ?_
      refine l_val rfl rfl rfl (r_assign (v := .int .i64 2) rfl) ?_
      refine l_nil ?_
      refine c_ret ?_
      refine c_nilRow 33 3 ?_
      obtain rfl := Option.some.inj H59
      refine c_imp 0 rfl (row_ro _ _ _ _ _) ?_
      refine ret2 (v1 := .slice ((none, 0) : Option Addr × Nat).1 ([] : List T_where_Fix).length ((none, 0) : Option Addr × Nat).2) (v2 := .int .i64 2) rfl rfl rfl (finX ((none, 0) : Option Addr × Nat) (i := 0) rfl rfl (Imp.refl _))
    · have H60 := cnd_f hb H58; clear H58
      refine c_skip ?_
      refine c_seq ?_
      refine c_region ?_
      refine l_val rfl rfl rfl (r_move (v := v0) rfl) ?_
      refine l_val rfl rfl rfl (r_lenF Tryd.underlying22 rfl f0 rfl) ?_
      obtain ⟨t21, h_t21, H61⟩ := bnd_some H60; clear H60
      refine l_make (rds := []) (makes_makeG (E := 4) (sz := 1) (f := e_bool) (xs := t21) Tryd.underlying94 (info_of Tryd.typeInfo4) rfl rfl rfl rfl rfl rfl ⟨rfl, rfl⟩ h_t21) rfl rfl rfl (fun p => ?_)
      refine l_val rfl rfl rfl (r_assign (v := .slice p.1 t21.length p.2) rfl) ?_
      refine l_nil ?_
      refine c_meet (r := r) (σ := (List Bool)) (τ := Unit) (fun s => where_Simple_j1 a0 s) (fun s t => [(0, v0), (7, .slice p.1 t21.length p.2)]) (fun s t => [rowV 4 1 (.slice p.1 t21.length p.2) t21.length (s.map e_bool)]) (fun s t => t21.length = s.length) ?_ ?_
      · refine c_seq ?_
        refine c_region ?_
        refine l_val rfl rfl rfl (r_move (v := v0) rfl) ?_
        refine l_val rfl rfl rfl (r_lenF Tryd.underlying22 rfl f0 rfl) ?_
        obtain ⟨t24, h_t24, H74⟩ := bnd_some H61; clear H61
        refine l_val rfl rfl rfl (r_subG rfl rfl h_t24) ?_
        refine l_val rfl rfl rfl (r_assign (v := .int .i64 t24) rfl) ?_
        refine l_nil ?_
        refine c_seq ?_
        refine c_region ?_
        refine l_val rfl rfl rfl (r_move (v := .int .i64 t24) rfl) ?_
        refine l_val rfl rfl rfl (r_geq rfl rfl) ?_
        refine l_nil ?_
        refine c_if (b := (decide (0 ≤ t24))) rfl (fun hb => ?_) (fun hb => ?_)
        · have H75 := cnd_t hb H74; clear H74
          refine c_seq ?_
          refine c_region ?_
          refine l_val rfl rfl rfl (r_move (v := .slice p.1 t21.length p.2) rfl) ?_
          refine l_val rfl rfl rfl (r_move (v := .slice p.1 t21.length p.2) rfl) ?_
          refine l_val rfl rfl rfl (r_move (v := .int .i64 t24) rfl) ?_
          obtain ⟨t30, h_t30, H76⟩ := bnd_some H75; clear H75
          refine l_read (fun w hF hS => run_indexO Tryd.underlying94 Tryd.sizeOf4 rfl rfl (rowOf (i := 0) hS rfl) rfl h_t30) rfl rfl rfl ?_
          obtain ⟨l0, h_l0, H77⟩ := bnd_some H76; clear H76
          refine l_storeG (q := 0) (j := 0) (i := 0) (sz := 1) (hm := rfl) (f := e_bool) (vs := [.bool true]) Tryd.sizeOf4 rfl rfl rfl rfl rfl rfl rfl rfl rfl (fun y_ hy_ => by first | rfl | (cases hy_.symm.trans h_t30; rfl)) h_l0 ?_
          obtain ⟨t31, h_t31, H78⟩ := bnd_some H77; clear H77
          refine l_read (fun w hF hS => run_indexO Tryd.underlying94 Tryd.sizeOf4 rfl rfl (rowOf (i := 0) hS rfl) (gSet_n rfl h_l0) h_t31) rfl rfl rfl ?_
          obtain ⟨l0_2, h_l0_2, H79⟩ := bnd_some H78; clear H78
          refine l_storeG (q := 0) (j := 0) (i := t24) (sz := 1) (hm := (gSet_n rfl h_l0)) (f := e_bool) (vs := [.bool true]) Tryd.sizeOf4 rfl rfl rfl rfl rfl rfl rfl rfl rfl (fun y_ hy_ => by first | rfl | (cases hy_.symm.trans h_t31; rfl)) h_l0_2 ?_
          refine l_nil ?_
          refine c_region ?_
          refine l_val rfl rfl rfl (r_move (v := v0) rfl) ?_
          refine l_val rfl rfl rfl (r_move (v := .int .i64 t24) rfl) ?_
          refine l_val rfl rfl rfl (r_move (v := .int .i64 a1) rfl) ?_
          refine l_val rfl rfl rfl (r_move (v := .slice p.1 t21.length p.2) rfl) ?_
          obtain ⟨t36, h_t36, H80⟩ := bnd_some H79; clear H79
          refine l_turn (turns_callB (i := 0) (rds := []) (G := fun x : Unit => .tuple #[]) (C := fun x : Unit => rowV 4 1 (.slice p.1 t21.length p.2) t21.length (t36.map e_bool)) rfl (fun w L' S hF hS hi hp hlt ho hA => k52 hp hlt (know_but w S) (f0.mono (hw.but hF ho)) (gSet_n (gSet_n rfl h_l0) h_l0_2) h_t36) Tryd.call52 rfl) rfl rfl rfl (fun _ => ?_)
          refine c_know (fun w hF hS => lenOf (i := 0) hS rfl) (fun hl_2_ => ?_)
          have hl_2 : t21.length = t36.length := by simpa using hl_2_.symm
          refine l_nil ?_
          refine c_close t36 () 0 [0] (by exact ⟨rfl, rfl, trivial⟩) (by decide) rfl (by exact ⟨H80, hl_2⟩) (Nat.lt_succ_self _)
        · have H81 := cnd_f hb H74; clear H74
          refine c_skip ?_
          refine c_close t21 () 0 [0] (by exact ⟨rfl, rfl, trivial⟩) (by decide) rfl (by exact ⟨H81, rfl⟩) (Nat.lt_succ_self _)
      · rintro l _ gg H62 hl
        replace H62 : where_Simple_j1 a0 l = some r := H62
        refine c_tidyF [(0, v0), (7, .slice p.1 t21.length p.2)] [rowV 4 1 (.slice p.1 t21.length p.2) t21.length (l.map e_bool)] rfl rfl ?_
        refine c_seq ?_
        refine c_region ?_
        refine l_val rfl rfl rfl (r_assign (v := .slice none 0 0) rfl) ?_
        refine l_nil ?_
        refine c_meet (r := r) (σ := (List T_where_Fix)) (τ := (Option Addr × Nat)) (fun s => where_Simple_j2 s) (fun s t => [(9, .slice t.1 s.length t.2)]) (fun s t => [rowV 33 3 (.slice t.1 s.length t.2) s.length (s.map e_where_Fix)]) (fun s t => True) ?_ ?_
        · refine c_seq ?_
          refine c_region ?_
          refine l_val rfl rfl rfl (r_move (v := v0) rfl) ?_
          refine l_val rfl rfl rfl (r_lenF Tryd.underlying22 rfl f0 rfl) ?_
          refine l_val rfl rfl rfl (r_move (v := .int .i64 0) rfl) ?_
          refine l_nil ?_
          refine c_block ?_
          refine c_nilRow 33 3 ?_
          refine c_fix (σ := Int × (List T_where_Fix)) (τ := (Option Addr × Nat)) (fun next3 s => where_Simple_l3 a0 l next3 s.1 s.2) (fun s t => [(7, .slice p.1 t21.length p.2), (9, .slice t.1 s.2.length t.2), (37, v0), (38, .int .i64 (a0.length : Int)), (39, .int .i64 s.1)]) (fun s t => [rowV 4 1 (.slice p.1 t21.length p.2) t21.length (l.map e_bool), rowV 33 3 (.slice t.1 s.2.length t.2) s.2.length (s.2.map e_where_Fix)]) (fun s t => True) (0, ([] : List T_where_Fix)) ((none, 0) : Option Addr × Nat) [0, 1] H62 (by exact trivial) (by exact ⟨rfl, rfl, rfl, rfl, rfl, trivial⟩) (by decide) rfl ?_
          rintro ⟨x39_2, l_4⟩ p_3 m3 gg H64 _
          clear H62
          replace H64 : where_Simple_l3 a0 l (it (fun next3 s => where_Simple_l3 a0 l next3 s.1 s.2) m3) x39_2 l_4 = some r := H64
          generalize hn3 : it (fun next3 s => where_Simple_l3 a0 l next3 s.1 s.2) m3 = next3 at H64
          refine c_tidyF [(7, .slice p.1 t21.length p.2), (9, .slice p_3.1 l_4.length p_3.2), (37, v0), (38, .int .i64 (a0.length : Int)), (39, .int .i64 x39_2)] [rowV 4 1 (.slice p.1 t21.length p.2) t21.length (l.map e_bool), rowV 33 3 (.slice p_3.1 l_4.length p_3.2) l_4.length (l_4.map e_where_Fix)] rfl rfl ?_
          refine c_seq ?_
          refine c_region ?_
          refine l_val rfl rfl rfl (r_lss rfl rfl) ?_
          refine l_nil ?_
          refine c_seq ?_
          refine c_if (b := (decide (x39_2 < (a0.length : Int)))) rfl (fun hb => ?_) (fun hb => ?_)
          · have H65 := cnd_t hb H64; clear H64
            refine c_skip ?_
            refine c_meet (r := r) (σ := (List T_where_Fix)) (τ := (Option Addr × Nat)) (fun s => where_Simple_j4 x39_2 next3 s) (fun s t => [(7, .slice p.1 t21.length p.2), (9, .slice t.1 s.length t.2), (37, v0), (38, .int .i64 (a0.length : Int)), (39, .int .i64 x39_2)]) (fun s t => [rowV 4 1 (.slice p.1 t21.length p.2) t21.length (l.map e_bool), rowV 33 3 (.slice t.1 s.length t.2) s.length (s.map e_where_Fix)]) (fun s t => True) ?_ ?_
            · refine c_block ?_
              refine c_seq ?_
              refine c_region ?_
              refine l_val rfl rfl rfl (r_move (v := .int .i64 x39_2) rfl) ?_
              obtain ⟨t42, h_t42, H68⟩ := bnd_some H65; clear H65
              refine l_val rfl rfl rfl (r_indexF Tryd.underlying22 Tryd.sizeOf33 rfl rfl f0 h_t42) ?_
              refine l_read (fun w hF hS => run_loadGN (f := e_where_Fix) (i := x39_2) (sz := 3) (j := 0) (vs := [.int .i64 t42.Moment, .int .i64 t42.Place.Lat, .int .i64 t42.Place.Lon]) Tryd.isAgg33 Tryd.sizeOf33 rfl rfl (f0.row (hw.now hF)) h_t42 rfl) rfl rfl rfl ?_
              refine l_alloc (cs := [.int .i64 0, .int .i64 0, .int .i64 0]) Tryd.zeroValue33 rfl rfl rfl (fun b4 => ?_)
              refine l_val rfl rfl rfl (r_assign (v := .int .i64 x39_2) rfl) ?_
              refine l_store (i := 2) (vs := [.int .i64 t42.Moment, .int .i64 t42.Place.Lat, .int .i64 t42.Place.Lon]) (cs' := [.int .i64 t42.Moment, .int .i64 t42.Place.Lat, .int .i64 t42.Place.Lon]) Tryd.sizeOf33 rfl rfl rfl rfl rfl rfl rfl rfl rfl ?_
              refine l_nil ?_
              refine c_seq ?_
              refine c_region ?_
              refine l_val rfl rfl rfl (r_move (v := .slice p.1 t21.length p.2) rfl) ?_
              refine l_val rfl rfl rfl (r_move (v := .int .i64 x39_2) rfl) ?_
              obtain ⟨t46, h_t46, H69⟩ := bnd_some H68; clear H68
              refine l_read (fun w hF hS => run_indexO Tryd.underlying94 Tryd.sizeOf4 rfl rfl (rowOf (i := 0) hS rfl) hl h_t46) rfl rfl rfl ?_
              refine l_read (fun w hF hS => run_loadG1 (f := e_bool) (i := x39_2) (sz := 1) (j := 0) (v := .bool t46) Tryd.isAgg4 rfl rfl (rowOf (i := 0) hS rfl) h_t46 rfl) rfl rfl rfl ?_
              refine l_nil ?_
              refine c_if (b := t46) rfl (fun hb => ?_) (fun hb => ?_)
              · have H70 := cnd_t hb H69; clear H69
                refine c_region ?_
                refine l_val rfl rfl rfl (r_move (v := .slice p_3.1 l_4.length p_3.2) rfl) ?_
                refine l_loadN (i := 2) (vs := [.int .i64 t42.Moment, .int .i64 t42.Place.Lat, .int .i64 t42.Place.Lon]) Tryd.isAgg33 Tryd.sizeOf33 rfl rfl rfl rfl rfl ?_
                refine l_buildSlice (vs := [.agg #[.int .i64 t42.Moment, .int .i64 t42.Place.Lat, .int .i64 t42.Place.Lon]]) (cs := [.int .i64 t42.Moment, .int .i64 t42.Place.Lat, .int .i64 t42.Place.Lon]) Tryd.underlying22 Tryd.sizeOf33 Tryd.zeroValue33 rfl rfl rfl rfl rfl rfl rfl (fun b5 => ?_)
                obtain ⟨l51, h_l51, H71⟩ := bnd_some H70; clear H70
                refine l_turn (turns_appG (i := 1) (hn := rfl) (rds := [3]) (p := p_3) (sz := 3) (by_ := 24) (f := e_where_Fix) (ys := l_4) (ls := ([t42] : List T_where_Fix)) (V := .slice (some ⟨b5, 0, none⟩) 1 1) Tryd.underlying22 (info_of Tryd.typeInfo33) rfl rfl rfl rfl rfl rfl rfl rfl rfl rfl (fun w L' hF hS hi => row_box (i := 3) hS ((hi 3 (by simp)).trans rfl) rfl rfl) (fun _ => rfl) (fun _ => rfl) h_l51) rfl rfl rfl (fun p_5 => ?_)
                refine l_val rfl rfl rfl (r_assign (v := .slice p_5.1 l51.length p_5.2) rfl) ?_
                refine l_nil ?_
                refine c_close l51 p_5 0 [0, 1] (by exact ⟨rfl, rfl, rfl, rfl, rfl, trivial⟩) (by decide) rfl (by exact ⟨H71, trivial⟩) (Nat.lt_succ_self _)
              · have H72 := cnd_f hb H69; clear H69
                refine c_skip ?_
                refine c_close l_4 p_3 0 [0, 1] (by exact ⟨rfl, rfl, rfl, rfl, rfl, trivial⟩) (by decide) rfl (by exact ⟨H72, trivial⟩) (Nat.lt_succ_self _)
            · rintro l_5 p_4 gg H66 _
              replace H66 : where_Simple_j4 x39_2 next3 l_5 = some r := H66
              refine c_tidyF [(7, .slice p.1 t21.length p.2), (9, .slice p_4.1 l_5.length p_4.2), (37, v0), (38, .int .i64 (a0.length : Int)), (39, .int .i64 x39_2)] [rowV 4 1 (.slice p.1 t21.length p.2) t21.length (l.map e_bool), rowV 33 3 (.slice p_4.1 l_5.length p_4.2) l_5.length (l_5.map e_where_Fix)] rfl rfl ?_
              refine c_region ?_
              obtain ⟨t52, h_t52, H67⟩ := bnd_some H66; clear H66
              refine l_val rfl rfl rfl (r_addG rfl rfl h_t52) ?_
              refine l_val rfl rfl rfl (r_move (v := .int .i64 t52) rfl) ?_
              refine l_nil ?_
              refine c_close (t52, l_5) p_4 m3 [0, 1] (by exact ⟨rfl, rfl, rfl, rfl, rfl, trivial⟩) (by decide) rfl (by exact ⟨(by subst hn3; exact H67), trivial⟩) (Nat.lt_succ_self _)
          · have H73 := cnd_f hb H64; clear H64
            refine c_exit ?_
            refine c_close l_4 p_3 0 [1] (by exact ⟨rfl, trivial⟩) (by decide) rfl (by exact ⟨H73, trivial⟩) (Nat.lt_succ_self _)
        · rintro l_2 p_2 gg H63 _
          replace H63 : where_Simple_j2 l_2 = some r := H63
          refine c_tidyF [(9, .slice p_2.1 l_2.length p_2.2)] [rowV 33 3 (.slice p_2.1 l_2.length p_2.2) l_2.length (l_2.map e_where_Fix)] rfl rfl ?_
          refine c_seq ?_
          refine c_region ?_
          refine l_val rfl rfl rfl (r_move (v := .slice p_2.1 l_2.length p_2.2) rfl) ?_
          refine l_callG (fun w hF hS => k53 (capOf (i := 0) hS rfl) w) Tryd.call53 rfl rfl rfl ?_
          refine l_val rfl rfl rfl (r_assign (v := .slice (cutA p_2.1 0 l_2.length 3) l_2.length l_2.length) rfl) ?_
          refine l_val rfl rfl rfl (r_assign (v := .int .i64 0) rfl) ?_
          refine l_nil ?_
          refine c_ret ?_
          obtain rfl := Option.some.inj H63
          refine c_imp 0 rfl (imp_clipO _ _ _ _ _ _) ?_
          refine ret2 (v1 := .slice (cutA p_2.1 0 l_2.length 3) l_2.length l_2.length) (v2 := .int .i64 0) rfl rfl rfl (finX (cutA p_2.1 0 l_2.length 3, l_2.length) (i := 0) rfl rfl (Imp.refl _))
theorem k87 {a0 : Int} {a1 : (Int → Option (Bool))} {v1 : Value} {r : Int} {w : World} {h : Heap} (hw : Know h w noS) (f1 : FnH Tryd.prog h v1 (fnR_func_int_bool a1)) (H : sort_Search a0 a1 = some r) : Does Tryd.prog 87 (List.toArray [.int .i64 a0, v1]) w (fun v w' => v = (.int .i64 r) ∧ Grow w w') := by
  refine enter (n := 26) Tryd.func87 rfl rfl rfl noS [] (Sat.nil _ _) ?_
  refine c_seq ?_
  refine c_region ?_
  refine l_val rfl rfl rfl (r_assign (v := .int .i64 0) rfl) ?_
  refine l_nil ?_
  refine c_seq ?_
  refine c_region ?_
  refine l_val rfl rfl rfl (r_move (v := .int .i64 a0) rfl) ?_
  refine l_val rfl rfl rfl (r_assign (v := .int .i64 0) rfl) ?_
  refine l_val rfl rfl rfl (r_assign (v := .int .i64 a0) rfl) ?_
  refine l_nil ?_
  refine c_seq ?_
  refine c_block ?_
  refine c_fix (σ := Int × Int) (τ := Unit) (fun next1 s => sort_Search_l1 a1 next1 s.1 s.2) (fun s t => [(1, v1), (5, .int .i64 s.1), (6, .int .i64 s.2)]) (fun s t => []) (fun s t => True) (0, a0) () [] H (by exact trivial) (by exact ⟨rfl, rfl, rfl, trivial⟩) (by decide) rfl ?_
  rintro ⟨x5_2, x6_2⟩ _ m1 gg H10 _
  clear H
  replace H10 : sort_Search_l1 a1 (it (fun next1 s => sort_Search_l1 a1 next1 s.1 s.2) m1) x5_2 x6_2 = some r := H10
  generalize hn1 : it (fun next1 s => sort_Search_l1 a1 next1 s.1 s.2) m1 = next1 at H10
  refine c_tidyF [(1, v1), (5, .int .i64 x5_2), (6, .int .i64 x6_2)] [] rfl rfl ?_
  refine c_seq ?_
  refine c_seq ?_
  refine c_region ?_
  refine l_val rfl rfl rfl (r_move (v := .int .i64 x5_2) rfl) ?_
  refine l_val rfl rfl rfl (r_move (v := .int .i64 x6_2) rfl) ?_
  refine l_val rfl rfl rfl (r_lss rfl rfl) ?_
  refine l_nil ?_
  refine c_if (b := (decide (x5_2 < x6_2))) rfl (fun hb => ?_) (fun hb => ?_)
  · have H11 := cnd_t hb H10; clear H10
    refine c_skip ?_
    refine c_block ?_
    refine c_seq ?_
    refine c_region ?_
    refine l_val rfl rfl rfl (r_move (v := .int .i64 x5_2) rfl) ?_
    refine l_val rfl rfl rfl (r_move (v := .int .i64 x6_2) rfl) ?_
    obtain ⟨t14, h_t14, H12⟩ := bnd_some H11; clear H11
    refine l_val rfl rfl rfl (r_addG rfl rfl h_t14) ?_
    refine l_val rfl rfl rfl (r_convG Tryd.runUnderlying3 Tryd.runUnderlying112 rfl (wr_u64 _)) ?_
    obtain ⟨t16, h_t16, H13⟩ := bnd_some H12; clear H12
    refine l_val rfl rfl rfl (r_shrG rfl rfl rfl h_t16) ?_
    refine l_val rfl rfl rfl (r_convG Tryd.runUnderlying112 Tryd.runUnderlying3 rfl (wr_i64 _)) ?_
    refine l_val rfl rfl rfl (r_assign (v := .int .i64 (wI64 t16)) rfl) ?_
    refine l_nil ?_
    refine c_seq ?_
    refine c_region ?_
    refine l_val rfl rfl rfl (r_move (v := v1) rfl) ?_
    refine l_val rfl rfl rfl (r_move (v := .int .i64 (wI64 t16)) rfl) ?_
    obtain ⟨t20, h_t20, H14⟩ := bnd_some H13; clear H13
    refine l_callV (R := fnR_func_int_bool a1) (r := .bool t20) (v := v1) (fun w hF hS => ⟨(f1.mono (hw.now hF)), ⟨(wI64 t16), _, rfl, h_t20, rfl⟩⟩) rfl rfl rfl rfl ?_
    refine l_val rfl rfl rfl (r_not rfl) ?_
    refine l_nil ?_
    refine c_if (b := (!t20)) rfl (fun hb => ?_) (fun hb => ?_)
    · have H15 := cnd_t hb H14; clear H14
      refine c_region ?_
      refine l_val rfl rfl rfl (r_move (v := .int .i64 (wI64 t16)) rfl) ?_
      obtain ⟨t23, h_t23, H16⟩ := bnd_some H15; clear H15
      refine l_val rfl rfl rfl (r_addG rfl rfl h_t23) ?_
      refine l_val rfl rfl rfl (r_assign (v := .int .i64 t23) rfl) ?_
      refine l_nil ?_
      refine c_close (t23, x6_2) () m1 [] (by exact ⟨rfl, rfl, rfl, trivial⟩) (by decide) rfl (by exact ⟨(by subst hn1; exact H16), trivial⟩) (Nat.lt_succ_self _)
    · have H17 := cnd_f hb H14; clear H14
      refine c_region ?_
      refine l_val rfl rfl rfl (r_move (v := .int .i64 (wI64 t16)) rfl) ?_
      refine l_val rfl rfl rfl (r_assign (v := .int .i64 (wI64 t16)) rfl) ?_
      refine l_nil ?_
      refine c_close (x5_2, (wI64 t16)) () m1 [] (by exact ⟨rfl, rfl, rfl, trivial⟩) (by decide) rfl (by exact ⟨(by subst hn1; exact H17), trivial⟩) (Nat.lt_succ_self _)
  · have H18 := cnd_f hb H10; clear H10
    refine c_exit ?_
    refine c_seq ?_
    refine c_region ?_
    refine l_val rfl rfl rfl (r_move (v := .int .i64 x5_2) rfl) ?_
    refine l_val rfl rfl rfl (r_assign (v := .int .i64 x5_2) rfl) ?_
    refine l_nil ?_
    refine c_ret ?_
    obtain rfl := Option.some.inj H18
    refine ret1 (v := .int .i64 x5_2) rfl rfl (fin rfl)
theorem k88 {q0 : (List T_where_Fix)} {vq0 : Value} {c0 : Nat} {q1 : Int} {c1 : Nat} {a0 : Int} {r : Bool} {w : World} {h : Heap} (hw : Know h w noS) (fq0 : FrS h 3 vq0 (q0.map e_where_Fix)) (hc0 : h c0 = some (.cells (List.toArray [vq0]) 22 (0, 0))) (hc1 : h c1 = some (.cells (List.toArray [.int .i64 q1]) 3 (0, 0))) (H : where_at_1 q0 q1 a0 = some r) : Does Tryd.prog 88 (List.toArray [.int .i64 a0, .pointer (some ⟨c0, 0, none⟩), .pointer (some ⟨c1, 0, none⟩)]) w (fun v w' => v = (.bool r) ∧ Grow w w') := by
  refine enter (n := 12) Tryd.func88 rfl rfl rfl noS [] (Sat.nil _ _) ?_
  refine c_seq ?_
  refine c_region ?_
  refine l_val rfl rfl rfl (r_assign (v := .bool false) rfl) ?_
  refine l_nil ?_
  refine c_seq ?_
  exact c_regionD (Kd.d [] _ :: Kd.p :: Kd.p :: Kd.p :: Kd.d [] _ :: Kd.d [] _ :: Kd.p :: Kd.p :: []) 0 mixed (by
    refine d_read (fun w hF => run_loadK1 (v := vq0) Tryd.isAgg22 rfl (hw.now hF _ _ hc0) rfl) rfl rfl ?_
    refine d_val rfl rfl (r_move (v := .int .i64 a0) rfl) ?_
    have h_t7 := bnd_val H
    have H2 := bnd_rest H
    refine d_val rfl rfl (r_indexF Tryd.underlying22 Tryd.sizeOf33 rfl rfl fq0 h_t7) ?_
    refine d_val rfl rfl (r_fieldP Tryd.runUnderlying33 rfl Tryd.sizeOf3 rfl rfl (some_of_at fq0 h_t7)) ?_
    refine d_read (fun w hF => run_loadG1 (f := e_where_Fix) (i := a0) (sz := 3) (j := 0) (v := .int .i64 (val (gAt q0 a0)).Moment) Tryd.isAgg3 rfl rfl (fq0.row (hw.now hF)) h_t7 rfl) rfl rfl ?_
    refine d_read (fun w hF => run_loadK1 (v := .int .i64 q1) Tryd.isAgg3 rfl (hw.now hF _ _ hc1) rfl) rfl rfl ?_
    refine d_val rfl rfl (r_geq rfl rfl) ?_
    refine d_val rfl rfl (r_assign (v := .bool (decide (q1 ≤ (val (gAt q0 a0)).Moment))) rfl) ?_
    refine d_nil ?_
    refine c_ret ?_
    obtain rfl := Option.some.inj H2
    refine ret1 (v := .bool (decide (q1 ≤ (val (gAt q0 a0)).Moment))) rfl rfl (fin rfl)
    ) (by kernel_rfl)
theorem k55 {a0 : (List T_where_Fix)} {v0 : Value} {a1 : Int} {a2 : Int} {r : T_api_Place × Bool} {w : World} {h : Heap} (hw : Know h w noS) (f0 : FrS h 3 v0 (a0.map e_where_Fix)) (H : where_at a0 a1 a2 = some r) : Does Tryd.prog 55 (List.toArray [v0, .int .i64 a1, .int .i64 a2]) w (fun v w' => v = (.tuple #[.agg #[.int .i64 r.1.Lat, .int .i64 r.1.Lon], .bool r.2]) ∧ Grow w w') := by
  refine enter (n := 129) Tryd.func55 rfl rfl rfl noS [] (Sat.nil _ _) ?_
  refine c_seq ?_
  refine c_region ?_
  refine l_box (cs := [v0]) rfl rfl rfl f0.cells (fun b3 => ?_)
  refine l_box (cs := [.int .i64 a1]) rfl rfl rfl rfl (fun b4 => ?_)
  refine l_alloc (cs := [.int .i64 0, .int .i64 0]) Tryd.zeroValue29 rfl rfl rfl (fun b5 => ?_)
  refine l_val rfl rfl rfl (r_assign (v := .bool false) rfl) ?_
  refine l_nil ?_
  refine c_seq ?_
  refine c_region ?_
  refine l_load1 (i := 0) (v := v0) Tryd.isAgg22 rfl rfl rfl rfl rfl ?_
  refine l_val rfl rfl rfl (r_lenF Tryd.underlying22 rfl f0 rfl) ?_
  refine l_val rfl rfl rfl (r_makeFn (caps := #[.pointer (some ⟨b3, 0, none⟩), .pointer (some ⟨b4, 0, none⟩)]) rfl) ?_
  obtain ⟨t14, h_t14, H50⟩ := bnd_some H; clear H
  refine l_callG (fun w hF hS => k87 (know_all w) (FnH.mk ⟨88, #[.pointer (some ⟨b3, 0, none⟩), .pointer (some ⟨b4, 0, none⟩)], rfl, Tryd.call88, fun args2 post2 w2 hk2 hR2 => by obtain ⟨a0_, r_, rfl, H_, rfl⟩ := hR2; exact k88 (know_all w2) ((f0.mono (hw.now hF)).mono hk2.up) (hk2.up _ _ (sat_cell (i := 0) hS rfl)) (hk2.up _ _ (sat_cell (i := 1) hS rfl)) H_⟩) h_t14) Tryd.call87 rfl rfl rfl ?_
  refine l_val rfl rfl rfl (r_assign (v := .int .i64 t14) rfl) ?_
  refine l_nil ?_
  refine c_meet (r := r) (σ := Unit) (τ := Unit) (fun s => where_at_j1 a0 a1 a2 t14) (fun s t => [(2, .int .i64 a2), (3, .pointer (some ⟨b3, 0, none⟩)), (4, .pointer (some ⟨b4, 0, none⟩)), (6, .pointer (some ⟨b5, 0, none⟩)), (8, .int .i64 t14)]) (fun s t => [cellsC b3 [v0] 22, cellsC b4 [.int .i64 a1] 3, cellsC b5 [.int .i64 0, .int .i64 0] 29]) (fun s t => True) ?_ ?_
  · refine c_seq ?_
    exact c_regionD (Kd.p :: Kd.d [0] _ :: Kd.p :: Kd.p :: Kd.p :: Kd.d [0] _ :: Kd.p :: Kd.p :: Kd.p :: Kd.d [] _ :: Kd.d [1] _ :: Kd.p :: Kd.p :: []) 0 mixed (by
      refine d_val rfl rfl (r_move (v := .int .i64 t14) rfl) ?_
      refine d_load1 (i := 0) (v := v0) Tryd.isAgg22 rfl rfl rfl rfl ?_
      refine d_val rfl rfl (r_lenF Tryd.underlying22 rfl f0 rfl) ?_
      refine d_val rfl rfl (r_lss rfl rfl) ?_
      refine d_val rfl rfl (r_move (v := .bool (decide (t14 < (a0.length : Int)))) rfl) ?_
      refine splitS (fun hb => ?_) (fun hb => ?_)
      · have H93 := cnd_t hb H50
        refine d_load1 (i := 0) (v := v0) Tryd.isAgg22 rfl rfl rfl rfl ?_
        refine d_val rfl rfl (r_move (v := .int .i64 t14) rfl) ?_
        have h_t22 := bnd_val H93
        have H94 := bnd_rest H93
        refine d_val rfl rfl (r_indexF Tryd.underlying22 Tryd.sizeOf33 rfl rfl f0 h_t22) ?_
        refine d_val rfl rfl (r_fieldP Tryd.runUnderlying33 rfl Tryd.sizeOf3 rfl rfl (some_of_at f0 h_t22)) ?_
        refine d_read (fun w hF => run_loadG1 (f := e_where_Fix) (i := t14) (sz := 3) (j := 0) (v := .int .i64 (val (gAt a0 t14)).Moment) Tryd.isAgg3 rfl rfl (f0.row (hw.now hF)) h_t22 rfl) rfl rfl ?_
        refine d_load1 (i := 1) (v := .int .i64 a1) Tryd.isAgg3 rfl rfl rfl rfl ?_
        refine d_val rfl rfl (r_eql rfl rfl) ?_
        refine d_val rfl rfl (r_pickT (v := .bool (decide ((val (gAt a0 t14)).Moment = a1))) rfl rfl) ?_
        refine d_nil ?_
        refine c_if (b := (decide ((val (gAt a0 t14)).Moment = a1))) rfl (fun hb => ?_) (fun hb => ?_)
        · have H95 := cnd_t hb H94; clear H94
          refine c_seq ?_
          refine c_region ?_
          refine l_load1 (i := 0) (v := v0) Tryd.isAgg22 rfl rfl rfl rfl rfl ?_
          refine l_val rfl rfl rfl (r_move (v := .int .i64 t14) rfl) ?_
          obtain ⟨t30, h_t30, H96⟩ := bnd_some H95; clear H95
          refine l_val rfl rfl rfl (r_indexF Tryd.underlying22 Tryd.sizeOf33 rfl rfl f0 h_t30) ?_
          refine l_val rfl rfl rfl (r_fieldP Tryd.runUnderlying33 rfl Tryd.sizeOf29 rfl rfl (some_of_at f0 h_t30)) ?_
          refine l_read (fun w hF hS => run_loadGN (f := e_where_Fix) (i := t14) (sz := 3) (j := 1) (vs := [.int .i64 t30.Place.Lat, .int .i64 t30.Place.Lon]) Tryd.isAgg29 Tryd.sizeOf29 rfl rfl (f0.row (hw.now hF)) h_t30 rfl) rfl rfl rfl ?_
          refine l_store (i := 2) (vs := [.int .i64 t30.Place.Lat, .int .i64 t30.Place.Lon]) (cs' := [.int .i64 t30.Place.Lat, .int .i64 t30.Place.Lon]) Tryd.sizeOf29 rfl rfl rfl rfl rfl rfl rfl rfl rfl ?_
          refine l_val rfl rfl rfl (r_assign (v := .bool true) rfl) ?_
          refine l_nil ?_
          refine c_ret ?_
          obtain rfl := Option.some.inj H96
          refine retCt (i := 2) (vs := [.int .i64 t30.Place.Lat, .int .i64 t30.Place.Lon]) (v2 := .bool true) Tryd.isAgg29 Tryd.sizeOf29 rfl rfl rfl rfl rfl (fin rfl)
        · have H97 := cnd_f hb H94; clear H94
          refine c_skip ?_
          refine c_close () () 0 [0, 1, 2] (by exact ⟨rfl, rfl, rfl, rfl, rfl, trivial⟩) (by decide) rfl (by exact ⟨H97, trivial⟩) (Nat.lt_succ_self _)
      · have H98 := cnd_f hb H50
        refine d_pass rfl rfl ?_
        refine d_pass rfl rfl ?_
        refine d_pass rfl rfl ?_
        refine d_pass rfl rfl ?_
        refine d_pass rfl rfl ?_
        refine d_pass rfl rfl ?_
        refine d_pass rfl rfl ?_
        refine d_val rfl rfl (r_pickF (v := .bool false) rfl rfl) ?_
        refine d_nil ?_
        refine c_false rfl ?_
        refine c_skip ?_
        refine c_close () () 0 [0, 1, 2] (by exact ⟨rfl, rfl, rfl, rfl, rfl, trivial⟩) (by decide) rfl (by exact ⟨H98, trivial⟩) (Nat.lt_succ_self _)
      ) (by kernel_rfl)
  · rintro _ _ gg H51 _
    replace H51 : where_at_j1 a0 a1 a2 t14 = some r := H51
    refine c_tidyF [(2, .int .i64 a2), (3, .pointer (some ⟨b3, 0, none⟩)), (4, .pointer (some ⟨b4, 0, none⟩)), (6, .pointer (some ⟨b5, 0, none⟩)), (8, .int .i64 t14)] [cellsC b3 [v0] 22, cellsC b4 [.int .i64 a1] 3, cellsC b5 [.int .i64 0, .int .i64 0] 29] rfl rfl ?_
    refine c_seq ?_
    refine c_region ?_
    refine l_val rfl rfl rfl (r_move (v := .int .i64 a2) rfl) ?_
    refine l_val rfl rfl rfl (r_move (v := .int .i64 a2) rfl) ?_
    refine l_val rfl rfl rfl (r_assign (v := .int .i64 a2) rfl) ?_
    refine l_val rfl rfl rfl (r_assign (v := .int .i64 a2) rfl) ?_
    refine l_nil ?_
    refine c_meet (r := r) (σ := Int × (List T_where_Fix)) (τ := Value) (fun s => where_at_j2 a1 a2 t14 s.1 s.2) (fun s t => [(2, .int .i64 a2), (3, .pointer (some ⟨b3, 0, none⟩)), (4, .pointer (some ⟨b4, 0, none⟩)), (6, .pointer (some ⟨b5, 0, none⟩)), (8, .int .i64 t14), (9, .int .i64 s.1), (10, .int .i64 a2)]) (fun s t => [cellsC b3 [t] 22, cellsC b4 [.int .i64 a1] 3, cellsC b5 [.int .i64 0, .int .i64 0] 29]) (fun s t => FrS h 3 t (s.2.map e_where_Fix)) ?_ ?_
    · refine c_seq ?_
      refine c_region ?_
      refine l_val rfl rfl rfl (r_move (v := .int .i64 t14) rfl) ?_
      refine l_val rfl rfl rfl (r_gtr rfl rfl) ?_
      refine l_nil ?_
      refine c_if (b := (decide (0 < t14))) rfl (fun hb => ?_) (fun hb => ?_)
      · have H88 := cnd_t hb H51; clear H51
        exact c_regionD (Kd.d [1] _ :: Kd.d [0] _ :: Kd.p :: Kd.p :: Kd.p :: Kd.p :: Kd.d [] _ :: Kd.p :: Kd.p :: []) 0 mixed (by
          refine d_load1 (i := 1) (v := .int .i64 a1) Tryd.isAgg3 rfl rfl rfl rfl ?_
          refine d_load1 (i := 0) (v := v0) Tryd.isAgg22 rfl rfl rfl rfl ?_
          refine d_val rfl rfl (r_move (v := .int .i64 t14) rfl) ?_
          have h_t40 := bnd_val H88
          have H89 := bnd_rest H88
          refine d_val rfl rfl (r_subG rfl rfl h_t40) ?_
          have h_t41 := bnd_val H89
          have H90 := bnd_rest H89
          refine d_val rfl rfl (r_indexF Tryd.underlying22 Tryd.sizeOf33 rfl rfl f0 h_t41) ?_
          refine d_val rfl rfl (r_fieldP Tryd.runUnderlying33 rfl Tryd.sizeOf3 rfl rfl (some_of_at f0 h_t41)) ?_
          refine d_read (fun w hF => run_loadG1 (f := e_where_Fix) (i := (val (gI (t14 - 1)))) (sz := 3) (j := 0) (v := .int .i64 (val (gAt a0 (val (gI (t14 - 1))))).Moment) Tryd.isAgg3 rfl rfl (f0.row (hw.now hF)) h_t41 rfl) rfl rfl ?_
          have h_t44 := bnd_val H90
          have H91 := bnd_rest H90
          refine d_val rfl rfl (r_subG rfl rfl h_t44) ?_
          refine d_val rfl rfl (r_assign (v := .int .i64 (val (gI (a1 - (val (gAt a0 (val (gI (t14 - 1))))).Moment)))) rfl) ?_
          refine d_nil ?_
          refine c_close ((val (gI (a1 - (val (gAt a0 (val (gI (t14 - 1))))).Moment))), a0) v0 0 [0, 1, 2] (by exact ⟨rfl, rfl, rfl, rfl, rfl, rfl, rfl, trivial⟩) (by decide) rfl (by exact ⟨H91, f0⟩) (Nat.lt_succ_self _)
          ) (by kernel_rfl)
      · have H92 := cnd_f hb H51; clear H51
        refine c_skip ?_
        refine c_close (a2, a0) v0 0 [0, 1, 2] (by exact ⟨rfl, rfl, rfl, rfl, rfl, rfl, rfl, trivial⟩) (by decide) rfl (by exact ⟨H92, f0⟩) (Nat.lt_succ_self _)
    · rintro ⟨x9, m⟩ gv gg H52 gf
      replace H52 : where_at_j2 a1 a2 t14 x9 m = some r := H52
      refine c_tidyF [(2, .int .i64 a2), (3, .pointer (some ⟨b3, 0, none⟩)), (4, .pointer (some ⟨b4, 0, none⟩)), (6, .pointer (some ⟨b5, 0, none⟩)), (8, .int .i64 t14), (9, .int .i64 x9), (10, .int .i64 a2)] [cellsC b3 [gv] 22, cellsC b4 [.int .i64 a1] 3, cellsC b5 [.int .i64 0, .int .i64 0] 29] rfl rfl ?_
      refine c_meet (r := r) (σ := Int × (List T_where_Fix)) (τ := Value) (fun s => where_at_j3 a2 t14 x9 s.1 s.2) (fun s t => [(2, .int .i64 a2), (3, .pointer (some ⟨b3, 0, none⟩)), (6, .pointer (some ⟨b5, 0, none⟩)), (8, .int .i64 t14), (9, .int .i64 x9), (10, .int .i64 s.1)]) (fun s t => [cellsC b3 [t] 22, cellsC b5 [.int .i64 0, .int .i64 0] 29]) (fun s t => FrS h 3 t (s.2.map e_where_Fix)) ?_ ?_
      · refine c_seq ?_
        refine c_region ?_
        refine l_val rfl rfl rfl (r_move (v := .int .i64 t14) rfl) ?_
        refine l_load1 (i := 0) (v := gv) Tryd.isAgg22 rfl rfl rfl rfl rfl ?_
        refine l_val rfl rfl rfl (r_lenF Tryd.underlying22 rfl gf rfl) ?_
        refine l_val rfl rfl rfl (r_lss rfl rfl) ?_
        refine l_nil ?_
        refine c_if (b := (decide (t14 < (m.length : Int)))) rfl (fun hb => ?_) (fun hb => ?_)
        · have H84 := cnd_t hb H52; clear H52
          exact c_regionD (Kd.d [0] _ :: Kd.p :: Kd.p :: Kd.p :: Kd.d [] _ :: Kd.d [1] _ :: Kd.p :: Kd.p :: []) 0 mixed (by
            refine d_load1 (i := 0) (v := gv) Tryd.isAgg22 rfl rfl rfl rfl ?_
            refine d_val rfl rfl (r_move (v := .int .i64 t14) rfl) ?_
            have h_t51 := bnd_val H84
            have H85 := bnd_rest H84
            refine d_val rfl rfl (r_indexF Tryd.underlying22 Tryd.sizeOf33 rfl rfl gf h_t51) ?_
            refine d_val rfl rfl (r_fieldP Tryd.runUnderlying33 rfl Tryd.sizeOf3 rfl rfl (some_of_at gf h_t51)) ?_
            refine d_read (fun w hF => run_loadG1 (f := e_where_Fix) (i := t14) (sz := 3) (j := 0) (v := .int .i64 (val (gAt m t14)).Moment) Tryd.isAgg3 rfl rfl (gf.row (hw.now hF)) h_t51 rfl) rfl rfl ?_
            refine d_load1 (i := 1) (v := .int .i64 a1) Tryd.isAgg3 rfl rfl rfl rfl ?_
            have h_t55 := bnd_val H85
            have H86 := bnd_rest H85
            refine d_val rfl rfl (r_subG rfl rfl h_t55) ?_
            refine d_val rfl rfl (r_assign (v := .int .i64 (val (gI ((val (gAt m t14)).Moment - a1)))) rfl) ?_
            refine d_nil ?_
            refine c_close ((val (gI ((val (gAt m t14)).Moment - a1))), m) gv 0 [0, 2] (by exact ⟨rfl, rfl, rfl, rfl, rfl, rfl, trivial⟩) (by decide) rfl (by exact ⟨H86, gf⟩) (Nat.lt_succ_self _)
            ) (by kernel_rfl)
        · have H87 := cnd_f hb H52; clear H52
          refine c_skip ?_
          refine c_close (a2, m) gv 0 [0, 2] (by exact ⟨rfl, rfl, rfl, rfl, rfl, rfl, trivial⟩) (by decide) rfl (by exact ⟨H87, gf⟩) (Nat.lt_succ_self _)
      · rintro ⟨x10, m_2⟩ gv_2 gg H53 gf_2
        replace H53 : where_at_j3 a2 t14 x9 x10 m_2 = some r := H53
        refine c_tidyF [(2, .int .i64 a2), (3, .pointer (some ⟨b3, 0, none⟩)), (6, .pointer (some ⟨b5, 0, none⟩)), (8, .int .i64 t14), (9, .int .i64 x9), (10, .int .i64 x10)] [cellsC b3 [gv_2] 22, cellsC b5 [.int .i64 0, .int .i64 0] 29] rfl rfl ?_
        refine c_meet (r := r) (σ := Unit) (τ := Unit) (fun s => where_at_j4) (fun s t => [(6, .pointer (some ⟨b5, 0, none⟩))]) (fun s t => [cellsC b5 [.int .i64 0, .int .i64 0] 29]) (fun s t => True) ?_ ?_
        · refine c_block ?_
          refine c_meet (r := r) (σ := Bool × (List T_where_Fix)) (τ := Value) (fun s => where_at_j5 a2 t14 x9 x10 s.1 s.2) (fun s t => [(2, .int .i64 a2), (3, .pointer (some ⟨b3, 0, none⟩)), (6, .pointer (some ⟨b5, 0, none⟩)), (8, .int .i64 t14), (9, .int .i64 x9), (10, .int .i64 x10), (56, .bool s.1)]) (fun s t => [cellsC b3 [t] 22, cellsC b5 [.int .i64 0, .int .i64 0] 29]) (fun s t => FrS h 3 t (s.2.map e_where_Fix)) ?_ ?_
          · refine c_region ?_
            refine l_val rfl rfl rfl (r_move (v := .int .i64 t14) rfl) ?_
            refine l_val rfl rfl rfl (r_gtr rfl rfl) ?_
            refine l_val rfl rfl rfl (r_move (v := .bool (decide (0 < t14))) rfl) ?_
            refine split (fun hb => ?_) (fun hb => ?_)
            · have H79 := cnd_t hb H53; clear H53
              refine l_val rfl rfl rfl (r_move (v := .int .i64 t14) rfl) ?_
              refine l_load1 (i := 0) (v := gv_2) Tryd.isAgg22 rfl rfl rfl rfl rfl ?_
              refine l_val rfl rfl rfl (r_lenF Tryd.underlying22 rfl gf_2 rfl) ?_
              refine l_val rfl rfl rfl (r_lss rfl rfl) ?_
              refine l_val rfl rfl rfl (r_pickT (v := .bool (decide (t14 < (m_2.length : Int)))) rfl rfl) ?_
              refine l_val rfl rfl rfl (r_move (v := .bool (decide (t14 < (m_2.length : Int)))) rfl) ?_
              refine split (fun hb => ?_) (fun hb => ?_)
              · have H80 := cnd_t hb H79; clear H79
                refine l_val rfl rfl rfl (r_move (v := .int .i64 x9) rfl) ?_
                refine l_val rfl rfl rfl (r_move (v := .int .i64 x10) rfl) ?_
                obtain ⟨t68, h_t68, H81⟩ := bnd_some H80; clear H80
                refine l_val rfl rfl rfl (r_addG rfl rfl h_t68) ?_
                refine l_val rfl rfl rfl (r_move (v := .int .i64 a2) rfl) ?_
                refine l_val rfl rfl rfl (r_leq rfl rfl) ?_
                refine l_val rfl rfl rfl (r_pickT (v := .bool (decide (t68 ≤ a2))) rfl rfl) ?_
                refine l_val rfl rfl rfl (r_assign (v := .bool (decide (t68 ≤ a2))) rfl) ?_
                refine l_nil ?_
                refine c_close ((decide (t68 ≤ a2)), m_2) gv_2 0 [0, 1] (by exact ⟨rfl, rfl, rfl, rfl, rfl, rfl, rfl, trivial⟩) (by decide) rfl (by exact ⟨H81, gf_2⟩) (Nat.lt_succ_self _)
              · have H82 := cnd_f hb H79; clear H79
                refine l_passed rfl rfl rfl ?_
                refine l_passed rfl rfl rfl ?_
                refine l_passed rfl rfl rfl ?_
                refine l_passed rfl rfl rfl ?_
                refine l_passed rfl rfl rfl ?_
                refine l_val rfl rfl rfl (r_pickF (v := .bool false) rfl rfl) ?_
                refine l_val rfl rfl rfl (r_assign (v := .bool false) rfl) ?_
                refine l_nil ?_
                refine c_close (false, m_2) gv_2 0 [0, 1] (by exact ⟨rfl, rfl, rfl, rfl, rfl, rfl, rfl, trivial⟩) (by decide) rfl (by exact ⟨H82, gf_2⟩) (Nat.lt_succ_self _)
            · have H83 := cnd_f hb H53; clear H53
              refine l_passed rfl rfl rfl ?_
              refine l_passed rfl rfl rfl ?_
              refine l_passed rfl rfl rfl ?_
              refine l_passed rfl rfl rfl ?_
              refine l_val rfl rfl rfl (r_pickF (v := .bool false) rfl rfl) ?_
              refine l_val rfl rfl rfl (r_move (v := .bool false) rfl) ?_
              refine l_passed rfl rfl rfl ?_
              refine l_passed rfl rfl rfl ?_
              refine l_passed rfl rfl rfl ?_
              refine l_passed rfl rfl rfl ?_
              refine l_passed rfl rfl rfl ?_
              refine l_val rfl rfl rfl (r_pickF (v := .bool false) rfl rfl) ?_
              refine l_val rfl rfl rfl (r_assign (v := .bool false) rfl) ?_
              refine l_nil ?_
              refine c_close (false, m_2) gv_2 0 [0, 1] (by exact ⟨rfl, rfl, rfl, rfl, rfl, rfl, rfl, trivial⟩) (by decide) rfl (by exact ⟨H83, gf_2⟩) (Nat.lt_succ_self _)
          · rintro ⟨x56, m_3⟩ gv_3 gg H55 gf_3
            replace H55 : where_at_j5 a2 t14 x9 x10 x56 m_3 = some r := H55
            refine c_tidyF [(2, .int .i64 a2), (3, .pointer (some ⟨b3, 0, none⟩)), (6, .pointer (some ⟨b5, 0, none⟩)), (8, .int .i64 t14), (9, .int .i64 x9), (10, .int .i64 x10), (56, .bool x56)] [cellsC b3 [gv_3] 22, cellsC b5 [.int .i64 0, .int .i64 0] 29] rfl rfl ?_
            refine c_if (b := x56) rfl (fun hb => ?_) (fun hb => ?_)
            · have H56 := cnd_t hb H55; clear H55
              refine c_seq ?_
              exact c_regionD (Kd.d [0] _ :: Kd.p :: Kd.p :: Kd.p :: Kd.p :: Kd.d [] _ :: Kd.d [0] _ :: Kd.p :: Kd.p :: Kd.p :: Kd.d [] _ :: Kd.p :: Kd.p :: Kd.p :: Kd.p :: Kd.d [] _ :: Kd.st 6 1 [_, _] 29 :: Kd.p :: []) 0 mixed (by
                refine d_load1 (i := 0) (v := gv_3) Tryd.isAgg22 rfl rfl rfl rfl ?_
                refine d_val rfl rfl (r_move (v := .int .i64 t14) rfl) ?_
                have h_t74 := bnd_val H56
                have H57 := bnd_rest H56
                refine d_val rfl rfl (r_subG rfl rfl h_t74) ?_
                have h_t75 := bnd_val H57
                have H58 := bnd_rest H57
                refine d_val rfl rfl (r_indexF Tryd.underlying22 Tryd.sizeOf33 rfl rfl gf_3 h_t75) ?_
                refine d_val rfl rfl (r_fieldP Tryd.runUnderlying33 rfl Tryd.sizeOf29 rfl rfl (some_of_at gf_3 h_t75)) ?_
                refine d_read (fun w hF => run_loadGN (f := e_where_Fix) (i := (val (gI (t14 - 1)))) (sz := 3) (j := 1) (vs := [.int .i64 (val (gAt m_3 (val (gI (t14 - 1))))).Place.Lat, .int .i64 (val (gAt m_3 (val (gI (t14 - 1))))).Place.Lon]) Tryd.isAgg29 Tryd.sizeOf29 rfl rfl (gf_3.row (hw.now hF)) h_t75 rfl) rfl rfl ?_
                refine d_load1 (i := 0) (v := gv_3) Tryd.isAgg22 rfl rfl rfl rfl ?_
                refine d_val rfl rfl (r_move (v := .int .i64 t14) rfl) ?_
                have h_t80 := bnd_val H58
                have H59 := bnd_rest H58
                refine d_val rfl rfl (r_indexF Tryd.underlying22 Tryd.sizeOf33 rfl rfl gf_3 h_t80) ?_
                refine d_val rfl rfl (r_fieldP Tryd.runUnderlying33 rfl Tryd.sizeOf29 rfl rfl (some_of_at gf_3 h_t80)) ?_
                refine d_read (fun w hF => run_loadGN (f := e_where_Fix) (i := t14) (sz := 3) (j := 1) (vs := [.int .i64 (val (gAt m_3 t14)).Place.Lat, .int .i64 (val (gAt m_3 t14)).Place.Lon]) Tryd.isAgg29 Tryd.sizeOf29 rfl rfl (gf_3.row (hw.now hF)) h_t80 rfl) rfl rfl ?_
                refine d_val rfl rfl (r_move (v := .int .i64 x9) rfl) ?_
                refine d_val rfl rfl (r_move (v := .int .i64 x9) rfl) ?_
                refine d_val rfl rfl (r_move (v := .int .i64 x10) rfl) ?_
                have h_t86 := bnd_val H59
                have H60 := bnd_rest H59
                refine d_val rfl rfl (r_addG rfl rfl h_t86) ?_
                have h_t87 := bnd_val H60
                have H61 := bnd_rest H60
                refine d_call (k71 h_t87) Tryd.call71 rfl rfl ?_
                refine d_store (i := 1) (vs := [.int .i64 (val (where_between (val (gAt m_3 (val (gI (t14 - 1))))).Place (val (gAt m_3 t14)).Place x9 (val (gI (x9 + x10))))).Lat, .int .i64 (val (where_between (val (gAt m_3 (val (gI (t14 - 1))))).Place (val (gAt m_3 t14)).Place x9 (val (gI (x9 + x10))))).Lon]) (cs' := [.int .i64 (val (where_between (val (gAt m_3 (val (gI (t14 - 1))))).Place (val (gAt m_3 t14)).Place x9 (val (gI (x9 + x10))))).Lat, .int .i64 (val (where_between (val (gAt m_3 (val (gI (t14 - 1))))).Place (val (gAt m_3 t14)).Place x9 (val (gI (x9 + x10))))).Lon]) Tryd.sizeOf29 rfl rfl rfl rfl rfl rfl rfl rfl rfl ?_
                refine d_val rfl rfl (r_assign (v := .bool true) rfl) ?_
                refine d_nil ?_
                refine c_ret ?_
                obtain rfl := Option.some.inj H61
                refine retCt (i := 1) (vs := [.int .i64 (val (where_between (val (gAt m_3 (val (gI (t14 - 1))))).Place (val (gAt m_3 t14)).Place x9 (val (gI (x9 + x10))))).Lat, .int .i64 (val (where_between (val (gAt m_3 (val (gI (t14 - 1))))).Place (val (gAt m_3 t14)).Place x9 (val (gI (x9 + x10))))).Lon]) (v2 := .bool true) Tryd.isAgg29 Tryd.sizeOf29 rfl rfl rfl rfl rfl (fin rfl)
                ) (by kernel_rfl)
            · have H62 := cnd_f hb H55; clear H55
              refine c_meet (r := r) (σ := Bool × (List T_where_Fix)) (τ := Value) (fun s => where_at_j6 a2 t14 x10 s.1 s.2) (fun s t => [(2, .int .i64 a2), (3, .pointer (some ⟨b3, 0, none⟩)), (6, .pointer (some ⟨b5, 0, none⟩)), (8, .int .i64 t14), (10, .int .i64 x10), (88, .bool s.1)]) (fun s t => [cellsC b3 [t] 22, cellsC b5 [.int .i64 0, .int .i64 0] 29]) (fun s t => FrS h 3 t (s.2.map e_where_Fix)) ?_ ?_
              · refine c_region ?_
                refine l_val rfl rfl rfl (r_move (v := .int .i64 t14) rfl) ?_
                refine l_val rfl rfl rfl (r_gtr rfl rfl) ?_
                refine l_val rfl rfl rfl (r_move (v := .bool (decide (0 < t14))) rfl) ?_
                refine split (fun hb => ?_) (fun hb => ?_)
                · have H73 := cnd_t hb H62; clear H62
                  refine l_val rfl rfl rfl (r_move (v := .int .i64 x9) rfl) ?_
                  refine l_val rfl rfl rfl (r_move (v := .int .i64 a2) rfl) ?_
                  refine l_val rfl rfl rfl (r_leq rfl rfl) ?_
                  refine l_val rfl rfl rfl (r_pickT (v := .bool (decide (x9 ≤ a2))) rfl rfl) ?_
                  refine l_val rfl rfl rfl (r_move (v := .bool (decide (x9 ≤ a2))) rfl) ?_
                  refine split (fun hb => ?_) (fun hb => ?_)
                  · have H74 := cnd_t hb H73; clear H73
                    refine l_val rfl rfl rfl (r_move (v := .int .i64 t14) rfl) ?_
                    refine l_load1 (i := 0) (v := gv_3) Tryd.isAgg22 rfl rfl rfl rfl rfl ?_
                    refine l_val rfl rfl rfl (r_lenF Tryd.underlying22 rfl gf_3 rfl) ?_
                    refine l_val rfl rfl rfl (r_eql rfl rfl) ?_
                    refine l_val rfl rfl rfl (r_move (v := .bool (decide (t14 = (m_3.length : Int)))) rfl) ?_
                    refine split (fun hb => ?_) (fun hb => ?_)
                    · have H75 := cnd_t hb H74; clear H74
                      refine l_passed rfl rfl rfl ?_
                      refine l_passed rfl rfl rfl ?_
                      refine l_passed rfl rfl rfl ?_
                      refine l_val rfl rfl rfl (r_pickT (v := .bool true) rfl rfl) ?_
                      refine l_val rfl rfl rfl (r_pickT (v := .bool true) rfl rfl) ?_
                      refine l_val rfl rfl rfl (r_assign (v := .bool true) rfl) ?_
                      refine l_nil ?_
                      refine c_close (true, m_3) gv_3 0 [0, 1] (by exact ⟨rfl, rfl, rfl, rfl, rfl, rfl, trivial⟩) (by decide) rfl (by exact ⟨H75, gf_3⟩) (Nat.lt_succ_self _)
                    · have H76 := cnd_f hb H74; clear H74
                      refine l_val rfl rfl rfl (r_move (v := .int .i64 x9) rfl) ?_
                      refine l_val rfl rfl rfl (r_move (v := .int .i64 x10) rfl) ?_
                      refine l_val rfl rfl rfl (r_leq rfl rfl) ?_
                      refine l_val rfl rfl rfl (r_pickF (v := .bool (decide (x9 ≤ x10))) rfl rfl) ?_
                      refine l_val rfl rfl rfl (r_pickT (v := .bool (decide (x9 ≤ x10))) rfl rfl) ?_
                      refine l_val rfl rfl rfl (r_assign (v := .bool (decide (x9 ≤ x10))) rfl) ?_
                      refine l_nil ?_
                      refine c_close ((decide (x9 ≤ x10)), m_3) gv_3 0 [0, 1] (by exact ⟨rfl, rfl, rfl, rfl, rfl, rfl, trivial⟩) (by decide) rfl (by exact ⟨H76, gf_3⟩) (Nat.lt_succ_self _)
                  · have H77 := cnd_f hb H73; clear H73
                    refine l_passed rfl rfl rfl ?_
                    refine l_passed rfl rfl rfl ?_
                    refine l_passed rfl rfl rfl ?_
                    refine l_passed rfl rfl rfl ?_
                    refine l_passed rfl rfl rfl ?_
                    refine l_passed rfl rfl rfl ?_
                    refine l_passed rfl rfl rfl ?_
                    refine l_passed rfl rfl rfl ?_
                    refine l_passed rfl rfl rfl ?_
                    refine l_val rfl rfl rfl (r_pickF (v := .bool false) rfl rfl) ?_
                    refine l_val rfl rfl rfl (r_assign (v := .bool false) rfl) ?_
                    refine l_nil ?_
                    refine c_close (false, m_3) gv_3 0 [0, 1] (by exact ⟨rfl, rfl, rfl, rfl, rfl, rfl, trivial⟩) (by decide) rfl (by exact ⟨H77, gf_3⟩) (Nat.lt_succ_self _)
                · have H78 := cnd_f hb H62; clear H62
                  refine l_passed rfl rfl rfl ?_
                  refine l_passed rfl rfl rfl ?_
                  refine l_passed rfl rfl rfl ?_
                  refine l_val rfl rfl rfl (r_pickF (v := .bool false) rfl rfl) ?_
                  refine l_val rfl rfl rfl (r_move (v := .bool false) rfl) ?_
                  refine l_passed rfl rfl rfl ?_
                  refine l_passed rfl rfl rfl ?_
                  refine l_passed rfl rfl rfl ?_
                  refine l_passed rfl rfl rfl ?_
                  refine l_passed rfl rfl rfl ?_
                  refine l_passed rfl rfl rfl ?_
                  refine l_passed rfl rfl rfl ?_
                  refine l_passed rfl rfl rfl ?_
                  refine l_passed rfl rfl rfl ?_
                  refine l_val rfl rfl rfl (r_pickF (v := .bool false) rfl rfl) ?_
                  refine l_val rfl rfl rfl (r_assign (v := .bool false) rfl) ?_
                  refine l_nil ?_
                  refine c_close (false, m_3) gv_3 0 [0, 1] (by exact ⟨rfl, rfl, rfl, rfl, rfl, rfl, trivial⟩) (by decide) rfl (by exact ⟨H78, gf_3⟩) (Nat.lt_succ_self _)
              · rintro ⟨x88, m_4⟩ gv_4 gg H63 gf_4
                replace H63 : where_at_j6 a2 t14 x10 x88 m_4 = some r := H63
                refine c_tidyF [(2, .int .i64 a2), (3, .pointer (some ⟨b3, 0, none⟩)), (6, .pointer (some ⟨b5, 0, none⟩)), (8, .int .i64 t14), (10, .int .i64 x10), (88, .bool x88)] [cellsC b3 [gv_4] 22, cellsC b5 [.int .i64 0, .int .i64 0] 29] rfl rfl ?_
                refine c_if (b := x88) rfl (fun hb => ?_) (fun hb => ?_)
                · have H64 := cnd_t hb H63; clear H63
                  refine c_seq ?_
                  refine c_region ?_
                  refine l_load1 (i := 0) (v := gv_4) Tryd.isAgg22 rfl rfl rfl rfl rfl ?_
                  refine l_val rfl rfl rfl (r_move (v := .int .i64 t14) rfl) ?_
                  obtain ⟨t109, h_t109, H65⟩ := bnd_some H64; clear H64
                  refine l_val rfl rfl rfl (r_subG rfl rfl h_t109) ?_
                  obtain ⟨t110, h_t110, H66⟩ := bnd_some H65; clear H65
                  refine l_val rfl rfl rfl (r_indexF Tryd.underlying22 Tryd.sizeOf33 rfl rfl gf_4 h_t110) ?_
                  refine l_val rfl rfl rfl (r_fieldP Tryd.runUnderlying33 rfl Tryd.sizeOf29 rfl rfl (some_of_at gf_4 h_t110)) ?_
                  refine l_read (fun w hF hS => run_loadGN (f := e_where_Fix) (i := t109) (sz := 3) (j := 1) (vs := [.int .i64 t110.Place.Lat, .int .i64 t110.Place.Lon]) Tryd.isAgg29 Tryd.sizeOf29 rfl rfl (gf_4.row (hw.now hF)) h_t110 rfl) rfl rfl rfl ?_
                  refine l_store (i := 1) (vs := [.int .i64 t110.Place.Lat, .int .i64 t110.Place.Lon]) (cs' := [.int .i64 t110.Place.Lat, .int .i64 t110.Place.Lon]) Tryd.sizeOf29 rfl rfl rfl rfl rfl rfl rfl rfl rfl ?_
                  refine l_val rfl rfl rfl (r_assign (v := .bool true) rfl) ?_
                  refine l_nil ?_
                  refine c_ret ?_
                  obtain rfl := Option.some.inj H66
                  refine retCt (i := 1) (vs := [.int .i64 t110.Place.Lat, .int .i64 t110.Place.Lon]) (v2 := .bool true) Tryd.isAgg29 Tryd.sizeOf29 rfl rfl rfl rfl rfl (fin rfl)
                · have H67 := cnd_f hb H63; clear H63
                  refine c_seq ?_
                  refine c_region ?_
                  refine l_val rfl rfl rfl (r_move (v := .int .i64 t14) rfl) ?_
                  refine l_load1 (i := 0) (v := gv_4) Tryd.isAgg22 rfl rfl rfl rfl rfl ?_
                  refine l_val rfl rfl rfl (r_lenF Tryd.underlying22 rfl gf_4 rfl) ?_
                  refine l_val rfl rfl rfl (r_lss rfl rfl) ?_
                  refine l_val rfl rfl rfl (r_move (v := .bool (decide (t14 < (m_4.length : Int)))) rfl) ?_
                  refine split (fun hb => ?_) (fun hb => ?_)
                  · have H68 := cnd_t hb H67; clear H67
                    refine l_val rfl rfl rfl (r_move (v := .int .i64 x10) rfl) ?_
                    refine l_val rfl rfl rfl (r_move (v := .int .i64 a2) rfl) ?_
                    refine l_val rfl rfl rfl (r_leq rfl rfl) ?_
                    refine l_val rfl rfl rfl (r_pickT (v := .bool (decide (x10 ≤ a2))) rfl rfl) ?_
                    refine l_val rfl rfl rfl (r_assign (v := .bool (decide (x10 ≤ a2))) rfl) ?_
                    refine l_nil ?_
                    refine c_if (b := (decide (x10 ≤ a2))) rfl (fun hb => ?_) (fun hb => ?_)
                    · have H69 := cnd_t hb H68; clear H68
                      refine c_seq ?_
                      refine c_region ?_
                      refine l_load1 (i := 0) (v := gv_4) Tryd.isAgg22 rfl rfl rfl rfl rfl ?_
                      refine l_val rfl rfl rfl (r_move (v := .int .i64 t14) rfl) ?_
                      obtain ⟨t125, h_t125, H70⟩ := bnd_some H69; clear H69
                      refine l_val rfl rfl rfl (r_indexF Tryd.underlying22 Tryd.sizeOf33 rfl rfl gf_4 h_t125) ?_
                      refine l_val rfl rfl rfl (r_fieldP Tryd.runUnderlying33 rfl Tryd.sizeOf29 rfl rfl (some_of_at gf_4 h_t125)) ?_
                      refine l_read (fun w hF hS => run_loadGN (f := e_where_Fix) (i := t14) (sz := 3) (j := 1) (vs := [.int .i64 t125.Place.Lat, .int .i64 t125.Place.Lon]) Tryd.isAgg29 Tryd.sizeOf29 rfl rfl (gf_4.row (hw.now hF)) h_t125 rfl) rfl rfl rfl ?_
                      refine l_store (i := 1) (vs := [.int .i64 t125.Place.Lat, .int .i64 t125.Place.Lon]) (cs' := [.int .i64 t125.Place.Lat, .int .i64 t125.Place.Lon]) Tryd.sizeOf29 rfl rfl rfl rfl rfl rfl rfl rfl rfl ?_
                      refine l_val rfl rfl rfl (r_assign (v := .bool true) rfl) ?_
                      refine l_nil ?_
                      refine c_ret ?_
                      obtain rfl := Option.some.inj H70
                      refine retCt (i := 1) (vs := [.int .i64 t125.Place.Lat, .int .i64 t125.Place.Lon]) (v2 := .bool true) Tryd.isAgg29 Tryd.sizeOf29 rfl rfl rfl rfl rfl (fin rfl)
                    · have H71 := cnd_f hb H68; clear H68
                      refine c_skip ?_
                      refine c_close () () 0 [1] (by exact ⟨rfl, trivial⟩) (by decide) rfl (by exact ⟨H71, trivial⟩) (Nat.lt_succ_self _)
                  · have H72 := cnd_f hb H67; clear H67
                    refine l_passed rfl rfl rfl ?_
                    refine l_passed rfl rfl rfl ?_
                    refine l_passed rfl rfl rfl ?_
                    refine l_val rfl rfl rfl (r_pickF (v := .bool false) rfl rfl) ?_
                    refine l_val rfl rfl rfl (r_assign (v := .bool false) rfl) ?_
                    refine l_nil ?_
                    refine c_false rfl ?_
                    refine c_skip ?_
                    refine c_close () () 0 [1] (by exact ⟨rfl, trivial⟩) (by decide) rfl (by exact ⟨H72, trivial⟩) (Nat.lt_succ_self _)
        · rintro _ _ gg H54 _
          replace H54 : where_at_j4 = some r := H54
          refine c_tidyF [(6, .pointer (some ⟨b5, 0, none⟩))] [cellsC b5 [.int .i64 0, .int .i64 0] 29] rfl rfl ?_
          refine c_seq ?_
          refine c_region ?_
          refine l_val rfl rfl rfl (r_build (pl := #[(0, 1), (1, 1)]) (ps := []) (cells := #[.int .i64 0, .int .i64 0]) Tryd.zeroValue29 Tryd.runUnderlying29 (fun w => by kernel_rfl) rfl rfl) ?_
          refine l_store (i := 0) (vs := [.int .i64 0, .int .i64 0]) (cs' := [.int .i64 0, .int .i64 0]) Tryd.sizeOf29 rfl rfl rfl rfl rfl rfl rfl rfl rfl ?_
          refine l_val rfl rfl rfl (r_assign (v := .bool false) rfl) ?_
          refine l_nil ?_
          refine c_ret ?_
          obtain rfl := Option.some.inj H54
          refine retCt (i := 0) (vs := [.int .i64 0, .int .i64 0]) (v2 := .bool false) Tryd.isAgg29 Tryd.sizeOf29 rfl rfl rfl rfl rfl (fin rfl)
theorem k13 {a0 : (List T_where_Fix)} {v0 : Value} {a1 : Int} {a2 : Int} {r : T_api_Place × Int} {w : World} {h : Heap} (hw : Know h w noS) (f0 : FrS h 3 v0 (a0.map e_where_Fix)) (H : where_At a0 a1 a2 = some r) : Does Tryd.prog 13 (List.toArray [v0, .int .i64 a1, .int .i64 a2]) w (fun v w' => v = (.tuple #[.agg #[.int .i64 r.1.Lat, .int .i64 r.1.Lon], .int .i64 r.2]) ∧ Grow w w') := by
  refine enter (n := 36) Tryd.func13 rfl rfl rfl noS [] (Sat.nil _ _) ?_
  refine c_seq ?_
  refine c_region ?_
  refine l_alloc (cs := [.int .i64 0, .int .i64 0]) Tryd.zeroValue29 rfl rfl rfl (fun b2 => ?_)
  refine l_val rfl rfl rfl (r_assign (v := .int .i64 0) rfl) ?_
  refine l_nil ?_
  refine c_seq ?_
  refine c_seq ?_
  refine c_region ?_
  refine l_val rfl rfl rfl (r_move (v := v0) rfl) ?_
  obtain ⟨t12, h_t12, H12⟩ := bnd_some H; clear H
  refine l_callG (fun w hF hS => k50 (know_all w) (f0.mono (hw.now hF)) h_t12) Tryd.call50 rfl rfl rfl ?_
  refine l_val rfl rfl rfl (r_assign (v := .int .i64 t12) rfl) ?_
  refine l_nil ?_
  refine c_seq ?_
  refine c_region ?_
  refine l_val rfl rfl rfl (r_move (v := .int .i64 t12) rfl) ?_
  refine l_val rfl rfl rfl (r_neq rfl rfl) ?_
  refine l_nil ?_
  refine c_if (b := (decide (t12 ≠ 0))) rfl (fun hb => ?_) (fun hb => ?_)
  · have H13 := cnd_t hb H12; clear H12
    refine c_seq ?_
    refine c_region ?_
    refine l_val rfl rfl rfl (r_build (pl := #[(0, 1), (1, 1)]) (ps := []) (cells := #[.int .i64 0, .int .i64 0]) Tryd.zeroValue29 Tryd.runUnderlying29 (fun w => by kernel_rfl) rfl rfl) ?_
    refine l_val rfl rfl rfl (r_move (v := .int .i64 t12) rfl) ?_
    refine l_store (i := 0) (vs := [.int .i64 0, .int .i64 0]) (cs' := [.int .i64 0, .int .i64 0]) Tryd.sizeOf29 rfl rfl rfl rfl rfl rfl rfl rfl rfl ?_
    refine l_val rfl rfl rfl (r_assign (v := .int .i64 t12) rfl) ?_
    refine l_nil ?_
    refine c_ret ?_
    obtain rfl := Option.some.inj H13
    refine retCt (i := 0) (vs := [.int .i64 0, .int .i64 0]) (v2 := .int .i64 t12) Tryd.isAgg29 Tryd.sizeOf29 rfl rfl rfl rfl rfl (fin rfl)
  · have H14 := cnd_f hb H12; clear H12
    refine c_skip ?_
    refine c_seq ?_
    refine c_seq ?_
    refine c_region ?_
    refine l_val rfl rfl rfl (r_move (v := .int .i64 a1) rfl) ?_
    obtain ⟨t18, h_t18, H15⟩ := bnd_some H14; clear H14
    refine l_call (k54 h_t18) Tryd.call54 rfl rfl rfl ?_
    refine l_val rfl rfl rfl (r_not rfl) ?_
    refine l_val rfl rfl rfl (r_move (v := .bool (!t18)) rfl) ?_
    refine split (fun hb => ?_) (fun hb => ?_)
    · have H16 := cnd_t hb H15; clear H15
      refine l_passed rfl rfl rfl ?_
      refine l_passed rfl rfl rfl ?_
      refine l_val rfl rfl rfl (r_pickT (v := .bool true) rfl rfl) ?_
      refine l_nil ?_
      refine c_true rfl ?_
      refine c_seq ?_
      refine c_region ?_
      refine l_val rfl rfl rfl (r_build (pl := #[(0, 1), (1, 1)]) (ps := []) (cells := #[.int .i64 0, .int .i64 0]) Tryd.zeroValue29 Tryd.runUnderlying29 (fun w => by kernel_rfl) rfl rfl) ?_
      refine l_store (i := 0) (vs := [.int .i64 0, .int .i64 0]) (cs' := [.int .i64 0, .int .i64 0]) Tryd.sizeOf29 rfl rfl rfl rfl rfl rfl rfl rfl rfl ?_
      refine l_val rfl rfl rfl (r_assign (v := .int .i64 2) rfl) ?_
      refine l_nil ?_
      refine c_ret ?_
      obtain rfl := Option.some.inj H16
      refine retCt (i := 0) (vs := [.int .i64 0, .int .i64 0]) (v2 := .int .i64 2) Tryd.isAgg29 Tryd.sizeOf29 rfl rfl rfl rfl rfl (fin rfl)
    · have H17 := cnd_f hb H15; clear H15
      refine l_val rfl rfl rfl (r_move (v := .int .i64 a2) rfl) ?_
      refine l_val rfl rfl rfl (r_lss rfl rfl) ?_
      refine l_val rfl rfl rfl (r_pickF (v := .bool (decide (a2 < 0))) rfl rfl) ?_
      refine l_nil ?_
      refine c_if (b := (decide (a2 < 0))) rfl (fun hb => ?_) (fun hb => ?_)
      · have H18 := cnd_t hb H17; clear H17
        refine c_seq ?_
        refine c_region ?_
        refine l_val rfl rfl rfl (r_build (pl := #[(0, 1), (1, 1)]) (ps := []) (cells := #[.int .i64 0, .int .i64 0]) Tryd.zeroValue29 Tryd.runUnderlying29 (fun w => by kernel_rfl) rfl rfl) ?_
        refine l_store (i := 0) (vs := [.int .i64 0, .int .i64 0]) (cs' := [.int .i64 0, .int .i64 0]) Tryd.sizeOf29 rfl rfl rfl rfl rfl rfl rfl rfl rfl ?_
        refine l_val rfl rfl rfl (r_assign (v := .int .i64 2) rfl) ?_
        refine l_nil ?_
        refine c_ret ?_
        obtain rfl := Option.some.inj H18
        refine retCt (i := 0) (vs := [.int .i64 0, .int .i64 0]) (v2 := .int .i64 2) Tryd.isAgg29 Tryd.sizeOf29 rfl rfl rfl rfl rfl (fin rfl)
      · have H19 := cnd_f hb H17; clear H17
        refine c_skip ?_
        refine c_seq ?_
        refine c_region ?_
        refine l_val rfl rfl rfl (r_move (v := v0) rfl) ?_
        refine l_val rfl rfl rfl (r_move (v := .int .i64 a1) rfl) ?_
        refine l_val rfl rfl rfl (r_move (v := .int .i64 a2) rfl) ?_
        obtain ⟨t29, h_t29, H20⟩ := bnd_some H19; clear H19
        refine l_callG (fun w hF hS => k55 (know_all w) (f0.mono (hw.now hF)) h_t29) Tryd.call55 rfl rfl rfl ?_
        refine l_val rfl rfl rfl (r_move (v := .tuple #[.agg #[.int .i64 t29.1.Lat, .int .i64 t29.1.Lon], .bool t29.2]) rfl) ?_
        refine l_val rfl rfl rfl (r_extract (v := .agg #[.int .i64 t29.1.Lat, .int .i64 t29.1.Lon]) rfl rfl) ?_
        refine l_val rfl rfl rfl (r_extract (v := .bool t29.2) rfl rfl) ?_
        refine l_alloc (cs := [.int .i64 0, .int .i64 0]) Tryd.zeroValue29 rfl rfl rfl (fun b3 => ?_)
        refine l_store (i := 1) (vs := [.int .i64 t29.1.Lat, .int .i64 t29.1.Lon]) (cs' := [.int .i64 t29.1.Lat, .int .i64 t29.1.Lon]) Tryd.sizeOf29 rfl rfl rfl rfl rfl rfl rfl rfl rfl ?_
        refine l_val rfl rfl rfl (r_assign (v := .bool t29.2) rfl) ?_
        refine l_nil ?_
        refine c_seq ?_
        refine c_seq ?_
        refine c_region ?_
        refine l_val rfl rfl rfl (r_move (v := .bool t29.2) rfl) ?_
        refine l_val rfl rfl rfl (r_not rfl) ?_
        refine l_nil ?_
        refine c_if (b := (!t29.2)) rfl (fun hb => ?_) (fun hb => ?_)
        · have H21 := cnd_t hb H20; clear H20
          refine c_seq ?_
          refine c_region ?_
          refine l_val rfl rfl rfl (r_build (pl := #[(0, 1), (1, 1)]) (ps := []) (cells := #[.int .i64 0, .int .i64 0]) Tryd.zeroValue29 Tryd.runUnderlying29 (fun w => by kernel_rfl) rfl rfl) ?_
          refine l_store (i := 0) (vs := [.int .i64 0, .int .i64 0]) (cs' := [.int .i64 0, .int .i64 0]) Tryd.sizeOf29 rfl rfl rfl rfl rfl rfl rfl rfl rfl ?_
          refine l_val rfl rfl rfl (r_assign (v := .int .i64 7) rfl) ?_
          refine l_nil ?_
          refine c_ret ?_
          obtain rfl := Option.some.inj H21
          refine retCt (i := 0) (vs := [.int .i64 0, .int .i64 0]) (v2 := .int .i64 7) Tryd.isAgg29 Tryd.sizeOf29 rfl rfl rfl rfl rfl (fin rfl)
        · have H22 := cnd_f hb H20; clear H20
          refine c_skip ?_
          refine c_seq ?_
          refine c_region ?_
          refine l_loadN (i := 1) (vs := [.int .i64 t29.1.Lat, .int .i64 t29.1.Lon]) Tryd.isAgg29 Tryd.sizeOf29 rfl rfl rfl rfl rfl ?_
          refine l_store (i := 0) (vs := [.int .i64 t29.1.Lat, .int .i64 t29.1.Lon]) (cs' := [.int .i64 t29.1.Lat, .int .i64 t29.1.Lon]) Tryd.sizeOf29 rfl rfl rfl rfl rfl rfl rfl rfl rfl ?_
          refine l_val rfl rfl rfl (r_assign (v := .int .i64 0) rfl) ?_
          refine l_nil ?_
          refine c_ret ?_
          obtain rfl := Option.some.inj H22
          refine retCt (i := 0) (vs := [.int .i64 t29.1.Lat, .int .i64 t29.1.Lon]) (v2 := .int .i64 0) Tryd.isAgg29 Tryd.sizeOf29 rfl rfl rfl rfl rfl (fin rfl)
theorem k4 {a0 : (List T_where_Fix)} {v0 : Value} {a1 : Int} {r : Bool} {w : World} {h : Heap} (hw : Know h w noS) (f0 : FrS h 3 v0 (a0.map e_where_Fix)) (H : Keep_WhereSimpleNear a0 a1 = some r) : Does Tryd.prog 4 (List.toArray [v0, .int .i64 a1]) w (fun v w' => v = (.bool r) ∧ Grow w w') := by
  refine enter (n := 85) Tryd.func4 rfl rfl rfl noS [] (Sat.nil _ _) ?_
  refine c_seq ?_
  refine c_region ?_
  refine l_val rfl rfl rfl (r_assign (v := .bool false) rfl) ?_
  refine l_nil ?_
  refine c_seq ?_
  refine c_seq ?_
  refine c_region ?_
  obtain ⟨t13, h_t13, H34⟩ := bnd_some H; clear H
  refine l_call (k9 h_t13) Tryd.call9 rfl rfl rfl ?_
  refine l_val rfl rfl rfl (r_not rfl) ?_
  refine l_nil ?_
  refine c_if (b := (!t13)) rfl (fun hb => ?_) (fun hb => ?_)
  · have H35 := cnd_t hb H34; clear H34
    refine c_seq ?_
    refine c_region ?_
    refine l_val rfl rfl rfl (r_assign (v := .bool false) rfl) ?_
    refine l_nil ?_
    refine c_ret ?_
    obtain rfl := Option.some.inj H35
    refine ret1 (v := .bool false) rfl rfl (fin rfl)
  · have H36 := cnd_f hb H34; clear H34
    refine c_skip ?_
    refine c_seq ?_
    refine c_region ?_
    refine l_val rfl rfl rfl (r_move (v := v0) rfl) ?_
    refine l_val rfl rfl rfl (r_move (v := .int .i64 a1) rfl) ?_
    obtain ⟨t18, h_t18, H37⟩ := bnd_some H36; clear H36
    refine l_make (makes_call (rds := []) (G := fun x : (Option Addr × Nat) => .tuple #[.slice x.1 t18.1.length x.2, .int .i64 t18.2]) (C := fun x : (Option Addr × Nat) => roV 3 (.slice x.1 t18.1.length x.2) t18.1.length (t18.1.map e_where_Fix)) (fun w L' hF hS hi => k12 (know_all w) (f0.mono (hw.now hF)) h_t18) Tryd.call12 rfl) rfl rfl rfl (fun p => ?_)
    refine l_val rfl rfl rfl (r_move (v := .tuple #[.slice p.1 t18.1.length p.2, .int .i64 t18.2]) rfl) ?_
    refine l_val rfl rfl rfl (r_extract (v := .slice p.1 t18.1.length p.2) rfl rfl) ?_
    refine l_val rfl rfl rfl (r_extract (v := .int .i64 t18.2) rfl rfl) ?_
    refine l_val rfl rfl rfl (r_assign (v := .slice p.1 t18.1.length p.2) rfl) ?_
    refine l_val rfl rfl rfl (r_assign (v := .int .i64 t18.2) rfl) ?_
    refine l_nil ?_
    refine c_seq ?_
    refine c_seq ?_
    refine c_region ?_
    refine l_val rfl rfl rfl (r_move (v := .int .i64 t18.2) rfl) ?_
    refine l_val rfl rfl rfl (r_neq rfl rfl) ?_
    refine l_val rfl rfl rfl (r_move (v := .bool (decide (t18.2 ≠ 0))) rfl) ?_
    refine split (fun hb => ?_) (fun hb => ?_)
    · have H38 := cnd_t hb H37; clear H37
      refine l_passed rfl rfl rfl ?_
      refine l_passed rfl rfl rfl ?_
      refine l_passed rfl rfl rfl ?_
      refine l_val rfl rfl rfl (r_pickT (v := .bool true) rfl rfl) ?_
      refine l_nil ?_
      refine c_true rfl ?_
      refine c_seq ?_
      refine c_region ?_
      refine l_val rfl rfl rfl (r_assign (v := .bool true) rfl) ?_
      refine l_nil ?_
      refine c_ret ?_
      obtain rfl := Option.some.inj H38
      refine ret1 (v := .bool true) rfl rfl (fin rfl)
    · have H39 := cnd_f hb H37; clear H37
      refine l_val rfl rfl rfl (r_move (v := v0) rfl) ?_
      refine l_val rfl rfl rfl (r_lenF Tryd.underlying22 rfl f0 rfl) ?_
      refine l_val rfl rfl rfl (r_eql rfl rfl) ?_
      refine l_val rfl rfl rfl (r_pickF (v := .bool (decide ((a0.length : Int) = 0))) rfl rfl) ?_
      refine l_nil ?_
      refine c_if (b := (decide ((a0.length : Int) = 0))) rfl (fun hb => ?_) (fun hb => ?_)
      · have H40 := cnd_t hb H39; clear H39
        refine c_seq ?_
        refine c_region ?_
        refine l_val rfl rfl rfl (r_assign (v := .bool true) rfl) ?_
        refine l_nil ?_
        refine c_ret ?_
        obtain rfl := Option.some.inj H40
        refine ret1 (v := .bool true) rfl rfl (fin rfl)
      · have H41 := cnd_f hb H39; clear H39
        refine c_skip ?_
        refine c_seq ?_
        refine c_seq ?_
        exact c_regionD (Kd.p :: Kd.p :: Kd.p :: Kd.p :: Kd.p :: Kd.d [0] _ :: Kd.d [0] _ :: Kd.p :: Kd.p :: Kd.d [] _ :: Kd.p :: Kd.p :: Kd.p :: Kd.p :: Kd.p :: Kd.p :: Kd.p :: Kd.d [0] _ :: Kd.d [0] _ :: Kd.p :: Kd.p :: Kd.p :: Kd.p :: Kd.p :: Kd.d [] _ :: Kd.p :: Kd.p :: []) 0 mixed (by
          refine d_val rfl rfl (r_move (v := .slice p.1 t18.1.length p.2) rfl) ?_
          refine d_val rfl rfl (r_len Tryd.underlying22 rfl) ?_
          refine d_val rfl rfl (r_eql rfl rfl) ?_
          refine d_val rfl rfl (r_move (v := .bool (decide ((t18.1.length : Int) = 0))) rfl) ?_
          refine splitS (fun hb => ?_) (fun hb => ?_)
          · have H42 := cnd_t hb H41
            refine d_pass rfl rfl ?_
            refine d_pass rfl rfl ?_
            refine d_pass rfl rfl ?_
            refine d_pass rfl rfl ?_
            refine d_pass rfl rfl ?_
            refine d_pass rfl rfl ?_
            refine d_pass rfl rfl ?_
            refine d_val rfl rfl (r_pickT (v := .bool true) rfl rfl) ?_
            refine d_val rfl rfl (r_move (v := .bool true) rfl) ?_
            refine d_pass rfl rfl ?_
            refine d_pass rfl rfl ?_
            refine d_pass rfl rfl ?_
            refine d_pass rfl rfl ?_
            refine d_pass rfl rfl ?_
            refine d_pass rfl rfl ?_
            refine d_pass rfl rfl ?_
            refine d_pass rfl rfl ?_
            refine d_pass rfl rfl ?_
            refine d_pass rfl rfl ?_
            refine d_pass rfl rfl ?_
            refine d_pass rfl rfl ?_
            refine d_pass rfl rfl ?_
            refine d_val rfl rfl (r_pickT (v := .bool true) rfl rfl) ?_
            refine d_nil ?_
            refine c_true rfl ?_
            refine c_seq ?_
            refine c_region ?_
            refine l_val rfl rfl rfl (r_assign (v := .bool false) rfl) ?_
            refine l_nil ?_
            refine c_ret ?_
            obtain rfl := Option.some.inj H42
            refine ret1 (v := .bool false) rfl rfl (fin rfl)
          · have H43 := cnd_f hb H41
            refine d_val rfl rfl (r_move (v := .slice p.1 t18.1.length p.2) rfl) ?_
            have h_t33 := bnd_val H43
            have H44 := bnd_rest H43
            refine d_readD (fun w L' hF hS hi => run_indexO Tryd.underlying22 Tryd.sizeOf33 rfl rfl (roOf (i := 0) hS ((hi 0 (by simp)).trans rfl)) rfl h_t33) rfl rfl ?_
            refine d_readD (fun w L' hF hS hi => run_loadGN (f := e_where_Fix) (i := 0) (sz := 3) (j := 0) (vs := [.int .i64 (val (gAt t18.1 0)).Moment, .int .i64 (val (gAt t18.1 0)).Place.Lat, .int .i64 (val (gAt t18.1 0)).Place.Lon]) Tryd.isAgg33 Tryd.sizeOf33 rfl rfl (roOf (i := 0) hS ((hi 0 (by simp)).trans rfl)) h_t33 rfl) rfl rfl ?_
            refine d_val rfl rfl (r_move (v := v0) rfl) ?_
            have h_t36 := bnd_val H44
            have H45 := bnd_rest H44
            refine d_val rfl rfl (r_indexF Tryd.underlying22 Tryd.sizeOf33 rfl rfl f0 h_t36) ?_
            refine d_read (fun w hF => run_loadGN (f := e_where_Fix) (i := 0) (sz := 3) (j := 0) (vs := [.int .i64 (val (gAt a0 0)).Moment, .int .i64 (val (gAt a0 0)).Place.Lat, .int .i64 (val (gAt a0 0)).Place.Lon]) Tryd.isAgg33 Tryd.sizeOf33 rfl rfl (f0.row (hw.now hF)) h_t36 rfl) rfl rfl ?_
            refine d_val rfl rfl (r_neqA (xs := #[.int .i64 (val (gAt t18.1 0)).Moment, .int .i64 (val (gAt t18.1 0)).Place.Lat, .int .i64 (val (gAt t18.1 0)).Place.Lon]) (ys := #[.int .i64 (val (gAt a0 0)).Moment, .int .i64 (val (gAt a0 0)).Place.Lat, .int .i64 (val (gAt a0 0)).Place.Lon]) Tryd.eqGuardType33 (fun w => run_eq_where_Fix w (val (gAt t18.1 0)) (val (gAt a0 0))) rfl rfl) ?_
            refine d_val rfl rfl (r_pickF (v := .bool (!(eq_where_Fix (val (gAt t18.1 0)) (val (gAt a0 0))))) rfl rfl) ?_
            refine d_val rfl rfl (r_move (v := .bool (!(eq_where_Fix (val (gAt t18.1 0)) (val (gAt a0 0))))) rfl) ?_
            refine splitS (fun hb => ?_) (fun hb => ?_)
            · have H46 := cnd_t hb H45
              refine d_pass rfl rfl ?_
              refine d_pass rfl rfl ?_
              refine d_pass rfl rfl ?_
              refine d_pass rfl rfl ?_
              refine d_pass rfl rfl ?_
              refine d_pass rfl rfl ?_
              refine d_pass rfl rfl ?_
              refine d_pass rfl rfl ?_
              refine d_pass rfl rfl ?_
              refine d_pass rfl rfl ?_
              refine d_pass rfl rfl ?_
              refine d_pass rfl rfl ?_
              refine d_pass rfl rfl ?_
              refine d_val rfl rfl (r_pickT (v := .bool true) rfl rfl) ?_
              refine d_nil ?_
              refine c_true rfl ?_
              refine c_seq ?_
              refine c_region ?_
              refine l_val rfl rfl rfl (r_assign (v := .bool false) rfl) ?_
              refine l_nil ?_
              refine c_ret ?_
              obtain rfl := Option.some.inj H46
              refine ret1 (v := .bool false) rfl rfl (fin rfl)
            · have H47 := cnd_f hb H45
              refine d_val rfl rfl (r_move (v := .slice p.1 t18.1.length p.2) rfl) ?_
              refine d_val rfl rfl (r_move (v := .slice p.1 t18.1.length p.2) rfl) ?_
              refine d_val rfl rfl (r_len Tryd.underlying22 rfl) ?_
              have h_t44 := bnd_val H47
              have H48 := bnd_rest H47
              refine d_val rfl rfl (r_subG rfl rfl h_t44) ?_
              have h_t45 := bnd_val H48
              have H49 := bnd_rest H48
              refine d_readD (fun w L' hF hS hi => run_indexO Tryd.underlying22 Tryd.sizeOf33 rfl rfl (roOf (i := 0) hS ((hi 0 (by simp)).trans rfl)) rfl h_t45) rfl rfl ?_
              refine d_readD (fun w L' hF hS hi => run_loadGN (f := e_where_Fix) (i := (val (gI ((t18.1.length : Int) - 1)))) (sz := 3) (j := 0) (vs := [.int .i64 (val (gAt t18.1 (val (gI ((t18.1.length : Int) - 1))))).Moment, .int .i64 (val (gAt t18.1 (val (gI ((t18.1.length : Int) - 1))))).Place.Lat, .int .i64 (val (gAt t18.1 (val (gI ((t18.1.length : Int) - 1))))).Place.Lon]) Tryd.isAgg33 Tryd.sizeOf33 rfl rfl (roOf (i := 0) hS ((hi 0 (by simp)).trans rfl)) h_t45 rfl) rfl rfl ?_
              refine d_val rfl rfl (r_move (v := v0) rfl) ?_
              refine d_val rfl rfl (r_move (v := v0) rfl) ?_
              refine d_val rfl rfl (r_lenF Tryd.underlying22 rfl f0 rfl) ?_
              have h_t50 := bnd_val H49
              have H50 := bnd_rest H49
              refine d_val rfl rfl (r_subG rfl rfl h_t50) ?_
              have h_t51 := bnd_val H50
              have H51 := bnd_rest H50
              refine d_val rfl rfl (r_indexF Tryd.underlying22 Tryd.sizeOf33 rfl rfl f0 h_t51) ?_
              refine d_read (fun w hF => run_loadGN (f := e_where_Fix) (i := (val (gI ((a0.length : Int) - 1)))) (sz := 3) (j := 0) (vs := [.int .i64 (val (gAt a0 (val (gI ((a0.length : Int) - 1))))).Moment, .int .i64 (val (gAt a0 (val (gI ((a0.length : Int) - 1))))).Place.Lat, .int .i64 (val (gAt a0 (val (gI ((a0.length : Int) - 1))))).Place.Lon]) Tryd.isAgg33 Tryd.sizeOf33 rfl rfl (f0.row (hw.now hF)) h_t51 rfl) rfl rfl ?_
              refine d_val rfl rfl (r_neqA (xs := #[.int .i64 (val (gAt t18.1 (val (gI ((t18.1.length : Int) - 1))))).Moment, .int .i64 (val (gAt t18.1 (val (gI ((t18.1.length : Int) - 1))))).Place.Lat, .int .i64 (val (gAt t18.1 (val (gI ((t18.1.length : Int) - 1))))).Place.Lon]) (ys := #[.int .i64 (val (gAt a0 (val (gI ((a0.length : Int) - 1))))).Moment, .int .i64 (val (gAt a0 (val (gI ((a0.length : Int) - 1))))).Place.Lat, .int .i64 (val (gAt a0 (val (gI ((a0.length : Int) - 1))))).Place.Lon]) Tryd.eqGuardType33 (fun w => run_eq_where_Fix w (val (gAt t18.1 (val (gI ((t18.1.length : Int) - 1))))) (val (gAt a0 (val (gI ((a0.length : Int) - 1)))))) rfl rfl) ?_
              refine d_val rfl rfl (r_pickF (v := .bool (!(eq_where_Fix (val (gAt t18.1 (val (gI ((t18.1.length : Int) - 1))))) (val (gAt a0 (val (gI ((a0.length : Int) - 1)))))))) rfl rfl) ?_
              refine d_nil ?_
              refine c_if (b := (!(eq_where_Fix (val (gAt t18.1 (val (gI ((t18.1.length : Int) - 1))))) (val (gAt a0 (val (gI ((a0.length : Int) - 1)))))))) rfl (fun hb => ?_) (fun hb => ?_)
              · have H52 := cnd_t hb H51; clear H51
                refine c_seq ?_
                refine c_region ?_
                refine l_val rfl rfl rfl (r_assign (v := .bool false) rfl) ?_
                refine l_nil ?_
                refine c_ret ?_
                obtain rfl := Option.some.inj H52
                refine ret1 (v := .bool false) rfl rfl (fin rfl)
              · have H53 := cnd_f hb H51; clear H51
                refine c_skip ?_
                refine c_seq ?_
                refine c_seq ?_
                refine c_region ?_
                refine l_val rfl rfl rfl (r_move (v := v0) rfl) ?_
                refine l_val rfl rfl rfl (r_lenF Tryd.underlying22 rfl f0 rfl) ?_
                refine l_val rfl rfl rfl (r_move (v := .int .i64 0) rfl) ?_
                refine l_nil ?_
                refine c_block ?_
                refine c_fix (σ := Int) (τ := Unit) (fun next1 s => Keep_WhereSimpleNear_l1 a0 a1 t18 next1 s) (fun s t => [(1, .int .i64 a1), (5, .slice p.1 t18.1.length p.2), (55, v0), (56, .int .i64 (a0.length : Int)), (57, .int .i64 s)]) (fun s t => [roV 3 (.slice p.1 t18.1.length p.2) t18.1.length (t18.1.map e_where_Fix)]) (fun s t => True) 0 () [0] H53 (by exact trivial) (by exact ⟨rfl, rfl, rfl, rfl, rfl, trivial⟩) (by decide) rfl ?_
                rintro x57_2 _ m1 gg H54 _
                clear H53
                replace H54 : Keep_WhereSimpleNear_l1 a0 a1 t18 (it (fun next1 s => Keep_WhereSimpleNear_l1 a0 a1 t18 next1 s) m1) x57_2 = some r := H54
                generalize hn1 : it (fun next1 s => Keep_WhereSimpleNear_l1 a0 a1 t18 next1 s) m1 = next1 at H54
                refine c_tidyF [(1, .int .i64 a1), (5, .slice p.1 t18.1.length p.2), (55, v0), (56, .int .i64 (a0.length : Int)), (57, .int .i64 x57_2)] [roV 3 (.slice p.1 t18.1.length p.2) t18.1.length (t18.1.map e_where_Fix)] rfl rfl ?_
                refine c_seq ?_
                refine c_region ?_
                refine l_val rfl rfl rfl (r_lss rfl rfl) ?_
                refine l_nil ?_
                refine c_seq ?_
                refine c_if (b := (decide (x57_2 < (a0.length : Int)))) rfl (fun hb => ?_) (fun hb => ?_)
                · have H55 := cnd_t hb H54; clear H54
                  refine c_skip ?_
                  refine c_seq ?_
                  refine c_block ?_
                  refine c_seq ?_
                  refine c_region ?_
                  obtain ⟨t59, h_t59, H56⟩ := bnd_some H55; clear H55
                  refine l_val rfl rfl rfl (r_indexF Tryd.underlying22 Tryd.sizeOf33 rfl rfl f0 h_t59) ?_
                  refine l_read (fun w hF hS => run_loadGN (f := e_where_Fix) (i := x57_2) (sz := 3) (j := 0) (vs := [.int .i64 t59.Moment, .int .i64 t59.Place.Lat, .int .i64 t59.Place.Lon]) Tryd.isAgg33 Tryd.sizeOf33 rfl rfl (f0.row (hw.now hF)) h_t59 rfl) rfl rfl rfl ?_
                  refine l_alloc (cs := [.int .i64 0, .int .i64 0, .int .i64 0]) Tryd.zeroValue33 rfl rfl rfl (fun b2 => ?_)
                  refine l_store (i := 1) (vs := [.int .i64 t59.Moment, .int .i64 t59.Place.Lat, .int .i64 t59.Place.Lon]) (cs' := [.int .i64 t59.Moment, .int .i64 t59.Place.Lat, .int .i64 t59.Place.Lon]) Tryd.sizeOf33 rfl rfl rfl rfl rfl rfl rfl rfl rfl ?_
                  refine l_nil ?_
                  refine c_seq ?_
                  refine c_region ?_
                  refine l_val rfl rfl rfl (r_move (v := .slice p.1 t18.1.length p.2) rfl) ?_
                  refine l_val rfl rfl rfl (r_field Tryd.runUnderlying33 rfl Tryd.sizeOf3 rfl rfl) ?_
                  refine l_load1 (i := 1) (v := .int .i64 t59.Moment) Tryd.isAgg3 rfl rfl rfl rfl rfl ?_
                  obtain ⟨t65, h_t65, H57⟩ := bnd_some H56; clear H56
                  refine l_callG (fun w hF hS => k13 (know_all w) (frs_rd (i := 0) hS rfl) h_t65) Tryd.call13 rfl rfl rfl ?_
                  refine l_val rfl rfl rfl (r_move (v := .tuple #[.agg #[.int .i64 t65.1.Lat, .int .i64 t65.1.Lon], .int .i64 t65.2]) rfl) ?_
                  refine l_val rfl rfl rfl (r_extract (v := .agg #[.int .i64 t65.1.Lat, .int .i64 t65.1.Lon]) rfl rfl) ?_
                  refine l_val rfl rfl rfl (r_extract (v := .int .i64 t65.2) rfl rfl) ?_
                  refine l_alloc (cs := [.int .i64 0, .int .i64 0]) Tryd.zeroValue29 rfl rfl rfl (fun b3 => ?_)
                  refine l_store (i := 2) (vs := [.int .i64 t65.1.Lat, .int .i64 t65.1.Lon]) (cs' := [.int .i64 t65.1.Lat, .int .i64 t65.1.Lon]) Tryd.sizeOf29 rfl rfl rfl rfl rfl rfl rfl rfl rfl ?_
                  refine l_val rfl rfl rfl (r_assign (v := .int .i64 t65.2) rfl) ?_
                  refine l_nil ?_
                  refine c_seq ?_
                  refine c_seq ?_
                  refine c_region ?_
                  refine l_val rfl rfl rfl (r_move (v := .int .i64 t65.2) rfl) ?_
                  refine l_val rfl rfl rfl (r_neq rfl rfl) ?_
                  refine l_nil ?_
                  refine c_if (b := (decide (t65.2 ≠ 0))) rfl (fun hb => ?_) (fun hb => ?_)
                  · have H58 := cnd_t hb H57; clear H57
                    refine c_seq ?_
                    refine c_region ?_
                    refine l_val rfl rfl rfl (r_assign (v := .bool false) rfl) ?_
                    refine l_nil ?_
                    refine c_ret ?_
                    obtain rfl := Option.some.inj H58
                    refine ret1 (v := .bool false) rfl rfl (fin rfl)
                  · have H59 := cnd_f hb H57; clear H57
                    refine c_skip ?_
                    refine c_seq ?_
                    refine c_region ?_
                    refine l_loadN (i := 2) (vs := [.int .i64 t65.1.Lat, .int .i64 t65.1.Lon]) Tryd.isAgg29 Tryd.sizeOf29 rfl rfl rfl rfl rfl ?_
                    refine l_val rfl rfl rfl (r_field Tryd.runUnderlying33 rfl Tryd.sizeOf29 rfl rfl) ?_
                    refine l_loadN (i := 1) (vs := [.int .i64 t59.Place.Lat, .int .i64 t59.Place.Lon]) Tryd.isAgg29 Tryd.sizeOf29 rfl rfl rfl rfl rfl ?_
                    obtain ⟨t74, h_t74, H60⟩ := bnd_some H59; clear H59
                    refine l_call (k11 h_t74) Tryd.call11 rfl rfl rfl ?_
                    refine l_val rfl rfl rfl (r_move (v := .tuple #[.int .i64 t74.1, .int .i64 t74.2]) rfl) ?_
                    refine l_val rfl rfl rfl (r_extract (v := .int .i64 t74.1) rfl rfl) ?_
                    refine l_val rfl rfl rfl (r_extract (v := .int .i64 t74.2) rfl rfl) ?_
                    refine l_val rfl rfl rfl (r_assign (v := .int .i64 t74.1) rfl) ?_
                    refine l_val rfl rfl rfl (r_assign (v := .int .i64 t74.2) rfl) ?_
                    refine l_nil ?_
                    refine c_seq ?_
                    refine c_region ?_
                    refine l_val rfl rfl rfl (r_move (v := .int .i64 t74.2) rfl) ?_
                    refine l_val rfl rfl rfl (r_neq rfl rfl) ?_
                    refine l_val rfl rfl rfl (r_move (v := .bool (decide (t74.2 ≠ 0))) rfl) ?_
                    refine split (fun hb => ?_) (fun hb => ?_)
                    · have H61 := cnd_t hb H60; clear H60
                      refine l_passed rfl rfl rfl ?_
                      refine l_passed rfl rfl rfl ?_
                      refine l_passed rfl rfl rfl ?_
                      refine l_val rfl rfl rfl (r_pickT (v := .bool true) rfl rfl) ?_
                      refine l_nil ?_
                      refine c_true rfl ?_
                      refine c_seq ?_
                      refine c_region ?_
                      refine l_val rfl rfl rfl (r_assign (v := .bool false) rfl) ?_
                      refine l_nil ?_
                      refine c_ret ?_
                      obtain rfl := Option.some.inj H61
                      refine ret1 (v := .bool false) rfl rfl (fin rfl)
                    · have H62 := cnd_f hb H60; clear H60
                      refine l_val rfl rfl rfl (r_move (v := .int .i64 t74.1) rfl) ?_
                      refine l_val rfl rfl rfl (r_move (v := .int .i64 a1) rfl) ?_
                      refine l_val rfl rfl rfl (r_gtr rfl rfl) ?_
                      refine l_val rfl rfl rfl (r_pickF (v := .bool (decide (a1 < t74.1))) rfl rfl) ?_
                      refine l_nil ?_
                      refine c_if (b := (decide (a1 < t74.1))) rfl (fun hb => ?_) (fun hb => ?_)
                      · have H63 := cnd_t hb H62; clear H62
                        refine c_seq ?_
                        refine c_region ?_
                        refine l_val rfl rfl rfl (r_assign (v := .bool false) rfl) ?_
                        refine l_nil ?_
                        refine c_ret ?_
                        obtain rfl := Option.some.inj H63
                        refine ret1 (v := .bool false) rfl rfl (fin rfl)
                      · have H64 := cnd_f hb H62; clear H62
                        refine c_skip ?_
                        refine c_region ?_
                        obtain ⟨t84, h_t84, H65⟩ := bnd_some H64; clear H64
                        refine l_val rfl rfl rfl (r_addG rfl rfl h_t84) ?_
                        refine l_val rfl rfl rfl (r_move (v := .int .i64 t84) rfl) ?_
                        refine l_nil ?_
                        refine c_close t84 () m1 [0] (by exact ⟨rfl, rfl, rfl, rfl, rfl, trivial⟩) (by decide) rfl (by exact ⟨(by subst hn1; exact H65), trivial⟩) (Nat.lt_succ_self _)
                · have H66 := cnd_f hb H54; clear H54
                  refine c_exit ?_
                  refine c_seq ?_
                  refine c_region ?_
                  refine l_val rfl rfl rfl (r_assign (v := .bool true) rfl) ?_
                  refine l_nil ?_
                  refine c_ret ?_
                  obtain rfl := Option.some.inj H66
                  refine ret1 (v := .bool true) rfl rfl (fin rfl)
          ) (by kernel_rfl)
end Go.Proofs.YtcfckcchalpkdaaDoor
