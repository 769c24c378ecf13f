/- WhereCoversAll: the walks, printed by our generator; each follows its model. Conditions: the model yields a value. -/
import Derived.Test.YtfgehlmdcllclabDoorKCha
namespace Go.Proofs.YtfgehlmdcllclabDoor
open Go Go.Vc Go.Md Go.M Go.Lx
set_option maxRecDepth 100000
set_option maxHeartbeats 4000000
set_option linter.unusedVariables false

theorem k13 {a0 : T_where_Box} {r : Int} (H : where_CheckBox a0 = some r) : Ret Tryd.prog 13 [.agg #[.int .i64 a0.South, .int .i64 a0.West, .int .i64 a0.North, .int .i64 a0.East]] (.int .i64 r) := by
  refine enterRet (n := 32) Tryd.func13 rfl rfl rfl (fun wd => ?_)
  refine c_seq ?_
  refine c_region ?_
  refine l_box (cs := [.int .i64 a0.South, .int .i64 a0.West, .int .i64 a0.North, .int .i64 a0.East]) rfl rfl rfl rfl (fun b1 => ?_)
  refine l_val rfl rfl rfl (r_assign (v := .int .i64 0) rfl) ?_
  refine l_nil ?_
  refine c_seq ?_
  refine c_block ?_
  refine c_seq ?_
  refine c_region ?_
  refine l_val rfl rfl rfl (r_field Tryd.runUnderlying23 rfl Tryd.sizeOf3 rfl rfl) ?_
  refine l_load1 (i := 0) (v := .int .i64 a0.South) Tryd.isAgg3 rfl rfl rfl rfl rfl ?_
  obtain ⟨t6, h_t6, H15⟩ := bnd_some H; clear H
  refine l_call (k26 h_t6) Tryd.call26 rfl rfl rfl ?_
  refine l_val rfl rfl rfl (r_not rfl) ?_
  refine l_val rfl rfl rfl (r_move (v := .bool (!t6)) rfl) ?_
  refine split (fun hb => ?_) (fun hb => ?_)
  · have H16 := cnd_t hb H15; clear H15
    refine l_passed rfl rfl rfl ?_
    refine l_passed rfl rfl rfl ?_
    refine l_passed rfl rfl rfl ?_
    refine l_passed rfl rfl rfl ?_
    refine l_val rfl rfl rfl (r_pickT (v := .bool true) rfl rfl) ?_
    refine l_val rfl rfl rfl (r_move (v := .bool true) rfl) ?_
    refine l_passed rfl rfl rfl ?_
    refine l_passed rfl rfl rfl ?_
    refine l_passed rfl rfl rfl ?_
    refine l_passed rfl rfl rfl ?_
    refine l_val rfl rfl rfl (r_pickT (v := .bool true) rfl rfl) ?_
    refine l_val rfl rfl rfl (r_move (v := .bool true) rfl) ?_
    refine l_passed rfl rfl rfl ?_
    refine l_passed rfl rfl rfl ?_
    refine l_passed rfl rfl rfl ?_
    refine l_passed rfl rfl rfl ?_
    refine l_val rfl rfl rfl (r_pickT (v := .bool true) rfl rfl) ?_
    refine l_val rfl rfl rfl (r_assign (v := .bool true) rfl) ?_
    refine l_nil ?_
    refine c_true rfl ?_
    refine c_seq ?_
    refine c_region ?_
    refine l_val rfl rfl rfl (r_assign (v := .int .i64 2) rfl) ?_
    refine l_nil ?_
    refine c_ret ?_
    obtain rfl := Option.some.inj H16
    refine ret1 (v := .int .i64 2) rfl rfl (fin rfl)
  · have H17 := cnd_f hb H15; clear H15
    refine l_val rfl rfl rfl (r_field Tryd.runUnderlying23 rfl Tryd.sizeOf3 rfl rfl) ?_
    refine l_load1 (i := 0) (v := .int .i64 a0.North) Tryd.isAgg3 rfl rfl rfl rfl rfl ?_
    obtain ⟨t11, h_t11, H18⟩ := bnd_some H17; clear H17
    refine l_call (k26 h_t11) Tryd.call26 rfl rfl rfl ?_
    refine l_val rfl rfl rfl (r_not rfl) ?_
    refine l_val rfl rfl rfl (r_pickF (v := .bool (!t11)) rfl rfl) ?_
    refine l_val rfl rfl rfl (r_move (v := .bool (!t11)) rfl) ?_
    refine split (fun hb => ?_) (fun hb => ?_)
    · have H19 := cnd_t hb H18; clear H18
      refine l_passed rfl rfl rfl ?_
      refine l_passed rfl rfl rfl ?_
      refine l_passed rfl rfl rfl ?_
      refine l_passed rfl rfl rfl ?_
      refine l_val rfl rfl rfl (r_pickT (v := .bool true) rfl rfl) ?_
      refine l_val rfl rfl rfl (r_move (v := .bool true) rfl) ?_
      refine l_passed rfl rfl rfl ?_
      refine l_passed rfl rfl rfl ?_
      refine l_passed rfl rfl rfl ?_
      refine l_passed rfl rfl rfl ?_
      refine l_val rfl rfl rfl (r_pickT (v := .bool true) rfl rfl) ?_
      refine l_val rfl rfl rfl (r_assign (v := .bool true) rfl) ?_
      refine l_nil ?_
      refine c_true rfl ?_
      refine c_seq ?_
      refine c_region ?_
      refine l_val rfl rfl rfl (r_assign (v := .int .i64 2) rfl) ?_
      refine l_nil ?_
      refine c_ret ?_
      obtain rfl := Option.some.inj H19
      refine ret1 (v := .int .i64 2) rfl rfl (fin rfl)
    · have H20 := cnd_f hb H18; clear H18
      refine l_val rfl rfl rfl (r_field Tryd.runUnderlying23 rfl Tryd.sizeOf3 rfl rfl) ?_
      refine l_load1 (i := 0) (v := .int .i64 a0.West) Tryd.isAgg3 rfl rfl rfl rfl rfl ?_
      obtain ⟨t17, h_t17, H21⟩ := bnd_some H20; clear H20
      refine l_call (k27 h_t17) Tryd.call27 rfl rfl rfl ?_
      refine l_val rfl rfl rfl (r_not rfl) ?_
      refine l_val rfl rfl rfl (r_pickF (v := .bool (!t17)) rfl rfl) ?_
      refine l_val rfl rfl rfl (r_move (v := .bool (!t17)) rfl) ?_
      refine split (fun hb => ?_) (fun hb => ?_)
      · have H22 := cnd_t hb H21; clear H21
        refine l_passed rfl rfl rfl ?_
        refine l_passed rfl rfl rfl ?_
        refine l_passed rfl rfl rfl ?_
        refine l_passed rfl rfl rfl ?_
        refine l_val rfl rfl rfl (r_pickT (v := .bool true) rfl rfl) ?_
        refine l_val rfl rfl rfl (r_assign (v := .bool true) rfl) ?_
        refine l_nil ?_
        refine c_true rfl ?_
        refine c_seq ?_
        refine c_region ?_
        refine l_val rfl rfl rfl (r_assign (v := .int .i64 2) rfl) ?_
        refine l_nil ?_
        refine c_ret ?_
        obtain rfl := Option.some.inj H22
        refine ret1 (v := .int .i64 2) rfl rfl (fin rfl)
      · have H23 := cnd_f hb H21; clear H21
        refine l_val rfl rfl rfl (r_field Tryd.runUnderlying23 rfl Tryd.sizeOf3 rfl rfl) ?_
        refine l_load1 (i := 0) (v := .int .i64 a0.East) Tryd.isAgg3 rfl rfl rfl rfl rfl ?_
        obtain ⟨t23, h_t23, H24⟩ := bnd_some H23; clear H23
        refine l_call (k27 h_t23) Tryd.call27 rfl rfl rfl ?_
        refine l_val rfl rfl rfl (r_not rfl) ?_
        refine l_val rfl rfl rfl (r_pickF (v := .bool (!t23)) rfl rfl) ?_
        refine l_val rfl rfl rfl (r_assign (v := .bool (!t23)) rfl) ?_
        refine l_nil ?_
        refine c_if (b := (!t23)) rfl (fun hb => ?_) (fun hb => ?_)
        · have H25 := cnd_t hb H24; clear H24
          refine c_seq ?_
          refine c_region ?_
          refine l_val rfl rfl rfl (r_assign (v := .int .i64 2) rfl) ?_
          refine l_nil ?_
          refine c_ret ?_
          obtain rfl := Option.some.inj H25
          refine ret1 (v := .int .i64 2) rfl rfl (fin rfl)
        · have H26 := cnd_f hb H24; clear H24
          refine c_seq ?_
          refine c_region ?_
          refine l_val rfl rfl rfl (r_field Tryd.runUnderlying23 rfl Tryd.sizeOf3 rfl rfl) ?_
          refine l_load1 (i := 0) (v := .int .i64 a0.North) Tryd.isAgg3 rfl rfl rfl rfl rfl ?_
          refine l_val rfl rfl rfl (r_field Tryd.runUnderlying23 rfl Tryd.sizeOf3 rfl rfl) ?_
          refine l_load1 (i := 0) (v := .int .i64 a0.South) Tryd.isAgg3 rfl rfl rfl rfl rfl ?_
          refine l_val rfl rfl rfl (r_lss rfl rfl) ?_
          refine l_val rfl rfl rfl (r_assign (v := .bool (decide (a0.North < a0.South))) rfl) ?_
          refine l_nil ?_
          refine c_if (b := (decide (a0.North < a0.South))) rfl (fun hb => ?_) (fun hb => ?_)
          · have H27 := cnd_t hb H26; clear H26
            refine c_seq ?_
            refine c_region ?_
            refine l_val rfl rfl rfl (r_assign (v := .int .i64 5) rfl) ?_
            refine l_nil ?_
            refine c_ret ?_
            obtain rfl := Option.some.inj H27
            refine ret1 (v := .int .i64 5) rfl rfl (fin rfl)
          · have H28 := cnd_f hb H26; clear H26
            refine c_skip ?_
            refine c_seq ?_
            refine c_region ?_
            refine l_val rfl rfl rfl (r_assign (v := .int .i64 0) rfl) ?_
            refine l_nil ?_
            refine c_ret ?_
            obtain rfl := Option.some.inj H28
            refine ret1 (v := .int .i64 0) rfl rfl (fin rfl)
theorem k19 {a0 : T_where_Box} {a1 : Int} {r : T_where_Box} (H : where_Box_quarter a0 a1 = some r) : Ret Tryd.prog 19 [.agg #[.int .i64 a0.South, .int .i64 a0.West, .int .i64 a0.North, .int .i64 a0.East], .int .i64 a1] (.agg #[.int .i64 r.South, .int .i64 r.West, .int .i64 r.North, .int .i64 r.East]) := by
  refine enterRet (n := 43) Tryd.func19 rfl rfl rfl (fun wd => ?_)
  refine c_seq ?_
  refine c_region ?_
  refine l_box (cs := [.int .i64 a0.South, .int .i64 a0.West, .int .i64 a0.North, .int .i64 a0.East]) rfl rfl rfl rfl (fun b2 => ?_)
  refine l_alloc (cs := [.int .i64 0, .int .i64 0, .int .i64 0, .int .i64 0]) Tryd.zeroValue23 rfl rfl rfl (fun b3 => ?_)
  refine l_nil ?_
  refine c_seq ?_
  exact c_regionD (Kd.p :: Kd.d [0] _ :: Kd.p :: Kd.d [0] _ :: Kd.p :: Kd.d [0] _ :: Kd.p :: Kd.p :: Kd.p :: Kd.p :: Kd.p :: Kd.d [0] _ :: Kd.p :: Kd.d [0] _ :: Kd.p :: Kd.d [0] _ :: Kd.p :: Kd.p :: Kd.p :: Kd.p :: Kd.p :: Kd.p :: []) 0 mixed (by
    refine d_val rfl rfl (r_field Tryd.runUnderlying23 rfl Tryd.sizeOf3 rfl rfl) ?_
    refine d_load1 (i := 0) (v := .int .i64 a0.South) Tryd.isAgg3 rfl rfl rfl rfl ?_
    refine d_val rfl rfl (r_field Tryd.runUnderlying23 rfl Tryd.sizeOf3 rfl rfl) ?_
    refine d_load1 (i := 0) (v := .int .i64 a0.North) Tryd.isAgg3 rfl rfl rfl rfl ?_
    refine d_val rfl rfl (r_field Tryd.runUnderlying23 rfl Tryd.sizeOf3 rfl rfl) ?_
    refine d_load1 (i := 0) (v := .int .i64 a0.South) Tryd.isAgg3 rfl rfl rfl rfl ?_
    have h_t13 := bnd_val H
    have H18 := bnd_rest H
    refine d_val rfl rfl (r_subG rfl rfl h_t13) ?_
    have h_t14 := bnd_val H18
    have H19 := bnd_rest H18
    refine d_val rfl rfl (r_addG rfl rfl h_t14) ?_
    have h_t15 := bnd_val H19
    have H20 := bnd_rest H19
    refine d_val rfl rfl (r_quoG rfl rfl h_t15) ?_
    have h_t16 := bnd_val H20
    have H21 := bnd_rest H20
    refine d_val rfl rfl (r_addG rfl rfl h_t16) ?_
    refine d_val rfl rfl (r_field Tryd.runUnderlying23 rfl Tryd.sizeOf3 rfl rfl) ?_
    refine d_load1 (i := 0) (v := .int .i64 a0.West) Tryd.isAgg3 rfl rfl rfl rfl ?_
    refine d_val rfl rfl (r_field Tryd.runUnderlying23 rfl Tryd.sizeOf3 rfl rfl) ?_
    refine d_load1 (i := 0) (v := .int .i64 a0.East) Tryd.isAgg3 rfl rfl rfl rfl ?_
    refine d_val rfl rfl (r_field Tryd.runUnderlying23 rfl Tryd.sizeOf3 rfl rfl) ?_
    refine d_load1 (i := 0) (v := .int .i64 a0.West) Tryd.isAgg3 rfl rfl rfl rfl ?_
    have h_t23 := bnd_val H21
    have H22 := bnd_rest H21
    refine d_val rfl rfl (r_subG rfl rfl h_t23) ?_
    have h_t24 := bnd_val H22
    have H23 := bnd_rest H22
    refine d_val rfl rfl (r_addG rfl rfl h_t24) ?_
    have h_t25 := bnd_val H23
    have H24 := bnd_rest H23
    refine d_val rfl rfl (r_quoG rfl rfl h_t25) ?_
    have h_t26 := bnd_val H24
    have H25 := bnd_rest H24
    refine d_val rfl rfl (r_addG rfl rfl h_t26) ?_
    refine d_val rfl rfl (r_assign (v := .int .i64 (val (gI (a0.South + (val (gQuo (val (gI ((val (gI (a0.North - a0.South))) + 1))) 2)))))) rfl) ?_
    refine d_val rfl rfl (r_assign (v := .int .i64 (val (gI (a0.West + (val (gQuo (val (gI ((val (gI (a0.East - a0.West))) + 1))) 2)))))) rfl) ?_
    refine d_nil ?_
    refine c_meet (r := r) (σ := Int × Int) (τ := Unit) (fun s => where_Box_quarter_j1 a0 a1 (val (gI (a0.West + (val (gQuo (val (gI ((val (gI (a0.East - a0.West))) + 1))) 2))))) s.1 s.2) (fun s t => [(1, .int .i64 a1), (2, .pointer (some ⟨b2, 0, none⟩)), (4, .pointer (some ⟨b3, 0, none⟩)), (6, .int .i64 (val (gI (a0.West + (val (gQuo (val (gI ((val (gI (a0.East - a0.West))) + 1))) 2))))))]) (fun s t => [cellsC b2 [.int .i64 s.1, .int .i64 a0.West, .int .i64 s.2, .int .i64 a0.East] 23, cellsC b3 [.int .i64 0, .int .i64 0, .int .i64 0, .int .i64 0] 23]) (fun s t => True) ?_ ?_
    · refine c_seq ?_
      refine c_region ?_
      refine l_val rfl rfl rfl (r_move (v := .int .i64 a1) rfl) ?_
      refine l_val rfl rfl rfl (r_geq rfl rfl) ?_
      refine l_nil ?_
      refine c_if (b := (decide (2 ≤ a1))) rfl (fun hb => ?_) (fun hb => ?_)
      · have H32 := cnd_t hb H25; clear H25
        refine c_region ?_
        refine l_val rfl rfl rfl (r_move (v := .int .i64 (val (gI (a0.South + (val (gQuo (val (gI ((val (gI (a0.North - a0.South))) + 1))) 2)))))) rfl) ?_
        refine l_val rfl rfl rfl (r_field Tryd.runUnderlying23 rfl Tryd.sizeOf3 rfl rfl) ?_
        refine l_store (i := 0) (vs := [.int .i64 (val (gI (a0.South + (val (gQuo (val (gI ((val (gI (a0.North - a0.South))) + 1))) 2)))))]) (cs' := [.int .i64 (val (gI (a0.South + (val (gQuo (val (gI ((val (gI (a0.North - a0.South))) + 1))) 2))))), .int .i64 a0.West, .int .i64 a0.North, .int .i64 a0.East]) Tryd.sizeOf3 rfl rfl rfl rfl rfl rfl rfl rfl rfl ?_
        refine l_nil ?_
        refine c_close ((val (gI (a0.South + (val (gQuo (val (gI ((val (gI (a0.North - a0.South))) + 1))) 2))))), a0.North) () 0 [0, 1] (by exact ⟨rfl, rfl, rfl, rfl, trivial⟩) (by decide) rfl (by exact ⟨H32, trivial⟩) (Nat.lt_succ_self _)
      · have H33 := cnd_f hb H25; clear H25
        refine c_region ?_
        refine l_val rfl rfl rfl (r_move (v := .int .i64 (val (gI (a0.South + (val (gQuo (val (gI ((val (gI (a0.North - a0.South))) + 1))) 2)))))) rfl) ?_
        obtain ⟨t32, h_t32, H34⟩ := bnd_some H33; clear H33
        refine l_val rfl rfl rfl (r_subG rfl rfl h_t32) ?_
        refine l_val rfl rfl rfl (r_field Tryd.runUnderlying23 rfl Tryd.sizeOf3 rfl rfl) ?_
        refine l_store (i := 0) (vs := [.int .i64 t32]) (cs' := [.int .i64 a0.South, .int .i64 a0.West, .int .i64 t32, .int .i64 a0.East]) Tryd.sizeOf3 rfl rfl rfl rfl rfl rfl rfl rfl rfl ?_
        refine l_nil ?_
        refine c_close (a0.South, t32) () 0 [0, 1] (by exact ⟨rfl, rfl, rfl, rfl, trivial⟩) (by decide) rfl (by exact ⟨H34, trivial⟩) (Nat.lt_succ_self _)
    · rintro ⟨m, m_2⟩ _ gg H26 _
      replace H26 : where_Box_quarter_j1 a0 a1 (val (gI (a0.West + (val (gQuo (val (gI ((val (gI (a0.East - a0.West))) + 1))) 2))))) m m_2 = some r := H26
      refine c_tidyF [(1, .int .i64 a1), (2, .pointer (some ⟨b2, 0, none⟩)), (4, .pointer (some ⟨b3, 0, none⟩)), (6, .int .i64 (val (gI (a0.West + (val (gQuo (val (gI ((val (gI (a0.East - a0.West))) + 1))) 2))))))] [cellsC b2 [.int .i64 m, .int .i64 a0.West, .int .i64 m_2, .int .i64 a0.East] 23, cellsC b3 [.int .i64 0, .int .i64 0, .int .i64 0, .int .i64 0] 23] rfl rfl ?_
      refine c_meet (r := r) (σ := Int × Int) (τ := Unit) (fun s => where_Box_quarter_j2 m m_2 s.1 s.2) (fun s t => [(2, .pointer (some ⟨b2, 0, none⟩)), (4, .pointer (some ⟨b3, 0, none⟩))]) (fun s t => [cellsC b2 [.int .i64 m, .int .i64 s.1, .int .i64 m_2, .int .i64 s.2] 23, cellsC b3 [.int .i64 0, .int .i64 0, .int .i64 0, .int .i64 0] 23]) (fun s t => True) ?_ ?_
      · refine c_seq ?_
        refine c_region ?_
        refine l_val rfl rfl rfl (r_move (v := .int .i64 a1) rfl) ?_
        obtain ⟨t35, h_t35, H28⟩ := bnd_some H26; clear H26
        refine l_val rfl rfl rfl (r_remG rfl rfl h_t35) ?_
        refine l_val rfl rfl rfl (r_eql rfl rfl) ?_
        refine l_nil ?_
        refine c_if (b := (decide (t35 = 1))) rfl (fun hb => ?_) (fun hb => ?_)
        · have H29 := cnd_t hb H28; clear H28
          refine c_region ?_
          refine l_val rfl rfl rfl (r_move (v := .int .i64 (val (gI (a0.West + (val (gQuo (val (gI ((val (gI (a0.East - a0.West))) + 1))) 2)))))) rfl) ?_
          refine l_val rfl rfl rfl (r_field Tryd.runUnderlying23 rfl Tryd.sizeOf3 rfl rfl) ?_
          refine l_store (i := 0) (vs := [.int .i64 (val (gI (a0.West + (val (gQuo (val (gI ((val (gI (a0.East - a0.West))) + 1))) 2)))))]) (cs' := [.int .i64 m, .int .i64 (val (gI (a0.West + (val (gQuo (val (gI ((val (gI (a0.East - a0.West))) + 1))) 2))))), .int .i64 m_2, .int .i64 a0.East]) Tryd.sizeOf3 rfl rfl rfl rfl rfl rfl rfl rfl rfl ?_
          refine l_nil ?_
          refine c_close ((val (gI (a0.West + (val (gQuo (val (gI ((val (gI (a0.East - a0.West))) + 1))) 2))))), a0.East) () 0 [0, 1] (by exact ⟨rfl, rfl, trivial⟩) (by decide) rfl (by exact ⟨H29, trivial⟩) (Nat.lt_succ_self _)
        · have H30 := cnd_f hb H28; clear H28
          refine c_region ?_
          refine l_val rfl rfl rfl (r_move (v := .int .i64 (val (gI (a0.West + (val (gQuo (val (gI ((val (gI (a0.East - a0.West))) + 1))) 2)))))) rfl) ?_
          obtain ⟨t40, h_t40, H31⟩ := bnd_some H30; clear H30
          refine l_val rfl rfl rfl (r_subG rfl rfl h_t40) ?_
          refine l_val rfl rfl rfl (r_field Tryd.runUnderlying23 rfl Tryd.sizeOf3 rfl rfl) ?_
          refine l_store (i := 0) (vs := [.int .i64 t40]) (cs' := [.int .i64 m, .int .i64 a0.West, .int .i64 m_2, .int .i64 t40]) Tryd.sizeOf3 rfl rfl rfl rfl rfl rfl rfl rfl rfl ?_
          refine l_nil ?_
          refine c_close (a0.West, t40) () 0 [0, 1] (by exact ⟨rfl, rfl, trivial⟩) (by decide) rfl (by exact ⟨H31, trivial⟩) (Nat.lt_succ_self _)
      · rintro ⟨m_3, m_4⟩ _ gg H27 _
        replace H27 : where_Box_quarter_j2 m m_2 m_3 m_4 = some r := H27
        refine c_tidyF [(2, .pointer (some ⟨b2, 0, none⟩)), (4, .pointer (some ⟨b3, 0, none⟩))] [cellsC b2 [.int .i64 m, .int .i64 m_3, .int .i64 m_2, .int .i64 m_4] 23, cellsC b3 [.int .i64 0, .int .i64 0, .int .i64 0, .int .i64 0] 23] rfl rfl ?_
        refine c_seq ?_
        refine c_region ?_
        refine l_loadN (i := 0) (vs := [.int .i64 m, .int .i64 m_3, .int .i64 m_2, .int .i64 m_4]) Tryd.isAgg23 Tryd.sizeOf23 rfl rfl rfl rfl rfl ?_
        refine l_store (i := 1) (vs := [.int .i64 m, .int .i64 m_3, .int .i64 m_2, .int .i64 m_4]) (cs' := [.int .i64 m, .int .i64 m_3, .int .i64 m_2, .int .i64 m_4]) Tryd.sizeOf23 rfl rfl rfl rfl rfl rfl rfl rfl rfl ?_
        refine l_nil ?_
        refine c_ret ?_
        obtain rfl := Option.some.inj H27
        refine retC (i := 1) (vs := [.int .i64 m, .int .i64 m_3, .int .i64 m_2, .int .i64 m_4]) Tryd.isAgg23 Tryd.sizeOf23 rfl rfl rfl rfl (fin rfl)
    ) (by kernel_rfl)
theorem k29 {a0 : Int} {a1 : Int} {r : Int} (H : where_eastward a0 a1 = some r) : Ret Tryd.prog 29 [.int .i64 a0, .int .i64 a1] (.int .i64 r) := by
  refine enterRet (n := 11) Tryd.func29 rfl rfl rfl (fun wd => ?_)
  refine c_seq ?_
  refine c_region ?_
  refine l_val rfl rfl rfl (r_assign (v := .int .i64 0) rfl) ?_
  refine l_nil ?_
  refine c_seq ?_
  refine c_region ?_
  refine l_val rfl rfl rfl (r_move (v := .int .i64 a1) rfl) ?_
  refine l_val rfl rfl rfl (r_move (v := .int .i64 a0) rfl) ?_
  obtain ⟨t7, h_t7, H5⟩ := bnd_some H; clear H
  refine l_val rfl rfl rfl (r_subG rfl rfl h_t7) ?_
  obtain ⟨t8, h_t8, H6⟩ := bnd_some H5; clear H5
  refine l_val rfl rfl rfl (r_remG rfl rfl h_t8) ?_
  obtain ⟨t9, h_t9, H7⟩ := bnd_some H6; clear H6
  refine l_val rfl rfl rfl (r_addG rfl rfl h_t9) ?_
  obtain ⟨t10, h_t10, H8⟩ := bnd_some H7; clear H7
  refine l_val rfl rfl rfl (r_remG rfl rfl h_t10) ?_
  refine l_val rfl rfl rfl (r_assign (v := .int .i64 t10) rfl) ?_
  refine l_nil ?_
  refine c_ret ?_
  obtain rfl := Option.some.inj H8
  refine ret1 (v := .int .i64 t10) rfl rfl (fin rfl)
theorem k22 {a0 : T_where_Box} {a1 : Int} {r : Bool} (H : where_Box_spans a0 a1 = some r) : Ret Tryd.prog 22 [.agg #[.int .i64 a0.South, .int .i64 a0.West, .int .i64 a0.North, .int .i64 a0.East], .int .i64 a1] (.bool r) := by
  refine enterRet (n := 15) Tryd.func22 rfl rfl rfl (fun wd => ?_)
  refine c_seq ?_
  refine c_region ?_
  refine l_box (cs := [.int .i64 a0.South, .int .i64 a0.West, .int .i64 a0.North, .int .i64 a0.East]) rfl rfl rfl rfl (fun b1 => ?_)
  refine l_val rfl rfl rfl (r_assign (v := .bool false) rfl) ?_
  refine l_nil ?_
  refine c_seq ?_
  exact c_regionD (Kd.p :: Kd.d [0] _ :: Kd.p :: Kd.d [] _ :: Kd.p :: Kd.d [0] _ :: Kd.p :: Kd.d [0] _ :: Kd.d [] _ :: Kd.p :: Kd.p :: []) 0 mixed (by
    refine d_val rfl rfl (r_field Tryd.runUnderlying23 rfl Tryd.sizeOf3 rfl rfl) ?_
    refine d_load1 (i := 0) (v := .int .i64 a0.West) Tryd.isAgg3 rfl rfl rfl rfl ?_
    refine d_val rfl rfl (r_move (v := .int .i64 a1) rfl) ?_
    have h_t8 := bnd_val H
    have H3 := bnd_rest H
    refine d_call (k29 h_t8) Tryd.call29 rfl rfl ?_
    refine d_val rfl rfl (r_field Tryd.runUnderlying23 rfl Tryd.sizeOf3 rfl rfl) ?_
    refine d_load1 (i := 0) (v := .int .i64 a0.West) Tryd.isAgg3 rfl rfl rfl rfl ?_
    refine d_val rfl rfl (r_field Tryd.runUnderlying23 rfl Tryd.sizeOf3 rfl rfl) ?_
    refine d_load1 (i := 0) (v := .int .i64 a0.East) Tryd.isAgg3 rfl rfl rfl rfl ?_
    have h_t13 := bnd_val H3
    have H4 := bnd_rest H3
    refine d_call (k29 h_t13) Tryd.call29 rfl rfl ?_
    refine d_val rfl rfl (r_leq rfl rfl) ?_
    refine d_val rfl rfl (r_assign (v := .bool (decide ((val (where_eastward a0.West a1)) ≤ (val (where_eastward a0.West a0.East))))) rfl) ?_
    refine d_nil ?_
    refine c_ret ?_
    obtain rfl := Option.some.inj H4
    refine ret1 (v := .bool (decide ((val (where_eastward a0.West a1)) ≤ (val (where_eastward a0.West a0.East))))) rfl rfl (fin rfl)
    ) (by kernel_rfl)
theorem k20 {a0 : T_where_Box} {a1 : T_where_Box} {r : Bool} (H : where_meets a0 a1 = some r) : Ret Tryd.prog 20 [.agg #[.int .i64 a0.South, .int .i64 a0.West, .int .i64 a0.North, .int .i64 a0.East], .agg #[.int .i64 a1.South, .int .i64 a1.West, .int .i64 a1.North, .int .i64 a1.East]] (.bool r) := by
  refine enterRet (n := 29) Tryd.func20 rfl rfl rfl (fun wd => ?_)
  refine c_seq ?_
  refine c_region ?_
  refine l_box (cs := [.int .i64 a0.South, .int .i64 a0.West, .int .i64 a0.North, .int .i64 a0.East]) rfl rfl rfl rfl (fun b2 => ?_)
  refine l_box (cs := [.int .i64 a1.South, .int .i64 a1.West, .int .i64 a1.North, .int .i64 a1.East]) rfl rfl rfl rfl (fun b3 => ?_)
  refine l_val rfl rfl rfl (r_assign (v := .bool false) rfl) ?_
  refine l_nil ?_
  refine c_seq ?_
  refine c_region ?_
  refine l_val rfl rfl rfl (r_field Tryd.runUnderlying23 rfl Tryd.sizeOf3 rfl rfl) ?_
  refine l_load1 (i := 0) (v := .int .i64 a0.South) Tryd.isAgg3 rfl rfl rfl rfl rfl ?_
  refine l_val rfl rfl rfl (r_field Tryd.runUnderlying23 rfl Tryd.sizeOf3 rfl rfl) ?_
  refine l_load1 (i := 1) (v := .int .i64 a1.North) Tryd.isAgg3 rfl rfl rfl rfl rfl ?_
  refine l_val rfl rfl rfl (r_leq rfl rfl) ?_
  refine l_val rfl rfl rfl (r_move (v := .bool (decide (a0.South ≤ a1.North))) rfl) ?_
  refine split (fun hb => ?_) (fun hb => ?_)
  · have H9 := cnd_t hb H; clear H
    refine l_val rfl rfl rfl (r_field Tryd.runUnderlying23 rfl Tryd.sizeOf3 rfl rfl) ?_
    refine l_load1 (i := 1) (v := .int .i64 a1.South) Tryd.isAgg3 rfl rfl rfl rfl rfl ?_
    refine l_val rfl rfl rfl (r_field Tryd.runUnderlying23 rfl Tryd.sizeOf3 rfl rfl) ?_
    refine l_load1 (i := 0) (v := .int .i64 a0.North) Tryd.isAgg3 rfl rfl rfl rfl rfl ?_
    refine l_val rfl rfl rfl (r_leq rfl rfl) ?_
    refine l_val rfl rfl rfl (r_pickT (v := .bool (decide (a1.South ≤ a0.North))) rfl rfl) ?_
    refine l_val rfl rfl rfl (r_move (v := .bool (decide (a1.South ≤ a0.North))) rfl) ?_
    refine split (fun hb => ?_) (fun hb => ?_)
    · have H10 := cnd_t hb H9; clear H9
      refine l_loadN (i := 0) (vs := [.int .i64 a0.South, .int .i64 a0.West, .int .i64 a0.North, .int .i64 a0.East]) Tryd.isAgg23 Tryd.sizeOf23 rfl rfl rfl rfl rfl ?_
      refine l_val rfl rfl rfl (r_field Tryd.runUnderlying23 rfl Tryd.sizeOf3 rfl rfl) ?_
      refine l_load1 (i := 1) (v := .int .i64 a1.West) Tryd.isAgg3 rfl rfl rfl rfl rfl ?_
      obtain ⟨t21, h_t21, H11⟩ := bnd_some H10; clear H10
      refine l_call (k22 h_t21) Tryd.call22 rfl rfl rfl ?_
      refine l_val rfl rfl rfl (r_move (v := .bool t21) rfl) ?_
      refine split (fun hb => ?_) (fun hb => ?_)
      · have H12 := cnd_t hb H11; clear H11
        refine l_passed rfl rfl rfl ?_
        refine l_passed rfl rfl rfl ?_
        refine l_passed rfl rfl rfl ?_
        refine l_passed rfl rfl rfl ?_
        refine l_val rfl rfl rfl (r_pickT (v := .bool true) rfl rfl) ?_
        refine l_val rfl rfl rfl (r_pickT (v := .bool true) rfl rfl) ?_
        refine l_val rfl rfl rfl (r_assign (v := .bool true) rfl) ?_
        refine l_nil ?_
        refine c_ret ?_
        obtain rfl := Option.some.inj H12
        refine ret1 (v := .bool true) rfl rfl (fin rfl)
      · have H13 := cnd_f hb H11; clear H11
        refine l_loadN (i := 1) (vs := [.int .i64 a1.South, .int .i64 a1.West, .int .i64 a1.North, .int .i64 a1.East]) Tryd.isAgg23 Tryd.sizeOf23 rfl rfl rfl rfl rfl ?_
        refine l_val rfl rfl rfl (r_field Tryd.runUnderlying23 rfl Tryd.sizeOf3 rfl rfl) ?_
        refine l_load1 (i := 0) (v := .int .i64 a0.West) Tryd.isAgg3 rfl rfl rfl rfl rfl ?_
        obtain ⟨t26, h_t26, H14⟩ := bnd_some H13; clear H13
        refine l_call (k22 h_t26) Tryd.call22 rfl rfl rfl ?_
        refine l_val rfl rfl rfl (r_pickF (v := .bool t26) rfl rfl) ?_
        refine l_val rfl rfl rfl (r_pickT (v := .bool t26) rfl rfl) ?_
        refine l_val rfl rfl rfl (r_assign (v := .bool t26) rfl) ?_
        refine l_nil ?_
        refine c_ret ?_
        obtain rfl := Option.some.inj H14
        refine ret1 (v := .bool t26) rfl rfl (fin rfl)
    · have H15 := cnd_f hb H9; clear H9
      refine l_passed rfl rfl rfl ?_
      refine l_passed rfl rfl rfl ?_
      refine l_passed rfl rfl rfl ?_
      refine l_passed rfl rfl rfl ?_
      refine l_passed rfl rfl rfl ?_
      refine l_passed rfl rfl rfl ?_
      refine l_passed rfl rfl rfl ?_
      refine l_passed rfl rfl rfl ?_
      refine l_passed rfl rfl rfl ?_
      refine l_passed rfl rfl rfl ?_
      refine l_val rfl rfl rfl (r_pickF (v := .bool false) rfl rfl) ?_
      refine l_val rfl rfl rfl (r_assign (v := .bool false) rfl) ?_
      refine l_nil ?_
      refine c_ret ?_
      obtain rfl := Option.some.inj H15
      refine ret1 (v := .bool false) rfl rfl (fin rfl)
  · have H16 := cnd_f hb H; clear H
    refine l_passed rfl rfl rfl ?_
    refine l_passed rfl rfl rfl ?_
    refine l_passed rfl rfl rfl ?_
    refine l_passed rfl rfl rfl ?_
    refine l_passed rfl rfl rfl ?_
    refine l_val rfl rfl rfl (r_pickF (v := .bool false) rfl rfl) ?_
    refine l_val rfl rfl rfl (r_move (v := .bool false) rfl) ?_
    refine l_passed rfl rfl rfl ?_
    refine l_passed rfl rfl rfl ?_
    refine l_passed rfl rfl rfl ?_
    refine l_passed rfl rfl rfl ?_
    refine l_passed rfl rfl rfl ?_
    refine l_passed rfl rfl rfl ?_
    refine l_passed rfl rfl rfl ?_
    refine l_passed rfl rfl rfl ?_
    refine l_passed rfl rfl rfl ?_
    refine l_passed rfl rfl rfl ?_
    refine l_val rfl rfl rfl (r_pickF (v := .bool false) rfl rfl) ?_
    refine l_val rfl rfl rfl (r_assign (v := .bool false) rfl) ?_
    refine l_nil ?_
    refine c_ret ?_
    obtain rfl := Option.some.inj H16
    refine ret1 (v := .bool false) rfl rfl (fin rfl)
theorem k15_it (mm : Nat) : ∀ {a0 : T_where_Box} {a1 : (List UInt8)} {a2 : T_where_Box} {a3 : Int} {a4 : (List (List UInt8))} {p4 : Option Addr × Nat} {n4 : Nat} {r : (List (List UInt8))} {w : World} {h : Heap} {S : Nat → Prop} (hcs : (rowV 9 1 (.slice p4.1 n4 p4.2) n4 (a4.map e_string)).P S w) (hlt : ∀ b, S b → b < w.heap.size) (hw : Know h w S) (hn4 : n4 = a4.length) (H : it (fun (self : (T_where_Box × (List UInt8) × T_where_Box × Int × (List (List UInt8))) → Option ((List (List UInt8)))) (s : T_where_Box × (List UInt8) × T_where_Box × Int × (List (List UInt8))) => where_cover_body self s.1 s.2.1 s.2.2.1 s.2.2.2.1 s.2.2.2.2) mm (a0, a1, a2, a3, a4) = some r), Does Tryd.prog 15 (List.toArray [.agg #[.int .i64 a0.South, .int .i64 a0.West, .int .i64 a0.North, .int .i64 a0.East], str a1, .agg #[.int .i64 a2.South, .int .i64 a2.West, .int .i64 a2.North, .int .i64 a2.East], .int .i64 a3, .slice p4.1 n4 p4.2]) w (fun v w' => ∃ x : (Option Addr × Nat), v = (.slice x.1 r.length x.2) ∧ Turn w w' S (rowV 9 1 (.slice x.1 r.length x.2) r.length (r.map e_string))) := by
  induction mm with
  | zero => intros; rename_i H; exact absurd H (by simp [it])
  | succ mm ih =>
    intro a0 a1 a2 a3 a4 p4 n4 r w h S hcs hlt hw hn4 H
    replace H : where_cover_body (it (fun (self : (T_where_Box × (List UInt8) × T_where_Box × Int × (List (List UInt8))) → Option ((List (List UInt8)))) (s : T_where_Box × (List UInt8) × T_where_Box × Int × (List (List UInt8))) => where_cover_body self s.1 s.2.1 s.2.2.1 s.2.2.2.1 s.2.2.2.2) mm) a0 a1 a2 a3 a4 = some r := H
    generalize it (fun (self : (T_where_Box × (List UInt8) × T_where_Box × Int × (List (List UInt8))) → Option ((List (List UInt8)))) (s : T_where_Box × (List UInt8) × T_where_Box × Int × (List (List UInt8))) => where_cover_body self s.1 s.2.1 s.2.2.1 s.2.2.2.1 s.2.2.2.2) mm = self at H ih
    refine enter (n := 48) Tryd.func15 rfl rfl rfl S [rowV 9 1 (.slice p4.1 n4 p4.2) n4 (a4.map e_string)] (Sat.one hcs hlt) ?_
    refine c_seq ?_
    refine c_region ?_
    refine l_box (cs := [.int .i64 a0.South, .int .i64 a0.West, .int .i64 a0.North, .int .i64 a0.East]) rfl rfl rfl rfl (fun b3 => ?_)
    refine l_box (cs := [.int .i64 a2.South, .int .i64 a2.West, .int .i64 a2.North, .int .i64 a2.East]) rfl rfl rfl rfl (fun b4 => ?_)
    refine l_val rfl rfl rfl (r_assign (v := .slice none 0 0) rfl) ?_
    refine l_nil ?_
    refine c_seq ?_
    refine c_seq ?_
    refine c_region ?_
    refine l_val rfl rfl rfl (r_move (v := .slice p4.1 n4 p4.2) rfl) ?_
    refine l_val rfl rfl rfl (r_lenN Tryd.underlying27 rfl hn4) ?_
    refine l_val rfl rfl rfl (r_gtr rfl rfl) ?_
    refine l_val rfl rfl rfl (r_move (v := .bool (decide (1000 < (a4.length : Int)))) rfl) ?_
    refine split (fun hb => ?_) (fun hb => ?_)
    · have H18 := cnd_t hb H; clear H
      refine l_passed rfl rfl rfl ?_
      refine l_passed rfl rfl rfl ?_
      refine l_passed rfl rfl rfl ?_
      refine l_passed rfl rfl rfl ?_
      refine l_val rfl rfl rfl (r_pickT (v := .bool true) rfl rfl) ?_
      refine l_nil ?_
      refine c_true rfl ?_
      refine c_seq ?_
      refine c_region ?_
      refine l_val rfl rfl rfl (r_move (v := .slice p4.1 n4 p4.2) rfl) ?_
      refine l_val rfl rfl rfl (r_assign (v := .slice p4.1 n4 p4.2) rfl) ?_
      refine l_nil ?_
      refine c_ret ?_
      obtain rfl := Option.some.inj H18
      refine ret1 (v := .slice p4.1 n4 p4.2) rfl rfl (finX p4 (i := 0) rfl (by first | rfl | rw [(show n4 = a4.length from hn4)]) (Imp.of (by rw [(show n4 = a4.length from hn4)])))
    · have H19 := cnd_f hb H; clear H
      refine l_loadN (i := 2) (vs := [.int .i64 a2.South, .int .i64 a2.West, .int .i64 a2.North, .int .i64 a2.East]) Tryd.isAgg23 Tryd.sizeOf23 rfl rfl rfl rfl rfl ?_
      refine l_loadN (i := 1) (vs := [.int .i64 a0.South, .int .i64 a0.West, .int .i64 a0.North, .int .i64 a0.East]) Tryd.isAgg23 Tryd.sizeOf23 rfl rfl rfl rfl rfl ?_
      obtain ⟨t18, h_t18, H20⟩ := bnd_some H19; clear H19
      refine l_call (k20 h_t18) Tryd.call20 rfl rfl rfl ?_
      refine l_val rfl rfl rfl (r_not rfl) ?_
      refine l_val rfl rfl rfl (r_pickF (v := .bool (!t18)) rfl rfl) ?_
      refine l_nil ?_
      refine c_if (b := (!t18)) rfl (fun hb => ?_) (fun hb => ?_)
      · have H21 := cnd_t hb H20; clear H20
        refine c_seq ?_
        refine c_region ?_
        refine l_val rfl rfl rfl (r_move (v := .slice p4.1 n4 p4.2) rfl) ?_
        refine l_val rfl rfl rfl (r_assign (v := .slice p4.1 n4 p4.2) rfl) ?_
        refine l_nil ?_
        refine c_ret ?_
        obtain rfl := Option.some.inj H21
        refine ret1 (v := .slice p4.1 n4 p4.2) rfl rfl (finX p4 (i := 0) rfl (by first | rfl | rw [(show n4 = a4.length from hn4)]) (Imp.of (by rw [(show n4 = a4.length from hn4)])))
      · have H22 := cnd_f hb H20; clear H20
        refine c_skip ?_
        refine c_seq ?_
        refine c_seq ?_
        refine c_region ?_
        refine l_val rfl rfl rfl (r_move (v := str a1) rfl) ?_
        refine l_val rfl rfl rfl (r_lenT Tryd.underlying9 rfl) ?_
        refine l_val rfl rfl rfl (r_move (v := .int .i64 a3) rfl) ?_
        refine l_val rfl rfl rfl (r_eql rfl rfl) ?_
        refine l_nil ?_
        refine c_if (b := (decide ((a1.length : Int) = a3))) rfl (fun hb => ?_) (fun hb => ?_)
        · have H23 := cnd_t hb H22; clear H22
          refine c_seq ?_
          refine c_region ?_
          refine l_val rfl rfl rfl (r_move (v := .slice p4.1 n4 p4.2) rfl) ?_
          refine l_val rfl rfl rfl (r_move (v := str a1) rfl) ?_
          refine l_buildSlice (vs := [str a1]) (cs := [str a1]) Tryd.underlying27 Tryd.sizeOf9 Tryd.zeroValue9 rfl rfl rfl rfl rfl rfl rfl (fun b5 => ?_)
          obtain ⟨l29, h_l29, H24⟩ := bnd_some H23; clear H23
          refine l_turn (turns_appG (i := 0) (hn := hn4) (rds := [3]) (p := p4) (sz := 1) (by_ := 16) (f := e_string) (ys := a4) (ls := ([a1] : List (List UInt8))) (V := .slice (some ⟨b5, 0, none⟩) 1 1) Tryd.underlying27 (info_of Tryd.typeInfo9) rfl rfl rfl rfl rfl rfl rfl rfl rfl rfl (fun w L' hF hS hi => row_box (i := 3) hS ((hi 3 (by simp)).trans rfl) rfl rfl) (fun _ => rfl) (fun _ => rfl) h_l29) rfl rfl rfl (fun p => ?_)
          refine l_val rfl rfl rfl (r_assign (v := .slice p.1 l29.length p.2) rfl) ?_
          refine l_nil ?_
          refine c_ret ?_
          obtain rfl := Option.some.inj H24
          refine ret1 (v := .slice p.1 l29.length p.2) rfl rfl (finX p (i := 0) rfl rfl (Imp.refl _))
        · have H25 := cnd_f hb H22; clear H22
          refine c_skip ?_
          refine c_seq ?_
          refine c_seq ?_
          refine c_region ?_
          refine l_val rfl rfl rfl (r_move (v := .int .i64 0) rfl) ?_
          refine l_nil ?_
          refine c_block ?_
          refine c_fix (σ := Int × (List (List UInt8))) (τ := (Option Addr × Nat) × Nat) (fun next1 s => where_cover_l1 a0 a1 a2 a3 self next1 s.1 s.2) (fun s t => [(1, str a1), (3, .int .i64 a3), (4, .slice t.1.1 t.2 t.1.2), (5, .pointer (some ⟨b3, 0, none⟩)), (7, .pointer (some ⟨b4, 0, none⟩)), (30, .int .i64 s.1)]) (fun s t => [rowV 9 1 (.slice t.1.1 t.2 t.1.2) t.2 (s.2.map e_string), cellsC b3 [.int .i64 a0.South, .int .i64 a0.West, .int .i64 a0.North, .int .i64 a0.East] 23, cellsC b4 [.int .i64 a2.South, .int .i64 a2.West, .int .i64 a2.North, .int .i64 a2.East] 23]) (fun s t => t.2 = s.2.length) (0, a4) (p4, n4) [0, 1, 2] H25 (by exact hn4) (by exact ⟨rfl, rfl, rfl, rfl, rfl, rfl, trivial⟩) (by decide) rfl ?_
          rintro ⟨x30_2, l_2⟩ ⟨p_2, n⟩ m1 gg H26 hl_2
          clear H25
          replace H26 : where_cover_l1 a0 a1 a2 a3 self (it (fun next1 s => where_cover_l1 a0 a1 a2 a3 self next1 s.1 s.2) m1) x30_2 l_2 = some r := H26
          generalize hn1 : it (fun next1 s => where_cover_l1 a0 a1 a2 a3 self next1 s.1 s.2) m1 = next1 at H26
          refine c_tidyF [(1, str a1), (3, .int .i64 a3), (4, .slice p_2.1 n p_2.2), (5, .pointer (some ⟨b3, 0, none⟩)), (7, .pointer (some ⟨b4, 0, none⟩)), (30, .int .i64 x30_2)] [rowV 9 1 (.slice p_2.1 n p_2.2) n (l_2.map e_string), cellsC b3 [.int .i64 a0.South, .int .i64 a0.West, .int .i64 a0.North, .int .i64 a0.East] 23, cellsC b4 [.int .i64 a2.South, .int .i64 a2.West, .int .i64 a2.North, .int .i64 a2.East] 23] rfl rfl ?_
          refine c_seq ?_
          refine c_region ?_
          refine l_val rfl rfl rfl (r_lss rfl rfl) ?_
          refine l_nil ?_
          refine c_seq ?_
          refine c_if (b := (decide (x30_2 < 4))) rfl (fun hb => ?_) (fun hb => ?_)
          · have H27 := cnd_t hb H26; clear H26
            refine c_skip ?_
            refine c_seq ?_
            refine c_block ?_
            refine c_seq ?_
            refine c_region ?_
            refine l_val rfl rfl rfl (r_move (v := .int .i64 x30_2) rfl) ?_
            refine l_val rfl rfl rfl (r_assign (v := .int .i64 x30_2) rfl) ?_
            refine l_nil ?_
            exact c_regionD (Kd.d [1] _ :: Kd.p :: Kd.p :: Kd.p :: Kd.p :: Kd.p :: Kd.p :: Kd.d [2] _ :: Kd.p :: Kd.d [] _ :: Kd.p :: Kd.p :: Kd.t 0 [] _ _ :: Kd.p :: []) 0 mixed (by
              refine d_loadN (i := 1) (vs := [.int .i64 a0.South, .int .i64 a0.West, .int .i64 a0.North, .int .i64 a0.East]) Tryd.isAgg23 Tryd.sizeOf23 rfl rfl rfl rfl ?_
              refine d_val rfl rfl (r_move (v := str a1) rfl) ?_
              refine d_val rfl rfl (r_move (v := .int .i64 x30_2) rfl) ?_
              have h_t36 := bnd_val H27
              have H28 := bnd_rest H27
              refine d_val rfl rfl (r_addG rfl rfl h_t36) ?_
              refine d_val rfl rfl (r_convG Tryd.runUnderlying3 Tryd.runUnderlying21 rfl (wr_i32 _)) ?_
              have h_t38 := bnd_val H28
              have H29 := bnd_rest H28
              refine d_val rfl rfl (r_convRuneG Tryd.runUnderlying21 Tryd.runUnderlying9 rfl h_t38) ?_
              have h_t39 := bnd_val H29
              have H30 := bnd_rest H29
              refine d_val rfl rfl (r_concatG rfl rfl h_t39) ?_
              refine d_loadN (i := 2) (vs := [.int .i64 a2.South, .int .i64 a2.West, .int .i64 a2.North, .int .i64 a2.East]) Tryd.isAgg23 Tryd.sizeOf23 rfl rfl rfl rfl ?_
              refine d_val rfl rfl (r_move (v := .int .i64 x30_2) rfl) ?_
              have h_t42 := bnd_val H30
              have H31 := bnd_rest H30
              refine d_call (k19 h_t42) Tryd.call19 rfl rfl ?_
              refine d_val rfl rfl (r_move (v := .int .i64 a3) rfl) ?_
              refine d_val rfl rfl (r_move (v := .slice p_2.1 n p_2.2) rfl) ?_
              have h_t45 := bnd_val H31
              have H32 := bnd_rest H31
              refine d_turn (Cv := fun v => rowV 9 1 v (val (self (a0, (val (gCat a1 (val (gRune (wI32 (val (gI (48 + x30_2)))))))), (val (where_Box_quarter a2 x30_2)), a3, l_2))).length ((val (self (a0, (val (gCat a1 (val (gRune (wI32 (val (gI (48 + x30_2)))))))), (val (where_Box_quarter a2 x30_2)), a3, l_2))).map e_string)) (none, 0) (turns_callB (i := 0) (rds := _) (G := fun x : (Option Addr × Nat) => .slice x.1 (val (self (a0, (val (gCat a1 (val (gRune (wI32 (val (gI (48 + x30_2)))))))), (val (where_Box_quarter a2 x30_2)), a3, l_2))).length x.2) (C := fun x : (Option Addr × Nat) => rowV 9 1 (.slice x.1 (val (self (a0, (val (gCat a1 (val (gRune (wI32 (val (gI (48 + x30_2)))))))), (val (where_Box_quarter a2 x30_2)), a3, l_2))).length x.2) (val (self (a0, (val (gCat a1 (val (gRune (wI32 (val (gI (48 + x30_2)))))))), (val (where_Box_quarter a2 x30_2)), a3, l_2))).length ((val (self (a0, (val (gCat a1 (val (gRune (wI32 (val (gI (48 + x30_2)))))))), (val (where_Box_quarter a2 x30_2)), a3, l_2))).map e_string)) rfl (fun w L' S hF hS hi hp hlt ho hA => ih hp hlt (know_but w S) hl_2 h_t45) Tryd.call15 rfl) (fun _ => rfl) rfl rfl (fun p_3 => ?_)
              refine d_val rfl rfl (r_assign (v := .slice p_3.1 (val (self (a0, (val (gCat a1 (val (gRune (wI32 (val (gI (48 + x30_2)))))))), (val (where_Box_quarter a2 x30_2)), a3, l_2))).length p_3.2) rfl) ?_
              refine d_nil ?_
              refine c_region ?_
              obtain ⟨t46, h_t46, H33⟩ := bnd_some H32; clear H32
              refine l_val rfl rfl rfl (r_addG rfl rfl h_t46) ?_
              refine l_val rfl rfl rfl (r_move (v := .int .i64 t46) rfl) ?_
              refine l_nil ?_
              refine c_close (t46, (val (self (a0, (val (gCat a1 (val (gRune (wI32 (val (gI (48 + x30_2)))))))), (val (where_Box_quarter a2 x30_2)), a3, l_2)))) (p_3, (val (self (a0, (val (gCat a1 (val (gRune (wI32 (val (gI (48 + x30_2)))))))), (val (where_Box_quarter a2 x30_2)), a3, l_2))).length) m1 [0, 1, 2] (by exact ⟨rfl, rfl, rfl, rfl, rfl, rfl, trivial⟩) (by decide) rfl (by exact ⟨(by subst hn1; exact H33), rfl⟩) (Nat.lt_succ_self _)
              ) (by kernel_rfl)
          · have H34 := cnd_f hb H26; clear H26
            refine c_exit ?_
            refine c_seq ?_
            refine c_region ?_
            refine l_val rfl rfl rfl (r_move (v := .slice p_2.1 n p_2.2) rfl) ?_
            refine l_val rfl rfl rfl (r_assign (v := .slice p_2.1 n p_2.2) rfl) ?_
            refine l_nil ?_
            refine c_ret ?_
            obtain rfl := Option.some.inj H34
            refine ret1 (v := .slice p_2.1 n p_2.2) rfl rfl (finX p_2 (i := 0) rfl (by first | rfl | rw [(show n = l_2.length from hl_2)]) (Imp.of (by rw [(show n = l_2.length from hl_2)])))
theorem k15 {a0 : T_where_Box} {a1 : (List UInt8)} {a2 : T_where_Box} {a3 : Int} {a4 : (List (List UInt8))} {p4 : Option Addr × Nat} {n4 : Nat} {r : (List (List UInt8))} {w : World} {h : Heap} {S : Nat → Prop} (hcs : (rowV 9 1 (.slice p4.1 n4 p4.2) n4 (a4.map e_string)).P S w) (hlt : ∀ b, S b → b < w.heap.size) (hw : Know h w S) (hn4 : n4 = a4.length) (H : where_cover a0 a1 a2 a3 a4 = some r) : Does Tryd.prog 15 (List.toArray [.agg #[.int .i64 a0.South, .int .i64 a0.West, .int .i64 a0.North, .int .i64 a0.East], str a1, .agg #[.int .i64 a2.South, .int .i64 a2.West, .int .i64 a2.North, .int .i64 a2.East], .int .i64 a3, .slice p4.1 n4 p4.2]) w (fun v w' => ∃ x : (Option Addr × Nat), v = (.slice x.1 r.length x.2) ∧ Turn w w' S (rowV 9 1 (.slice x.1 r.length x.2) r.length (r.map e_string))) := by
  obtain ⟨mm, hm⟩ := fix_it (show fix (fun (self : (T_where_Box × (List UInt8) × T_where_Box × Int × (List (List UInt8))) → Option ((List (List UInt8)))) (s : T_where_Box × (List UInt8) × T_where_Box × Int × (List (List UInt8))) => where_cover_body self s.1 s.2.1 s.2.2.1 s.2.2.2.1 s.2.2.2.2) (a0, a1, a2, a3, a4) = some r from H)
  exact k15_it mm hcs hlt hw hn4 hm
theorem k16 {r : T_where_Box} (H : where_whole = some r) : Ret Tryd.prog 16 [] (.agg #[.int .i64 r.South, .int .i64 r.West, .int .i64 r.North, .int .i64 r.East]) := by
  refine enterRet (n := 2) Tryd.func16 rfl rfl rfl (fun wd => ?_)
  refine c_seq ?_
  refine c_region ?_
  refine l_alloc (cs := [.int .i64 0, .int .i64 0, .int .i64 0, .int .i64 0]) Tryd.zeroValue23 rfl rfl rfl (fun b1 => ?_)
  refine l_nil ?_
  refine c_seq ?_
  refine c_region ?_
  refine l_val rfl rfl rfl (r_build (pl := #[(0, 1), (1, 1), (2, 1), (3, 1)]) (ps := [(0, .int .i64 (-90000000)), (1, .int .i64 (-180000000)), (2, .int .i64 90000000), (3, .int .i64 179999999)]) (cells := #[.int .i64 (-90000000), .int .i64 (-180000000), .int .i64 90000000, .int .i64 179999999]) Tryd.zeroValue23 Tryd.runUnderlying23 (fun w => by kernel_rfl) rfl rfl) ?_
  refine l_store (i := 0) (vs := [.int .i64 (-90000000), .int .i64 (-180000000), .int .i64 90000000, .int .i64 179999999]) (cs' := [.int .i64 (-90000000), .int .i64 (-180000000), .int .i64 90000000, .int .i64 179999999]) Tryd.sizeOf23 rfl rfl rfl rfl rfl rfl rfl rfl rfl ?_
  refine l_nil ?_
  refine c_ret ?_
  obtain rfl := Option.some.inj H
  refine retC (i := 0) (vs := [.int .i64 (-90000000), .int .i64 (-180000000), .int .i64 90000000, .int .i64 179999999]) Tryd.isAgg23 Tryd.sizeOf23 rfl rfl rfl rfl (fin rfl)
theorem k17 {a : Option Addr} {n c : Nat} (hc : n ≤ c) : Ret Tryd.prog 17 [.slice a n c] (.slice (cutA a 0 n 1) n n) := by
  refine enterRet (n := 9) Tryd.func17 rfl rfl rfl (fun wd => ?_)
  refine c_seq ?_
  refine c_region ?_
  refine l_val rfl rfl rfl (r_assign (v := .slice none 0 0) rfl) ?_
  refine l_nil ?_
  refine c_seq ?_
  refine c_region ?_
  refine l_val rfl rfl rfl (r_move (v := .slice a n c) rfl) ?_
  refine l_val rfl rfl rfl (r_move (v := .slice a n c) rfl) ?_
  refine l_val rfl rfl rfl (r_len Tryd.underlying27 rfl) ?_
  refine l_val rfl rfl rfl (r_move (v := .slice a n c) rfl) ?_
  refine l_val rfl rfl rfl (r_len Tryd.underlying27 rfl) ?_
  refine l_val rfl rfl rfl (r_sliceHM (a := a) (m := n) (c := c) (h := (n : Int)) (q := (n : Int)) Tryd.underlying27 Tryd.sizeOf9 rfl rfl rfl (Int.natCast_nonneg n) (Int.le_refl _) (Int.ofNat_le.2 hc)) ?_
  refine l_val rfl rfl rfl (r_assign (v := .slice (cutA a 0 n 1) n n) rfl) ?_
  refine l_nil ?_
  refine c_ret ?_
  exact ret1 (v := .slice (cutA a 0 n 1) n n) rfl rfl (fin rfl)

theorem k5 {a0 : T_where_Box} {a1 : Int} {r : (List (List UInt8)) × Int} {w : World} {h : Heap} (hw : Know h w noS) (H : where_Cover a0 a1 = some r) : Does Tryd.prog 5 (List.toArray [.agg #[.int .i64 a0.South, .int .i64 a0.West, .int .i64 a0.North, .int .i64 a0.East], .int .i64 a1]) w (fun v w' => ∃ x : (Option Addr × Nat), v = (.tuple #[.slice x.1 r.1.length x.2, .int .i64 r.2]) ∧ Turn w w' noS (roV 1 (.slice x.1 r.1.length x.2) r.1.length (r.1.map e_string))) := by
  refine enter (n := 24) Tryd.func5 rfl rfl rfl noS [] (Sat.nil _ _) ?_
  refine c_seq ?_
  refine c_region ?_
  refine l_box (cs := [.int .i64 a0.South, .int .i64 a0.West, .int .i64 a0.North, .int .i64 a0.East]) rfl rfl rfl rfl (fun b2 => ?_)
  refine l_val rfl rfl rfl (r_assign (v := .slice none 0 0) rfl) ?_
  refine l_val rfl rfl rfl (r_assign (v := .int .i64 0) rfl) ?_
  refine l_nil ?_
  refine c_seq ?_
  refine c_seq ?_
  refine c_region ?_
  refine l_loadN (i := 0) (vs := [.int .i64 a0.South, .int .i64 a0.West, .int .i64 a0.North, .int .i64 a0.East]) Tryd.isAgg23 Tryd.sizeOf23 rfl rfl rfl rfl rfl ?_
  obtain ⟨t9, h_t9, H21⟩ := bnd_some H; clear H
  refine l_call (k13 h_t9) Tryd.call13 rfl rfl rfl ?_
  refine l_val rfl rfl rfl (r_assign (v := .int .i64 t9) rfl) ?_
  refine l_nil ?_
  refine c_seq ?_
  refine c_region ?_
  refine l_val rfl rfl rfl (r_move (v := .int .i64 t9) rfl) ?_
  refine l_val rfl rfl rfl (r_neq rfl rfl) ?_
  refine l_nil ?_
  refine c_if (b := (decide (t9 ≠ 0))) rfl (fun hb => ?_) (fun hb => ?_)
  · have H22 := cnd_t hb H21; clear H21
    refine c_seq ?_
    refine c_region ?_
    refine l_val rfl rfl rfl (r_move (v := .int .i64 t9) rfl) ?_
    refine l_val rfl rfl rfl (r_assign (v := .slice none 0 0) rfl) ?_
    refine l_val rfl rfl rfl (r_assign (v := .int .i64 t9) rfl) ?_
    refine l_nil ?_
    refine c_ret ?_
    refine c_nilRow 9 1 ?_
    obtain rfl := Option.some.inj H22
    refine c_imp 1 rfl (row_ro _ _ _ _ _) ?_
    refine ret2 (v1 := .slice ((none, 0) : Option Addr × Nat).1 ([] : List (List UInt8)).length ((none, 0) : Option Addr × Nat).2) (v2 := .int .i64 t9) rfl rfl rfl (finX ((none, 0) : Option Addr × Nat) (i := 1) rfl rfl (Imp.refl _))
  · have H23 := cnd_f hb H21; clear H21
    refine c_skip ?_
    refine c_seq ?_
    refine c_seq ?_
    refine c_region ?_
    refine l_val rfl rfl rfl (r_move (v := .int .i64 a1) rfl) ?_
    obtain ⟨t14, h_t14, H24⟩ := bnd_some H23; clear H23
    refine l_call (k14 h_t14) Tryd.call14 rfl rfl rfl ?_
    refine l_nil ?_
    refine c_if (b := t14) rfl (fun hb => ?_) (fun hb => ?_)
    · have H25 := cnd_t hb H24; clear H24
      refine c_seq ?_
      refine c_region ?_
      refine l_val rfl rfl rfl (r_assign (v := .slice none 0 0) rfl) ?_
      refine l_val rfl rfl rfl (r_assign (v := .int .i64 2) rfl) ?_
      refine l_nil ?_
      refine c_ret ?_
      refine c_nilRow 9 1 ?_
      obtain rfl := Option.some.inj H25
      refine c_imp 1 rfl (row_ro _ _ _ _ _) ?_
      refine ret2 (v1 := .slice ((none, 0) : Option Addr × Nat).1 ([] : List (List UInt8)).length ((none, 0) : Option Addr × Nat).2) (v2 := .int .i64 2) rfl rfl rfl (finX ((none, 0) : Option Addr × Nat) (i := 1) rfl rfl (Imp.refl _))
    · have H26 := cnd_f hb H24; clear H24
      refine c_skip ?_
      refine c_seq ?_
      refine c_nilRow 9 1 ?_
      exact c_regionD (Kd.d [0] _ :: Kd.d [] _ :: Kd.p :: Kd.t 1 [] _ _ :: Kd.p :: []) 0 mixed (by
        refine d_loadN (i := 0) (vs := [.int .i64 a0.South, .int .i64 a0.West, .int .i64 a0.North, .int .i64 a0.East]) Tryd.isAgg23 Tryd.sizeOf23 rfl rfl rfl rfl ?_
        have h_t16 := bnd_val H26
        have H27 := bnd_rest H26
        refine d_call (k16 h_t16) Tryd.call16 rfl rfl ?_
        refine d_val rfl rfl (r_move (v := .int .i64 a1) rfl) ?_
        have h_t18 := bnd_val H27
        have H28 := bnd_rest H27
        refine d_turn (Cv := fun v => rowV 9 1 v (val (where_cover a0 [] (val where_whole) a1 ([] : List (List UInt8)))).length ((val (where_cover a0 [] (val where_whole) a1 ([] : List (List UInt8)))).map e_string)) (none, 0) (turns_callB (i := 1) (rds := _) (G := fun x : (Option Addr × Nat) => .slice x.1 (val (where_cover a0 [] (val where_whole) a1 ([] : List (List UInt8)))).length x.2) (C := fun x : (Option Addr × Nat) => rowV 9 1 (.slice x.1 (val (where_cover a0 [] (val where_whole) a1 ([] : List (List UInt8)))).length x.2) (val (where_cover a0 [] (val where_whole) a1 ([] : List (List UInt8)))).length ((val (where_cover a0 [] (val where_whole) a1 ([] : List (List UInt8)))).map e_string)) rfl (fun w L' S hF hS hi hp hlt ho hA => k15 (p4 := ((none, 0) : Option Addr × Nat)) hp hlt (know_but w S) rfl h_t18) Tryd.call15 rfl) (fun _ => rfl) rfl rfl (fun p => ?_)
        refine d_val rfl rfl (r_assign (v := .slice p.1 (val (where_cover a0 [] (val where_whole) a1 ([] : List (List UInt8)))).length p.2) rfl) ?_
        refine d_nil ?_
        refine c_seq ?_
        refine c_seq ?_
        refine c_region ?_
        refine l_val rfl rfl rfl (r_move (v := .slice p.1 (val (where_cover a0 [] (val where_whole) a1 ([] : List (List UInt8)))).length p.2) rfl) ?_
        refine l_val rfl rfl rfl (r_len Tryd.underlying27 rfl) ?_
        refine l_val rfl rfl rfl (r_gtr rfl rfl) ?_
        refine l_nil ?_
        refine c_if (b := (decide (1000 < ((val (where_cover a0 [] (val where_whole) a1 ([] : List (List UInt8)))).length : Int)))) rfl (fun hb => ?_) (fun hb => ?_)
        · have H29 := cnd_t hb H28; clear H28
          refine c_seq ?_
          refine c_region ?_
          refine l_val rfl rfl rfl (r_assign (v := .slice none 0 0) rfl) ?_
          refine l_val rfl rfl rfl (r_assign (v := .int .i64 4) rfl) ?_
          refine l_nil ?_
          refine c_ret ?_
          refine c_nilRow 9 1 ?_
          obtain rfl := Option.some.inj H29
          refine c_imp 2 rfl (row_ro _ _ _ _ _) ?_
          refine ret2 (v1 := .slice ((none, 0) : Option Addr × Nat).1 ([] : List (List UInt8)).length ((none, 0) : Option Addr × Nat).2) (v2 := .int .i64 4) rfl rfl rfl (finX ((none, 0) : Option Addr × Nat) (i := 2) rfl rfl (Imp.refl _))
        · have H30 := cnd_f hb H28; clear H28
          refine c_skip ?_
          refine c_seq ?_
          refine c_region ?_
          refine l_val rfl rfl rfl (r_move (v := .slice p.1 (val (where_cover a0 [] (val where_whole) a1 ([] : List (List UInt8)))).length p.2) rfl) ?_
          refine l_callG (fun w hF hS => k17 (capOf (i := 1) hS rfl) w) Tryd.call17 rfl rfl rfl ?_
          refine l_val rfl rfl rfl (r_assign (v := .slice (cutA p.1 0 (val (where_cover a0 [] (val where_whole) a1 ([] : List (List UInt8)))).length 1) (val (where_cover a0 [] (val where_whole) a1 ([] : List (List UInt8)))).length (val (where_cover a0 [] (val where_whole) a1 ([] : List (List UInt8)))).length) rfl) ?_
          refine l_val rfl rfl rfl (r_assign (v := .int .i64 0) rfl) ?_
          refine l_nil ?_
          refine c_ret ?_
          obtain rfl := Option.some.inj H30
          refine c_imp 1 rfl (imp_clipO _ _ _ _ _ _) ?_
          refine ret2 (v1 := .slice (cutA p.1 0 (val (where_cover a0 [] (val where_whole) a1 ([] : List (List UInt8)))).length 1) (val (where_cover a0 [] (val where_whole) a1 ([] : List (List UInt8)))).length (val (where_cover a0 [] (val where_whole) a1 ([] : List (List UInt8)))).length) (v2 := .int .i64 0) rfl rfl rfl (finX (cutA p.1 0 (val (where_cover a0 [] (val where_whole) a1 ([] : List (List UInt8)))).length 1, (val (where_cover a0 [] (val where_whole) a1 ([] : List (List UInt8)))).length) (i := 1) rfl rfl (Imp.refl _))
        ) (by kernel_rfl)
theorem k33 {a0 : (List UInt8)} {a1 : Int} {r : (List UInt8)} (H : strings_trimLeftByte a0 a1 = some r) : Ret Tryd.prog 33 [str a0, .int .u8 a1] (str r) := by
  refine enterRet (n := 17) Tryd.func33 rfl rfl rfl (fun wd => ?_)
  refine c_seq ?_
  refine c_region ?_
  refine l_val rfl rfl rfl (r_assign (v := str []) rfl) ?_
  refine l_nil ?_
  refine c_seq ?_
  refine c_block ?_
  refine c_fix (σ := (List UInt8)) (τ := Unit) (fun next1 s => strings_trimLeftByte_l1 a1 next1 s) (fun s t => [(0, str s), (1, .int .u8 a1)]) (fun s t => []) (fun s t => True) a0 () [] H (by exact trivial) (by exact ⟨rfl, rfl, trivial⟩) (by decide) rfl ?_
  rintro x0_2 _ m1 gg H8 _
  clear H
  replace H8 : strings_trimLeftByte_l1 a1 (it (fun next1 s => strings_trimLeftByte_l1 a1 next1 s) m1) x0_2 = some r := H8
  generalize hn1 : it (fun next1 s => strings_trimLeftByte_l1 a1 next1 s) m1 = next1 at H8
  refine c_tidyF [(0, str x0_2), (1, .int .u8 a1)] [] rfl rfl ?_
  refine c_seq ?_
  refine c_seq ?_
  refine c_region ?_
  refine l_val rfl rfl rfl (r_move (v := str x0_2) rfl) ?_
  refine l_val rfl rfl rfl (r_lenT Tryd.underlying9 rfl) ?_
  refine l_val rfl rfl rfl (r_gtr rfl rfl) ?_
  refine l_val rfl rfl rfl (r_move (v := .bool (decide (0 < (x0_2.length : Int)))) rfl) ?_
  refine split (fun hb => ?_) (fun hb => ?_)
  · have H9 := cnd_t hb H8; clear H8
    refine l_val rfl rfl rfl (r_move (v := str x0_2) rfl) ?_
    obtain ⟨t10, h_t10, H10⟩ := bnd_some H9; clear H9
    refine l_val rfl rfl rfl (r_octG Tryd.underlying9 rfl rfl h_t10) ?_
    refine l_val rfl rfl rfl (r_move (v := .int .u8 a1) rfl) ?_
    refine l_val rfl rfl rfl (r_eql rfl rfl) ?_
    refine l_val rfl rfl rfl (r_pickT (v := .bool (decide (t10 = a1))) rfl rfl) ?_
    refine l_nil ?_
    refine c_if (b := (decide (t10 = a1))) rfl (fun hb => ?_) (fun hb => ?_)
    · have H11 := cnd_t hb H10; clear H10
      refine c_skip ?_
      refine c_block ?_
      refine c_region ?_
      refine l_val rfl rfl rfl (r_move (v := str x0_2) rfl) ?_
      obtain ⟨t15, h_t15, H12⟩ := bnd_some H11; clear H11
      refine l_val rfl rfl rfl (r_cutFromG Tryd.underlying9 rfl rfl h_t15) ?_
      refine l_val rfl rfl rfl (r_assign (v := str t15) rfl) ?_
      refine l_nil ?_
      refine c_close t15 () m1 [] (by exact ⟨rfl, rfl, trivial⟩) (by decide) rfl (by exact ⟨(by subst hn1; exact H12), trivial⟩) (Nat.lt_succ_self _)
    · have H13 := cnd_f hb H10; clear H10
      refine c_exit ?_
      refine c_seq ?_
      refine c_region ?_
      refine l_val rfl rfl rfl (r_move (v := str x0_2) rfl) ?_
      refine l_val rfl rfl rfl (r_assign (v := str x0_2) rfl) ?_
      refine l_nil ?_
      refine c_ret ?_
      obtain rfl := Option.some.inj H13
      refine ret1 (v := str x0_2) rfl rfl (fin rfl)
  · have H14 := cnd_f hb H8; clear H8
    refine l_passed rfl rfl rfl ?_
    refine l_passed rfl rfl rfl ?_
    refine l_passed rfl rfl rfl ?_
    refine l_passed rfl rfl rfl ?_
    refine l_val rfl rfl rfl (r_pickF (v := .bool false) rfl rfl) ?_
    refine l_nil ?_
    refine c_false rfl ?_
    refine c_exit ?_
    refine c_seq ?_
    refine c_region ?_
    refine l_val rfl rfl rfl (r_move (v := str x0_2) rfl) ?_
    refine l_val rfl rfl rfl (r_assign (v := str x0_2) rfl) ?_
    refine l_nil ?_
    refine c_ret ?_
    obtain rfl := Option.some.inj H14
    refine ret1 (v := str x0_2) rfl rfl (fin rfl)
theorem k34 {a0 : (List UInt8)} {a1 : Int} {r : (List UInt8)} (H : strings_trimRightByte a0 a1 = some r) : Ret Tryd.prog 34 [str a0, .int .u8 a1] (str r) := by
  refine enterRet (n := 23) Tryd.func34 rfl rfl rfl (fun wd => ?_)
  refine c_seq ?_
  refine c_region ?_
  refine l_val rfl rfl rfl (r_assign (v := str []) rfl) ?_
  refine l_nil ?_
  refine c_seq ?_
  refine c_block ?_
  refine c_fix (σ := (List UInt8)) (τ := Unit) (fun next1 s => strings_trimRightByte_l1 a1 next1 s) (fun s t => [(0, str s), (1, .int .u8 a1)]) (fun s t => []) (fun s t => True) a0 () [] H (by exact trivial) (by exact ⟨rfl, rfl, trivial⟩) (by decide) rfl ?_
  rintro x0_2 _ m1 gg H10 _
  clear H
  replace H10 : strings_trimRightByte_l1 a1 (it (fun next1 s => strings_trimRightByte_l1 a1 next1 s) m1) x0_2 = some r := H10
  generalize hn1 : it (fun next1 s => strings_trimRightByte_l1 a1 next1 s) m1 = next1 at H10
  refine c_tidyF [(0, str x0_2), (1, .int .u8 a1)] [] rfl rfl ?_
  refine c_seq ?_
  refine c_seq ?_
  refine c_region ?_
  refine l_val rfl rfl rfl (r_move (v := str x0_2) rfl) ?_
  refine l_val rfl rfl rfl (r_lenT Tryd.underlying9 rfl) ?_
  refine l_val rfl rfl rfl (r_gtr rfl rfl) ?_
  refine l_val rfl rfl rfl (r_move (v := .bool (decide (0 < (x0_2.length : Int)))) rfl) ?_
  refine split (fun hb => ?_) (fun hb => ?_)
  · have H11 := cnd_t hb H10; clear H10
    refine l_val rfl rfl rfl (r_move (v := str x0_2) rfl) ?_
    refine l_val rfl rfl rfl (r_move (v := str x0_2) rfl) ?_
    refine l_val rfl rfl rfl (r_lenT Tryd.underlying9 rfl) ?_
    obtain ⟨t12, h_t12, H12⟩ := bnd_some H11; clear H11
    refine l_val rfl rfl rfl (r_subG rfl rfl h_t12) ?_
    obtain ⟨t13, h_t13, H13⟩ := bnd_some H12; clear H12
    refine l_val rfl rfl rfl (r_octG Tryd.underlying9 rfl rfl h_t13) ?_
    refine l_val rfl rfl rfl (r_move (v := .int .u8 a1) rfl) ?_
    refine l_val rfl rfl rfl (r_eql rfl rfl) ?_
    refine l_val rfl rfl rfl (r_pickT (v := .bool (decide (t13 = a1))) rfl rfl) ?_
    refine l_nil ?_
    refine c_if (b := (decide (t13 = a1))) rfl (fun hb => ?_) (fun hb => ?_)
    · have H14 := cnd_t hb H13; clear H13
      refine c_skip ?_
      refine c_block ?_
      refine c_region ?_
      refine l_val rfl rfl rfl (r_move (v := str x0_2) rfl) ?_
      refine l_val rfl rfl rfl (r_move (v := str x0_2) rfl) ?_
      refine l_val rfl rfl rfl (r_lenT Tryd.underlying9 rfl) ?_
      obtain ⟨t20, h_t20, H15⟩ := bnd_some H14; clear H14
      refine l_val rfl rfl rfl (r_subG rfl rfl h_t20) ?_
      obtain ⟨t21, h_t21, H16⟩ := bnd_some H15; clear H15
      refine l_val rfl rfl rfl (r_cutToG Tryd.underlying9 rfl rfl h_t21) ?_
      refine l_val rfl rfl rfl (r_assign (v := str t21) rfl) ?_
      refine l_nil ?_
      refine c_close t21 () m1 [] (by exact ⟨rfl, rfl, trivial⟩) (by decide) rfl (by exact ⟨(by subst hn1; exact H16), trivial⟩) (Nat.lt_succ_self _)
    · have H17 := cnd_f hb H13; clear H13
      refine c_exit ?_
      refine c_seq ?_
      refine c_region ?_
      refine l_val rfl rfl rfl (r_move (v := str x0_2) rfl) ?_
      refine l_val rfl rfl rfl (r_assign (v := str x0_2) rfl) ?_
      refine l_nil ?_
      refine c_ret ?_
      obtain rfl := Option.some.inj H17
      refine ret1 (v := str x0_2) rfl rfl (fin rfl)
  · have H18 := cnd_f hb H10; clear H10
    refine l_passed rfl rfl rfl ?_
    refine l_passed rfl rfl rfl ?_
    refine l_passed rfl rfl rfl ?_
    refine l_passed rfl rfl rfl ?_
    refine l_passed rfl rfl rfl ?_
    refine l_passed rfl rfl rfl ?_
    refine l_passed rfl rfl rfl ?_
    refine l_val rfl rfl rfl (r_pickF (v := .bool false) rfl rfl) ?_
    refine l_nil ?_
    refine c_false rfl ?_
    refine c_exit ?_
    refine c_seq ?_
    refine c_region ?_
    refine l_val rfl rfl rfl (r_move (v := str x0_2) rfl) ?_
    refine l_val rfl rfl rfl (r_assign (v := str x0_2) rfl) ?_
    refine l_nil ?_
    refine c_ret ?_
    obtain rfl := Option.some.inj H18
    refine ret1 (v := str x0_2) rfl rfl (fin rfl)
theorem k35 {a0 : (List UInt8)} {r : (Nat → Bool) × Bool} (H : strings_makeASCIISet a0 = some r) : Ret Tryd.prog 35 [str a0] (.tuple #[.agg (List.toArray (arrC 256 (fun j_ => [.bool (r.1 j_)]))), .bool r.2]) := by
  refine enterRet (n := 21) Tryd.func35 rfl rfl rfl (fun wd => ?_)
  refine c_seq ?_
  refine c_region ?_
  refine l_alloc (cs := (arrC 256 (fun j_ => [.bool ((fun _ => false) j_)]))) Tryd.zeroValue64 (by kernel_rfl) rfl rfl (fun b1 => ?_)
  refine l_val rfl rfl rfl (r_assign (v := .bool false) rfl) ?_
  refine l_nil ?_
  refine c_meet (r := r) (σ := (Nat → Bool)) (τ := Unit) (fun s => strings_makeASCIISet_j1 s) (fun s t => [(2, .pointer (some ⟨b1, 0, none⟩))]) (fun s t => [cellsC b1 (arrC 256 (fun j_ => [.bool (s j_)])) 64]) (fun s t => True) ?_ ?_
  · refine c_seq ?_
    refine c_region ?_
    refine l_val rfl rfl rfl (r_assign (v := .int .i64 0) rfl) ?_
    refine l_nil ?_
    refine c_block ?_
    refine c_fix (σ := Int × (Nat → Bool)) (τ := Unit) (fun next2 s => strings_makeASCIISet_l2 a0 next2 s.1 s.2) (fun s t => [(0, str a0), (2, .pointer (some ⟨b1, 0, none⟩)), (4, .int .i64 s.1)]) (fun s t => [cellsC b1 (arrC 256 (fun j_ => [.bool (s.2 j_)])) 64]) (fun s t => True) (0, (fun _ => false)) () [0] H (by exact trivial) (by exact ⟨rfl, rfl, rfl, trivial⟩) (by decide) rfl ?_
    rintro ⟨x4_2, m_3⟩ _ m2 gg H11 _
    clear H
    replace H11 : strings_makeASCIISet_l2 a0 (it (fun next2 s => strings_makeASCIISet_l2 a0 next2 s.1 s.2) m2) x4_2 m_3 = some r := H11
    generalize hn2 : it (fun next2 s => strings_makeASCIISet_l2 a0 next2 s.1 s.2) m2 = next2 at H11
    refine c_tidyF [(0, str a0), (2, .pointer (some ⟨b1, 0, none⟩)), (4, .int .i64 x4_2)] [cellsC b1 (arrC 256 (fun j_ => [.bool (m_3 j_)])) 64] rfl rfl ?_
    refine c_seq ?_
    refine c_seq ?_
    refine c_region ?_
    refine l_val rfl rfl rfl (r_move (v := .int .i64 x4_2) rfl) ?_
    refine l_val rfl rfl rfl (r_move (v := str a0) rfl) ?_
    refine l_val rfl rfl rfl (r_lenT Tryd.underlying9 rfl) ?_
    refine l_val rfl rfl rfl (r_lss rfl rfl) ?_
    refine l_nil ?_
    refine c_if (b := (decide (x4_2 < (a0.length : Int)))) rfl (fun hb => ?_) (fun hb => ?_)
    · have H12 := cnd_t hb H11; clear H11
      refine c_skip ?_
      refine c_seq ?_
      refine c_block ?_
      refine c_seq ?_
      refine c_region ?_
      refine l_val rfl rfl rfl (r_move (v := str a0) rfl) ?_
      refine l_val rfl rfl rfl (r_move (v := .int .i64 x4_2) rfl) ?_
      obtain ⟨t14, h_t14, H13⟩ := bnd_some H12; clear H12
      refine l_val rfl rfl rfl (r_octG Tryd.underlying9 rfl rfl h_t14) ?_
      refine l_val rfl rfl rfl (r_assign (v := .int .u8 t14) rfl) ?_
      refine l_nil ?_
      refine c_seq ?_
      refine c_seq ?_
      refine c_region ?_
      refine l_val rfl rfl rfl (r_move (v := .int .u8 t14) rfl) ?_
      refine l_val rfl rfl rfl (r_geq rfl rfl) ?_
      refine l_nil ?_
      refine c_if (b := (decide (128 ≤ t14))) rfl (fun hb => ?_) (fun hb => ?_)
      · have H14 := cnd_t hb H13; clear H13
        refine c_seq ?_
        refine c_region ?_
        refine l_loadN (i := 0) (vs := (arrC 256 (fun j_ => [.bool (m_3 j_)]))) Tryd.isAgg64 Tryd.sizeOf64 rfl rfl rfl rfl (rd_whole (arrC_len (fun _ => rfl))) ?_
        refine l_store (i := 0) (vs := (arrC 256 (fun j_ => [.bool (m_3 j_)]))) (cs' := (arrC 256 (fun j_ => [.bool (m_3 j_)]))) Tryd.sizeOf64 rfl rfl rfl rfl (arrC_len (fun _ => rfl)) rfl (arrC_one (fun _ => rfl)) rfl (wr_whole ((arrC_len (fun _ => rfl)).trans (arrC_len (fun _ => rfl)).symm)) ?_
        refine l_val rfl rfl rfl (r_assign (v := .bool false) rfl) ?_
        refine l_nil ?_
        refine c_ret ?_
        obtain rfl := Option.some.inj H14
        refine retCt (i := 0) (vs := (arrC 256 (fun j_ => [.bool (m_3 j_)]))) (v2 := .bool false) Tryd.isAgg64 Tryd.sizeOf64 rfl rfl rfl (rd_whole (arrC_len (fun _ => rfl))) rfl (fin rfl)
      · have H15 := cnd_f hb H13; clear H13
        refine c_skip ?_
        refine c_region ?_
        refine l_val rfl rfl rfl (r_move (v := .int .u8 t14) rfl) ?_
        obtain ⟨k19, h_k19, H16⟩ := bnd_some H15; clear H15
        refine l_val rfl rfl rfl (r_indexPG Tryd.runUnderlying64 Tryd.sizeOf4 rfl rfl h_k19) ?_
        refine l_store (i := 0) (vs := [.bool true]) (cs' := (arrC 256 (fun j_ => [.bool ((setA m_3 k19 true) j_)]))) Tryd.sizeOf4 rfl rfl rfl rfl rfl rfl rfl rfl (wr_arr (pre := []) (post := []) (f := fun (j_ : Bool) => [.bool j_]) (n := 256) (sz := 1) (a := m_3) (x := true) (arr_whole _ _) rfl (fun _ => rfl) (gIx_lt h_k19) rfl (arr_whole _ _)) ?_
        refine l_nil ?_
        refine c_region ?_
        refine l_val rfl rfl rfl (r_move (v := .int .i64 x4_2) rfl) ?_
        obtain ⟨t11, h_t11, H17⟩ := bnd_some H16; clear H16
        refine l_val rfl rfl rfl (r_addG rfl rfl h_t11) ?_
        refine l_val rfl rfl rfl (r_assign (v := .int .i64 t11) rfl) ?_
        refine l_nil ?_
        refine c_close (t11, (setA m_3 k19 true)) () m2 [0] (by exact ⟨rfl, rfl, rfl, trivial⟩) (by decide) rfl (by exact ⟨(by subst hn2; exact H17), trivial⟩) (Nat.lt_succ_self _)
    · have H18 := cnd_f hb H11; clear H11
      refine c_exit ?_
      refine c_close m_3 () 0 [0] (by exact ⟨rfl, trivial⟩) (by decide) rfl (by exact ⟨H18, trivial⟩) (Nat.lt_succ_self _)
  · rintro m _ gg H10 _
    replace H10 : strings_makeASCIISet_j1 m = some r := H10
    refine c_tidyF [(2, .pointer (some ⟨b1, 0, none⟩))] [cellsC b1 (arrC 256 (fun j_ => [.bool (m j_)])) 64] rfl rfl ?_
    refine c_seq ?_
    refine c_region ?_
    refine l_loadN (i := 0) (vs := (arrC 256 (fun j_ => [.bool (m j_)]))) Tryd.isAgg64 Tryd.sizeOf64 rfl rfl rfl rfl (rd_whole (arrC_len (fun _ => rfl))) ?_
    refine l_store (i := 0) (vs := (arrC 256 (fun j_ => [.bool (m j_)]))) (cs' := (arrC 256 (fun j_ => [.bool (m j_)]))) Tryd.sizeOf64 rfl rfl rfl rfl (arrC_len (fun _ => rfl)) rfl (arrC_one (fun _ => rfl)) rfl (wr_whole ((arrC_len (fun _ => rfl)).trans (arrC_len (fun _ => rfl)).symm)) ?_
    refine l_val rfl rfl rfl (r_assign (v := .bool true) rfl) ?_
    refine l_nil ?_
    refine c_ret ?_
    obtain rfl := Option.some.inj H10
    refine retCt (i := 0) (vs := (arrC 256 (fun j_ => [.bool (m j_)]))) (v2 := .bool true) Tryd.isAgg64 Tryd.sizeOf64 rfl rfl rfl (rd_whole (arrC_len (fun _ => rfl))) rfl (fin rfl)
theorem k47 {a0 : (Nat → Bool)} {pb0 : Nat} {a1 : Int} {r : Bool × (Nat → Bool)} {w : World} {h : Heap} {S : Nat → Prop} (hcs : (cellsC pb0 (arrC 256 (fun j_ => [.bool (a0 j_)])) 64).P S w) (hlt : ∀ b, S b → b < w.heap.size) (hw : Know h w S) (H : strings_asciiSet_contains a0 a1 = some r) : Does Tryd.prog 47 (List.toArray [.pointer (some ⟨pb0, 0, none⟩), .int .u8 a1]) w (fun v w' => ∃ x : Unit, v = (.bool r.1) ∧ Turn w w' S (cellsC pb0 (arrC 256 (fun j_ => [.bool (r.2 j_)])) 64)) := by
  refine enter (n := 10) Tryd.func47 rfl rfl rfl S [cellsC pb0 (arrC 256 (fun j_ => [.bool (a0 j_)])) 64] (Sat.one hcs hlt) ?_
  refine c_seq ?_
  refine c_region ?_
  refine l_val rfl rfl rfl (r_assign (v := .bool false) rfl) ?_
  refine l_nil ?_
  refine c_seq ?_
  refine c_region ?_
  refine l_val rfl rfl rfl (r_move (v := .pointer (some ⟨pb0, 0, none⟩)) rfl) ?_
  refine l_val rfl rfl rfl (r_move (v := .int .u8 a1) rfl) ?_
  refine l_val rfl rfl rfl (r_nilCheck rfl) ?_
  obtain ⟨k8, h_k8, H2⟩ := bnd_some H; clear H
  refine l_val rfl rfl rfl (r_indexPG Tryd.runUnderlying64 Tryd.sizeOf4 rfl rfl h_k8) ?_
  refine l_load1 (i := 0) (v := .bool (a0 k8)) Tryd.isAgg4 rfl rfl rfl rfl (rg_arr (pre := []) (post := []) (f := fun j_ => [.bool (a0 j_)]) (n := 256) (sz := 1) (q := 0) (arr_whole _ _) rfl (fun _ => rfl) (gIx_lt h_k8) rfl) ?_
  refine l_val rfl rfl rfl (r_assign (v := .bool (a0 k8)) rfl) ?_
  refine l_nil ?_
  refine c_ret ?_
  obtain rfl := Option.some.inj H2
  refine ret1 (v := .bool (a0 k8)) rfl rfl (finX () (i := 0) rfl rfl (Imp.refl _))
theorem k36 {a0 : (List UInt8)} {a1 : (Nat → Bool)} {pb1 : Nat} {r : (List UInt8) × (Nat → Bool)} {w : World} {h : Heap} {S : Nat → Prop} (hcs : (cellsC pb1 (arrC 256 (fun j_ => [.bool (a1 j_)])) 64).P S w) (hlt : ∀ b, S b → b < w.heap.size) (hw : Know h w S) (H : strings_trimLeftASCII a0 a1 = some r) : Does Tryd.prog 36 (List.toArray [str a0, .pointer (some ⟨pb1, 0, none⟩)]) w (fun v w' => ∃ x : Unit, v = (str r.1) ∧ Turn w w' S (cellsC pb1 (arrC 256 (fun j_ => [.bool (r.2 j_)])) 64)) := by
  refine enter (n := 16) Tryd.func36 rfl rfl rfl S [cellsC pb1 (arrC 256 (fun j_ => [.bool (a1 j_)])) 64] (Sat.one hcs hlt) ?_
  refine c_seq ?_
  refine c_region ?_
  refine l_val rfl rfl rfl (r_assign (v := str []) rfl) ?_
  refine l_nil ?_
  refine c_seq ?_
  refine c_block ?_
  refine c_fix (σ := (List UInt8) × (Nat → Bool)) (τ := Unit) (fun next1 s => strings_trimLeftASCII_l1 next1 s.1 s.2) (fun s t => [(0, str s.1), (1, .pointer (some ⟨pb1, 0, none⟩))]) (fun s t => [cellsC pb1 (arrC 256 (fun j_ => [.bool (s.2 j_)])) 64]) (fun s t => True) (a0, a1) () [0] H (by exact trivial) (by exact ⟨rfl, rfl, trivial⟩) (by decide) rfl ?_
  rintro ⟨x0_2, m_2⟩ _ m1 gg H9 _
  clear H
  replace H9 : strings_trimLeftASCII_l1 (it (fun next1 s => strings_trimLeftASCII_l1 next1 s.1 s.2) m1) x0_2 m_2 = some r := H9
  generalize hn1 : it (fun next1 s => strings_trimLeftASCII_l1 next1 s.1 s.2) m1 = next1 at H9
  refine c_tidyF [(0, str x0_2), (1, .pointer (some ⟨pb1, 0, none⟩))] [cellsC pb1 (arrC 256 (fun j_ => [.bool (m_2 j_)])) 64] rfl rfl ?_
  refine c_seq ?_
  refine c_seq ?_
  refine c_region ?_
  refine l_val rfl rfl rfl (r_move (v := str x0_2) rfl) ?_
  refine l_val rfl rfl rfl (r_lenT Tryd.underlying9 rfl) ?_
  refine l_val rfl rfl rfl (r_gtr rfl rfl) ?_
  refine l_nil ?_
  refine c_if (b := (decide (0 < (x0_2.length : Int)))) rfl (fun hb => ?_) (fun hb => ?_)
  · have H10 := cnd_t hb H9; clear H9
    refine c_skip ?_
    refine c_block ?_
    refine c_seq ?_
    refine c_seq ?_
    refine c_region ?_
    refine l_val rfl rfl rfl (r_move (v := .pointer (some ⟨pb1, 0, none⟩)) rfl) ?_
    refine l_val rfl rfl rfl (r_move (v := str x0_2) rfl) ?_
    obtain ⟨t10, h_t10, H11⟩ := bnd_some H10; clear H10
    refine l_val rfl rfl rfl (r_octG Tryd.underlying9 rfl rfl h_t10) ?_
    obtain ⟨t11, h_t11, H12⟩ := bnd_some H11; clear H11
    refine l_turn (turns_callB (i := 0) (rds := []) (G := fun x : Unit => .bool t11.1) (C := fun x : Unit => cellsC pb1 (arrC 256 (fun j_ => [.bool (t11.2 j_)])) 64) rfl (fun w L' S hF hS hi hp hlt ho hA => k47 hp hlt (know_but w S)  h_t11) Tryd.call47 rfl) rfl rfl rfl (fun _ => ?_)
    refine l_val rfl rfl rfl (r_not rfl) ?_
    refine l_nil ?_
    refine c_if (b := (!t11.1)) rfl (fun hb => ?_) (fun hb => ?_)
    · have H13 := cnd_t hb H12; clear H12
      refine c_exit ?_
      refine c_seq ?_
      refine c_region ?_
      refine l_val rfl rfl rfl (r_move (v := str x0_2) rfl) ?_
      refine l_val rfl rfl rfl (r_assign (v := str x0_2) rfl) ?_
      refine l_nil ?_
      refine c_ret ?_
      obtain rfl := Option.some.inj H13
      refine ret1 (v := str x0_2) rfl rfl (finX () (i := 0) rfl rfl (Imp.refl _))
    · have H14 := cnd_f hb H12; clear H12
      refine c_skip ?_
      refine c_region ?_
      refine l_val rfl rfl rfl (r_move (v := str x0_2) rfl) ?_
      obtain ⟨t14, h_t14, H15⟩ := bnd_some H14; clear H14
      refine l_val rfl rfl rfl (r_cutFromG Tryd.underlying9 rfl rfl h_t14) ?_
      refine l_val rfl rfl rfl (r_assign (v := str t14) rfl) ?_
      refine l_nil ?_
      refine c_close (t14, t11.2) () m1 [0] (by exact ⟨rfl, rfl, trivial⟩) (by decide) rfl (by exact ⟨(by subst hn1; exact H15), trivial⟩) (Nat.lt_succ_self _)
  · have H16 := cnd_f hb H9; clear H9
    refine c_exit ?_
    refine c_seq ?_
    refine c_region ?_
    refine l_val rfl rfl rfl (r_move (v := str x0_2) rfl) ?_
    refine l_val rfl rfl rfl (r_assign (v := str x0_2) rfl) ?_
    refine l_nil ?_
    refine c_ret ?_
    obtain rfl := Option.some.inj H16
    refine ret1 (v := str x0_2) rfl rfl (finX () (i := 0) rfl rfl (Imp.refl _))
theorem k37 {a0 : (List UInt8)} {a1 : (Nat → Bool)} {pb1 : Nat} {r : (List UInt8) × (Nat → Bool)} {w : World} {h : Heap} {S : Nat → Prop} (hcs : (cellsC pb1 (arrC 256 (fun j_ => [.bool (a1 j_)])) 64).P S w) (hlt : ∀ b, S b → b < w.heap.size) (hw : Know h w S) (H : strings_trimRightASCII a0 a1 = some r) : Does Tryd.prog 37 (List.toArray [str a0, .pointer (some ⟨pb1, 0, none⟩)]) w (fun v w' => ∃ x : Unit, v = (str r.1) ∧ Turn w w' S (cellsC pb1 (arrC 256 (fun j_ => [.bool (r.2 j_)])) 64)) := by
  refine enter (n := 22) Tryd.func37 rfl rfl rfl S [cellsC pb1 (arrC 256 (fun j_ => [.bool (a1 j_)])) 64] (Sat.one hcs hlt) ?_
  refine c_seq ?_
  refine c_region ?_
  refine l_val rfl rfl rfl (r_assign (v := str []) rfl) ?_
  refine l_nil ?_
  refine c_seq ?_
  refine c_block ?_
  refine c_fix (σ := (List UInt8) × (Nat → Bool)) (τ := Unit) (fun next1 s => strings_trimRightASCII_l1 next1 s.1 s.2) (fun s t => [(0, str s.1), (1, .pointer (some ⟨pb1, 0, none⟩))]) (fun s t => [cellsC pb1 (arrC 256 (fun j_ => [.bool (s.2 j_)])) 64]) (fun s t => True) (a0, a1) () [0] H (by exact trivial) (by exact ⟨rfl, rfl, trivial⟩) (by decide) rfl ?_
  rintro ⟨x0_2, m_2⟩ _ m1 gg H11 _
  clear H
  replace H11 : strings_trimRightASCII_l1 (it (fun next1 s => strings_trimRightASCII_l1 next1 s.1 s.2) m1) x0_2 m_2 = some r := H11
  generalize hn1 : it (fun next1 s => strings_trimRightASCII_l1 next1 s.1 s.2) m1 = next1 at H11
  refine c_tidyF [(0, str x0_2), (1, .pointer (some ⟨pb1, 0, none⟩))] [cellsC pb1 (arrC 256 (fun j_ => [.bool (m_2 j_)])) 64] rfl rfl ?_
  refine c_seq ?_
  refine c_seq ?_
  refine c_region ?_
  refine l_val rfl rfl rfl (r_move (v := str x0_2) rfl) ?_
  refine l_val rfl rfl rfl (r_lenT Tryd.underlying9 rfl) ?_
  refine l_val rfl rfl rfl (r_gtr rfl rfl) ?_
  refine l_nil ?_
  refine c_if (b := (decide (0 < (x0_2.length : Int)))) rfl (fun hb => ?_) (fun hb => ?_)
  · have H12 := cnd_t hb H11; clear H11
    refine c_skip ?_
    refine c_block ?_
    refine c_seq ?_
    refine c_seq ?_
    refine c_region ?_
    refine l_val rfl rfl rfl (r_move (v := .pointer (some ⟨pb1, 0, none⟩)) rfl) ?_
    refine l_val rfl rfl rfl (r_move (v := str x0_2) rfl) ?_
    refine l_val rfl rfl rfl (r_move (v := str x0_2) rfl) ?_
    refine l_val rfl rfl rfl (r_lenT Tryd.underlying9 rfl) ?_
    obtain ⟨t12, h_t12, H13⟩ := bnd_some H12; clear H12
    refine l_val rfl rfl rfl (r_subG rfl rfl h_t12) ?_
    obtain ⟨t13, h_t13, H14⟩ := bnd_some H13; clear H13
    refine l_val rfl rfl rfl (r_octG Tryd.underlying9 rfl rfl h_t13) ?_
    obtain ⟨t14, h_t14, H15⟩ := bnd_some H14; clear H14
    refine l_turn (turns_callB (i := 0) (rds := []) (G := fun x : Unit => .bool t14.1) (C := fun x : Unit => cellsC pb1 (arrC 256 (fun j_ => [.bool (t14.2 j_)])) 64) rfl (fun w L' S hF hS hi hp hlt ho hA => k47 hp hlt (know_but w S)  h_t14) Tryd.call47 rfl) rfl rfl rfl (fun _ => ?_)
    refine l_val rfl rfl rfl (r_not rfl) ?_
    refine l_nil ?_
    refine c_if (b := (!t14.1)) rfl (fun hb => ?_) (fun hb => ?_)
    · have H16 := cnd_t hb H15; clear H15
      refine c_exit ?_
      refine c_seq ?_
      refine c_region ?_
      refine l_val rfl rfl rfl (r_move (v := str x0_2) rfl) ?_
      refine l_val rfl rfl rfl (r_assign (v := str x0_2) rfl) ?_
      refine l_nil ?_
      refine c_ret ?_
      obtain rfl := Option.some.inj H16
      refine ret1 (v := str x0_2) rfl rfl (finX () (i := 0) rfl rfl (Imp.refl _))
    · have H17 := cnd_f hb H15; clear H15
      refine c_skip ?_
      refine c_region ?_
      refine l_val rfl rfl rfl (r_move (v := str x0_2) rfl) ?_
      refine l_val rfl rfl rfl (r_move (v := str x0_2) rfl) ?_
      refine l_val rfl rfl rfl (r_lenT Tryd.underlying9 rfl) ?_
      obtain ⟨t19, h_t19, H18⟩ := bnd_some H17; clear H17
      refine l_val rfl rfl rfl (r_subG rfl rfl h_t19) ?_
      obtain ⟨t20, h_t20, H19⟩ := bnd_some H18; clear H18
      refine l_val rfl rfl rfl (r_cutToG Tryd.underlying9 rfl rfl h_t20) ?_
      refine l_val rfl rfl rfl (r_assign (v := str t20) rfl) ?_
      refine l_nil ?_
      refine c_close (t20, t14.2) () m1 [0] (by exact ⟨rfl, rfl, trivial⟩) (by decide) rfl (by exact ⟨(by subst hn1; exact H19), trivial⟩) (Nat.lt_succ_self _)
  · have H20 := cnd_f hb H11; clear H11
    refine c_exit ?_
    refine c_seq ?_
    refine c_region ?_
    refine l_val rfl rfl rfl (r_move (v := str x0_2) rfl) ?_
    refine l_val rfl rfl rfl (r_assign (v := str x0_2) rfl) ?_
    refine l_nil ?_
    refine c_ret ?_
    obtain rfl := Option.some.inj H20
    refine ret1 (v := str x0_2) rfl rfl (finX () (i := 0) rfl rfl (Imp.refl _))
theorem k57 {a0 : (List UInt8)} {r : Int × Int} (H : unicode_utf8_decodeRuneInStringSlow a0 = some r) : Ret Tryd.prog 57 [str a0] (.tuple #[.int .i32 r.1, .int .i64 r.2]) := by
  refine enterRet (n := 117) Tryd.func57 rfl rfl rfl (fun wd => ?_)
  refine c_seq ?_
  refine c_region ?_
  refine l_val rfl rfl rfl (r_assign (v := .int .i32 0) rfl) ?_
  refine l_val rfl rfl rfl (r_assign (v := .int .i64 0) rfl) ?_
  refine l_nil ?_
  refine c_seq ?_
  refine c_region ?_
  refine l_val rfl rfl rfl (r_move (v := str a0) rfl) ?_
  refine l_val rfl rfl rfl (r_lenT Tryd.underlying9 rfl) ?_
  refine l_val rfl rfl rfl (r_assign (v := .int .i64 (a0.length : Int)) rfl) ?_
  refine l_nil ?_
  refine c_seq ?_
  refine c_seq ?_
  refine c_region ?_
  refine l_val rfl rfl rfl (r_move (v := .int .i64 (a0.length : Int)) rfl) ?_
  refine l_val rfl rfl rfl (r_lss rfl rfl) ?_
  refine l_nil ?_
  refine c_if (b := (decide ((a0.length : Int) < 1))) rfl (fun hb => ?_) (fun hb => ?_)
  · have H3 := cnd_t hb H; clear H
    refine c_seq ?_
    refine c_region ?_
    refine l_val rfl rfl rfl (r_assign (v := .int .i32 65533) rfl) ?_
    refine l_val rfl rfl rfl (r_assign (v := .int .i64 0) rfl) ?_
    refine l_nil ?_
    refine c_ret ?_
    obtain rfl := Option.some.inj H3
    refine ret2 (v1 := .int .i32 65533) (v2 := .int .i64 0) rfl rfl rfl (fin rfl)
  · have H4 := cnd_f hb H; clear H
    exact absurd (show (none : Option (Int × Int)) = some r from H4) (fun h => by cases h)
theorem k48 {a0 : (List UInt8)} {r : Int × Int} (H : unicode_utf8_DecodeRuneInString a0 = some r) : Ret Tryd.prog 48 [str a0] (.tuple #[.int .i32 r.1, .int .i64 r.2]) := by
  refine enterRet (n := 19) Tryd.func48 rfl rfl rfl (fun wd => ?_)
  refine c_seq ?_
  refine c_region ?_
  refine l_val rfl rfl rfl (r_assign (v := .int .i32 0) rfl) ?_
  refine l_val rfl rfl rfl (r_assign (v := .int .i64 0) rfl) ?_
  refine l_nil ?_
  refine c_seq ?_
  refine c_meet (r := r) (σ := Bool) (τ := Unit) (fun s => unicode_utf8_DecodeRuneInString_j1 a0 s) (fun s t => [(0, str a0), (10, .bool s)]) (fun s t => []) (fun s t => True) ?_ ?_
  · refine c_region ?_
    refine l_val rfl rfl rfl (r_move (v := str a0) rfl) ?_
    refine l_val rfl rfl rfl (r_neqT rfl rfl) ?_
    refine l_val rfl rfl rfl (r_move (v := .bool (decide (a0 ≠ []))) rfl) ?_
    refine split (fun hb => ?_) (fun hb => ?_)
    · have H16 := cnd_t hb H; clear H
      refine l_val rfl rfl rfl (r_move (v := str a0) rfl) ?_
      obtain ⟨t8, h_t8, H17⟩ := bnd_some H16; clear H16
      refine l_val rfl rfl rfl (r_octG Tryd.underlying9 rfl rfl h_t8) ?_
      refine l_val rfl rfl rfl (r_lss rfl rfl) ?_
      refine l_val rfl rfl rfl (r_pickT (v := .bool (decide (t8 < 128))) rfl rfl) ?_
      refine l_nil ?_
      refine c_close (decide (t8 < 128)) () 0 [] (by exact ⟨rfl, rfl, trivial⟩) (by decide) rfl (by exact ⟨H17, trivial⟩) (Nat.lt_succ_self _)
    · have H18 := cnd_f hb H; clear H
      refine l_passed rfl rfl rfl ?_
      refine l_passed rfl rfl rfl ?_
      refine l_passed rfl rfl rfl ?_
      refine l_val rfl rfl rfl (r_pickF (v := .bool false) rfl rfl) ?_
      refine l_nil ?_
      refine c_close false () 0 [] (by exact ⟨rfl, rfl, trivial⟩) (by decide) rfl (by exact ⟨H18, trivial⟩) (Nat.lt_succ_self _)
  · rintro x10 _ gg H10 _
    replace H10 : unicode_utf8_DecodeRuneInString_j1 a0 x10 = some r := H10
    refine c_tidyF [(0, str a0), (10, .bool x10)] [] rfl rfl ?_
    refine c_if (b := x10) rfl (fun hb => ?_) (fun hb => ?_)
    · have H11 := cnd_t hb H10; clear H10
      refine c_seq ?_
      refine c_region ?_
      refine l_val rfl rfl rfl (r_move (v := str a0) rfl) ?_
      obtain ⟨t12, h_t12, H12⟩ := bnd_some H11; clear H11
      refine l_val rfl rfl rfl (r_octG Tryd.underlying9 rfl rfl h_t12) ?_
      obtain ⟨t13, h_t13, H13⟩ := bnd_some H12; clear H12
      refine l_val rfl rfl rfl (r_convG Tryd.runUnderlying5 Tryd.runUnderlying21 rfl (gK_i32 h_t13)) ?_
      refine l_val rfl rfl rfl (r_assign (v := .int .i32 t13) rfl) ?_
      refine l_val rfl rfl rfl (r_assign (v := .int .i64 1) rfl) ?_
      refine l_nil ?_
      refine c_ret ?_
      obtain rfl := Option.some.inj H13
      refine ret2 (v1 := .int .i32 t13) (v2 := .int .i64 1) rfl rfl rfl (fin rfl)
    · have H14 := cnd_f hb H10; clear H10
      refine c_region ?_
      refine l_val rfl rfl rfl (r_move (v := str a0) rfl) ?_
      obtain ⟨t16, h_t16, H15⟩ := bnd_some H14; clear H14
      refine l_call (k57 h_t16) Tryd.call57 rfl rfl rfl ?_
      refine l_val rfl rfl rfl (r_move (v := .tuple #[.int .i32 t16.1, .int .i64 t16.2]) rfl) ?_
      refine l_val rfl rfl rfl (r_extract (v := .int .i32 t16.1) rfl rfl) ?_
      refine l_val rfl rfl rfl (r_extract (v := .int .i64 t16.2) rfl rfl) ?_
      refine l_val rfl rfl rfl (r_assign (v := .int .i32 t16.1) rfl) ?_
      refine l_val rfl rfl rfl (r_assign (v := .int .i64 t16.2) rfl) ?_
      refine l_nil ?_
      refine c_ret ?_
      obtain rfl := Option.some.inj H15
      refine ret2 (v1 := .int .i32 t16.1) (v2 := .int .i64 t16.2) rfl rfl rfl (fin rfl)
theorem k67 {a0 : Int} {r : Bool} (H : unicode_utf8_ValidRune a0 = some r) : Ret Tryd.prog 67 [.int .i32 a0] (.bool r) := by
  refine enterRet (n := 17) Tryd.func67 rfl rfl rfl (fun wd => ?_)
  refine c_seq ?_
  refine c_region ?_
  refine l_val rfl rfl rfl (r_assign (v := .bool false) rfl) ?_
  refine l_nil ?_
  refine c_seq ?_
  refine c_block ?_
  refine c_meet (r := r) (σ := Bool) (τ := Unit) (fun s => unicode_utf8_ValidRune_j1 a0 s) (fun s t => [(0, .int .i32 a0), (3, .bool s)]) (fun s t => []) (fun s t => True) ?_ ?_
  · refine c_region ?_
    refine l_val rfl rfl rfl (r_move (v := .int .i32 a0) rfl) ?_
    refine l_val rfl rfl rfl (r_leq rfl rfl) ?_
    refine l_val rfl rfl rfl (r_move (v := .bool (decide (0 ≤ a0))) rfl) ?_
    refine split (fun hb => ?_) (fun hb => ?_)
    · have H17 := cnd_t hb H; clear H
      refine l_val rfl rfl rfl (r_move (v := .int .i32 a0) rfl) ?_
      refine l_val rfl rfl rfl (r_lss rfl rfl) ?_
      refine l_val rfl rfl rfl (r_pickT (v := .bool (decide (a0 < 55296))) rfl rfl) ?_
      refine l_val rfl rfl rfl (r_assign (v := .bool (decide (a0 < 55296))) rfl) ?_
      refine l_nil ?_
      refine c_close (decide (a0 < 55296)) () 0 [] (by exact ⟨rfl, rfl, trivial⟩) (by decide) rfl (by exact ⟨H17, trivial⟩) (Nat.lt_succ_self _)
    · have H18 := cnd_f hb H; clear H
      refine l_passed rfl rfl rfl ?_
      refine l_passed rfl rfl rfl ?_
      refine l_val rfl rfl rfl (r_pickF (v := .bool false) rfl rfl) ?_
      refine l_val rfl rfl rfl (r_assign (v := .bool false) rfl) ?_
      refine l_nil ?_
      refine c_close false () 0 [] (by exact ⟨rfl, rfl, trivial⟩) (by decide) rfl (by exact ⟨H18, trivial⟩) (Nat.lt_succ_self _)
  · rintro x3 _ gg H10 _
    replace H10 : unicode_utf8_ValidRune_j1 a0 x3 = some r := H10
    refine c_tidyF [(0, .int .i32 a0), (3, .bool x3)] [] rfl rfl ?_
    refine c_if (b := x3) rfl (fun hb => ?_) (fun hb => ?_)
    · have H11 := cnd_t hb H10; clear H10
      refine c_seq ?_
      refine c_region ?_
      refine l_val rfl rfl rfl (r_assign (v := .bool true) rfl) ?_
      refine l_nil ?_
      refine c_ret ?_
      obtain rfl := Option.some.inj H11
      refine ret1 (v := .bool true) rfl rfl (fin rfl)
    · have H12 := cnd_f hb H10; clear H10
      refine c_seq ?_
      refine c_region ?_
      refine l_val rfl rfl rfl (r_move (v := .int .i32 a0) rfl) ?_
      refine l_val rfl rfl rfl (r_lss rfl rfl) ?_
      refine l_val rfl rfl rfl (r_move (v := .bool (decide (57343 < a0))) rfl) ?_
      refine split (fun hb => ?_) (fun hb => ?_)
      · have H13 := cnd_t hb H12; clear H12
        refine l_val rfl rfl rfl (r_move (v := .int .i32 a0) rfl) ?_
        refine l_val rfl rfl rfl (r_leq rfl rfl) ?_
        refine l_val rfl rfl rfl (r_pickT (v := .bool (decide (a0 ≤ 1114111))) rfl rfl) ?_
        refine l_val rfl rfl rfl (r_assign (v := .bool (decide (a0 ≤ 1114111))) rfl) ?_
        refine l_nil ?_
        refine c_if (b := (decide (a0 ≤ 1114111))) rfl (fun hb => ?_) (fun hb => ?_)
        · have H14 := cnd_t hb H13; clear H13
          refine c_seq ?_
          refine c_region ?_
          refine l_val rfl rfl rfl (r_assign (v := .bool true) rfl) ?_
          refine l_nil ?_
          refine c_ret ?_
          obtain rfl := Option.some.inj H14
          refine ret1 (v := .bool true) rfl rfl (fin rfl)
        · have H15 := cnd_f hb H13; clear H13
          refine c_skip ?_
          refine c_seq ?_
          refine c_region ?_
          refine l_val rfl rfl rfl (r_assign (v := .bool false) rfl) ?_
          refine l_nil ?_
          refine c_ret ?_
          obtain rfl := Option.some.inj H15
          refine ret1 (v := .bool false) rfl rfl (fin rfl)
      · have H16 := cnd_f hb H12; clear H12
        refine l_passed rfl rfl rfl ?_
        refine l_passed rfl rfl rfl ?_
        refine l_val rfl rfl rfl (r_pickF (v := .bool false) rfl rfl) ?_
        refine l_val rfl rfl rfl (r_assign (v := .bool false) rfl) ?_
        refine l_nil ?_
        refine c_false rfl ?_
        refine c_skip ?_
        refine c_seq ?_
        refine c_region ?_
        refine l_val rfl rfl rfl (r_assign (v := .bool false) rfl) ?_
        refine l_nil ?_
        refine c_ret ?_
        obtain rfl := Option.some.inj H16
        refine ret1 (v := .bool false) rfl rfl (fin rfl)
theorem k68 {a0 : Int} {r : Int} (H : internal_bytealg_Cutover a0 = some r) : Ret Tryd.prog 68 [.int .i64 a0] (.int .i64 r) := by
  refine enterRet (n := 6) Tryd.func68 rfl rfl rfl (fun wd => ?_)
  refine c_seq ?_
  refine c_region ?_
  refine l_val rfl rfl rfl (r_assign (v := .int .i64 0) rfl) ?_
  refine l_nil ?_
  refine c_seq ?_
  refine c_region ?_
  refine l_val rfl rfl rfl (r_move (v := .int .i64 a0) rfl) ?_
  obtain ⟨t4, h_t4, H3⟩ := bnd_some H; clear H
  refine l_val rfl rfl rfl (r_addG rfl rfl h_t4) ?_
  obtain ⟨t5, h_t5, H4⟩ := bnd_some H3; clear H3
  refine l_val rfl rfl rfl (r_quoG rfl rfl h_t5) ?_
  refine l_val rfl rfl rfl (r_assign (v := .int .i64 t5) rfl) ?_
  refine l_nil ?_
  refine c_ret ?_
  obtain rfl := Option.some.inj H4
  refine ret1 (v := .int .i64 t5) rfl rfl (fin rfl)
theorem k58 {a0 : (List UInt8)} {a1 : Int} {r : Int} (H : strings_IndexRune a0 a1 = some r) : Ret Tryd.prog 58 [str a0, .int .i32 a1] (.int .i64 r) := by
  refine enterRet (n := 187) Tryd.func58 rfl rfl rfl (fun wd => ?_)
  refine c_seq ?_
  refine c_region ?_
  refine l_val rfl rfl rfl (r_assign (v := .int .i64 0) rfl) ?_
  refine l_nil ?_
  refine c_block ?_
  refine c_meet (r := r) (σ := Bool) (τ := Unit) (fun s => strings_IndexRune_j1 a0 a1 s) (fun s t => [(0, str a0), (1, .int .i32 a1), (160, .bool s)]) (fun s t => []) (fun s t => True) ?_ ?_
  · refine c_region ?_
    refine l_val rfl rfl rfl (r_move (v := .int .i32 a1) rfl) ?_
    refine l_val rfl rfl rfl (r_leq rfl rfl) ?_
    refine l_val rfl rfl rfl (r_move (v := .bool (decide (0 ≤ a1))) rfl) ?_
    refine split (fun hb => ?_) (fun hb => ?_)
    · have H31 := cnd_t hb H; clear H
      refine l_val rfl rfl rfl (r_move (v := .int .i32 a1) rfl) ?_
      refine l_val rfl rfl rfl (r_lss rfl rfl) ?_
      refine l_val rfl rfl rfl (r_pickT (v := .bool (decide (a1 < 128))) rfl rfl) ?_
      refine l_val rfl rfl rfl (r_assign (v := .bool (decide (a1 < 128))) rfl) ?_
      refine l_nil ?_
      refine c_close (decide (a1 < 128)) () 0 [] (by exact ⟨rfl, rfl, rfl, trivial⟩) (by decide) rfl (by exact ⟨H31, trivial⟩) (Nat.lt_succ_self _)
    · have H32 := cnd_f hb H; clear H
      refine l_passed rfl rfl rfl ?_
      refine l_passed rfl rfl rfl ?_
      refine l_val rfl rfl rfl (r_pickF (v := .bool false) rfl rfl) ?_
      refine l_val rfl rfl rfl (r_assign (v := .bool false) rfl) ?_
      refine l_nil ?_
      refine c_close false () 0 [] (by exact ⟨rfl, rfl, rfl, trivial⟩) (by decide) rfl (by exact ⟨H32, trivial⟩) (Nat.lt_succ_self _)
  · rintro x160 _ gg H17 _
    replace H17 : strings_IndexRune_j1 a0 a1 x160 = some r := H17
    refine c_tidyF [(0, str a0), (1, .int .i32 a1), (160, .bool x160)] [] rfl rfl ?_
    refine c_if (b := x160) rfl (fun hb => ?_) (fun hb => ?_)
    · have H18 := cnd_t hb H17; clear H17
      exact absurd (show (none : Option (Int)) = some r from H18) (fun h => by cases h)
    · have H19 := cnd_f hb H17; clear H17
      refine c_seq ?_
      refine c_region ?_
      refine l_val rfl rfl rfl (r_move (v := .int .i32 a1) rfl) ?_
      refine l_val rfl rfl rfl (r_eql rfl rfl) ?_
      refine l_val rfl rfl rfl (r_assign (v := .bool (decide (a1 = 65533))) rfl) ?_
      refine l_nil ?_
      refine c_if (b := (decide (a1 = 65533))) rfl (fun hb => ?_) (fun hb => ?_)
      · have H20 := cnd_t hb H19; clear H19
        refine c_seq ?_
        refine c_seq ?_
        refine c_region ?_
        refine l_val rfl rfl rfl (r_move (v := str a0) rfl) ?_
        refine l_make (rds := []) (makes_range (s := a0) Tryd.underlying9 rfl) rfl rfl rfl (fun b1 => ?_)
        refine l_nil ?_
        refine c_block ?_
        refine c_fix (σ := Nat) (τ := Unit) (fun next2 s => strings_IndexRune_l2 a0 next2 s) (fun s t => [(175, .pointer (some ⟨b1, 0, none⟩))]) (fun s t => [iterC b1 a0 s]) (fun s t => True) 0 () [0] H20 (by exact trivial) (by exact ⟨rfl, trivial⟩) (by decide) rfl ?_
        rintro k_2 _ m2 gg H21 _
        clear H20
        replace H21 : strings_IndexRune_l2 a0 (it (fun next2 s => strings_IndexRune_l2 a0 next2 s) m2) k_2 = some r := H21
        generalize hn2 : it (fun next2 s => strings_IndexRune_l2 a0 next2 s) m2 = next2 at H21
        refine c_tidyF [(175, .pointer (some ⟨b1, 0, none⟩))] [iterC b1 a0 k_2] rfl rfl ?_
        refine c_seq ?_
        refine c_region ?_
        refine caseB (decide (k_2 < a0.length)) (fun hb => ?_) (fun hb => ?_)
        · have H22 := cnd_t hb H21; clear H21
          obtain ⟨t176, h_t176, H23⟩ := bnd_some H22; clear H22
          refine l_turn (turns_next (i := 0) (rds := []) rfl rfl h_t176) rfl rfl rfl (fun _ => ?_)
          refine l_val rfl rfl rfl (r_extract (v := .bool true) rfl rfl) ?_
          refine l_nil ?_
          refine c_seq ?_
          refine c_true rfl ?_
          refine c_skip ?_
          refine c_block ?_
          refine c_seq ?_
          refine c_region ?_
          refine l_val rfl rfl rfl (r_extract (v := .int .i64 ((k_2 : Nat) : Int)) rfl rfl) ?_
          refine l_val rfl rfl rfl (r_extract (v := .int .i32 t176) rfl rfl) ?_
          refine l_val rfl rfl rfl (r_assign (v := .int .i64 ((k_2 : Nat) : Int)) rfl) ?_
          refine l_val rfl rfl rfl (r_assign (v := .int .i32 t176) rfl) ?_
          refine l_nil ?_
          refine c_seq ?_
          refine c_region ?_
          refine l_val rfl rfl rfl (r_move (v := .int .i32 t176) rfl) ?_
          refine l_val rfl rfl rfl (r_eql rfl rfl) ?_
          refine l_nil ?_
          refine c_if (b := (decide (t176 = 65533))) rfl (fun hb => ?_) (fun hb => ?_)
          · have H24 := cnd_t hb H23; clear H23
            refine c_seq ?_
            refine c_region ?_
            refine l_val rfl rfl rfl (r_move (v := .int .i64 ((k_2 : Nat) : Int)) rfl) ?_
            refine l_val rfl rfl rfl (r_assign (v := .int .i64 ((k_2 : Nat) : Int)) rfl) ?_
            refine l_nil ?_
            refine c_ret ?_
            obtain rfl := Option.some.inj H24
            refine ret1 (v := .int .i64 ((k_2 : Nat) : Int)) rfl rfl (fin rfl)
          · have H25 := cnd_f hb H23; clear H23
            refine c_skip ?_
            refine c_close (k_2 + 1) () m2 [0] (by exact ⟨rfl, trivial⟩) (by decide) rfl (by exact ⟨(by subst hn2; exact H25), trivial⟩) (Nat.lt_succ_self _)
        · have H26 := cnd_f hb H21; clear H21
          refine l_read (fun w hF hS => r_nextOver (i := 0) hS rfl rfl hb) rfl rfl rfl ?_
          refine l_val rfl rfl rfl (r_extract (v := .bool false) rfl rfl) ?_
          refine l_nil ?_
          refine c_seq ?_
          refine c_false rfl ?_
          refine c_exit ?_
          refine c_seq ?_
          refine c_region ?_
          refine l_val rfl rfl rfl (r_assign (v := .int .i64 (-1)) rfl) ?_
          refine l_nil ?_
          refine c_ret ?_
          obtain rfl := Option.some.inj H26
          refine ret1 (v := .int .i64 (-1)) rfl rfl (fin rfl)
      · have H27 := cnd_f hb H19; clear H19
        refine c_seq ?_
        refine c_region ?_
        refine l_val rfl rfl rfl (r_move (v := .int .i32 a1) rfl) ?_
        obtain ⟨t185, h_t185, H28⟩ := bnd_some H27; clear H27
        refine l_call (k67 h_t185) Tryd.call67 rfl rfl rfl ?_
        refine l_val rfl rfl rfl (r_not rfl) ?_
        refine l_val rfl rfl rfl (r_assign (v := .bool (!t185)) rfl) ?_
        refine l_nil ?_
        refine c_if (b := (!t185)) rfl (fun hb => ?_) (fun hb => ?_)
        · have H29 := cnd_t hb H28; clear H28
          refine c_seq ?_
          refine c_region ?_
          refine l_val rfl rfl rfl (r_assign (v := .int .i64 (-1)) rfl) ?_
          refine l_nil ?_
          refine c_ret ?_
          obtain rfl := Option.some.inj H29
          refine ret1 (v := .int .i64 (-1)) rfl rfl (fin rfl)
        · have H30 := cnd_f hb H28; clear H28
          exact absurd (show (none : Option (Int)) = some r from H30) (fun h => by cases h)
theorem k49 {a0 : (List UInt8)} {a1 : Int} {r : Bool} (H : strings_ContainsRune a0 a1 = some r) : Ret Tryd.prog 49 [str a0, .int .i32 a1] (.bool r) := by
  refine enterRet (n := 9) Tryd.func49 rfl rfl rfl (fun wd => ?_)
  refine c_seq ?_
  refine c_region ?_
  refine l_val rfl rfl rfl (r_assign (v := .bool false) rfl) ?_
  refine l_nil ?_
  refine c_seq ?_
  refine c_region ?_
  refine l_val rfl rfl rfl (r_move (v := str a0) rfl) ?_
  refine l_val rfl rfl rfl (r_move (v := .int .i32 a1) rfl) ?_
  obtain ⟨t7, h_t7, H2⟩ := bnd_some H; clear H
  refine l_call (k58 h_t7) Tryd.call58 rfl rfl rfl ?_
  refine l_val rfl rfl rfl (r_geq rfl rfl) ?_
  refine l_val rfl rfl rfl (r_assign (v := .bool (decide (0 ≤ t7))) rfl) ?_
  refine l_nil ?_
  refine c_ret ?_
  obtain rfl := Option.some.inj H2
  refine ret1 (v := .bool (decide (0 ≤ t7))) rfl rfl (fin rfl)
theorem k38 {a0 : (List UInt8)} {a1 : (List UInt8)} {r : (List UInt8)} (H : strings_trimLeftUnicode a0 a1 = some r) : Ret Tryd.prog 38 [str a0, str a1] (str r) := by
  refine enterRet (n := 23) Tryd.func38 rfl rfl rfl (fun wd => ?_)
  refine c_seq ?_
  refine c_region ?_
  refine l_val rfl rfl rfl (r_assign (v := str []) rfl) ?_
  refine l_nil ?_
  refine c_seq ?_
  refine c_block ?_
  refine c_fix (σ := (List UInt8)) (τ := Unit) (fun next1 s => strings_trimLeftUnicode_l1 a1 next1 s) (fun s t => [(0, str s), (1, str a1)]) (fun s t => []) (fun s t => True) a0 () [] H (by exact trivial) (by exact ⟨rfl, rfl, trivial⟩) (by decide) rfl ?_
  rintro x0_2 _ m1 gg H9 _
  clear H
  replace H9 : strings_trimLeftUnicode_l1 a1 (it (fun next1 s => strings_trimLeftUnicode_l1 a1 next1 s) m1) x0_2 = some r := H9
  generalize hn1 : it (fun next1 s => strings_trimLeftUnicode_l1 a1 next1 s) m1 = next1 at H9
  refine c_tidyF [(0, str x0_2), (1, str a1)] [] rfl rfl ?_
  refine c_seq ?_
  refine c_seq ?_
  refine c_region ?_
  refine l_val rfl rfl rfl (r_move (v := str x0_2) rfl) ?_
  refine l_val rfl rfl rfl (r_lenT Tryd.underlying9 rfl) ?_
  refine l_val rfl rfl rfl (r_gtr rfl rfl) ?_
  refine l_nil ?_
  refine c_if (b := (decide (0 < (x0_2.length : Int)))) rfl (fun hb => ?_) (fun hb => ?_)
  · have H10 := cnd_t hb H9; clear H9
    refine c_skip ?_
    refine c_block ?_
    refine c_seq ?_
    refine c_region ?_
    refine l_val rfl rfl rfl (r_move (v := str x0_2) rfl) ?_
    obtain ⟨t12, h_t12, H11⟩ := bnd_some H10; clear H10
    refine l_call (k48 h_t12) Tryd.call48 rfl rfl rfl ?_
    refine l_val rfl rfl rfl (r_move (v := .tuple #[.int .i32 t12.1, .int .i64 t12.2]) rfl) ?_
    refine l_val rfl rfl rfl (r_extract (v := .int .i32 t12.1) rfl rfl) ?_
    refine l_val rfl rfl rfl (r_extract (v := .int .i64 t12.2) rfl rfl) ?_
    refine l_val rfl rfl rfl (r_assign (v := .int .i32 t12.1) rfl) ?_
    refine l_val rfl rfl rfl (r_assign (v := .int .i64 t12.2) rfl) ?_
    refine l_nil ?_
    refine c_seq ?_
    refine c_seq ?_
    refine c_region ?_
    refine l_val rfl rfl rfl (r_move (v := str a1) rfl) ?_
    refine l_val rfl rfl rfl (r_move (v := .int .i32 t12.1) rfl) ?_
    obtain ⟨t17, h_t17, H12⟩ := bnd_some H11; clear H11
    refine l_call (k49 h_t17) Tryd.call49 rfl rfl rfl ?_
    refine l_val rfl rfl rfl (r_not rfl) ?_
    refine l_nil ?_
    refine c_if (b := (!t17)) rfl (fun hb => ?_) (fun hb => ?_)
    · have H13 := cnd_t hb H12; clear H12
      refine c_exit ?_
      refine c_seq ?_
      refine c_region ?_
      refine l_val rfl rfl rfl (r_move (v := str x0_2) rfl) ?_
      refine l_val rfl rfl rfl (r_assign (v := str x0_2) rfl) ?_
      refine l_nil ?_
      refine c_ret ?_
      obtain rfl := Option.some.inj H13
      refine ret1 (v := str x0_2) rfl rfl (fin rfl)
    · have H14 := cnd_f hb H12; clear H12
      refine c_skip ?_
      refine c_region ?_
      refine l_val rfl rfl rfl (r_move (v := str x0_2) rfl) ?_
      refine l_val rfl rfl rfl (r_move (v := .int .i64 t12.2) rfl) ?_
      obtain ⟨t21, h_t21, H15⟩ := bnd_some H14; clear H14
      refine l_val rfl rfl rfl (r_cutFromG Tryd.underlying9 rfl rfl h_t21) ?_
      refine l_val rfl rfl rfl (r_assign (v := str t21) rfl) ?_
      refine l_nil ?_
      refine c_close t21 () m1 [] (by exact ⟨rfl, rfl, trivial⟩) (by decide) rfl (by exact ⟨(by subst hn1; exact H15), trivial⟩) (Nat.lt_succ_self _)
  · have H16 := cnd_f hb H9; clear H9
    refine c_exit ?_
    refine c_seq ?_
    refine c_region ?_
    refine l_val rfl rfl rfl (r_move (v := str x0_2) rfl) ?_
    refine l_val rfl rfl rfl (r_assign (v := str x0_2) rfl) ?_
    refine l_nil ?_
    refine c_ret ?_
    obtain rfl := Option.some.inj H16
    refine ret1 (v := str x0_2) rfl rfl (fin rfl)
theorem k59 {a0 : Int} {r : Bool} (H : unicode_utf8_RuneStart a0 = some r) : Ret Tryd.prog 59 [.int .u8 a0] (.bool r) := by
  refine enterRet (n := 6) Tryd.func59 rfl rfl rfl (fun wd => ?_)
  refine c_seq ?_
  refine c_region ?_
  refine l_val rfl rfl rfl (r_assign (v := .bool false) rfl) ?_
  refine l_nil ?_
  refine c_seq ?_
  refine c_region ?_
  refine l_val rfl rfl rfl (r_move (v := .int .u8 a0) rfl) ?_
  refine l_val rfl rfl rfl (r_bitsAnd (bits := 8) rfl rfl rfl (wr_u8 _)) ?_
  refine l_val rfl rfl rfl (r_neq rfl rfl) ?_
  refine l_val rfl rfl rfl (r_assign (v := .bool (decide ((wU8 (bAnd 8 a0 192)) ≠ 128))) rfl) ?_
  refine l_nil ?_
  refine c_ret ?_
  obtain rfl := Option.some.inj H
  refine ret1 (v := .bool (decide ((wU8 (bAnd 8 a0 192)) ≠ 128))) rfl rfl (fin rfl)
theorem k50 {a0 : (List UInt8)} {r : Int × Int} (H : unicode_utf8_DecodeLastRuneInString a0 = some r) : Ret Tryd.prog 50 [str a0] (.tuple #[.int .i32 r.1, .int .i64 r.2]) := by
  refine enterRet (n := 51) Tryd.func50 rfl rfl rfl (fun wd => ?_)
  refine c_seq ?_
  refine c_region ?_
  refine l_val rfl rfl rfl (r_assign (v := .int .i32 0) rfl) ?_
  refine l_val rfl rfl rfl (r_assign (v := .int .i64 0) rfl) ?_
  refine l_nil ?_
  refine c_seq ?_
  refine c_region ?_
  refine l_val rfl rfl rfl (r_move (v := str a0) rfl) ?_
  refine l_val rfl rfl rfl (r_lenT Tryd.underlying9 rfl) ?_
  refine l_val rfl rfl rfl (r_assign (v := .int .i64 (a0.length : Int)) rfl) ?_
  refine l_nil ?_
  refine c_seq ?_
  refine c_seq ?_
  refine c_region ?_
  refine l_val rfl rfl rfl (r_move (v := .int .i64 (a0.length : Int)) rfl) ?_
  refine l_val rfl rfl rfl (r_eql rfl rfl) ?_
  refine l_nil ?_
  refine c_if (b := (decide ((a0.length : Int) = 0))) rfl (fun hb => ?_) (fun hb => ?_)
  · have H27 := cnd_t hb H; clear H
    refine c_seq ?_
    refine c_region ?_
    refine l_val rfl rfl rfl (r_assign (v := .int .i32 65533) rfl) ?_
    refine l_val rfl rfl rfl (r_assign (v := .int .i64 0) rfl) ?_
    refine l_nil ?_
    refine c_ret ?_
    obtain rfl := Option.some.inj H27
    refine ret2 (v1 := .int .i32 65533) (v2 := .int .i64 0) rfl rfl rfl (fin rfl)
  · have H28 := cnd_f hb H; clear H
    refine c_skip ?_
    refine c_seq ?_
    refine c_region ?_
    refine l_val rfl rfl rfl (r_move (v := .int .i64 (a0.length : Int)) rfl) ?_
    obtain ⟨t12, h_t12, H29⟩ := bnd_some H28; clear H28
    refine l_val rfl rfl rfl (r_subG rfl rfl h_t12) ?_
    refine l_val rfl rfl rfl (r_assign (v := .int .i64 t12) rfl) ?_
    refine l_nil ?_
    refine c_seq ?_
    refine c_region ?_
    refine l_val rfl rfl rfl (r_move (v := str a0) rfl) ?_
    refine l_val rfl rfl rfl (r_move (v := .int .i64 t12) rfl) ?_
    obtain ⟨t15, h_t15, H30⟩ := bnd_some H29; clear H29
    refine l_val rfl rfl rfl (r_octG Tryd.underlying9 rfl rfl h_t15) ?_
    obtain ⟨t16, h_t16, H31⟩ := bnd_some H30; clear H30
    refine l_val rfl rfl rfl (r_convG Tryd.runUnderlying5 Tryd.runUnderlying21 rfl (gK_i32 h_t16)) ?_
    refine l_val rfl rfl rfl (r_assign (v := .int .i32 t16) rfl) ?_
    refine l_nil ?_
    refine c_seq ?_
    refine c_seq ?_
    refine c_region ?_
    refine l_val rfl rfl rfl (r_move (v := .int .i32 t16) rfl) ?_
    refine l_val rfl rfl rfl (r_lss rfl rfl) ?_
    refine l_nil ?_
    refine c_if (b := (decide (t16 < 128))) rfl (fun hb => ?_) (fun hb => ?_)
    · have H32 := cnd_t hb H31; clear H31
      refine c_seq ?_
      refine c_region ?_
      refine l_val rfl rfl rfl (r_move (v := .int .i32 t16) rfl) ?_
      refine l_val rfl rfl rfl (r_assign (v := .int .i32 t16) rfl) ?_
      refine l_val rfl rfl rfl (r_assign (v := .int .i64 1) rfl) ?_
      refine l_nil ?_
      refine c_ret ?_
      obtain rfl := Option.some.inj H32
      refine ret2 (v1 := .int .i32 t16) (v2 := .int .i64 1) rfl rfl rfl (fin rfl)
    · have H33 := cnd_f hb H31; clear H31
      refine c_skip ?_
      refine c_seq ?_
      refine c_region ?_
      refine l_val rfl rfl rfl (r_move (v := .int .i64 (a0.length : Int)) rfl) ?_
      obtain ⟨t21, h_t21, H34⟩ := bnd_some H33; clear H33
      refine l_val rfl rfl rfl (r_subG rfl rfl h_t21) ?_
      refine l_val rfl rfl rfl (r_max rfl rfl) ?_
      refine l_val rfl rfl rfl (r_assign (v := .int .i64 (max t21 0)) rfl) ?_
      refine l_nil ?_
      refine c_meet (r := r) (σ := Int) (τ := Unit) (fun s => unicode_utf8_DecodeLastRuneInString_j1 a0 s) (fun s t => [(0, str a0), (4, .int .i64 (a0.length : Int)), (5, .int .i64 s)]) (fun s t => []) (fun s t => True) ?_ ?_
      · refine c_seq ?_
        refine c_region ?_
        refine l_val rfl rfl rfl (r_move (v := .int .i64 t12) rfl) ?_
        obtain ⟨t24, h_t24, H44⟩ := bnd_some H34; clear H34
        refine l_val rfl rfl rfl (r_subG rfl rfl h_t24) ?_
        refine l_val rfl rfl rfl (r_assign (v := .int .i64 t24) rfl) ?_
        refine l_nil ?_
        refine c_block ?_
        refine c_fix (σ := Int) (τ := Unit) (fun next3 s => unicode_utf8_DecodeLastRuneInString_l3 a0 t21 next3 s) (fun s t => [(0, str a0), (4, .int .i64 (a0.length : Int)), (5, .int .i64 s), (6, .int .i64 (max t21 0))]) (fun s t => []) (fun s t => True) t24 () [] H44 (by exact trivial) (by exact ⟨rfl, rfl, rfl, rfl, trivial⟩) (by decide) rfl ?_
        rintro x5_4 _ m3 gg H45 _
        clear H44
        replace H45 : unicode_utf8_DecodeLastRuneInString_l3 a0 t21 (it (fun next3 s => unicode_utf8_DecodeLastRuneInString_l3 a0 t21 next3 s) m3) x5_4 = some r := H45
        generalize hn3 : it (fun next3 s => unicode_utf8_DecodeLastRuneInString_l3 a0 t21 next3 s) m3 = next3 at H45
        refine c_tidyF [(0, str a0), (4, .int .i64 (a0.length : Int)), (5, .int .i64 x5_4), (6, .int .i64 (max t21 0))] [] rfl rfl ?_
        refine c_seq ?_
        refine c_seq ?_
        refine c_region ?_
        refine l_val rfl rfl rfl (r_move (v := .int .i64 x5_4) rfl) ?_
        refine l_val rfl rfl rfl (r_move (v := .int .i64 (max t21 0)) rfl) ?_
        refine l_val rfl rfl rfl (r_geq rfl rfl) ?_
        refine l_nil ?_
        refine c_if (b := (decide ((max t21 0) ≤ x5_4))) rfl (fun hb => ?_) (fun hb => ?_)
        · have H46 := cnd_t hb H45; clear H45
          refine c_skip ?_
          refine c_seq ?_
          refine c_block ?_
          refine c_seq ?_
          refine c_region ?_
          refine l_val rfl rfl rfl (r_move (v := str a0) rfl) ?_
          refine l_val rfl rfl rfl (r_move (v := .int .i64 x5_4) rfl) ?_
          obtain ⟨t32, h_t32, H47⟩ := bnd_some H46; clear H46
          refine l_val rfl rfl rfl (r_octG Tryd.underlying9 rfl rfl h_t32) ?_
          obtain ⟨t33, h_t33, H48⟩ := bnd_some H47; clear H47
          refine l_call (k59 h_t33) Tryd.call59 rfl rfl rfl ?_
          refine l_nil ?_
          refine c_if (b := t33) rfl (fun hb => ?_) (fun hb => ?_)
          · have H49 := cnd_t hb H48; clear H48
            refine c_exit ?_
            refine c_close x5_4 () 0 [] (by exact ⟨rfl, rfl, rfl, trivial⟩) (by decide) rfl (by exact ⟨H49, trivial⟩) (Nat.lt_succ_self _)
          · have H50 := cnd_f hb H48; clear H48
            refine c_skip ?_
            refine c_region ?_
            refine l_val rfl rfl rfl (r_move (v := .int .i64 x5_4) rfl) ?_
            obtain ⟨t29, h_t29, H51⟩ := bnd_some H50; clear H50
            refine l_val rfl rfl rfl (r_subG rfl rfl h_t29) ?_
            refine l_val rfl rfl rfl (r_assign (v := .int .i64 t29) rfl) ?_
            refine l_nil ?_
            refine c_close t29 () m3 [] (by exact ⟨rfl, rfl, rfl, rfl, trivial⟩) (by decide) rfl (by exact ⟨(by subst hn3; exact H51), trivial⟩) (Nat.lt_succ_self _)
        · have H52 := cnd_f hb H45; clear H45
          refine c_exit ?_
          refine c_close x5_4 () 0 [] (by exact ⟨rfl, rfl, rfl, trivial⟩) (by decide) rfl (by exact ⟨H52, trivial⟩) (Nat.lt_succ_self _)
      · rintro x5 _ gg H35 _
        replace H35 : unicode_utf8_DecodeLastRuneInString_j1 a0 x5 = some r := H35
        refine c_tidyF [(0, str a0), (4, .int .i64 (a0.length : Int)), (5, .int .i64 x5)] [] rfl rfl ?_
        refine c_meet (r := r) (σ := Int) (τ := Unit) (fun s => unicode_utf8_DecodeLastRuneInString_j2 a0 s) (fun s t => [(0, str a0), (4, .int .i64 (a0.length : Int)), (5, .int .i64 s)]) (fun s t => []) (fun s t => True) ?_ ?_
        · refine c_seq ?_
          refine c_region ?_
          refine l_val rfl rfl rfl (r_move (v := .int .i64 x5) rfl) ?_
          refine l_val rfl rfl rfl (r_lss rfl rfl) ?_
          refine l_nil ?_
          refine c_if (b := (decide (x5 < 0))) rfl (fun hb => ?_) (fun hb => ?_)
          · have H42 := cnd_t hb H35; clear H35
            refine c_region ?_
            refine l_val rfl rfl rfl (r_assign (v := .int .i64 0) rfl) ?_
            refine l_nil ?_
            refine c_close 0 () 0 [] (by exact ⟨rfl, rfl, rfl, trivial⟩) (by decide) rfl (by exact ⟨H42, trivial⟩) (Nat.lt_succ_self _)
          · have H43 := cnd_f hb H35; clear H35
            refine c_skip ?_
            refine c_close x5 () 0 [] (by exact ⟨rfl, rfl, rfl, trivial⟩) (by decide) rfl (by exact ⟨H43, trivial⟩) (Nat.lt_succ_self _)
        · rintro x5_2 _ gg H36 _
          replace H36 : unicode_utf8_DecodeLastRuneInString_j2 a0 x5_2 = some r := H36
          refine c_tidyF [(0, str a0), (4, .int .i64 (a0.length : Int)), (5, .int .i64 x5_2)] [] rfl rfl ?_
          refine c_seq ?_
          refine c_region ?_
          refine l_val rfl rfl rfl (r_move (v := str a0) rfl) ?_
          refine l_val rfl rfl rfl (r_move (v := .int .i64 x5_2) rfl) ?_
          refine l_val rfl rfl rfl (r_move (v := .int .i64 (a0.length : Int)) rfl) ?_
          obtain ⟨t40, h_t40, H37⟩ := bnd_some H36; clear H36
          refine l_val rfl rfl rfl (r_cutTG Tryd.underlying9 rfl rfl rfl h_t40) ?_
          obtain ⟨t41, h_t41, H38⟩ := bnd_some H37; clear H37
          refine l_call (k48 h_t41) Tryd.call48 rfl rfl rfl ?_
          refine l_val rfl rfl rfl (r_move (v := .tuple #[.int .i32 t41.1, .int .i64 t41.2]) rfl) ?_
          refine l_val rfl rfl rfl (r_extract (v := .int .i32 t41.1) rfl rfl) ?_
          refine l_val rfl rfl rfl (r_extract (v := .int .i64 t41.2) rfl rfl) ?_
          refine l_val rfl rfl rfl (r_assign (v := .int .i32 t41.1) rfl) ?_
          refine l_val rfl rfl rfl (r_assign (v := .int .i64 t41.2) rfl) ?_
          refine l_nil ?_
          refine c_seq ?_
          refine c_seq ?_
          refine c_region ?_
          refine l_val rfl rfl rfl (r_move (v := .int .i64 x5_2) rfl) ?_
          refine l_val rfl rfl rfl (r_move (v := .int .i64 t41.2) rfl) ?_
          obtain ⟨t46, h_t46, H39⟩ := bnd_some H38; clear H38
          refine l_val rfl rfl rfl (r_addG rfl rfl h_t46) ?_
          refine l_val rfl rfl rfl (r_move (v := .int .i64 (a0.length : Int)) rfl) ?_
          refine l_val rfl rfl rfl (r_neq rfl rfl) ?_
          refine l_nil ?_
          refine c_if (b := (decide (t46 ≠ (a0.length : Int)))) rfl (fun hb => ?_) (fun hb => ?_)
          · have H40 := cnd_t hb H39; clear H39
            refine c_seq ?_
            refine c_region ?_
            refine l_val rfl rfl rfl (r_assign (v := .int .i32 65533) rfl) ?_
            refine l_val rfl rfl rfl (r_assign (v := .int .i64 1) rfl) ?_
            refine l_nil ?_
            refine c_ret ?_
            obtain rfl := Option.some.inj H40
            refine ret2 (v1 := .int .i32 65533) (v2 := .int .i64 1) rfl rfl rfl (fin rfl)
          · have H41 := cnd_f hb H39; clear H39
            refine c_skip ?_
            refine c_seq ?_
            refine c_region ?_
            refine l_val rfl rfl rfl (r_move (v := .int .i32 t41.1) rfl) ?_
            refine l_val rfl rfl rfl (r_move (v := .int .i64 t41.2) rfl) ?_
            refine l_val rfl rfl rfl (r_assign (v := .int .i32 t41.1) rfl) ?_
            refine l_val rfl rfl rfl (r_assign (v := .int .i64 t41.2) rfl) ?_
            refine l_nil ?_
            refine c_ret ?_
            obtain rfl := Option.some.inj H41
            refine ret2 (v1 := .int .i32 t41.1) (v2 := .int .i64 t41.2) rfl rfl rfl (fin rfl)
theorem k39 {a0 : (List UInt8)} {a1 : (List UInt8)} {r : (List UInt8)} (H : strings_trimRightUnicode a0 a1 = some r) : Ret Tryd.prog 39 [str a0, str a1] (str r) := by
  refine enterRet (n := 34) Tryd.func39 rfl rfl rfl (fun wd => ?_)
  refine c_seq ?_
  refine c_region ?_
  refine l_val rfl rfl rfl (r_assign (v := str []) rfl) ?_
  refine l_nil ?_
  refine c_seq ?_
  refine c_block ?_
  refine c_fix (σ := (List UInt8)) (τ := Unit) (fun next1 s => strings_trimRightUnicode_l1 a1 next1 s) (fun s t => [(0, str s), (1, str a1)]) (fun s t => []) (fun s t => True) a0 () [] H (by exact trivial) (by exact ⟨rfl, rfl, trivial⟩) (by decide) rfl ?_
  rintro x0_2 _ m1 gg H16 _
  clear H
  replace H16 : strings_trimRightUnicode_l1 a1 (it (fun next1 s => strings_trimRightUnicode_l1 a1 next1 s) m1) x0_2 = some r := H16
  generalize hn1 : it (fun next1 s => strings_trimRightUnicode_l1 a1 next1 s) m1 = next1 at H16
  refine c_tidyF [(0, str x0_2), (1, str a1)] [] rfl rfl ?_
  refine c_seq ?_
  refine c_seq ?_
  refine c_region ?_
  refine l_val rfl rfl rfl (r_move (v := str x0_2) rfl) ?_
  refine l_val rfl rfl rfl (r_lenT Tryd.underlying9 rfl) ?_
  refine l_val rfl rfl rfl (r_gtr rfl rfl) ?_
  refine l_nil ?_
  refine c_if (b := (decide (0 < (x0_2.length : Int)))) rfl (fun hb => ?_) (fun hb => ?_)
  · have H17 := cnd_t hb H16; clear H16
    refine c_skip ?_
    refine c_block ?_
    refine c_seq ?_
    refine c_region ?_
    refine l_val rfl rfl rfl (r_move (v := str x0_2) rfl) ?_
    refine l_val rfl rfl rfl (r_move (v := str x0_2) rfl) ?_
    refine l_val rfl rfl rfl (r_lenT Tryd.underlying9 rfl) ?_
    obtain ⟨t13, h_t13, H18⟩ := bnd_some H17; clear H17
    refine l_val rfl rfl rfl (r_subG rfl rfl h_t13) ?_
    obtain ⟨t14, h_t14, H19⟩ := bnd_some H18; clear H18
    refine l_val rfl rfl rfl (r_octG Tryd.underlying9 rfl rfl h_t14) ?_
    obtain ⟨t15, h_t15, H20⟩ := bnd_some H19; clear H19
    refine l_val rfl rfl rfl (r_convG Tryd.runUnderlying5 Tryd.runUnderlying21 rfl (gK_i32 h_t15)) ?_
    refine l_val rfl rfl rfl (r_assign (v := .int .i32 t15) rfl) ?_
    refine l_val rfl rfl rfl (r_assign (v := .int .i64 1) rfl) ?_
    refine l_nil ?_
    refine c_meet (r := r) (σ := Int × Int) (τ := Unit) (fun s => strings_trimRightUnicode_j2 a1 x0_2 next1 s.1 s.2) (fun s t => [(0, str x0_2), (1, str a1), (5, .int .i32 s.1), (6, .int .i64 s.2)]) (fun s t => []) (fun s t => True) ?_ ?_
    · refine c_seq ?_
      refine c_region ?_
      refine l_val rfl rfl rfl (r_move (v := .int .i32 t15) rfl) ?_
      refine l_val rfl rfl rfl (r_geq rfl rfl) ?_
      refine l_nil ?_
      refine c_if (b := (decide (128 ≤ t15))) rfl (fun hb => ?_) (fun hb => ?_)
      · have H27 := cnd_t hb H20; clear H20
        refine c_region ?_
        refine l_val rfl rfl rfl (r_move (v := str x0_2) rfl) ?_
        obtain ⟨t20, h_t20, H28⟩ := bnd_some H27; clear H27
        refine l_call (k50 h_t20) Tryd.call50 rfl rfl rfl ?_
        refine l_val rfl rfl rfl (r_move (v := .tuple #[.int .i32 t20.1, .int .i64 t20.2]) rfl) ?_
        refine l_val rfl rfl rfl (r_extract (v := .int .i32 t20.1) rfl rfl) ?_
        refine l_val rfl rfl rfl (r_extract (v := .int .i64 t20.2) rfl rfl) ?_
        refine l_val rfl rfl rfl (r_assign (v := .int .i32 t20.1) rfl) ?_
        refine l_val rfl rfl rfl (r_assign (v := .int .i64 t20.2) rfl) ?_
        refine l_nil ?_
        refine c_close (t20.1, t20.2) () 0 [] (by exact ⟨rfl, rfl, rfl, rfl, trivial⟩) (by decide) rfl (by exact ⟨H28, trivial⟩) (Nat.lt_succ_self _)
      · have H29 := cnd_f hb H20; clear H20
        refine c_skip ?_
        refine c_close (t15, 1) () 0 [] (by exact ⟨rfl, rfl, rfl, rfl, trivial⟩) (by decide) rfl (by exact ⟨H29, trivial⟩) (Nat.lt_succ_self _)
    · rintro ⟨x5, x6⟩ _ gg H21 _
      replace H21 : strings_trimRightUnicode_j2 a1 x0_2 next1 x5 x6 = some r := H21
      refine c_tidyF [(0, str x0_2), (1, str a1), (5, .int .i32 x5), (6, .int .i64 x6)] [] rfl rfl ?_
      refine c_seq ?_
      refine c_seq ?_
      refine c_region ?_
      refine l_val rfl rfl rfl (r_move (v := str a1) rfl) ?_
      refine l_val rfl rfl rfl (r_move (v := .int .i32 x5) rfl) ?_
      obtain ⟨t25, h_t25, H22⟩ := bnd_some H21; clear H21
      refine l_call (k49 h_t25) Tryd.call49 rfl rfl rfl ?_
      refine l_val rfl rfl rfl (r_not rfl) ?_
      refine l_nil ?_
      refine c_if (b := (!t25)) rfl (fun hb => ?_) (fun hb => ?_)
      · have H23 := cnd_t hb H22; clear H22
        refine c_exit ?_
        refine c_seq ?_
        refine c_region ?_
        refine l_val rfl rfl rfl (r_move (v := str x0_2) rfl) ?_
        refine l_val rfl rfl rfl (r_assign (v := str x0_2) rfl) ?_
        refine l_nil ?_
        refine c_ret ?_
        obtain rfl := Option.some.inj H23
        refine ret1 (v := str x0_2) rfl rfl (fin rfl)
      · have H24 := cnd_f hb H22; clear H22
        refine c_skip ?_
        refine c_region ?_
        refine l_val rfl rfl rfl (r_move (v := str x0_2) rfl) ?_
        refine l_val rfl rfl rfl (r_move (v := str x0_2) rfl) ?_
        refine l_val rfl rfl rfl (r_lenT Tryd.underlying9 rfl) ?_
        refine l_val rfl rfl rfl (r_move (v := .int .i64 x6) rfl) ?_
        obtain ⟨t31, h_t31, H25⟩ := bnd_some H24; clear H24
        refine l_val rfl rfl rfl (r_subG rfl rfl h_t31) ?_
        obtain ⟨t32, h_t32, H26⟩ := bnd_some H25; clear H25
        refine l_val rfl rfl rfl (r_cutToG Tryd.underlying9 rfl rfl h_t32) ?_
        refine l_val rfl rfl rfl (r_assign (v := str t32) rfl) ?_
        refine l_nil ?_
        refine c_close t32 () m1 [] (by exact ⟨rfl, rfl, trivial⟩) (by decide) rfl (by exact ⟨(by subst hn1; exact H26), trivial⟩) (Nat.lt_succ_self _)
  · have H30 := cnd_f hb H16; clear H16
    refine c_exit ?_
    refine c_seq ?_
    refine c_region ?_
    refine l_val rfl rfl rfl (r_move (v := str x0_2) rfl) ?_
    refine l_val rfl rfl rfl (r_assign (v := str x0_2) rfl) ?_
    refine l_nil ?_
    refine c_ret ?_
    obtain rfl := Option.some.inj H30
    refine ret1 (v := str x0_2) rfl rfl (fin rfl)
theorem k28 {a0 : (List UInt8)} {a1 : (List UInt8)} {r : (List UInt8)} (H : strings_Trim a0 a1 = some r) : Ret Tryd.prog 28 [str a0, str a1] (str r) := by
  refine enterRet (n := 43) Tryd.func28 rfl rfl rfl (fun wd => ?_)
  refine c_seq ?_
  refine c_region ?_
  refine l_val rfl rfl rfl (r_assign (v := str []) rfl) ?_
  refine l_nil ?_
  refine c_seq ?_
  refine c_seq ?_
  refine c_region ?_
  refine l_val rfl rfl rfl (r_move (v := str a0) rfl) ?_
  refine l_val rfl rfl rfl (r_eqlT rfl rfl) ?_
  refine l_val rfl rfl rfl (r_move (v := .bool (decide (a0 = []))) rfl) ?_
  refine split (fun hb => ?_) (fun hb => ?_)
  · have H22 := cnd_t hb H; clear H
    refine l_passed rfl rfl rfl ?_
    refine l_passed rfl rfl rfl ?_
    refine l_val rfl rfl rfl (r_pickT (v := .bool true) rfl rfl) ?_
    refine l_nil ?_
    refine c_true rfl ?_
    refine c_seq ?_
    refine c_region ?_
    refine l_val rfl rfl rfl (r_move (v := str a0) rfl) ?_
    refine l_val rfl rfl rfl (r_assign (v := str a0) rfl) ?_
    refine l_nil ?_
    refine c_ret ?_
    obtain rfl := Option.some.inj H22
    refine ret1 (v := str a0) rfl rfl (fin rfl)
  · have H23 := cnd_f hb H; clear H
    refine l_val rfl rfl rfl (r_move (v := str a1) rfl) ?_
    refine l_val rfl rfl rfl (r_eqlT rfl rfl) ?_
    refine l_val rfl rfl rfl (r_pickF (v := .bool (decide (a1 = []))) rfl rfl) ?_
    refine l_nil ?_
    refine c_if (b := (decide (a1 = []))) rfl (fun hb => ?_) (fun hb => ?_)
    · have H24 := cnd_t hb H23; clear H23
      refine c_seq ?_
      refine c_region ?_
      refine l_val rfl rfl rfl (r_move (v := str a0) rfl) ?_
      refine l_val rfl rfl rfl (r_assign (v := str a0) rfl) ?_
      refine l_nil ?_
      refine c_ret ?_
      obtain rfl := Option.some.inj H24
      refine ret1 (v := str a0) rfl rfl (fin rfl)
    · have H25 := cnd_f hb H23; clear H23
      refine c_skip ?_
      refine c_meet (r := r) (σ := Unit) (τ := Unit) (fun s => strings_Trim_j1 a0 a1) (fun s t => [(0, str a0), (1, str a1)]) (fun s t => []) (fun s t => True) ?_ ?_
      · refine c_seq ?_
        refine c_region ?_
        refine l_val rfl rfl rfl (r_move (v := str a1) rfl) ?_
        refine l_val rfl rfl rfl (r_lenT Tryd.underlying9 rfl) ?_
        refine l_val rfl rfl rfl (r_eql rfl rfl) ?_
        refine l_val rfl rfl rfl (r_move (v := .bool (decide ((a1.length : Int) = 1))) rfl) ?_
        refine split (fun hb => ?_) (fun hb => ?_)
        · have H34 := cnd_t hb H25; clear H25
          refine l_val rfl rfl rfl (r_move (v := str a1) rfl) ?_
          obtain ⟨t19, h_t19, H35⟩ := bnd_some H34; clear H34
          refine l_val rfl rfl rfl (r_octG Tryd.underlying9 rfl rfl h_t19) ?_
          refine l_val rfl rfl rfl (r_lss rfl rfl) ?_
          refine l_val rfl rfl rfl (r_pickT (v := .bool (decide (t19 < 128))) rfl rfl) ?_
          refine l_nil ?_
          refine c_if (b := (decide (t19 < 128))) rfl (fun hb => ?_) (fun hb => ?_)
          · have H36 := cnd_t hb H35; clear H35
            refine c_seq ?_
            exact c_regionD (Kd.p :: Kd.p :: Kd.p :: Kd.d [] _ :: Kd.p :: Kd.p :: Kd.d [] _ :: Kd.p :: []) 0 mixed (by
              refine d_val rfl rfl (r_move (v := str a0) rfl) ?_
              refine d_val rfl rfl (r_move (v := str a1) rfl) ?_
              have h_t24 := bnd_val H36
              have H37 := bnd_rest H36
              refine d_val rfl rfl (r_octG Tryd.underlying9 rfl rfl h_t24) ?_
              have h_t25 := bnd_val H37
              have H38 := bnd_rest H37
              refine d_call (k34 h_t25) Tryd.call34 rfl rfl ?_
              refine d_val rfl rfl (r_move (v := str a1) rfl) ?_
              have h_t27 := bnd_val H38
              have H39 := bnd_rest H38
              refine d_val rfl rfl (r_octG Tryd.underlying9 rfl rfl h_t27) ?_
              have h_t28 := bnd_val H39
              have H40 := bnd_rest H39
              refine d_call (k33 h_t28) Tryd.call33 rfl rfl ?_
              refine d_val rfl rfl (r_assign (v := str (val (strings_trimLeftByte (val (strings_trimRightByte a0 (val (gOct a1 0)))) (val (gOct a1 0))))) rfl) ?_
              refine d_nil ?_
              refine c_ret ?_
              obtain rfl := Option.some.inj H40
              refine ret1 (v := str (val (strings_trimLeftByte (val (strings_trimRightByte a0 (val (gOct a1 0)))) (val (gOct a1 0))))) rfl rfl (fin rfl)
              ) (by kernel_rfl)
          · have H41 := cnd_f hb H35; clear H35
            refine c_skip ?_
            refine c_close () () 0 [] (by exact ⟨rfl, rfl, trivial⟩) (by decide) rfl (by exact ⟨H41, trivial⟩) (Nat.lt_succ_self _)
        · have H42 := cnd_f hb H25; clear H25
          refine l_passed rfl rfl rfl ?_
          refine l_passed rfl rfl rfl ?_
          refine l_passed rfl rfl rfl ?_
          refine l_val rfl rfl rfl (r_pickF (v := .bool false) rfl rfl) ?_
          refine l_nil ?_
          refine c_false rfl ?_
          refine c_skip ?_
          refine c_close () () 0 [] (by exact ⟨rfl, rfl, trivial⟩) (by decide) rfl (by exact ⟨H42, trivial⟩) (Nat.lt_succ_self _)
      · rintro _ _ gg H26 _
        replace H26 : strings_Trim_j1 a0 a1 = some r := H26
        refine c_tidyF [(0, str a0), (1, str a1)] [] rfl rfl ?_
        refine c_seq ?_
        refine c_seq ?_
        refine c_region ?_
        refine l_val rfl rfl rfl (r_move (v := str a1) rfl) ?_
        obtain ⟨t31, h_t31, H27⟩ := bnd_some H26; clear H26
        refine l_call (k35 h_t31) Tryd.call35 rfl rfl rfl ?_
        refine l_val rfl rfl rfl (r_move (v := .tuple #[.agg (List.toArray (arrC 256 (fun j_ => [.bool (t31.1 j_)]))), .bool t31.2]) rfl) ?_
        refine l_val rfl rfl rfl (r_extract (v := .agg (List.toArray (arrC 256 (fun j_ => [.bool (t31.1 j_)])))) rfl rfl) ?_
        refine l_val rfl rfl rfl (r_extract (v := .bool t31.2) rfl rfl) ?_
        refine l_alloc (cs := (arrC 256 (fun j_ => [.bool ((fun _ => false) j_)]))) Tryd.zeroValue64 (by kernel_rfl) rfl rfl (fun b1 => ?_)
        refine l_store (i := 0) (vs := (arrC 256 (fun j_ => [.bool (t31.1 j_)]))) (cs' := (arrC 256 (fun j_ => [.bool (t31.1 j_)]))) Tryd.sizeOf64 rfl rfl rfl rfl (arrC_len (fun _ => rfl)) rfl (arrC_one (fun _ => rfl)) rfl (wr_whole ((arrC_len (fun _ => rfl)).trans (arrC_len (fun _ => rfl)).symm)) ?_
        refine l_val rfl rfl rfl (r_assign (v := .bool t31.2) rfl) ?_
        refine l_nil ?_
        refine c_seq ?_
        refine c_region ?_
        refine l_val rfl rfl rfl (r_move (v := .bool t31.2) rfl) ?_
        refine l_nil ?_
        refine c_if (b := t31.2) rfl (fun hb => ?_) (fun hb => ?_)
        · have H28 := cnd_t hb H27; clear H27
          refine c_seq ?_
          refine c_region ?_
          refine l_val rfl rfl rfl (r_move (v := str a0) rfl) ?_
          obtain ⟨t36, h_t36, H29⟩ := bnd_some H28; clear H28
          refine l_turn (turns_callB (i := 0) (rds := []) (G := fun x : Unit => str t36.1) (C := fun x : Unit => cellsC b1 (arrC 256 (fun j_ => [.bool (t36.2 j_)])) 64) rfl (fun w L' S hF hS hi hp hlt ho hA => k37 hp hlt (know_but w S)  h_t36) Tryd.call37 rfl) rfl rfl rfl (fun _ => ?_)
          obtain ⟨t37, h_t37, H30⟩ := bnd_some H29; clear H29
          refine l_turn (turns_callB (i := 0) (rds := []) (G := fun x : Unit => str t37.1) (C := fun x : Unit => cellsC b1 (arrC 256 (fun j_ => [.bool (t37.2 j_)])) 64) rfl (fun w L' S hF hS hi hp hlt ho hA => k36 hp hlt (know_but w S)  h_t37) Tryd.call36 rfl) rfl rfl rfl (fun _ => ?_)
          refine l_val rfl rfl rfl (r_assign (v := str t37.1) rfl) ?_
          refine l_nil ?_
          refine c_ret ?_
          obtain rfl := Option.some.inj H30
          refine ret1 (v := str t37.1) rfl rfl (fin rfl)
        · have H31 := cnd_f hb H27; clear H27
          refine c_skip ?_
          refine c_seq ?_
          refine c_region ?_
          refine l_val rfl rfl rfl (r_move (v := str a0) rfl) ?_
          refine l_val rfl rfl rfl (r_move (v := str a1) rfl) ?_
          obtain ⟨t40, h_t40, H32⟩ := bnd_some H31; clear H31
          refine l_call (k39 h_t40) Tryd.call39 rfl rfl rfl ?_
          refine l_val rfl rfl rfl (r_move (v := str a1) rfl) ?_
          obtain ⟨t42, h_t42, H33⟩ := bnd_some H32; clear H32
          refine l_call (k38 h_t42) Tryd.call38 rfl rfl rfl ?_
          refine l_val rfl rfl rfl (r_assign (v := str t42) rfl) ?_
          refine l_nil ?_
          refine c_ret ?_
          obtain rfl := Option.some.inj H33
          refine ret1 (v := str t42) rfl rfl (fin rfl)
theorem k18 {a0 : (List UInt8)} {r : Int} (H : where_checkCell a0 = some r) : Ret Tryd.prog 18 [str a0] (.int .i64 r) := by
  refine enterRet (n := 11) Tryd.func18 rfl rfl rfl (fun wd => ?_)
  refine c_seq ?_
  refine c_region ?_
  refine l_val rfl rfl rfl (r_assign (v := .int .i64 0) rfl) ?_
  refine l_nil ?_
  refine c_seq ?_
  refine c_block ?_
  refine c_seq ?_
  refine c_region ?_
  refine l_val rfl rfl rfl (r_move (v := str a0) rfl) ?_
  refine l_val rfl rfl rfl (r_lenT Tryd.underlying9 rfl) ?_
  refine l_val rfl rfl rfl (r_gtr rfl rfl) ?_
  refine l_val rfl rfl rfl (r_assign (v := .bool (decide (24 < (a0.length : Int)))) rfl) ?_
  refine l_nil ?_
  refine c_if (b := (decide (24 < (a0.length : Int)))) rfl (fun hb => ?_) (fun hb => ?_)
  · have H6 := cnd_t hb H; clear H
    refine c_seq ?_
    refine c_region ?_
    refine l_val rfl rfl rfl (r_assign (v := .int .i64 4) rfl) ?_
    refine l_nil ?_
    refine c_ret ?_
    obtain rfl := Option.some.inj H6
    refine ret1 (v := .int .i64 4) rfl rfl (fin rfl)
  · have H7 := cnd_f hb H; clear H
    refine c_seq ?_
    refine c_region ?_
    refine l_val rfl rfl rfl (r_move (v := str a0) rfl) ?_
    obtain ⟨t9, h_t9, H8⟩ := bnd_some H7; clear H7
    refine l_call (k28 h_t9) Tryd.call28 rfl rfl rfl ?_
    refine l_val rfl rfl rfl (r_neqT rfl rfl) ?_
    refine l_val rfl rfl rfl (r_assign (v := .bool (decide (t9 ≠ []))) rfl) ?_
    refine l_nil ?_
    refine c_if (b := (decide (t9 ≠ []))) rfl (fun hb => ?_) (fun hb => ?_)
    · have H9 := cnd_t hb H8; clear H8
      refine c_seq ?_
      refine c_region ?_
      refine l_val rfl rfl rfl (r_assign (v := .int .i64 8) rfl) ?_
      refine l_nil ?_
      refine c_ret ?_
      obtain rfl := Option.some.inj H9
      refine ret1 (v := .int .i64 8) rfl rfl (fin rfl)
    · have H10 := cnd_f hb H8; clear H8
      refine c_skip ?_
      refine c_seq ?_
      refine c_region ?_
      refine l_val rfl rfl rfl (r_assign (v := .int .i64 0) rfl) ?_
      refine l_nil ?_
      refine c_ret ?_
      obtain rfl := Option.some.inj H10
      refine ret1 (v := .int .i64 0) rfl rfl (fin rfl)
theorem k6 {a0 : (List UInt8)} {r : T_where_Box × Int} (H : where_BoxOf a0 = some r) : Ret Tryd.prog 6 [str a0] (.tuple #[.agg #[.int .i64 r.1.South, .int .i64 r.1.West, .int .i64 r.1.North, .int .i64 r.1.East], .int .i64 r.2]) := by
  refine enterRet (n := 28) Tryd.func6 rfl rfl rfl (fun wd => ?_)
  refine c_seq ?_
  refine c_region ?_
  refine l_alloc (cs := [.int .i64 0, .int .i64 0, .int .i64 0, .int .i64 0]) Tryd.zeroValue23 rfl rfl rfl (fun b2 => ?_)
  refine l_val rfl rfl rfl (r_assign (v := .int .i64 0) rfl) ?_
  refine l_nil ?_
  refine c_seq ?_
  refine c_seq ?_
  refine c_region ?_
  refine l_val rfl rfl rfl (r_move (v := str a0) rfl) ?_
  obtain ⟨t8, h_t8, H13⟩ := bnd_some H; clear H
  refine l_call (k18 h_t8) Tryd.call18 rfl rfl rfl ?_
  refine l_val rfl rfl rfl (r_assign (v := .int .i64 t8) rfl) ?_
  refine l_nil ?_
  refine c_seq ?_
  refine c_region ?_
  refine l_val rfl rfl rfl (r_move (v := .int .i64 t8) rfl) ?_
  refine l_val rfl rfl rfl (r_neq rfl rfl) ?_
  refine l_nil ?_
  refine c_if (b := (decide (t8 ≠ 0))) rfl (fun hb => ?_) (fun hb => ?_)
  · have H14 := cnd_t hb H13; clear H13
    refine c_seq ?_
    refine c_region ?_
    refine l_val rfl rfl rfl (r_build (pl := #[(0, 1), (1, 1), (2, 1), (3, 1)]) (ps := []) (cells := #[.int .i64 0, .int .i64 0, .int .i64 0, .int .i64 0]) Tryd.zeroValue23 Tryd.runUnderlying23 (fun w => by kernel_rfl) rfl rfl) ?_
    refine l_val rfl rfl rfl (r_move (v := .int .i64 t8) rfl) ?_
    refine l_store (i := 0) (vs := [.int .i64 0, .int .i64 0, .int .i64 0, .int .i64 0]) (cs' := [.int .i64 0, .int .i64 0, .int .i64 0, .int .i64 0]) Tryd.sizeOf23 rfl rfl rfl rfl rfl rfl rfl rfl rfl ?_
    refine l_val rfl rfl rfl (r_assign (v := .int .i64 t8) rfl) ?_
    refine l_nil ?_
    refine c_ret ?_
    obtain rfl := Option.some.inj H14
    refine retCt (i := 0) (vs := [.int .i64 0, .int .i64 0, .int .i64 0, .int .i64 0]) (v2 := .int .i64 t8) Tryd.isAgg23 Tryd.sizeOf23 rfl rfl rfl rfl rfl (fin rfl)
  · have H15 := cnd_f hb H13; clear H13
    refine c_skip ?_
    refine c_seq ?_
    refine c_region ?_
    obtain ⟨t13, h_t13, H16⟩ := bnd_some H15; clear H15
    refine l_call (k16 h_t13) Tryd.call16 rfl rfl rfl ?_
    refine l_alloc (cs := [.int .i64 0, .int .i64 0, .int .i64 0, .int .i64 0]) Tryd.zeroValue23 rfl rfl rfl (fun b3 => ?_)
    refine l_store (i := 1) (vs := [.int .i64 t13.South, .int .i64 t13.West, .int .i64 t13.North, .int .i64 t13.East]) (cs' := [.int .i64 t13.South, .int .i64 t13.West, .int .i64 t13.North, .int .i64 t13.East]) Tryd.sizeOf23 rfl rfl rfl rfl rfl rfl rfl rfl rfl ?_
    refine l_nil ?_
    refine c_meet (r := r) (σ := Int × Int × Int × Int) (τ := Unit) (fun s => where_BoxOf_j1 s.1 s.2.1 s.2.2.1 s.2.2.2) (fun s t => [(2, .pointer (some ⟨b2, 0, none⟩)), (5, .pointer (some ⟨b3, 0, none⟩))]) (fun s t => [cellsC b2 [.int .i64 0, .int .i64 0, .int .i64 0, .int .i64 0] 23, cellsC b3 [.int .i64 s.1, .int .i64 s.2.1, .int .i64 s.2.2.1, .int .i64 s.2.2.2] 23]) (fun s t => True) ?_ ?_
    · refine c_seq ?_
      refine c_region ?_
      refine l_val rfl rfl rfl (r_move (v := str a0) rfl) ?_
      refine l_val rfl rfl rfl (r_lenT Tryd.underlying9 rfl) ?_
      refine l_val rfl rfl rfl (r_move (v := .int .i64 0) rfl) ?_
      refine l_nil ?_
      refine c_block ?_
      refine c_fix (σ := Int × Int × Int × Int × Int) (τ := Unit) (fun next2 s => where_BoxOf_l2 a0 next2 s.1 s.2.1 s.2.2.1 s.2.2.2.1 s.2.2.2.2) (fun s t => [(0, str a0), (2, .pointer (some ⟨b2, 0, none⟩)), (5, .pointer (some ⟨b3, 0, none⟩)), (15, .int .i64 (a0.length : Int)), (16, .int .i64 s.1)]) (fun s t => [cellsC b2 [.int .i64 0, .int .i64 0, .int .i64 0, .int .i64 0] 23, cellsC b3 [.int .i64 s.2.1, .int .i64 s.2.2.1, .int .i64 s.2.2.2.1, .int .i64 s.2.2.2.2] 23]) (fun s t => True) (0, t13.South, t13.West, t13.North, t13.East) () [0, 1] H16 (by exact trivial) (by exact ⟨rfl, rfl, rfl, rfl, rfl, trivial⟩) (by decide) rfl ?_
      rintro ⟨x16_2, m_9, m_10, m_11, m_12⟩ _ m2 gg H18 _
      clear H16
      replace H18 : where_BoxOf_l2 a0 (it (fun next2 s => where_BoxOf_l2 a0 next2 s.1 s.2.1 s.2.2.1 s.2.2.2.1 s.2.2.2.2) m2) x16_2 m_9 m_10 m_11 m_12 = some r := H18
      generalize hn2 : it (fun next2 s => where_BoxOf_l2 a0 next2 s.1 s.2.1 s.2.2.1 s.2.2.2.1 s.2.2.2.2) m2 = next2 at H18
      refine c_tidyF [(0, str a0), (2, .pointer (some ⟨b2, 0, none⟩)), (5, .pointer (some ⟨b3, 0, none⟩)), (15, .int .i64 (a0.length : Int)), (16, .int .i64 x16_2)] [cellsC b2 [.int .i64 0, .int .i64 0, .int .i64 0, .int .i64 0] 23, cellsC b3 [.int .i64 m_9, .int .i64 m_10, .int .i64 m_11, .int .i64 m_12] 23] rfl rfl ?_
      refine c_seq ?_
      refine c_region ?_
      refine l_val rfl rfl rfl (r_lss rfl rfl) ?_
      refine l_nil ?_
      refine c_seq ?_
      refine c_if (b := (decide (x16_2 < (a0.length : Int)))) rfl (fun hb => ?_) (fun hb => ?_)
      · have H19 := cnd_t hb H18; clear H18
        refine c_skip ?_
        refine c_seq ?_
        refine c_block ?_
        refine c_seq ?_
        refine c_region ?_
        refine l_val rfl rfl rfl (r_move (v := .int .i64 x16_2) rfl) ?_
        refine l_val rfl rfl rfl (r_assign (v := .int .i64 x16_2) rfl) ?_
        refine l_nil ?_
        exact c_regionD (Kd.d [1] _ :: Kd.p :: Kd.p :: Kd.p :: Kd.p :: Kd.p :: Kd.d [] _ :: Kd.st 5 1 [_, _, _, _] 23 :: []) 0 mixed (by
          refine d_loadN (i := 1) (vs := [.int .i64 m_9, .int .i64 m_10, .int .i64 m_11, .int .i64 m_12]) Tryd.isAgg23 Tryd.sizeOf23 rfl rfl rfl rfl ?_
          refine d_val rfl rfl (r_move (v := str a0) rfl) ?_
          refine d_val rfl rfl (r_move (v := .int .i64 x16_2) rfl) ?_
          have h_t22 := bnd_val H19
          have H20 := bnd_rest H19
          refine d_val rfl rfl (r_octG Tryd.underlying9 rfl rfl h_t22) ?_
          refine d_val rfl rfl (r_subW rfl rfl (wr_u8 _)) ?_
          have h_t24 := bnd_val H20
          have H21 := bnd_rest H20
          refine d_val rfl rfl (r_convG Tryd.runUnderlying5 Tryd.runUnderlying3 rfl (gK_i64 h_t24)) ?_
          have h_t25 := bnd_val H21
          have H22 := bnd_rest H21
          refine d_call (k19 h_t25) Tryd.call19 rfl rfl ?_
          refine d_store (i := 1) (vs := [.int .i64 (val (where_Box_quarter (⟨m_9, m_10, m_11, m_12⟩ : T_where_Box) (val (gK (-9223372036854775808) 9223372036854775807 (wU8 ((val (gOct a0 x16_2)) - 48)))))).South, .int .i64 (val (where_Box_quarter (⟨m_9, m_10, m_11, m_12⟩ : T_where_Box) (val (gK (-9223372036854775808) 9223372036854775807 (wU8 ((val (gOct a0 x16_2)) - 48)))))).West, .int .i64 (val (where_Box_quarter (⟨m_9, m_10, m_11, m_12⟩ : T_where_Box) (val (gK (-9223372036854775808) 9223372036854775807 (wU8 ((val (gOct a0 x16_2)) - 48)))))).North, .int .i64 (val (where_Box_quarter (⟨m_9, m_10, m_11, m_12⟩ : T_where_Box) (val (gK (-9223372036854775808) 9223372036854775807 (wU8 ((val (gOct a0 x16_2)) - 48)))))).East]) (cs' := [.int .i64 (val (where_Box_quarter (⟨m_9, m_10, m_11, m_12⟩ : T_where_Box) (val (gK (-9223372036854775808) 9223372036854775807 (wU8 ((val (gOct a0 x16_2)) - 48)))))).South, .int .i64 (val (where_Box_quarter (⟨m_9, m_10, m_11, m_12⟩ : T_where_Box) (val (gK (-9223372036854775808) 9223372036854775807 (wU8 ((val (gOct a0 x16_2)) - 48)))))).West, .int .i64 (val (where_Box_quarter (⟨m_9, m_10, m_11, m_12⟩ : T_where_Box) (val (gK (-9223372036854775808) 9223372036854775807 (wU8 ((val (gOct a0 x16_2)) - 48)))))).North, .int .i64 (val (where_Box_quarter (⟨m_9, m_10, m_11, m_12⟩ : T_where_Box) (val (gK (-9223372036854775808) 9223372036854775807 (wU8 ((val (gOct a0 x16_2)) - 48)))))).East]) Tryd.sizeOf23 rfl rfl rfl rfl rfl rfl rfl rfl rfl ?_
          refine d_nil ?_
          refine c_region ?_
          obtain ⟨t26, h_t26, H23⟩ := bnd_some H22; clear H22
          refine l_val rfl rfl rfl (r_addG rfl rfl h_t26) ?_
          refine l_val rfl rfl rfl (r_move (v := .int .i64 t26) rfl) ?_
          refine l_nil ?_
          refine c_close (t26, (val (where_Box_quarter (⟨m_9, m_10, m_11, m_12⟩ : T_where_Box) (val (gK (-9223372036854775808) 9223372036854775807 (wU8 ((val (gOct a0 x16_2)) - 48)))))).South, (val (where_Box_quarter (⟨m_9, m_10, m_11, m_12⟩ : T_where_Box) (val (gK (-9223372036854775808) 9223372036854775807 (wU8 ((val (gOct a0 x16_2)) - 48)))))).West, (val (where_Box_quarter (⟨m_9, m_10, m_11, m_12⟩ : T_where_Box) (val (gK (-9223372036854775808) 9223372036854775807 (wU8 ((val (gOct a0 x16_2)) - 48)))))).North, (val (where_Box_quarter (⟨m_9, m_10, m_11, m_12⟩ : T_where_Box) (val (gK (-9223372036854775808) 9223372036854775807 (wU8 ((val (gOct a0 x16_2)) - 48)))))).East) () m2 [0, 1] (by exact ⟨rfl, rfl, rfl, rfl, rfl, trivial⟩) (by decide) rfl (by exact ⟨(by subst hn2; exact H23), trivial⟩) (Nat.lt_succ_self _)
          ) (by kernel_rfl)
      · have H24 := cnd_f hb H18; clear H18
        refine c_exit ?_
        refine c_close (m_9, m_10, m_11, m_12) () 0 [0, 1] (by exact ⟨rfl, rfl, trivial⟩) (by decide) rfl (by exact ⟨H24, trivial⟩) (Nat.lt_succ_self _)
    · rintro ⟨m, m_2, m_3, m_4⟩ _ gg H17 _
      replace H17 : where_BoxOf_j1 m m_2 m_3 m_4 = some r := H17
      refine c_tidyF [(2, .pointer (some ⟨b2, 0, none⟩)), (5, .pointer (some ⟨b3, 0, none⟩))] [cellsC b2 [.int .i64 0, .int .i64 0, .int .i64 0, .int .i64 0] 23, cellsC b3 [.int .i64 m, .int .i64 m_2, .int .i64 m_3, .int .i64 m_4] 23] rfl rfl ?_
      refine c_seq ?_
      refine c_region ?_
      refine l_loadN (i := 1) (vs := [.int .i64 m, .int .i64 m_2, .int .i64 m_3, .int .i64 m_4]) Tryd.isAgg23 Tryd.sizeOf23 rfl rfl rfl rfl rfl ?_
      refine l_store (i := 0) (vs := [.int .i64 m, .int .i64 m_2, .int .i64 m_3, .int .i64 m_4]) (cs' := [.int .i64 m, .int .i64 m_2, .int .i64 m_3, .int .i64 m_4]) Tryd.sizeOf23 rfl rfl rfl rfl rfl rfl rfl rfl rfl ?_
      refine l_val rfl rfl rfl (r_assign (v := .int .i64 0) rfl) ?_
      refine l_nil ?_
      refine c_ret ?_
      obtain rfl := Option.some.inj H17
      refine retCt (i := 0) (vs := [.int .i64 m, .int .i64 m_2, .int .i64 m_3, .int .i64 m_4]) (v2 := .int .i64 0) Tryd.isAgg23 Tryd.sizeOf23 rfl rfl rfl rfl rfl (fin rfl)
theorem k7 {a0 : T_where_Box} {a1 : T_where_Box} {r : Bool × Int} (H : where_Meets a0 a1 = some r) : Ret Tryd.prog 7 [.agg #[.int .i64 a0.South, .int .i64 a0.West, .int .i64 a0.North, .int .i64 a0.East], .agg #[.int .i64 a1.South, .int .i64 a1.West, .int .i64 a1.North, .int .i64 a1.East]] (.tuple #[.bool r.1, .int .i64 r.2]) := by
  refine enterRet (n := 26) Tryd.func7 rfl rfl rfl (fun wd => ?_)
  refine c_seq ?_
  refine c_region ?_
  refine l_box (cs := [.int .i64 a0.South, .int .i64 a0.West, .int .i64 a0.North, .int .i64 a0.East]) rfl rfl rfl rfl (fun b4 => ?_)
  refine l_box (cs := [.int .i64 a1.South, .int .i64 a1.West, .int .i64 a1.North, .int .i64 a1.East]) rfl rfl rfl rfl (fun b5 => ?_)
  refine l_val rfl rfl rfl (r_assign (v := .bool false) rfl) ?_
  refine l_val rfl rfl rfl (r_assign (v := .int .i64 0) rfl) ?_
  refine l_nil ?_
  refine c_meet (r := r) (σ := Unit) (τ := Unit) (fun s => where_Meets_j1 a0 a1) (fun s t => [(2, .pointer (some ⟨b4, 0, none⟩)), (3, .pointer (some ⟨b5, 0, none⟩))]) (fun s t => [cellsC b4 [.int .i64 a0.South, .int .i64 a0.West, .int .i64 a0.North, .int .i64 a0.East] 23, cellsC b5 [.int .i64 a1.South, .int .i64 a1.West, .int .i64 a1.North, .int .i64 a1.East] 23]) (fun s t => True) ?_ ?_
  · refine c_seq ?_
    refine c_region ?_
    refine l_loadN (i := 0) (vs := [.int .i64 a0.South, .int .i64 a0.West, .int .i64 a0.North, .int .i64 a0.East]) Tryd.isAgg23 Tryd.sizeOf23 rfl rfl rfl rfl rfl ?_
    refine l_loadN (i := 1) (vs := [.int .i64 a1.South, .int .i64 a1.West, .int .i64 a1.North, .int .i64 a1.East]) Tryd.isAgg23 Tryd.sizeOf23 rfl rfl rfl rfl rfl ?_
    refine l_buildSlice (vs := [.agg #[.int .i64 a0.South, .int .i64 a0.West, .int .i64 a0.North, .int .i64 a0.East], .agg #[.int .i64 a1.South, .int .i64 a1.West, .int .i64 a1.North, .int .i64 a1.East]]) (cs := [.int .i64 a0.South, .int .i64 a0.West, .int .i64 a0.North, .int .i64 a0.East, .int .i64 a1.South, .int .i64 a1.West, .int .i64 a1.North, .int .i64 a1.East]) Tryd.underlying49 Tryd.sizeOf23 Tryd.zeroValue23 rfl rfl rfl rfl rfl rfl rfl (fun b6 => ?_)
    refine l_val rfl rfl rfl (r_len Tryd.underlying49 rfl) ?_
    refine l_val rfl rfl rfl (r_move (v := .int .i64 0) rfl) ?_
    refine l_nil ?_
    refine c_block ?_
    refine c_fix (σ := Int) (τ := Unit) (fun next2 s => where_Meets_l2 a0 a1 next2 s) (fun s t => [(2, .pointer (some ⟨b4, 0, none⟩)), (3, .pointer (some ⟨b5, 0, none⟩)), (11, .slice (some ⟨b6, 0, none⟩) 2 2), (12, .int .i64 2), (13, .int .i64 s)]) (fun s t => [cellsC b4 [.int .i64 a0.South, .int .i64 a0.West, .int .i64 a0.North, .int .i64 a0.East] 23, cellsC b5 [.int .i64 a1.South, .int .i64 a1.West, .int .i64 a1.North, .int .i64 a1.East] 23, cellsC b6 [.int .i64 a0.South, .int .i64 a0.West, .int .i64 a0.North, .int .i64 a0.East, .int .i64 a1.South, .int .i64 a1.West, .int .i64 a1.North, .int .i64 a1.East] 23]) (fun s t => True) 0 () [0, 1, 2] H (by exact trivial) (by exact ⟨rfl, rfl, rfl, rfl, rfl, trivial⟩) (by decide) rfl ?_
    rintro x13_2 _ m2 gg H13 _
    clear H
    replace H13 : where_Meets_l2 a0 a1 (it (fun next2 s => where_Meets_l2 a0 a1 next2 s) m2) x13_2 = some r := H13
    generalize hn2 : it (fun next2 s => where_Meets_l2 a0 a1 next2 s) m2 = next2 at H13
    refine c_tidyF [(2, .pointer (some ⟨b4, 0, none⟩)), (3, .pointer (some ⟨b5, 0, none⟩)), (11, .slice (some ⟨b6, 0, none⟩) 2 2), (12, .int .i64 2), (13, .int .i64 x13_2)] [cellsC b4 [.int .i64 a0.South, .int .i64 a0.West, .int .i64 a0.North, .int .i64 a0.East] 23, cellsC b5 [.int .i64 a1.South, .int .i64 a1.West, .int .i64 a1.North, .int .i64 a1.East] 23, cellsC b6 [.int .i64 a0.South, .int .i64 a0.West, .int .i64 a0.North, .int .i64 a0.East, .int .i64 a1.South, .int .i64 a1.West, .int .i64 a1.North, .int .i64 a1.East] 23] rfl rfl ?_
    refine c_seq ?_
    refine c_region ?_
    refine l_val rfl rfl rfl (r_lss rfl rfl) ?_
    refine l_nil ?_
    refine c_seq ?_
    refine c_if (b := (decide (x13_2 < 2))) rfl (fun hb => ?_) (fun hb => ?_)
    · have H14 := cnd_t hb H13; clear H13
      refine c_skip ?_
      refine c_seq ?_
      refine c_block ?_
      refine c_seq ?_
      refine c_region ?_
      obtain ⟨t15, h_t15, H15⟩ := bnd_some H14; clear H14
      refine l_val rfl rfl rfl (r_indexS Tryd.underlying49 Tryd.sizeOf23 rfl rfl h_t15 rfl) ?_
      refine l_read (fun w hF hS => run_loadGN (f := e_where_Box) (i := x13_2) (sz := 4) (j := 0) (vs := [.int .i64 t15.South, .int .i64 t15.West, .int .i64 t15.North, .int .i64 t15.East]) Tryd.isAgg23 Tryd.sizeOf23 rfl rfl (row_box (sz := 4) (xs := ([a0, a1] : List T_where_Box).map e_where_Box) (i := 2) hS rfl rfl rfl) h_t15 rfl) rfl rfl rfl ?_
      refine l_alloc (cs := [.int .i64 0, .int .i64 0, .int .i64 0, .int .i64 0]) Tryd.zeroValue23 rfl rfl rfl (fun b7 => ?_)
      refine l_store (i := 3) (vs := [.int .i64 t15.South, .int .i64 t15.West, .int .i64 t15.North, .int .i64 t15.East]) (cs' := [.int .i64 t15.South, .int .i64 t15.West, .int .i64 t15.North, .int .i64 t15.East]) Tryd.sizeOf23 rfl rfl rfl rfl rfl rfl rfl rfl rfl ?_
      refine l_nil ?_
      refine c_seq ?_
      refine c_region ?_
      refine l_loadN (i := 3) (vs := [.int .i64 t15.South, .int .i64 t15.West, .int .i64 t15.North, .int .i64 t15.East]) Tryd.isAgg23 Tryd.sizeOf23 rfl rfl rfl rfl rfl ?_
      obtain ⟨t18, h_t18, H16⟩ := bnd_some H15; clear H15
      refine l_call (k13 h_t18) Tryd.call13 rfl rfl rfl ?_
      refine l_val rfl rfl rfl (r_assign (v := .int .i64 t18) rfl) ?_
      refine l_nil ?_
      refine c_seq ?_
      refine c_region ?_
      refine l_val rfl rfl rfl (r_move (v := .int .i64 t18) rfl) ?_
      refine l_val rfl rfl rfl (r_neq rfl rfl) ?_
      refine l_nil ?_
      refine c_if (b := (decide (t18 ≠ 0))) rfl (fun hb => ?_) (fun hb => ?_)
      · have H17 := cnd_t hb H16; clear H16
        refine c_seq ?_
        refine c_region ?_
        refine l_val rfl rfl rfl (r_move (v := .int .i64 t18) rfl) ?_
        refine l_val rfl rfl rfl (r_assign (v := .bool false) rfl) ?_
        refine l_val rfl rfl rfl (r_assign (v := .int .i64 t18) rfl) ?_
        refine l_nil ?_
        refine c_ret ?_
        obtain rfl := Option.some.inj H17
        refine ret2 (v1 := .bool false) (v2 := .int .i64 t18) rfl rfl rfl (fin rfl)
      · have H18 := cnd_f hb H16; clear H16
        refine c_skip ?_
        refine c_region ?_
        obtain ⟨t22, h_t22, H19⟩ := bnd_some H18; clear H18
        refine l_val rfl rfl rfl (r_addG rfl rfl h_t22) ?_
        refine l_val rfl rfl rfl (r_move (v := .int .i64 t22) rfl) ?_
        refine l_nil ?_
        refine c_close t22 () m2 [0, 1, 2] (by exact ⟨rfl, rfl, rfl, rfl, rfl, trivial⟩) (by decide) rfl (by exact ⟨(by subst hn2; exact H19), trivial⟩) (Nat.lt_succ_self _)
    · have H20 := cnd_f hb H13; clear H13
      refine c_exit ?_
      refine c_close () () 0 [0, 1] (by exact ⟨rfl, rfl, trivial⟩) (by decide) rfl (by exact ⟨H20, trivial⟩) (Nat.lt_succ_self _)
  · rintro _ _ gg H11 _
    replace H11 : where_Meets_j1 a0 a1 = some r := H11
    refine c_tidyF [(2, .pointer (some ⟨b4, 0, none⟩)), (3, .pointer (some ⟨b5, 0, none⟩))] [cellsC b4 [.int .i64 a0.South, .int .i64 a0.West, .int .i64 a0.North, .int .i64 a0.East] 23, cellsC b5 [.int .i64 a1.South, .int .i64 a1.West, .int .i64 a1.North, .int .i64 a1.East] 23] rfl rfl ?_
    refine c_seq ?_
    refine c_region ?_
    refine l_loadN (i := 0) (vs := [.int .i64 a0.South, .int .i64 a0.West, .int .i64 a0.North, .int .i64 a0.East]) Tryd.isAgg23 Tryd.sizeOf23 rfl rfl rfl rfl rfl ?_
    refine l_loadN (i := 1) (vs := [.int .i64 a1.South, .int .i64 a1.West, .int .i64 a1.North, .int .i64 a1.East]) Tryd.isAgg23 Tryd.sizeOf23 rfl rfl rfl rfl rfl ?_
    obtain ⟨t25, h_t25, H12⟩ := bnd_some H11; clear H11
    refine l_call (k20 h_t25) Tryd.call20 rfl rfl rfl ?_
    refine l_val rfl rfl rfl (r_assign (v := .bool t25) rfl) ?_
    refine l_val rfl rfl rfl (r_assign (v := .int .i64 0) rfl) ?_
    refine l_nil ?_
    refine c_ret ?_
    obtain rfl := Option.some.inj H12
    refine ret2 (v1 := .bool t25) (v2 := .int .i64 0) rfl rfl rfl (fin rfl)
theorem k8 {a0 : T_where_Box} {a1 : T_api_Place} {r : Bool × Int} (H : where_In a0 a1 = some r) : Ret Tryd.prog 8 [.agg #[.int .i64 a0.South, .int .i64 a0.West, .int .i64 a0.North, .int .i64 a0.East], .agg #[.int .i64 a1.Lat, .int .i64 a1.Lon]] (.tuple #[.bool r.1, .int .i64 r.2]) := by
  refine enterRet (n := 32) Tryd.func8 rfl rfl rfl (fun wd => ?_)
  refine c_seq ?_
  refine c_region ?_
  refine l_box (cs := [.int .i64 a0.South, .int .i64 a0.West, .int .i64 a0.North, .int .i64 a0.East]) rfl rfl rfl rfl (fun b2 => ?_)
  refine l_box (cs := [.int .i64 a1.Lat, .int .i64 a1.Lon]) rfl rfl rfl rfl (fun b3 => ?_)
  refine l_val rfl rfl rfl (r_assign (v := .bool false) rfl) ?_
  refine l_val rfl rfl rfl (r_assign (v := .int .i64 0) rfl) ?_
  refine l_nil ?_
  refine c_seq ?_
  refine c_seq ?_
  refine c_region ?_
  refine l_loadN (i := 0) (vs := [.int .i64 a0.South, .int .i64 a0.West, .int .i64 a0.North, .int .i64 a0.East]) Tryd.isAgg23 Tryd.sizeOf23 rfl rfl rfl rfl rfl ?_
  obtain ⟨t9, h_t9, H11⟩ := bnd_some H; clear H
  refine l_call (k13 h_t9) Tryd.call13 rfl rfl rfl ?_
  refine l_val rfl rfl rfl (r_assign (v := .int .i64 t9) rfl) ?_
  refine l_nil ?_
  refine c_seq ?_
  refine c_region ?_
  refine l_val rfl rfl rfl (r_move (v := .int .i64 t9) rfl) ?_
  refine l_val rfl rfl rfl (r_neq rfl rfl) ?_
  refine l_nil ?_
  refine c_if (b := (decide (t9 ≠ 0))) rfl (fun hb => ?_) (fun hb => ?_)
  · have H12 := cnd_t hb H11; clear H11
    refine c_seq ?_
    refine c_region ?_
    refine l_val rfl rfl rfl (r_move (v := .int .i64 t9) rfl) ?_
    refine l_val rfl rfl rfl (r_assign (v := .bool false) rfl) ?_
    refine l_val rfl rfl rfl (r_assign (v := .int .i64 t9) rfl) ?_
    refine l_nil ?_
    refine c_ret ?_
    obtain rfl := Option.some.inj H12
    refine ret2 (v1 := .bool false) (v2 := .int .i64 t9) rfl rfl rfl (fin rfl)
  · have H13 := cnd_f hb H11; clear H11
    refine c_skip ?_
    refine c_seq ?_
    refine c_seq ?_
    refine c_region ?_
    refine l_loadN (i := 1) (vs := [.int .i64 a1.Lat, .int .i64 a1.Lon]) Tryd.isAgg25 Tryd.sizeOf25 rfl rfl rfl rfl rfl ?_
    obtain ⟨t14, h_t14, H14⟩ := bnd_some H13; clear H13
    refine l_call (k21 h_t14) Tryd.call21 rfl rfl rfl ?_
    refine l_val rfl rfl rfl (r_assign (v := .int .i64 t14) rfl) ?_
    refine l_nil ?_
    refine c_seq ?_
    refine c_region ?_
    refine l_val rfl rfl rfl (r_move (v := .int .i64 t14) rfl) ?_
    refine l_val rfl rfl rfl (r_neq rfl rfl) ?_
    refine l_nil ?_
    refine c_if (b := (decide (t14 ≠ 0))) rfl (fun hb => ?_) (fun hb => ?_)
    · have H15 := cnd_t hb H14; clear H14
      refine c_seq ?_
      refine c_region ?_
      refine l_val rfl rfl rfl (r_move (v := .int .i64 t14) rfl) ?_
      refine l_val rfl rfl rfl (r_assign (v := .bool false) rfl) ?_
      refine l_val rfl rfl rfl (r_assign (v := .int .i64 t14) rfl) ?_
      refine l_nil ?_
      refine c_ret ?_
      obtain rfl := Option.some.inj H15
      refine ret2 (v1 := .bool false) (v2 := .int .i64 t14) rfl rfl rfl (fin rfl)
    · have H16 := cnd_f hb H14; clear H14
      refine c_skip ?_
      refine c_seq ?_
      refine c_region ?_
      refine l_val rfl rfl rfl (r_field Tryd.runUnderlying25 rfl Tryd.sizeOf3 rfl rfl) ?_
      refine l_load1 (i := 1) (v := .int .i64 a1.Lat) Tryd.isAgg3 rfl rfl rfl rfl rfl ?_
      refine l_val rfl rfl rfl (r_field Tryd.runUnderlying23 rfl Tryd.sizeOf3 rfl rfl) ?_
      refine l_load1 (i := 0) (v := .int .i64 a0.South) Tryd.isAgg3 rfl rfl rfl rfl rfl ?_
      refine l_val rfl rfl rfl (r_field Tryd.runUnderlying23 rfl Tryd.sizeOf3 rfl rfl) ?_
      refine l_load1 (i := 0) (v := .int .i64 a0.North) Tryd.isAgg3 rfl rfl rfl rfl rfl ?_
      obtain ⟨t24, h_t24, H17⟩ := bnd_some H16; clear H16
      refine l_call (k14 h_t24) Tryd.call14 rfl rfl rfl ?_
      refine l_val rfl rfl rfl (r_not rfl) ?_
      refine l_val rfl rfl rfl (r_move (v := .bool (!t24)) rfl) ?_
      refine split (fun hb => ?_) (fun hb => ?_)
      · have H18 := cnd_t hb H17; clear H17
        refine l_loadN (i := 0) (vs := [.int .i64 a0.South, .int .i64 a0.West, .int .i64 a0.North, .int .i64 a0.East]) Tryd.isAgg23 Tryd.sizeOf23 rfl rfl rfl rfl rfl ?_
        refine l_val rfl rfl rfl (r_field Tryd.runUnderlying25 rfl Tryd.sizeOf3 rfl rfl) ?_
        refine l_load1 (i := 1) (v := .int .i64 a1.Lon) Tryd.isAgg3 rfl rfl rfl rfl rfl ?_
        obtain ⟨t30, h_t30, H19⟩ := bnd_some H18; clear H18
        refine l_call (k22 h_t30) Tryd.call22 rfl rfl rfl ?_
        refine l_val rfl rfl rfl (r_pickT (v := .bool t30) rfl rfl) ?_
        refine l_val rfl rfl rfl (r_assign (v := .bool t30) rfl) ?_
        refine l_val rfl rfl rfl (r_assign (v := .int .i64 0) rfl) ?_
        refine l_nil ?_
        refine c_ret ?_
        obtain rfl := Option.some.inj H19
        refine ret2 (v1 := .bool t30) (v2 := .int .i64 0) rfl rfl rfl (fin rfl)
      · have H20 := cnd_f hb H17; clear H17
        refine l_passed rfl rfl rfl ?_
        refine l_passed rfl rfl rfl ?_
        refine l_passed rfl rfl rfl ?_
        refine l_passed rfl rfl rfl ?_
        refine l_val rfl rfl rfl (r_pickF (v := .bool false) rfl rfl) ?_
        refine l_val rfl rfl rfl (r_assign (v := .bool false) rfl) ?_
        refine l_val rfl rfl rfl (r_assign (v := .int .i64 0) rfl) ?_
        refine l_nil ?_
        refine c_ret ?_
        obtain rfl := Option.some.inj H20
        refine ret2 (v1 := .bool false) (v2 := .int .i64 0) rfl rfl rfl (fin rfl)
theorem k9 {a0 : T_api_Place} {a1 : Int} {r : (List UInt8) × Int} (H : where_Cell a0 a1 = some r) : Ret Tryd.prog 9 [.agg #[.int .i64 a0.Lat, .int .i64 a0.Lon], .int .i64 a1] (.tuple #[str r.1, .int .i64 r.2]) := by
  refine enterRet (n := 59) Tryd.func9 rfl rfl rfl (fun wd => ?_)
  refine c_seq ?_
  refine c_region ?_
  refine l_box (cs := [.int .i64 a0.Lat, .int .i64 a0.Lon]) rfl rfl rfl rfl (fun b4 => ?_)
  refine l_val rfl rfl rfl (r_assign (v := str []) rfl) ?_
  refine l_val rfl rfl rfl (r_assign (v := .int .i64 0) rfl) ?_
  refine l_nil ?_
  refine c_seq ?_
  refine c_seq ?_
  refine c_region ?_
  refine l_loadN (i := 0) (vs := [.int .i64 a0.Lat, .int .i64 a0.Lon]) Tryd.isAgg25 Tryd.sizeOf25 rfl rfl rfl rfl rfl ?_
  obtain ⟨t13, h_t13, H29⟩ := bnd_some H; clear H
  refine l_call (k21 h_t13) Tryd.call21 rfl rfl rfl ?_
  refine l_val rfl rfl rfl (r_assign (v := .int .i64 t13) rfl) ?_
  refine l_nil ?_
  refine c_seq ?_
  refine c_region ?_
  refine l_val rfl rfl rfl (r_move (v := .int .i64 t13) rfl) ?_
  refine l_val rfl rfl rfl (r_neq rfl rfl) ?_
  refine l_nil ?_
  refine c_if (b := (decide (t13 ≠ 0))) rfl (fun hb => ?_) (fun hb => ?_)
  · have H30 := cnd_t hb H29; clear H29
    refine c_seq ?_
    refine c_region ?_
    refine l_val rfl rfl rfl (r_move (v := .int .i64 t13) rfl) ?_
    refine l_val rfl rfl rfl (r_assign (v := str []) rfl) ?_
    refine l_val rfl rfl rfl (r_assign (v := .int .i64 t13) rfl) ?_
    refine l_nil ?_
    refine c_ret ?_
    obtain rfl := Option.some.inj H30
    refine ret2 (v1 := str []) (v2 := .int .i64 t13) rfl rfl rfl (fin rfl)
  · have H31 := cnd_f hb H29; clear H29
    refine c_skip ?_
    refine c_seq ?_
    refine c_seq ?_
    refine c_region ?_
    refine l_val rfl rfl rfl (r_move (v := .int .i64 a1) rfl) ?_
    obtain ⟨t18, h_t18, H32⟩ := bnd_some H31; clear H31
    refine l_call (k14 h_t18) Tryd.call14 rfl rfl rfl ?_
    refine l_nil ?_
    refine c_if (b := t18) rfl (fun hb => ?_) (fun hb => ?_)
    · have H33 := cnd_t hb H32; clear H32
      refine c_seq ?_
      refine c_region ?_
      refine l_val rfl rfl rfl (r_assign (v := str []) rfl) ?_
      refine l_val rfl rfl rfl (r_assign (v := .int .i64 2) rfl) ?_
      refine l_nil ?_
      refine c_ret ?_
      obtain rfl := Option.some.inj H33
      refine ret2 (v1 := str []) (v2 := .int .i64 2) rfl rfl rfl (fin rfl)
    · have H34 := cnd_f hb H32; clear H32
      refine c_skip ?_
      refine c_seq ?_
      refine c_region ?_
      refine l_alloc (cs := [.int .u8 ((fun _ => 0) 0), .int .u8 ((fun _ => 0) 1), .int .u8 ((fun _ => 0) 2), .int .u8 ((fun _ => 0) 3), .int .u8 ((fun _ => 0) 4), .int .u8 ((fun _ => 0) 5), .int .u8 ((fun _ => 0) 6), .int .u8 ((fun _ => 0) 7), .int .u8 ((fun _ => 0) 8), .int .u8 ((fun _ => 0) 9), .int .u8 ((fun _ => 0) 10), .int .u8 ((fun _ => 0) 11), .int .u8 ((fun _ => 0) 12), .int .u8 ((fun _ => 0) 13), .int .u8 ((fun _ => 0) 14), .int .u8 ((fun _ => 0) 15), .int .u8 ((fun _ => 0) 16), .int .u8 ((fun _ => 0) 17), .int .u8 ((fun _ => 0) 18), .int .u8 ((fun _ => 0) 19), .int .u8 ((fun _ => 0) 20), .int .u8 ((fun _ => 0) 21), .int .u8 ((fun _ => 0) 22), .int .u8 ((fun _ => 0) 23)]) Tryd.zeroValue53 rfl rfl rfl (fun b5 => ?_)
      refine l_nil ?_
      refine c_seq ?_
      refine c_region ?_
      obtain ⟨t19, h_t19, H35⟩ := bnd_some H34; clear H34
      refine l_call (k16 h_t19) Tryd.call16 rfl rfl rfl ?_
      refine l_alloc (cs := [.int .i64 0, .int .i64 0, .int .i64 0, .int .i64 0]) Tryd.zeroValue23 rfl rfl rfl (fun b6 => ?_)
      refine l_store (i := 2) (vs := [.int .i64 t19.South, .int .i64 t19.West, .int .i64 t19.North, .int .i64 t19.East]) (cs' := [.int .i64 t19.South, .int .i64 t19.West, .int .i64 t19.North, .int .i64 t19.East]) Tryd.sizeOf23 rfl rfl rfl rfl rfl rfl rfl rfl rfl ?_
      refine l_nil ?_
      refine c_meet (r := r) (σ := (Nat → Int)) (τ := Unit) (fun s => where_Cell_j1 a1 s) (fun s t => [(1, .int .i64 a1), (7, .pointer (some ⟨b5, 0, none⟩))]) (fun s t => [cellsC b5 [.int .u8 (s 0), .int .u8 (s 1), .int .u8 (s 2), .int .u8 (s 3), .int .u8 (s 4), .int .u8 (s 5), .int .u8 (s 6), .int .u8 (s 7), .int .u8 (s 8), .int .u8 (s 9), .int .u8 (s 10), .int .u8 (s 11), .int .u8 (s 12), .int .u8 (s 13), .int .u8 (s 14), .int .u8 (s 15), .int .u8 (s 16), .int .u8 (s 17), .int .u8 (s 18), .int .u8 (s 19), .int .u8 (s 20), .int .u8 (s 21), .int .u8 (s 22), .int .u8 (s 23)] 53]) (fun s t => True) ?_ ?_
      · refine c_seq ?_
        refine c_region ?_
        refine l_val rfl rfl rfl (r_move (v := .int .i64 a1) rfl) ?_
        refine l_val rfl rfl rfl (r_move (v := .int .i64 0) rfl) ?_
        refine l_nil ?_
        refine c_block ?_
        refine c_fix (σ := Int × (Nat → Int) × Int × Int × Int × Int) (τ := Unit) (fun next2 s => where_Cell_l2 a0 a1 next2 s.1 s.2.1 s.2.2.1 s.2.2.2.1 s.2.2.2.2.1 s.2.2.2.2.2) (fun s t => [(1, .int .i64 a1), (2, .pointer (some ⟨b4, 0, none⟩)), (7, .pointer (some ⟨b5, 0, none⟩)), (8, .pointer (some ⟨b6, 0, none⟩)), (20, .int .i64 a1), (21, .int .i64 s.1)]) (fun s t => [cellsC b4 [.int .i64 a0.Lat, .int .i64 a0.Lon] 25, cellsC b5 [.int .u8 (s.2.1 0), .int .u8 (s.2.1 1), .int .u8 (s.2.1 2), .int .u8 (s.2.1 3), .int .u8 (s.2.1 4), .int .u8 (s.2.1 5), .int .u8 (s.2.1 6), .int .u8 (s.2.1 7), .int .u8 (s.2.1 8), .int .u8 (s.2.1 9), .int .u8 (s.2.1 10), .int .u8 (s.2.1 11), .int .u8 (s.2.1 12), .int .u8 (s.2.1 13), .int .u8 (s.2.1 14), .int .u8 (s.2.1 15), .int .u8 (s.2.1 16), .int .u8 (s.2.1 17), .int .u8 (s.2.1 18), .int .u8 (s.2.1 19), .int .u8 (s.2.1 20), .int .u8 (s.2.1 21), .int .u8 (s.2.1 22), .int .u8 (s.2.1 23)] 53, cellsC b6 [.int .i64 s.2.2.1, .int .i64 s.2.2.2.1, .int .i64 s.2.2.2.2.1, .int .i64 s.2.2.2.2.2] 23]) (fun s t => True) (0, (fun _ => 0), t19.South, t19.West, t19.North, t19.East) () [0, 1, 2] H35 (by exact trivial) (by exact ⟨rfl, rfl, rfl, rfl, rfl, rfl, trivial⟩) (by decide) rfl ?_
        rintro ⟨x21_2, m_7, m_8, m_9, m_10, m_11⟩ _ m2 gg H38 _
        clear H35
        replace H38 : where_Cell_l2 a0 a1 (it (fun next2 s => where_Cell_l2 a0 a1 next2 s.1 s.2.1 s.2.2.1 s.2.2.2.1 s.2.2.2.2.1 s.2.2.2.2.2) m2) x21_2 m_7 m_8 m_9 m_10 m_11 = some r := H38
        generalize hn2 : it (fun next2 s => where_Cell_l2 a0 a1 next2 s.1 s.2.1 s.2.2.1 s.2.2.2.1 s.2.2.2.2.1 s.2.2.2.2.2) m2 = next2 at H38
        refine c_tidyF [(1, .int .i64 a1), (2, .pointer (some ⟨b4, 0, none⟩)), (7, .pointer (some ⟨b5, 0, none⟩)), (8, .pointer (some ⟨b6, 0, none⟩)), (20, .int .i64 a1), (21, .int .i64 x21_2)] [cellsC b4 [.int .i64 a0.Lat, .int .i64 a0.Lon] 25, cellsC b5 [.int .u8 (m_7 0), .int .u8 (m_7 1), .int .u8 (m_7 2), .int .u8 (m_7 3), .int .u8 (m_7 4), .int .u8 (m_7 5), .int .u8 (m_7 6), .int .u8 (m_7 7), .int .u8 (m_7 8), .int .u8 (m_7 9), .int .u8 (m_7 10), .int .u8 (m_7 11), .int .u8 (m_7 12), .int .u8 (m_7 13), .int .u8 (m_7 14), .int .u8 (m_7 15), .int .u8 (m_7 16), .int .u8 (m_7 17), .int .u8 (m_7 18), .int .u8 (m_7 19), .int .u8 (m_7 20), .int .u8 (m_7 21), .int .u8 (m_7 22), .int .u8 (m_7 23)] 53, cellsC b6 [.int .i64 m_8, .int .i64 m_9, .int .i64 m_10, .int .i64 m_11] 23] rfl rfl ?_
        refine c_seq ?_
        refine c_region ?_
        refine l_val rfl rfl rfl (r_lss rfl rfl) ?_
        refine l_nil ?_
        refine c_seq ?_
        refine c_if (b := (decide (x21_2 < a1))) rfl (fun hb => ?_) (fun hb => ?_)
        · have H39 := cnd_t hb H38; clear H38
          refine c_skip ?_
          refine c_meet (r := r) (σ := (Nat → Int) × Int × Int × Int × Int) (τ := Unit) (fun s => where_Cell_j3 x21_2 next2 s.1 s.2.1 s.2.2.1 s.2.2.2.1 s.2.2.2.2) (fun s t => [(1, .int .i64 a1), (2, .pointer (some ⟨b4, 0, none⟩)), (7, .pointer (some ⟨b5, 0, none⟩)), (8, .pointer (some ⟨b6, 0, none⟩)), (20, .int .i64 a1), (21, .int .i64 x21_2)]) (fun s t => [cellsC b4 [.int .i64 a0.Lat, .int .i64 a0.Lon] 25, cellsC b5 [.int .u8 (s.1 0), .int .u8 (s.1 1), .int .u8 (s.1 2), .int .u8 (s.1 3), .int .u8 (s.1 4), .int .u8 (s.1 5), .int .u8 (s.1 6), .int .u8 (s.1 7), .int .u8 (s.1 8), .int .u8 (s.1 9), .int .u8 (s.1 10), .int .u8 (s.1 11), .int .u8 (s.1 12), .int .u8 (s.1 13), .int .u8 (s.1 14), .int .u8 (s.1 15), .int .u8 (s.1 16), .int .u8 (s.1 17), .int .u8 (s.1 18), .int .u8 (s.1 19), .int .u8 (s.1 20), .int .u8 (s.1 21), .int .u8 (s.1 22), .int .u8 (s.1 23)] 53, cellsC b6 [.int .i64 s.2.1, .int .i64 s.2.2.1, .int .i64 s.2.2.2.1, .int .i64 s.2.2.2.2] 23]) (fun s t => True) ?_ ?_
          · refine c_block ?_
            refine c_seq ?_
            refine c_region ?_
            refine l_val rfl rfl rfl (r_move (v := .int .i64 x21_2) rfl) ?_
            refine l_val rfl rfl rfl (r_assign (v := .int .i64 x21_2) rfl) ?_
            refine l_nil ?_
            refine c_seq ?_
            refine c_region ?_
            refine l_val rfl rfl rfl (r_move (v := .int .i64 0) rfl) ?_
            refine l_nil ?_
            refine c_block ?_
            refine c_fix (σ := Int) (τ := Unit) (fun next4 s => where_Cell_l4 a0 x21_2 m_7 m_8 m_9 m_10 m_11 next2 next4 s) (fun s t => [(1, .int .i64 a1), (2, .pointer (some ⟨b4, 0, none⟩)), (7, .pointer (some ⟨b5, 0, none⟩)), (8, .pointer (some ⟨b6, 0, none⟩)), (9, .int .i64 x21_2), (20, .int .i64 a1), (21, .int .i64 x21_2), (24, .int .i64 s)]) (fun s t => [cellsC b4 [.int .i64 a0.Lat, .int .i64 a0.Lon] 25, cellsC b5 [.int .u8 (m_7 0), .int .u8 (m_7 1), .int .u8 (m_7 2), .int .u8 (m_7 3), .int .u8 (m_7 4), .int .u8 (m_7 5), .int .u8 (m_7 6), .int .u8 (m_7 7), .int .u8 (m_7 8), .int .u8 (m_7 9), .int .u8 (m_7 10), .int .u8 (m_7 11), .int .u8 (m_7 12), .int .u8 (m_7 13), .int .u8 (m_7 14), .int .u8 (m_7 15), .int .u8 (m_7 16), .int .u8 (m_7 17), .int .u8 (m_7 18), .int .u8 (m_7 19), .int .u8 (m_7 20), .int .u8 (m_7 21), .int .u8 (m_7 22), .int .u8 (m_7 23)] 53, cellsC b6 [.int .i64 m_8, .int .i64 m_9, .int .i64 m_10, .int .i64 m_11] 23]) (fun s t => True) 0 () [0, 1, 2] H39 (by exact trivial) (by exact ⟨rfl, rfl, rfl, rfl, rfl, rfl, rfl, rfl, trivial⟩) (by decide) rfl ?_
            rintro x24_2 _ m4 gg H42 _
            clear H39
            replace H42 : where_Cell_l4 a0 x21_2 m_7 m_8 m_9 m_10 m_11 next2 (it (fun next4 s => where_Cell_l4 a0 x21_2 m_7 m_8 m_9 m_10 m_11 next2 next4 s) m4) x24_2 = some r := H42
            generalize hn4 : it (fun next4 s => where_Cell_l4 a0 x21_2 m_7 m_8 m_9 m_10 m_11 next2 next4 s) m4 = next4 at H42
            refine c_tidyF [(1, .int .i64 a1), (2, .pointer (some ⟨b4, 0, none⟩)), (7, .pointer (some ⟨b5, 0, none⟩)), (8, .pointer (some ⟨b6, 0, none⟩)), (9, .int .i64 x21_2), (20, .int .i64 a1), (21, .int .i64 x21_2), (24, .int .i64 x24_2)] [cellsC b4 [.int .i64 a0.Lat, .int .i64 a0.Lon] 25, cellsC b5 [.int .u8 (m_7 0), .int .u8 (m_7 1), .int .u8 (m_7 2), .int .u8 (m_7 3), .int .u8 (m_7 4), .int .u8 (m_7 5), .int .u8 (m_7 6), .int .u8 (m_7 7), .int .u8 (m_7 8), .int .u8 (m_7 9), .int .u8 (m_7 10), .int .u8 (m_7 11), .int .u8 (m_7 12), .int .u8 (m_7 13), .int .u8 (m_7 14), .int .u8 (m_7 15), .int .u8 (m_7 16), .int .u8 (m_7 17), .int .u8 (m_7 18), .int .u8 (m_7 19), .int .u8 (m_7 20), .int .u8 (m_7 21), .int .u8 (m_7 22), .int .u8 (m_7 23)] 53, cellsC b6 [.int .i64 m_8, .int .i64 m_9, .int .i64 m_10, .int .i64 m_11] 23] rfl rfl ?_
            refine c_seq ?_
            refine c_region ?_
            refine l_val rfl rfl rfl (r_lss rfl rfl) ?_
            refine l_nil ?_
            refine c_seq ?_
            refine c_if (b := (decide (x24_2 < 4))) rfl (fun hb => ?_) (fun hb => ?_)
            · have H43 := cnd_t hb H42; clear H42
              refine c_skip ?_
              refine c_meet (r := r) (σ := Unit) (τ := Unit) (fun s => where_Cell_j5 x24_2 next4) (fun s t => [(1, .int .i64 a1), (2, .pointer (some ⟨b4, 0, none⟩)), (7, .pointer (some ⟨b5, 0, none⟩)), (8, .pointer (some ⟨b6, 0, none⟩)), (9, .int .i64 x21_2), (20, .int .i64 a1), (21, .int .i64 x21_2), (24, .int .i64 x24_2)]) (fun s t => [cellsC b4 [.int .i64 a0.Lat, .int .i64 a0.Lon] 25, cellsC b5 [.int .u8 (m_7 0), .int .u8 (m_7 1), .int .u8 (m_7 2), .int .u8 (m_7 3), .int .u8 (m_7 4), .int .u8 (m_7 5), .int .u8 (m_7 6), .int .u8 (m_7 7), .int .u8 (m_7 8), .int .u8 (m_7 9), .int .u8 (m_7 10), .int .u8 (m_7 11), .int .u8 (m_7 12), .int .u8 (m_7 13), .int .u8 (m_7 14), .int .u8 (m_7 15), .int .u8 (m_7 16), .int .u8 (m_7 17), .int .u8 (m_7 18), .int .u8 (m_7 19), .int .u8 (m_7 20), .int .u8 (m_7 21), .int .u8 (m_7 22), .int .u8 (m_7 23)] 53, cellsC b6 [.int .i64 m_8, .int .i64 m_9, .int .i64 m_10, .int .i64 m_11] 23]) (fun s t => True) ?_ ?_
              · refine c_block ?_
                refine c_seq ?_
                refine c_region ?_
                refine l_val rfl rfl rfl (r_move (v := .int .i64 x24_2) rfl) ?_
                refine l_val rfl rfl rfl (r_assign (v := .int .i64 x24_2) rfl) ?_
                refine l_nil ?_
                refine c_seq ?_
                refine c_region ?_
                refine l_loadN (i := 2) (vs := [.int .i64 m_8, .int .i64 m_9, .int .i64 m_10, .int .i64 m_11]) Tryd.isAgg23 Tryd.sizeOf23 rfl rfl rfl rfl rfl ?_
                refine l_val rfl rfl rfl (r_move (v := .int .i64 x24_2) rfl) ?_
                obtain ⟨t29, h_t29, H46⟩ := bnd_some H43; clear H43
                refine l_call (k19 h_t29) Tryd.call19 rfl rfl rfl ?_
                refine l_alloc (cs := [.int .i64 0, .int .i64 0, .int .i64 0, .int .i64 0]) Tryd.zeroValue23 rfl rfl rfl (fun b7 => ?_)
                refine l_store (i := 3) (vs := [.int .i64 t29.South, .int .i64 t29.West, .int .i64 t29.North, .int .i64 t29.East]) (cs' := [.int .i64 t29.South, .int .i64 t29.West, .int .i64 t29.North, .int .i64 t29.East]) Tryd.sizeOf23 rfl rfl rfl rfl rfl rfl rfl rfl rfl ?_
                refine l_nil ?_
                refine c_seq ?_
                refine c_region ?_
                refine l_val rfl rfl rfl (r_field Tryd.runUnderlying25 rfl Tryd.sizeOf3 rfl rfl) ?_
                refine l_load1 (i := 0) (v := .int .i64 a0.Lat) Tryd.isAgg3 rfl rfl rfl rfl rfl ?_
                refine l_val rfl rfl rfl (r_field Tryd.runUnderlying23 rfl Tryd.sizeOf3 rfl rfl) ?_
                refine l_load1 (i := 3) (v := .int .i64 t29.South) Tryd.isAgg3 rfl rfl rfl rfl rfl ?_
                refine l_val rfl rfl rfl (r_field Tryd.runUnderlying23 rfl Tryd.sizeOf3 rfl rfl) ?_
                refine l_load1 (i := 3) (v := .int .i64 t29.North) Tryd.isAgg3 rfl rfl rfl rfl rfl ?_
                obtain ⟨t36, h_t36, H47⟩ := bnd_some H46; clear H46
                refine l_call (k14 h_t36) Tryd.call14 rfl rfl rfl ?_
                refine l_val rfl rfl rfl (r_not rfl) ?_
                refine l_val rfl rfl rfl (r_move (v := .bool (!t36)) rfl) ?_
                refine split (fun hb => ?_) (fun hb => ?_)
                · have H48 := cnd_t hb H47; clear H47
                  refine l_val rfl rfl rfl (r_field Tryd.runUnderlying25 rfl Tryd.sizeOf3 rfl rfl) ?_
                  refine l_load1 (i := 0) (v := .int .i64 a0.Lon) Tryd.isAgg3 rfl rfl rfl rfl rfl ?_
                  refine l_val rfl rfl rfl (r_field Tryd.runUnderlying23 rfl Tryd.sizeOf3 rfl rfl) ?_
                  refine l_load1 (i := 3) (v := .int .i64 t29.West) Tryd.isAgg3 rfl rfl rfl rfl rfl ?_
                  refine l_val rfl rfl rfl (r_field Tryd.runUnderlying23 rfl Tryd.sizeOf3 rfl rfl) ?_
                  refine l_load1 (i := 3) (v := .int .i64 t29.East) Tryd.isAgg3 rfl rfl rfl rfl rfl ?_
                  obtain ⟨t45, h_t45, H49⟩ := bnd_some H48; clear H48
                  refine l_call (k14 h_t45) Tryd.call14 rfl rfl rfl ?_
                  refine l_val rfl rfl rfl (r_not rfl) ?_
                  refine l_val rfl rfl rfl (r_pickT (v := .bool (!t45)) rfl rfl) ?_
                  refine l_nil ?_
                  refine c_if (b := (!t45)) rfl (fun hb => ?_) (fun hb => ?_)
                  · have H50 := cnd_t hb H49; clear H49
                    refine c_seq ?_
                    exact c_regionD (Kd.p :: Kd.p :: Kd.p :: Kd.p :: Kd.d [3] _ :: Kd.p :: Kd.st 53 1 [_, _, _, _, _, _, _, _, _, _, _, _, _, _, _, _, _, _, _, _, _, _, _, _] 53 :: Kd.st 8 2 [_, _, _, _] 23 :: []) 0 mixed (by
                      refine d_val rfl rfl (r_move (v := .int .i64 x21_2) rfl) ?_
                      refine d_val rfl rfl (r_move (v := .int .i64 x24_2) rfl) ?_
                      have h_t50 := bnd_val H50
                      have H51 := bnd_rest H50
                      refine d_val rfl rfl (r_addG rfl rfl h_t50) ?_
                      refine d_val rfl rfl (r_convG Tryd.runUnderlying3 Tryd.runUnderlying5 rfl (wr_u8 _)) ?_
                      refine d_loadN (i := 3) (vs := [.int .i64 t29.South, .int .i64 t29.West, .int .i64 t29.North, .int .i64 t29.East]) Tryd.isAgg23 Tryd.sizeOf23 rfl rfl rfl rfl ?_
                      have h_k53 := bnd_val H51
                      have H52 := bnd_rest H51
                      refine d_val rfl rfl (r_indexPG Tryd.runUnderlying53 Tryd.sizeOf5 rfl rfl h_k53) ?_
                      refine d_store (i := 1) (vs := [.int .u8 (wU8 (val (gI (48 + x24_2))))]) (cs' := [.int .u8 ((setA m_7 (val (gIx 24 x21_2)) (wU8 (val (gI (48 + x24_2))))) 0), .int .u8 ((setA m_7 (val (gIx 24 x21_2)) (wU8 (val (gI (48 + x24_2))))) 1), .int .u8 ((setA m_7 (val (gIx 24 x21_2)) (wU8 (val (gI (48 + x24_2))))) 2), .int .u8 ((setA m_7 (val (gIx 24 x21_2)) (wU8 (val (gI (48 + x24_2))))) 3), .int .u8 ((setA m_7 (val (gIx 24 x21_2)) (wU8 (val (gI (48 + x24_2))))) 4), .int .u8 ((setA m_7 (val (gIx 24 x21_2)) (wU8 (val (gI (48 + x24_2))))) 5), .int .u8 ((setA m_7 (val (gIx 24 x21_2)) (wU8 (val (gI (48 + x24_2))))) 6), .int .u8 ((setA m_7 (val (gIx 24 x21_2)) (wU8 (val (gI (48 + x24_2))))) 7), .int .u8 ((setA m_7 (val (gIx 24 x21_2)) (wU8 (val (gI (48 + x24_2))))) 8), .int .u8 ((setA m_7 (val (gIx 24 x21_2)) (wU8 (val (gI (48 + x24_2))))) 9), .int .u8 ((setA m_7 (val (gIx 24 x21_2)) (wU8 (val (gI (48 + x24_2))))) 10), .int .u8 ((setA m_7 (val (gIx 24 x21_2)) (wU8 (val (gI (48 + x24_2))))) 11), .int .u8 ((setA m_7 (val (gIx 24 x21_2)) (wU8 (val (gI (48 + x24_2))))) 12), .int .u8 ((setA m_7 (val (gIx 24 x21_2)) (wU8 (val (gI (48 + x24_2))))) 13), .int .u8 ((setA m_7 (val (gIx 24 x21_2)) (wU8 (val (gI (48 + x24_2))))) 14), .int .u8 ((setA m_7 (val (gIx 24 x21_2)) (wU8 (val (gI (48 + x24_2))))) 15), .int .u8 ((setA m_7 (val (gIx 24 x21_2)) (wU8 (val (gI (48 + x24_2))))) 16), .int .u8 ((setA m_7 (val (gIx 24 x21_2)) (wU8 (val (gI (48 + x24_2))))) 17), .int .u8 ((setA m_7 (val (gIx 24 x21_2)) (wU8 (val (gI (48 + x24_2))))) 18), .int .u8 ((setA m_7 (val (gIx 24 x21_2)) (wU8 (val (gI (48 + x24_2))))) 19), .int .u8 ((setA m_7 (val (gIx 24 x21_2)) (wU8 (val (gI (48 + x24_2))))) 20), .int .u8 ((setA m_7 (val (gIx 24 x21_2)) (wU8 (val (gI (48 + x24_2))))) 21), .int .u8 ((setA m_7 (val (gIx 24 x21_2)) (wU8 (val (gI (48 + x24_2))))) 22), .int .u8 ((setA m_7 (val (gIx 24 x21_2)) (wU8 (val (gI (48 + x24_2))))) 23)]) Tryd.sizeOf5 rfl rfl rfl rfl rfl rfl rfl rfl (wr_arr (pre := []) (post := []) (f := fun (j_ : Int) => [.int .u8 j_]) (n := 24) (sz := 1) (a := m_7) (x := (wU8 (val (gI (48 + x24_2))))) rfl rfl (fun _ => rfl) (gIx_lt h_k53) rfl rfl) ?_
                      refine d_store (i := 2) (vs := [.int .i64 t29.South, .int .i64 t29.West, .int .i64 t29.North, .int .i64 t29.East]) (cs' := [.int .i64 t29.South, .int .i64 t29.West, .int .i64 t29.North, .int .i64 t29.East]) Tryd.sizeOf23 rfl rfl rfl rfl rfl rfl rfl rfl rfl ?_
                      refine d_nil ?_
                      refine c_exit ?_
                      refine c_close ((setA m_7 (val (gIx 24 x21_2)) (wU8 (val (gI (48 + x24_2))))), t29.South, t29.West, t29.North, t29.East) () 0 [0, 1, 2] (by exact ⟨rfl, rfl, rfl, rfl, rfl, rfl, trivial⟩) (by decide) rfl (by exact ⟨H52, trivial⟩) (Nat.lt_succ_self _)
                      ) (by kernel_rfl)
                  · have H53 := cnd_f hb H49; clear H49
                    refine c_skip ?_
                    refine c_close () () 0 [0, 1, 2] (by exact ⟨rfl, rfl, rfl, rfl, rfl, rfl, rfl, rfl, trivial⟩) (by decide) rfl (by exact ⟨H53, trivial⟩) (Nat.lt_succ_self _)
                · have H54 := cnd_f hb H47; clear H47
                  refine l_passed rfl rfl rfl ?_
                  refine l_passed rfl rfl rfl ?_
                  refine l_passed rfl rfl rfl ?_
                  refine l_passed rfl rfl rfl ?_
                  refine l_passed rfl rfl rfl ?_
                  refine l_passed rfl rfl rfl ?_
                  refine l_passed rfl rfl rfl ?_
                  refine l_passed rfl rfl rfl ?_
                  refine l_val rfl rfl rfl (r_pickF (v := .bool false) rfl rfl) ?_
                  refine l_nil ?_
                  refine c_false rfl ?_
                  refine c_skip ?_
                  refine c_close () () 0 [0, 1, 2] (by exact ⟨rfl, rfl, rfl, rfl, rfl, rfl, rfl, rfl, trivial⟩) (by decide) rfl (by exact ⟨H54, trivial⟩) (Nat.lt_succ_self _)
              · rintro _ _ gg H44 _
                replace H44 : where_Cell_j5 x24_2 next4 = some r := H44
                refine c_tidyF [(1, .int .i64 a1), (2, .pointer (some ⟨b4, 0, none⟩)), (7, .pointer (some ⟨b5, 0, none⟩)), (8, .pointer (some ⟨b6, 0, none⟩)), (9, .int .i64 x21_2), (20, .int .i64 a1), (21, .int .i64 x21_2), (24, .int .i64 x24_2)] [cellsC b4 [.int .i64 a0.Lat, .int .i64 a0.Lon] 25, cellsC b5 [.int .u8 (m_7 0), .int .u8 (m_7 1), .int .u8 (m_7 2), .int .u8 (m_7 3), .int .u8 (m_7 4), .int .u8 (m_7 5), .int .u8 (m_7 6), .int .u8 (m_7 7), .int .u8 (m_7 8), .int .u8 (m_7 9), .int .u8 (m_7 10), .int .u8 (m_7 11), .int .u8 (m_7 12), .int .u8 (m_7 13), .int .u8 (m_7 14), .int .u8 (m_7 15), .int .u8 (m_7 16), .int .u8 (m_7 17), .int .u8 (m_7 18), .int .u8 (m_7 19), .int .u8 (m_7 20), .int .u8 (m_7 21), .int .u8 (m_7 22), .int .u8 (m_7 23)] 53, cellsC b6 [.int .i64 m_8, .int .i64 m_9, .int .i64 m_10, .int .i64 m_11] 23] rfl rfl ?_
                refine c_region ?_
                obtain ⟨t54, h_t54, H45⟩ := bnd_some H44; clear H44
                refine l_val rfl rfl rfl (r_addG rfl rfl h_t54) ?_
                refine l_val rfl rfl rfl (r_move (v := .int .i64 t54) rfl) ?_
                refine l_nil ?_
                refine c_close t54 () m4 [0, 1, 2] (by exact ⟨rfl, rfl, rfl, rfl, rfl, rfl, rfl, rfl, trivial⟩) (by decide) rfl (by exact ⟨(by subst hn4; exact H45), trivial⟩) (Nat.lt_succ_self _)
            · have H55 := cnd_f hb H42; clear H42
              refine c_exit ?_
              refine c_close (m_7, m_8, m_9, m_10, m_11) () 0 [0, 1, 2] (by exact ⟨rfl, rfl, rfl, rfl, rfl, rfl, trivial⟩) (by decide) rfl (by exact ⟨H55, trivial⟩) (Nat.lt_succ_self _)
          · rintro ⟨m_12, m_13, m_14, m_15, m_16⟩ _ gg H40 _
            replace H40 : where_Cell_j3 x21_2 next2 m_12 m_13 m_14 m_15 m_16 = some r := H40
            refine c_tidyF [(1, .int .i64 a1), (2, .pointer (some ⟨b4, 0, none⟩)), (7, .pointer (some ⟨b5, 0, none⟩)), (8, .pointer (some ⟨b6, 0, none⟩)), (20, .int .i64 a1), (21, .int .i64 x21_2)] [cellsC b4 [.int .i64 a0.Lat, .int .i64 a0.Lon] 25, cellsC b5 [.int .u8 (m_12 0), .int .u8 (m_12 1), .int .u8 (m_12 2), .int .u8 (m_12 3), .int .u8 (m_12 4), .int .u8 (m_12 5), .int .u8 (m_12 6), .int .u8 (m_12 7), .int .u8 (m_12 8), .int .u8 (m_12 9), .int .u8 (m_12 10), .int .u8 (m_12 11), .int .u8 (m_12 12), .int .u8 (m_12 13), .int .u8 (m_12 14), .int .u8 (m_12 15), .int .u8 (m_12 16), .int .u8 (m_12 17), .int .u8 (m_12 18), .int .u8 (m_12 19), .int .u8 (m_12 20), .int .u8 (m_12 21), .int .u8 (m_12 22), .int .u8 (m_12 23)] 53, cellsC b6 [.int .i64 m_13, .int .i64 m_14, .int .i64 m_15, .int .i64 m_16] 23] rfl rfl ?_
            refine c_region ?_
            obtain ⟨t55, h_t55, H41⟩ := bnd_some H40; clear H40
            refine l_val rfl rfl rfl (r_addG rfl rfl h_t55) ?_
            refine l_val rfl rfl rfl (r_move (v := .int .i64 t55) rfl) ?_
            refine l_nil ?_
            refine c_close (t55, m_12, m_13, m_14, m_15, m_16) () m2 [0, 1, 2] (by exact ⟨rfl, rfl, rfl, rfl, rfl, rfl, trivial⟩) (by decide) rfl (by exact ⟨(by subst hn2; exact H41), trivial⟩) (Nat.lt_succ_self _)
        · have H56 := cnd_f hb H38; clear H38
          refine c_exit ?_
          refine c_close m_7 () 0 [1] (by exact ⟨rfl, rfl, trivial⟩) (by decide) rfl (by exact ⟨H56, trivial⟩) (Nat.lt_succ_self _)
      · rintro m _ gg H36 _
        replace H36 : where_Cell_j1 a1 m = some r := H36
        refine c_tidyF [(1, .int .i64 a1), (7, .pointer (some ⟨b5, 0, none⟩))] [cellsC b5 [.int .u8 (m 0), .int .u8 (m 1), .int .u8 (m 2), .int .u8 (m 3), .int .u8 (m 4), .int .u8 (m 5), .int .u8 (m 6), .int .u8 (m 7), .int .u8 (m 8), .int .u8 (m 9), .int .u8 (m 10), .int .u8 (m 11), .int .u8 (m 12), .int .u8 (m 13), .int .u8 (m 14), .int .u8 (m 15), .int .u8 (m 16), .int .u8 (m 17), .int .u8 (m 18), .int .u8 (m 19), .int .u8 (m 20), .int .u8 (m 21), .int .u8 (m 22), .int .u8 (m 23)] 53] rfl rfl ?_
        refine c_seq ?_
        refine c_region ?_
        refine l_val rfl rfl rfl (r_move (v := .int .i64 a1) rfl) ?_
        obtain ⟨t57, h_t57, H37⟩ := bnd_some H36; clear H36
        refine l_val rfl rfl rfl (r_sliceArr Tryd.underlying53 Tryd.sizeOf5 rfl rfl h_t57) ?_
        refine l_read (fun w hF hS => run_bytes (f := e_u8) (xs := t57) rfl Tryd.underlying54 Tryd.underlying5 Tryd.underlying9 rfl (fun _ => rfl) (row_arr (f := e_u8) (i := 0) hS rfl (by kernel_rfl) (fun _ => rfl) h_t57)) rfl rfl rfl ?_
        refine l_val rfl rfl rfl (r_assign (v := str (toStr t57)) rfl) ?_
        refine l_val rfl rfl rfl (r_assign (v := .int .i64 0) rfl) ?_
        refine l_nil ?_
        refine c_ret ?_
        obtain rfl := Option.some.inj H37
        refine ret2 (v1 := str (toStr t57)) (v2 := .int .i64 0) rfl rfl rfl (fin rfl)
theorem k23 {a0 : (List (List UInt8))} {v0 : Value} {a1 : (List UInt8)} {r : Int} {w : World} {h : Heap} (hw : Know h w noS) (f0 : FrS h 1 v0 (a0.map e_string)) (H : slices_Index_string a0 a1 = some r) : Does Tryd.prog 23 (List.toArray [v0, str a1]) w (fun v w' => v = (.int .i64 r) ∧ Grow w w') := by
  refine enter (n := 19) Tryd.func23 rfl rfl rfl noS [] (Sat.nil _ _) ?_
  refine c_seq ?_
  refine c_region ?_
  refine l_val rfl rfl rfl (r_assign (v := .int .i64 0) rfl) ?_
  refine l_nil ?_
  refine c_seq ?_
  refine c_seq ?_
  refine c_region ?_
  refine l_val rfl rfl rfl (r_move (v := v0) rfl) ?_
  refine l_val rfl rfl rfl (r_lenF Tryd.underlying27 rfl f0 rfl) ?_
  refine l_val rfl rfl rfl (r_move (v := .int .i64 0) rfl) ?_
  refine l_nil ?_
  refine c_block ?_
  refine c_fix (σ := Int) (τ := Unit) (fun next1 s => slices_Index_string_l1 a0 a1 next1 s) (fun s t => [(0, v0), (1, str a1), (7, .int .i64 (a0.length : Int)), (8, .int .i64 s)]) (fun s t => []) (fun s t => True) 0 () [] H (by exact trivial) (by exact ⟨rfl, rfl, rfl, rfl, trivial⟩) (by decide) rfl ?_
  rintro x8_2 _ m1 gg H8 _
  clear H
  replace H8 : slices_Index_string_l1 a0 a1 (it (fun next1 s => slices_Index_string_l1 a0 a1 next1 s) m1) x8_2 = some r := H8
  generalize hn1 : it (fun next1 s => slices_Index_string_l1 a0 a1 next1 s) m1 = next1 at H8
  refine c_tidyF [(0, v0), (1, str a1), (7, .int .i64 (a0.length : Int)), (8, .int .i64 x8_2)] [] rfl rfl ?_
  refine c_seq ?_
  refine c_region ?_
  refine l_val rfl rfl rfl (r_lss rfl rfl) ?_
  refine l_nil ?_
  refine c_seq ?_
  refine c_if (b := (decide (x8_2 < (a0.length : Int)))) rfl (fun hb => ?_) (fun hb => ?_)
  · have H9 := cnd_t hb H8; clear H8
    refine c_skip ?_
    refine c_seq ?_
    refine c_block ?_
    refine c_seq ?_
    refine c_region ?_
    refine l_val rfl rfl rfl (r_move (v := .int .i64 x8_2) rfl) ?_
    refine l_val rfl rfl rfl (r_assign (v := .int .i64 x8_2) rfl) ?_
    refine l_nil ?_
    refine c_seq ?_
    refine c_region ?_
    refine l_val rfl rfl rfl (r_move (v := str a1) rfl) ?_
    refine l_val rfl rfl rfl (r_move (v := v0) rfl) ?_
    refine l_val rfl rfl rfl (r_move (v := .int .i64 x8_2) rfl) ?_
    obtain ⟨t14, h_t14, H10⟩ := bnd_some H9; clear H9
    refine l_val rfl rfl rfl (r_indexF Tryd.underlying27 Tryd.sizeOf9 rfl rfl f0 h_t14) ?_
    refine l_read (fun w hF hS => run_loadG1 (f := e_string) (i := x8_2) (sz := 1) (j := 0) (v := str t14) Tryd.isAgg9 rfl rfl (f0.row (hw.now hF)) h_t14 rfl) rfl rfl rfl ?_
    refine l_val rfl rfl rfl (r_eqlT rfl rfl) ?_
    refine l_nil ?_
    refine c_if (b := (decide (a1 = t14))) rfl (fun hb => ?_) (fun hb => ?_)
    · have H11 := cnd_t hb H10; clear H10
      refine c_seq ?_
      refine c_region ?_
      refine l_val rfl rfl rfl (r_move (v := .int .i64 x8_2) rfl) ?_
      refine l_val rfl rfl rfl (r_assign (v := .int .i64 x8_2) rfl) ?_
      refine l_nil ?_
      refine c_ret ?_
      obtain rfl := Option.some.inj H11
      refine ret1 (v := .int .i64 x8_2) rfl rfl (fin rfl)
    · have H12 := cnd_f hb H10; clear H10
      refine c_skip ?_
      refine c_region ?_
      obtain ⟨t18, h_t18, H13⟩ := bnd_some H12; clear H12
      refine l_val rfl rfl rfl (r_addG rfl rfl h_t18) ?_
      refine l_val rfl rfl rfl (r_move (v := .int .i64 t18) rfl) ?_
      refine l_nil ?_
      refine c_close t18 () m1 [] (by exact ⟨rfl, rfl, rfl, rfl, trivial⟩) (by decide) rfl (by exact ⟨(by subst hn1; exact H13), trivial⟩) (Nat.lt_succ_self _)
  · have H14 := cnd_f hb H8; clear H8
    refine c_exit ?_
    refine c_seq ?_
    refine c_region ?_
    refine l_val rfl rfl rfl (r_assign (v := .int .i64 (-1)) rfl) ?_
    refine l_nil ?_
    refine c_ret ?_
    obtain rfl := Option.some.inj H14
    refine ret1 (v := .int .i64 (-1)) rfl rfl (fin rfl)
theorem k10 {a0 : (List (List UInt8))} {v0 : Value} {a1 : (List UInt8)} {r : Bool} {w : World} {h : Heap} (hw : Know h w noS) (f0 : FrS h 1 v0 (a0.map e_string)) (H : slices_Contains_string a0 a1 = some r) : Does Tryd.prog 10 (List.toArray [v0, str a1]) w (fun v w' => v = (.bool r) ∧ Grow w w') := by
  refine enter (n := 9) Tryd.func10 rfl rfl rfl noS [] (Sat.nil _ _) ?_
  refine c_seq ?_
  refine c_region ?_
  refine l_val rfl rfl rfl (r_assign (v := .bool false) rfl) ?_
  refine l_nil ?_
  refine c_seq ?_
  refine c_region ?_
  refine l_val rfl rfl rfl (r_move (v := v0) rfl) ?_
  refine l_val rfl rfl rfl (r_move (v := str a1) rfl) ?_
  obtain ⟨t7, h_t7, H2⟩ := bnd_some H; clear H
  refine l_callG (fun w hF hS => k23 (know_all w) (f0.mono (hw.now hF)) h_t7) Tryd.call23 rfl rfl rfl ?_
  refine l_val rfl rfl rfl (r_geq rfl rfl) ?_
  refine l_val rfl rfl rfl (r_assign (v := .bool (decide (0 ≤ t7))) rfl) ?_
  refine l_nil ?_
  refine c_ret ?_
  obtain rfl := Option.some.inj H2
  refine ret1 (v := .bool (decide (0 ≤ t7))) rfl rfl (fin rfl)
theorem k30 {a0 : (List UInt8)} {r : Bool} (H : cmp_isNaN_string a0 = some r) : Ret Tryd.prog 30 [str a0] (.bool r) := by
  refine enterRet (n := 6) Tryd.func30 rfl rfl rfl (fun wd => ?_)
  refine c_seq ?_
  refine c_region ?_
  refine l_val rfl rfl rfl (r_assign (v := .bool false) rfl) ?_
  refine l_nil ?_
  refine c_seq ?_
  refine c_region ?_
  refine l_val rfl rfl rfl (r_move (v := str a0) rfl) ?_
  refine l_val rfl rfl rfl (r_move (v := str a0) rfl) ?_
  refine l_val rfl rfl rfl (r_neqT rfl rfl) ?_
  refine l_val rfl rfl rfl (r_assign (v := .bool (decide (a0 ≠ a0))) rfl) ?_
  refine l_nil ?_
  refine c_ret ?_
  obtain rfl := Option.some.inj H
  refine ret1 (v := .bool (decide (a0 ≠ a0))) rfl rfl (fin rfl)
theorem k24 {a0 : (List UInt8)} {a1 : (List UInt8)} {r : Bool} (H : cmp_Less_string a0 a1 = some r) : Ret Tryd.prog 24 [str a0, str a1] (.bool r) := by
  refine enterRet (n := 17) Tryd.func24 rfl rfl rfl (fun wd => ?_)
  refine c_seq ?_
  refine c_region ?_
  refine l_val rfl rfl rfl (r_assign (v := .bool false) rfl) ?_
  refine l_nil ?_
  refine c_seq ?_
  refine c_region ?_
  refine l_val rfl rfl rfl (r_move (v := str a0) rfl) ?_
  obtain ⟨t6, h_t6, H7⟩ := bnd_some H; clear H
  refine l_call (k30 h_t6) Tryd.call30 rfl rfl rfl ?_
  refine l_val rfl rfl rfl (r_move (v := .bool t6) rfl) ?_
  refine split (fun hb => ?_) (fun hb => ?_)
  · have H8 := cnd_t hb H7; clear H7
    refine l_val rfl rfl rfl (r_move (v := str a1) rfl) ?_
    obtain ⟨t9, h_t9, H9⟩ := bnd_some H8; clear H8
    refine l_call (k30 h_t9) Tryd.call30 rfl rfl rfl ?_
    refine l_val rfl rfl rfl (r_not rfl) ?_
    refine l_val rfl rfl rfl (r_pickT (v := .bool (!t9)) rfl rfl) ?_
    refine l_val rfl rfl rfl (r_move (v := .bool (!t9)) rfl) ?_
    refine split (fun hb => ?_) (fun hb => ?_)
    · have H10 := cnd_t hb H9; clear H9
      refine l_passed rfl rfl rfl ?_
      refine l_passed rfl rfl rfl ?_
      refine l_passed rfl rfl rfl ?_
      refine l_val rfl rfl rfl (r_pickT (v := .bool true) rfl rfl) ?_
      refine l_val rfl rfl rfl (r_assign (v := .bool true) rfl) ?_
      refine l_nil ?_
      refine c_ret ?_
      obtain rfl := Option.some.inj H10
      refine ret1 (v := .bool true) rfl rfl (fin rfl)
    · have H11 := cnd_f hb H9; clear H9
      refine l_val rfl rfl rfl (r_move (v := str a0) rfl) ?_
      refine l_val rfl rfl rfl (r_move (v := str a1) rfl) ?_
      refine l_val rfl rfl rfl (r_lssT rfl rfl) ?_
      refine l_val rfl rfl rfl (r_pickF (v := .bool (ltB a0 a1)) rfl rfl) ?_
      refine l_val rfl rfl rfl (r_assign (v := .bool (ltB a0 a1)) rfl) ?_
      refine l_nil ?_
      refine c_ret ?_
      obtain rfl := Option.some.inj H11
      refine ret1 (v := .bool (ltB a0 a1)) rfl rfl (fin rfl)
  · have H12 := cnd_f hb H7; clear H7
    refine l_passed rfl rfl rfl ?_
    refine l_passed rfl rfl rfl ?_
    refine l_passed rfl rfl rfl ?_
    refine l_val rfl rfl rfl (r_pickF (v := .bool false) rfl rfl) ?_
    refine l_val rfl rfl rfl (r_move (v := .bool false) rfl) ?_
    refine l_val rfl rfl rfl (r_move (v := str a0) rfl) ?_
    refine l_val rfl rfl rfl (r_move (v := str a1) rfl) ?_
    refine l_val rfl rfl rfl (r_lssT rfl rfl) ?_
    refine l_val rfl rfl rfl (r_pickF (v := .bool (ltB a0 a1)) rfl rfl) ?_
    refine l_val rfl rfl rfl (r_assign (v := .bool (ltB a0 a1)) rfl) ?_
    refine l_nil ?_
    refine c_ret ?_
    obtain rfl := Option.some.inj H12
    refine ret1 (v := .bool (ltB a0 a1)) rfl rfl (fin rfl)
theorem k11 {a0 : (List (List UInt8))} {v0 : Value} {r : Bool} {w : World} {h : Heap} (hw : Know h w noS) (f0 : FrS h 1 v0 (a0.map e_string)) (H : slices_IsSorted_string a0 = some r) : Does Tryd.prog 11 (List.toArray [v0]) w (fun v w' => v = (.bool r) ∧ Grow w w') := by
  refine enter (n := 21) Tryd.func11 rfl rfl rfl noS [] (Sat.nil _ _) ?_
  refine c_seq ?_
  refine c_region ?_
  refine l_val rfl rfl rfl (r_assign (v := .bool false) rfl) ?_
  refine l_nil ?_
  refine c_seq ?_
  refine c_seq ?_
  refine c_region ?_
  refine l_val rfl rfl rfl (r_move (v := v0) rfl) ?_
  refine l_val rfl rfl rfl (r_lenF Tryd.underlying27 rfl f0 rfl) ?_
  obtain ⟨t6, h_t6, H12⟩ := bnd_some H; clear H
  refine l_val rfl rfl rfl (r_subG rfl rfl h_t6) ?_
  refine l_val rfl rfl rfl (r_assign (v := .int .i64 t6) rfl) ?_
  refine l_nil ?_
  refine c_block ?_
  refine c_fix (σ := Int) (τ := Unit) (fun next1 s => slices_IsSorted_string_l1 a0 next1 s) (fun s t => [(0, v0), (3, .int .i64 s)]) (fun s t => []) (fun s t => True) t6 () [] H12 (by exact trivial) (by exact ⟨rfl, rfl, trivial⟩) (by decide) rfl ?_
  rintro x3_2 _ m1 gg H13 _
  clear H12
  replace H13 : slices_IsSorted_string_l1 a0 (it (fun next1 s => slices_IsSorted_string_l1 a0 next1 s) m1) x3_2 = some r := H13
  generalize hn1 : it (fun next1 s => slices_IsSorted_string_l1 a0 next1 s) m1 = next1 at H13
  refine c_tidyF [(0, v0), (3, .int .i64 x3_2)] [] rfl rfl ?_
  refine c_seq ?_
  refine c_seq ?_
  refine c_region ?_
  refine l_val rfl rfl rfl (r_move (v := .int .i64 x3_2) rfl) ?_
  refine l_val rfl rfl rfl (r_gtr rfl rfl) ?_
  refine l_nil ?_
  refine c_if (b := (decide (0 < x3_2))) rfl (fun hb => ?_) (fun hb => ?_)
  · have H14 := cnd_t hb H13; clear H13
    refine c_skip ?_
    refine c_seq ?_
    refine c_block ?_
    refine c_seq ?_
    exact c_regionD (Kd.p :: Kd.p :: Kd.p :: Kd.d [] _ :: Kd.p :: Kd.p :: Kd.p :: Kd.p :: Kd.d [] _ :: Kd.d [] _ :: []) 0 mixed (by
      refine d_val rfl rfl (r_move (v := v0) rfl) ?_
      refine d_val rfl rfl (r_move (v := .int .i64 x3_2) rfl) ?_
      have h_t13 := bnd_val H14
      have H15 := bnd_rest H14
      refine d_val rfl rfl (r_indexF Tryd.underlying27 Tryd.sizeOf9 rfl rfl f0 h_t13) ?_
      refine d_read (fun w hF => run_loadG1 (f := e_string) (i := x3_2) (sz := 1) (j := 0) (v := str (val (gAt a0 x3_2))) Tryd.isAgg9 rfl rfl (f0.row (hw.now hF)) h_t13 rfl) rfl rfl ?_
      refine d_val rfl rfl (r_move (v := v0) rfl) ?_
      refine d_val rfl rfl (r_move (v := .int .i64 x3_2) rfl) ?_
      have h_t17 := bnd_val H15
      have H16 := bnd_rest H15
      refine d_val rfl rfl (r_subG rfl rfl h_t17) ?_
      have h_t18 := bnd_val H16
      have H17 := bnd_rest H16
      refine d_val rfl rfl (r_indexF Tryd.underlying27 Tryd.sizeOf9 rfl rfl f0 h_t18) ?_
      refine d_read (fun w hF => run_loadG1 (f := e_string) (i := (val (gI (x3_2 - 1)))) (sz := 1) (j := 0) (v := str (val (gAt a0 (val (gI (x3_2 - 1)))))) Tryd.isAgg9 rfl rfl (f0.row (hw.now hF)) h_t18 rfl) rfl rfl ?_
      have h_t20 := bnd_val H17
      have H18 := bnd_rest H17
      refine d_call (k24 h_t20) Tryd.call24 rfl rfl ?_
      refine d_nil ?_
      refine c_if (b := (val (cmp_Less_string (val (gAt a0 x3_2)) (val (gAt a0 (val (gI (x3_2 - 1)))))))) rfl (fun hb => ?_) (fun hb => ?_)
      · have H19 := cnd_t hb H18; clear H18
        refine c_seq ?_
        refine c_region ?_
        refine l_val rfl rfl rfl (r_assign (v := .bool false) rfl) ?_
        refine l_nil ?_
        refine c_ret ?_
        obtain rfl := Option.some.inj H19
        refine ret1 (v := .bool false) rfl rfl (fin rfl)
      · have H20 := cnd_f hb H18; clear H18
        refine c_skip ?_
        refine c_region ?_
        refine l_val rfl rfl rfl (r_move (v := .int .i64 x3_2) rfl) ?_
        obtain ⟨t10, h_t10, H21⟩ := bnd_some H20; clear H20
        refine l_val rfl rfl rfl (r_subG rfl rfl h_t10) ?_
        refine l_val rfl rfl rfl (r_assign (v := .int .i64 t10) rfl) ?_
        refine l_nil ?_
        refine c_close t10 () m1 [] (by exact ⟨rfl, rfl, trivial⟩) (by decide) rfl (by exact ⟨(by subst hn1; exact H21), trivial⟩) (Nat.lt_succ_self _)
      ) (by kernel_rfl)
  · have H22 := cnd_f hb H13; clear H13
    refine c_exit ?_
    refine c_seq ?_
    refine c_region ?_
    refine l_val rfl rfl rfl (r_assign (v := .bool true) rfl) ?_
    refine l_nil ?_
    refine c_ret ?_
    obtain rfl := Option.some.inj H22
    refine ret1 (v := .bool true) rfl rfl (fin rfl)
theorem k3 {a0 : T_where_Box} {a1 : Int} {a2 : T_api_Place} {r : Bool} (H : Keep_WhereCoversAll a0 a1 a2 = some r) : Ret Tryd.prog 3 [.agg #[.int .i64 a0.South, .int .i64 a0.West, .int .i64 a0.North, .int .i64 a0.East], .int .i64 a1, .agg #[.int .i64 a2.Lat, .int .i64 a2.Lon]] (.bool r) := by
  refine enterRet (n := 82) Tryd.func3 rfl rfl rfl (fun wd => ?_)
  refine c_seq ?_
  refine c_region ?_
  refine l_box (cs := [.int .i64 a0.South, .int .i64 a0.West, .int .i64 a0.North, .int .i64 a0.East]) rfl rfl rfl rfl (fun b3 => ?_)
  refine l_box (cs := [.int .i64 a2.Lat, .int .i64 a2.Lon]) rfl rfl rfl rfl (fun b4 => ?_)
  refine l_val rfl rfl rfl (r_assign (v := .bool false) rfl) ?_
  refine l_nil ?_
  refine c_seq ?_
  refine c_seq ?_
  refine c_region ?_
  obtain ⟨t17, h_t17, H33⟩ := bnd_some H; clear H
  refine l_call (k4 h_t17) Tryd.call4 rfl rfl rfl ?_
  refine l_val rfl rfl rfl (r_not rfl) ?_
  refine l_nil ?_
  refine c_if (b := (!t17)) rfl (fun hb => ?_) (fun hb => ?_)
  · have H34 := cnd_t hb H33; clear H33
    refine c_seq ?_
    refine c_region ?_
    refine l_val rfl rfl rfl (r_assign (v := .bool false) rfl) ?_
    refine l_nil ?_
    refine c_ret ?_
    obtain rfl := Option.some.inj H34
    refine ret1 (v := .bool false) rfl rfl (fin rfl)
  · have H35 := cnd_f hb H33; clear H33
    refine c_skip ?_
    refine c_seq ?_
    refine c_region ?_
    refine l_loadN (i := 0) (vs := [.int .i64 a0.South, .int .i64 a0.West, .int .i64 a0.North, .int .i64 a0.East]) Tryd.isAgg23 Tryd.sizeOf23 rfl rfl rfl rfl rfl ?_
    refine l_val rfl rfl rfl (r_move (v := .int .i64 a1) rfl) ?_
    obtain ⟨t22, h_t22, H36⟩ := bnd_some H35; clear H35
    refine l_make (makes_call (rds := []) (G := fun x : (Option Addr × Nat) => .tuple #[.slice x.1 t22.1.length x.2, .int .i64 t22.2]) (C := fun x : (Option Addr × Nat) => roV 1 (.slice x.1 t22.1.length x.2) t22.1.length (t22.1.map e_string)) (fun w L' hF hS hi => k5 (know_all w)  h_t22) Tryd.call5 rfl) rfl rfl rfl (fun p => ?_)
    refine l_val rfl rfl rfl (r_move (v := .tuple #[.slice p.1 t22.1.length p.2, .int .i64 t22.2]) rfl) ?_
    refine l_val rfl rfl rfl (r_extract (v := .slice p.1 t22.1.length p.2) rfl rfl) ?_
    refine l_val rfl rfl rfl (r_extract (v := .int .i64 t22.2) rfl rfl) ?_
    refine l_val rfl rfl rfl (r_assign (v := .slice p.1 t22.1.length p.2) rfl) ?_
    refine l_val rfl rfl rfl (r_assign (v := .int .i64 t22.2) rfl) ?_
    refine l_nil ?_
    refine c_seq ?_
    refine c_seq ?_
    refine c_region ?_
    refine l_val rfl rfl rfl (r_move (v := .int .i64 t22.2) rfl) ?_
    refine l_val rfl rfl rfl (r_neq rfl rfl) ?_
    refine l_nil ?_
    refine c_if (b := (decide (t22.2 ≠ 0))) rfl (fun hb => ?_) (fun hb => ?_)
    · have H37 := cnd_t hb H36; clear H36
      refine c_seq ?_
      refine c_region ?_
      refine l_val rfl rfl rfl (r_assign (v := .bool true) rfl) ?_
      refine l_nil ?_
      refine c_ret ?_
      obtain rfl := Option.some.inj H37
      refine ret1 (v := .bool true) rfl rfl (fin rfl)
    · have H38 := cnd_f hb H36; clear H36
      refine c_skip ?_
      refine c_meet (r := r) (σ := Unit) (τ := Unit) (fun s => Keep_WhereCoversAll_j1 a0 a1 a2 t22) (fun s t => [(1, .int .i64 a1), (3, .pointer (some ⟨b3, 0, none⟩)), (5, .pointer (some ⟨b4, 0, none⟩)), (7, .slice p.1 t22.1.length p.2)]) (fun s t => [cellsC b3 [.int .i64 a0.South, .int .i64 a0.West, .int .i64 a0.North, .int .i64 a0.East] 23, cellsC b4 [.int .i64 a2.Lat, .int .i64 a2.Lon] 25, roV 1 (.slice p.1 t22.1.length p.2) t22.1.length (t22.1.map e_string)]) (fun s t => True) ?_ ?_
      · refine c_seq ?_
        refine c_region ?_
        refine l_val rfl rfl rfl (r_move (v := .slice p.1 t22.1.length p.2) rfl) ?_
        refine l_val rfl rfl rfl (r_len Tryd.underlying27 rfl) ?_
        refine l_val rfl rfl rfl (r_move (v := .int .i64 0) rfl) ?_
        refine l_nil ?_
        refine c_block ?_
        refine c_fix (σ := Int) (τ := Unit) (fun next2 s => Keep_WhereCoversAll_l2 a0 a1 a2 t22 next2 s) (fun s t => [(1, .int .i64 a1), (3, .pointer (some ⟨b3, 0, none⟩)), (5, .pointer (some ⟨b4, 0, none⟩)), (7, .slice p.1 t22.1.length p.2), (27, .slice p.1 t22.1.length p.2), (28, .int .i64 (t22.1.length : Int)), (29, .int .i64 s)]) (fun s t => [cellsC b3 [.int .i64 a0.South, .int .i64 a0.West, .int .i64 a0.North, .int .i64 a0.East] 23, cellsC b4 [.int .i64 a2.Lat, .int .i64 a2.Lon] 25, roV 1 (.slice p.1 t22.1.length p.2) t22.1.length (t22.1.map e_string)]) (fun s t => True) 0 () [0, 1, 2] H38 (by exact trivial) (by exact ⟨rfl, rfl, rfl, rfl, rfl, rfl, rfl, trivial⟩) (by decide) rfl ?_
        rintro x29_2 _ m2 gg H52 _
        clear H38
        replace H52 : Keep_WhereCoversAll_l2 a0 a1 a2 t22 (it (fun next2 s => Keep_WhereCoversAll_l2 a0 a1 a2 t22 next2 s) m2) x29_2 = some r := H52
        generalize hn2 : it (fun next2 s => Keep_WhereCoversAll_l2 a0 a1 a2 t22 next2 s) m2 = next2 at H52
        refine c_tidyF [(1, .int .i64 a1), (3, .pointer (some ⟨b3, 0, none⟩)), (5, .pointer (some ⟨b4, 0, none⟩)), (7, .slice p.1 t22.1.length p.2), (27, .slice p.1 t22.1.length p.2), (28, .int .i64 (t22.1.length : Int)), (29, .int .i64 x29_2)] [cellsC b3 [.int .i64 a0.South, .int .i64 a0.West, .int .i64 a0.North, .int .i64 a0.East] 23, cellsC b4 [.int .i64 a2.Lat, .int .i64 a2.Lon] 25, roV 1 (.slice p.1 t22.1.length p.2) t22.1.length (t22.1.map e_string)] rfl rfl ?_
        refine c_seq ?_
        refine c_region ?_
        refine l_val rfl rfl rfl (r_lss rfl rfl) ?_
        refine l_nil ?_
        refine c_seq ?_
        refine c_if (b := (decide (x29_2 < (t22.1.length : Int)))) rfl (fun hb => ?_) (fun hb => ?_)
        · have H53 := cnd_t hb H52; clear H52
          refine c_skip ?_
          refine c_seq ?_
          refine c_block ?_
          refine c_seq ?_
          refine c_region ?_
          obtain ⟨t31, h_t31, H54⟩ := bnd_some H53; clear H53
          refine l_read (fun w hF hS => run_indexO Tryd.underlying27 Tryd.sizeOf9 rfl rfl (roOf (i := 2) hS rfl) rfl h_t31) rfl rfl rfl ?_
          refine l_read (fun w hF hS => run_loadG1 (f := e_string) (i := x29_2) (sz := 1) (j := 0) (v := str t31) Tryd.isAgg9 rfl rfl (roOf (i := 2) hS rfl) h_t31 rfl) rfl rfl rfl ?_
          refine l_val rfl rfl rfl (r_assign (v := str t31) rfl) ?_
          refine l_nil ?_
          refine c_seq ?_
          refine c_region ?_
          refine l_val rfl rfl rfl (r_move (v := str t31) rfl) ?_
          obtain ⟨t35, h_t35, H55⟩ := bnd_some H54; clear H54
          refine l_call (k6 h_t35) Tryd.call6 rfl rfl rfl ?_
          refine l_val rfl rfl rfl (r_move (v := .tuple #[.agg #[.int .i64 t35.1.South, .int .i64 t35.1.West, .int .i64 t35.1.North, .int .i64 t35.1.East], .int .i64 t35.2]) rfl) ?_
          refine l_val rfl rfl rfl (r_extract (v := .agg #[.int .i64 t35.1.South, .int .i64 t35.1.West, .int .i64 t35.1.North, .int .i64 t35.1.East]) rfl rfl) ?_
          refine l_val rfl rfl rfl (r_extract (v := .int .i64 t35.2) rfl rfl) ?_
          refine l_alloc (cs := [.int .i64 0, .int .i64 0, .int .i64 0, .int .i64 0]) Tryd.zeroValue23 rfl rfl rfl (fun b5 => ?_)
          refine l_store (i := 3) (vs := [.int .i64 t35.1.South, .int .i64 t35.1.West, .int .i64 t35.1.North, .int .i64 t35.1.East]) (cs' := [.int .i64 t35.1.South, .int .i64 t35.1.West, .int .i64 t35.1.North, .int .i64 t35.1.East]) Tryd.sizeOf23 rfl rfl rfl rfl rfl rfl rfl rfl rfl ?_
          refine l_val rfl rfl rfl (r_assign (v := .int .i64 t35.2) rfl) ?_
          refine l_nil ?_
          refine c_seq ?_
          refine c_seq ?_
          refine c_region ?_
          refine l_val rfl rfl rfl (r_move (v := .int .i64 t35.2) rfl) ?_
          refine l_val rfl rfl rfl (r_neq rfl rfl) ?_
          refine l_nil ?_
          refine c_if (b := (decide (t35.2 ≠ 0))) rfl (fun hb => ?_) (fun hb => ?_)
          · have H56 := cnd_t hb H55; clear H55
            refine c_seq ?_
            refine c_region ?_
            refine l_val rfl rfl rfl (r_assign (v := .bool false) rfl) ?_
            refine l_nil ?_
            refine c_ret ?_
            obtain rfl := Option.some.inj H56
            refine ret1 (v := .bool false) rfl rfl (fin rfl)
          · have H57 := cnd_f hb H55; clear H55
            refine c_skip ?_
            refine c_seq ?_
            refine c_region ?_
            refine l_loadN (i := 0) (vs := [.int .i64 a0.South, .int .i64 a0.West, .int .i64 a0.North, .int .i64 a0.East]) Tryd.isAgg23 Tryd.sizeOf23 rfl rfl rfl rfl rfl ?_
            refine l_loadN (i := 3) (vs := [.int .i64 t35.1.South, .int .i64 t35.1.West, .int .i64 t35.1.North, .int .i64 t35.1.East]) Tryd.isAgg23 Tryd.sizeOf23 rfl rfl rfl rfl rfl ?_
            obtain ⟨t43, h_t43, H58⟩ := bnd_some H57; clear H57
            refine l_call (k7 h_t43) Tryd.call7 rfl rfl rfl ?_
            refine l_val rfl rfl rfl (r_move (v := .tuple #[.bool t43.1, .int .i64 t43.2]) rfl) ?_
            refine l_val rfl rfl rfl (r_extract (v := .bool t43.1) rfl rfl) ?_
            refine l_val rfl rfl rfl (r_extract (v := .int .i64 t43.2) rfl rfl) ?_
            refine l_val rfl rfl rfl (r_assign (v := .bool t43.1) rfl) ?_
            refine l_val rfl rfl rfl (r_assign (v := .int .i64 t43.2) rfl) ?_
            refine l_nil ?_
            refine c_seq ?_
            refine c_region ?_
            refine l_val rfl rfl rfl (r_move (v := .int .i64 t43.2) rfl) ?_
            refine l_val rfl rfl rfl (r_neq rfl rfl) ?_
            refine l_val rfl rfl rfl (r_move (v := .bool (decide (t43.2 ≠ 0))) rfl) ?_
            refine split (fun hb => ?_) (fun hb => ?_)
            · have H59 := cnd_t hb H58; clear H58
              refine l_passed rfl rfl rfl ?_
              refine l_passed rfl rfl rfl ?_
              refine l_val rfl rfl rfl (r_pickT (v := .bool true) rfl rfl) ?_
              refine l_nil ?_
              refine c_true rfl ?_
              refine c_seq ?_
              refine c_region ?_
              refine l_val rfl rfl rfl (r_assign (v := .bool false) rfl) ?_
              refine l_nil ?_
              refine c_ret ?_
              obtain rfl := Option.some.inj H59
              refine ret1 (v := .bool false) rfl rfl (fin rfl)
            · have H60 := cnd_f hb H58; clear H58
              refine l_val rfl rfl rfl (r_move (v := .bool t43.1) rfl) ?_
              refine l_val rfl rfl rfl (r_not rfl) ?_
              refine l_val rfl rfl rfl (r_pickF (v := .bool (!t43.1)) rfl rfl) ?_
              refine l_nil ?_
              refine c_if (b := (!t43.1)) rfl (fun hb => ?_) (fun hb => ?_)
              · have H61 := cnd_t hb H60; clear H60
                refine c_seq ?_
                refine c_region ?_
                refine l_val rfl rfl rfl (r_assign (v := .bool false) rfl) ?_
                refine l_nil ?_
                refine c_ret ?_
                obtain rfl := Option.some.inj H61
                refine ret1 (v := .bool false) rfl rfl (fin rfl)
              · have H62 := cnd_f hb H60; clear H60
                refine c_skip ?_
                refine c_region ?_
                obtain ⟨t52, h_t52, H63⟩ := bnd_some H62; clear H62
                refine l_val rfl rfl rfl (r_addG rfl rfl h_t52) ?_
                refine l_val rfl rfl rfl (r_move (v := .int .i64 t52) rfl) ?_
                refine l_nil ?_
                refine c_close t52 () m2 [0, 1, 2] (by exact ⟨rfl, rfl, rfl, rfl, rfl, rfl, rfl, trivial⟩) (by decide) rfl (by exact ⟨(by subst hn2; exact H63), trivial⟩) (Nat.lt_succ_self _)
        · have H64 := cnd_f hb H52; clear H52
          refine c_exit ?_
          refine c_close () () 0 [0, 1, 2] (by exact ⟨rfl, rfl, rfl, rfl, trivial⟩) (by decide) rfl (by exact ⟨H64, trivial⟩) (Nat.lt_succ_self _)
      · rintro _ _ gg H39 _
        replace H39 : Keep_WhereCoversAll_j1 a0 a1 a2 t22 = some r := H39
        refine c_tidyF [(1, .int .i64 a1), (3, .pointer (some ⟨b3, 0, none⟩)), (5, .pointer (some ⟨b4, 0, none⟩)), (7, .slice p.1 t22.1.length p.2)] [cellsC b3 [.int .i64 a0.South, .int .i64 a0.West, .int .i64 a0.North, .int .i64 a0.East] 23, cellsC b4 [.int .i64 a2.Lat, .int .i64 a2.Lon] 25, roV 1 (.slice p.1 t22.1.length p.2) t22.1.length (t22.1.map e_string)] rfl rfl ?_
        refine c_seq ?_
        refine c_region ?_
        refine l_loadN (i := 0) (vs := [.int .i64 a0.South, .int .i64 a0.West, .int .i64 a0.North, .int .i64 a0.East]) Tryd.isAgg23 Tryd.sizeOf23 rfl rfl rfl rfl rfl ?_
        refine l_loadN (i := 1) (vs := [.int .i64 a2.Lat, .int .i64 a2.Lon]) Tryd.isAgg25 Tryd.sizeOf25 rfl rfl rfl rfl rfl ?_
        obtain ⟨t56, h_t56, H40⟩ := bnd_some H39; clear H39
        refine l_call (k8 h_t56) Tryd.call8 rfl rfl rfl ?_
        refine l_val rfl rfl rfl (r_move (v := .tuple #[.bool t56.1, .int .i64 t56.2]) rfl) ?_
        refine l_val rfl rfl rfl (r_extract (v := .bool t56.1) rfl rfl) ?_
        refine l_val rfl rfl rfl (r_extract (v := .int .i64 t56.2) rfl rfl) ?_
        refine l_val rfl rfl rfl (r_assign (v := .bool t56.1) rfl) ?_
        refine l_val rfl rfl rfl (r_assign (v := .int .i64 t56.2) rfl) ?_
        refine l_nil ?_
        refine c_seq ?_
        refine c_seq ?_
        refine c_region ?_
        refine l_val rfl rfl rfl (r_move (v := .int .i64 t56.2) rfl) ?_
        refine l_val rfl rfl rfl (r_neq rfl rfl) ?_
        refine l_val rfl rfl rfl (r_move (v := .bool (decide (t56.2 ≠ 0))) rfl) ?_
        refine split (fun hb => ?_) (fun hb => ?_)
        · have H41 := cnd_t hb H40; clear H40
          refine l_passed rfl rfl rfl ?_
          refine l_passed rfl rfl rfl ?_
          refine l_val rfl rfl rfl (r_pickT (v := .bool true) rfl rfl) ?_
          refine l_nil ?_
          refine c_true rfl ?_
          refine c_seq ?_
          refine c_region ?_
          refine l_val rfl rfl rfl (r_assign (v := .bool true) rfl) ?_
          refine l_nil ?_
          refine c_ret ?_
          obtain rfl := Option.some.inj H41
          refine ret1 (v := .bool true) rfl rfl (fin rfl)
        · have H42 := cnd_f hb H40; clear H40
          refine l_val rfl rfl rfl (r_move (v := .bool t56.1) rfl) ?_
          refine l_val rfl rfl rfl (r_not rfl) ?_
          refine l_val rfl rfl rfl (r_pickF (v := .bool (!t56.1)) rfl rfl) ?_
          refine l_nil ?_
          refine c_if (b := (!t56.1)) rfl (fun hb => ?_) (fun hb => ?_)
          · have H43 := cnd_t hb H42; clear H42
            refine c_seq ?_
            refine c_region ?_
            refine l_val rfl rfl rfl (r_assign (v := .bool true) rfl) ?_
            refine l_nil ?_
            refine c_ret ?_
            obtain rfl := Option.some.inj H43
            refine ret1 (v := .bool true) rfl rfl (fin rfl)
          · have H44 := cnd_f hb H42; clear H42
            refine c_skip ?_
            refine c_seq ?_
            refine c_region ?_
            refine l_loadN (i := 1) (vs := [.int .i64 a2.Lat, .int .i64 a2.Lon]) Tryd.isAgg25 Tryd.sizeOf25 rfl rfl rfl rfl rfl ?_
            refine l_val rfl rfl rfl (r_move (v := .int .i64 a1) rfl) ?_
            obtain ⟨t68, h_t68, H45⟩ := bnd_some H44; clear H44
            refine l_call (k9 h_t68) Tryd.call9 rfl rfl rfl ?_
            refine l_val rfl rfl rfl (r_move (v := .tuple #[str t68.1, .int .i64 t68.2]) rfl) ?_
            refine l_val rfl rfl rfl (r_extract (v := str t68.1) rfl rfl) ?_
            refine l_val rfl rfl rfl (r_extract (v := .int .i64 t68.2) rfl rfl) ?_
            refine l_val rfl rfl rfl (r_assign (v := str t68.1) rfl) ?_
            refine l_val rfl rfl rfl (r_assign (v := .int .i64 t68.2) rfl) ?_
            refine l_nil ?_
            refine c_seq ?_
            refine c_region ?_
            refine l_val rfl rfl rfl (r_move (v := .int .i64 t68.2) rfl) ?_
            refine l_val rfl rfl rfl (r_eql rfl rfl) ?_
            refine l_val rfl rfl rfl (r_move (v := .bool (decide (t68.2 = 0))) rfl) ?_
            refine split (fun hb => ?_) (fun hb => ?_)
            · have H46 := cnd_t hb H45; clear H45
              refine l_val rfl rfl rfl (r_move (v := .slice p.1 t22.1.length p.2) rfl) ?_
              refine l_val rfl rfl rfl (r_move (v := str t68.1) rfl) ?_
              obtain ⟨t76, h_t76, H47⟩ := bnd_some H46; clear H46
              refine l_callG (fun w hF hS => k10 (know_all w) (frs_rd (i := 2) hS rfl) h_t76) Tryd.call10 rfl rfl rfl ?_
              refine l_val rfl rfl rfl (r_pickT (v := .bool t76) rfl rfl) ?_
              refine l_val rfl rfl rfl (r_move (v := .bool t76) rfl) ?_
              refine split (fun hb => ?_) (fun hb => ?_)
              · have H48 := cnd_t hb H47; clear H47
                refine l_val rfl rfl rfl (r_move (v := .slice p.1 t22.1.length p.2) rfl) ?_
                obtain ⟨t80, h_t80, H49⟩ := bnd_some H48; clear H48
                refine l_callG (fun w hF hS => k11 (know_all w) (frs_rd (i := 2) hS rfl) h_t80) Tryd.call11 rfl rfl rfl ?_
                refine l_val rfl rfl rfl (r_pickT (v := .bool t80) rfl rfl) ?_
                refine l_val rfl rfl rfl (r_assign (v := .bool t80) rfl) ?_
                refine l_nil ?_
                refine c_ret ?_
                obtain rfl := Option.some.inj H49
                refine ret1 (v := .bool t80) rfl rfl (fin rfl)
              · have H50 := cnd_f hb H47; clear H47
                refine l_passed rfl rfl rfl ?_
                refine l_passed rfl rfl rfl ?_
                refine l_val rfl rfl rfl (r_pickF (v := .bool false) rfl rfl) ?_
                refine l_val rfl rfl rfl (r_assign (v := .bool false) rfl) ?_
                refine l_nil ?_
                refine c_ret ?_
                obtain rfl := Option.some.inj H50
                refine ret1 (v := .bool false) rfl rfl (fin rfl)
            · have H51 := cnd_f hb H45; clear H45
              refine l_passed rfl rfl rfl ?_
              refine l_passed rfl rfl rfl ?_
              refine l_passed rfl rfl rfl ?_
              refine l_val rfl rfl rfl (r_pickF (v := .bool false) rfl rfl) ?_
              refine l_val rfl rfl rfl (r_move (v := .bool false) rfl) ?_
              refine l_passed rfl rfl rfl ?_
              refine l_passed rfl rfl rfl ?_
              refine l_val rfl rfl rfl (r_pickF (v := .bool false) rfl rfl) ?_
              refine l_val rfl rfl rfl (r_assign (v := .bool false) rfl) ?_
              refine l_nil ?_
              refine c_ret ?_
              obtain rfl := Option.some.inj H51
              refine ret1 (v := .bool false) rfl rfl (fin rfl)
end Go.Proofs.YtfgehlmdcllclabDoor
