/- WhereLists: the walks, printed by our generator; each follows its model. Conditions: the model yields a value. -/
import Derived.Test.YtinpjnlocahjjaaKLa
namespace Go.Proofs.Ytinpjnlocahjjaa
open Go Go.Vc Go.Md Go.M Go.Lx
set_option maxRecDepth 100000
set_option maxHeartbeats 4000000
set_option linter.unusedVariables false

theorem k10 {a0 : (List Int)} {v0 : Value} {r : Int} {w : World} {h : Heap} (hw : Know h w noS) (f0 : FrS h 1 v0 (a0.map e_i64)) (H : Law_first a0 = some r) : Does Try.prog 10 (List.toArray [v0]) w (fun v w' => v = (.int .i64 r) ∧ Grow w w') := by
  refine enter (n := 15) Try.func10 rfl rfl rfl noS [] (Sat.nil _ _) ?_
  refine c_seq ?_
  refine c_region ?_
  refine l_val rfl rfl rfl (r_assign (v := .int .i64 0) rfl) ?_
  refine l_nil ?_
  refine c_seq ?_
  refine c_seq ?_
  refine c_region ?_
  refine l_val rfl rfl rfl (r_move (v := v0) rfl) ?_
  refine l_val rfl rfl rfl (r_lenF Try.underlying95 rfl f0 rfl) ?_
  refine l_val rfl rfl rfl (r_move (v := .int .i64 0) rfl) ?_
  refine l_nil ?_
  refine c_block ?_
  refine c_fix (σ := Int) (τ := Unit) (fun next1 s => Law_first_l1 a0 next1 s) (fun s t => [(5, v0), (6, .int .i64 (a0.length : Int)), (7, .int .i64 s)]) (fun s t => []) (fun s t => True) 0 () [] H (by exact trivial) (by exact ⟨rfl, rfl, rfl, trivial⟩) (by decide) rfl ?_
  rintro x7_2 _ m1 gg H8 _
  clear H
  replace H8 : Law_first_l1 a0 (it (fun next1 s => Law_first_l1 a0 next1 s) m1) x7_2 = some r := H8
  generalize hn1 : it (fun next1 s => Law_first_l1 a0 next1 s) m1 = next1 at H8
  refine c_tidyF [(5, v0), (6, .int .i64 (a0.length : Int)), (7, .int .i64 x7_2)] [] rfl rfl ?_
  refine c_seq ?_
  refine c_region ?_
  refine l_val rfl rfl rfl (r_lss rfl rfl) ?_
  refine l_nil ?_
  refine c_seq ?_
  refine c_if (b := (decide (x7_2 < (a0.length : Int)))) rfl (fun hb => ?_) (fun hb => ?_)
  · have H9 := cnd_t hb H8; clear H8
    refine c_skip ?_
    refine c_seq ?_
    refine c_block ?_
    refine c_seq ?_
    refine c_region ?_
    obtain ⟨t9, h_t9, H10⟩ := bnd_some H9; clear H9
    refine l_val rfl rfl rfl (r_indexF Try.underlying95 Try.sizeOf25 rfl rfl f0 h_t9) ?_
    refine l_read (fun w hF hS => run_loadG1 (f := e_i64) (i := x7_2) (sz := 1) (j := 0) (v := .int .i64 t9) Try.isAgg25 rfl rfl (f0.row (hw.now hF)) h_t9 rfl) rfl rfl rfl ?_
    refine l_val rfl rfl rfl (r_assign (v := .int .i64 t9) rfl) ?_
    refine l_nil ?_
    refine c_seq ?_
    refine c_region ?_
    refine l_val rfl rfl rfl (r_move (v := .int .i64 t9) rfl) ?_
    refine l_val rfl rfl rfl (r_neq rfl rfl) ?_
    refine l_nil ?_
    refine c_if (b := (decide (t9 ≠ 0))) rfl (fun hb => ?_) (fun hb => ?_)
    · have H11 := cnd_t hb H10; clear H10
      refine c_seq ?_
      refine c_region ?_
      refine l_val rfl rfl rfl (r_move (v := .int .i64 t9) rfl) ?_
      refine l_val rfl rfl rfl (r_assign (v := .int .i64 t9) rfl) ?_
      refine l_nil ?_
      refine c_ret ?_
      obtain rfl := Option.some.inj H11
      refine ret1 (v := .int .i64 t9) rfl rfl (fin rfl)
    · have H12 := cnd_f hb H10; clear H10
      refine c_skip ?_
      refine c_region ?_
      obtain ⟨t14, h_t14, H13⟩ := bnd_some H12; clear H12
      refine l_val rfl rfl rfl (r_addG rfl rfl h_t14) ?_
      refine l_val rfl rfl rfl (r_move (v := .int .i64 t14) rfl) ?_
      refine l_nil ?_
      refine c_close t14 () m1 [] (by exact ⟨rfl, rfl, rfl, trivial⟩) (by decide) rfl (by exact ⟨(by subst hn1; exact H13), trivial⟩) (Nat.lt_succ_self _)
  · have H14 := cnd_f hb H8; clear H8
    refine c_exit ?_
    refine c_seq ?_
    refine c_region ?_
    refine l_val rfl rfl rfl (r_assign (v := .int .i64 0) rfl) ?_
    refine l_nil ?_
    refine c_ret ?_
    obtain rfl := Option.some.inj H14
    refine ret1 (v := .int .i64 0) rfl rfl (fin rfl)
theorem k12 {a0 : Bool} {a1 : Int} {r : Int} (H : Law_unless a0 a1 = some r) : Ret Try.prog 12 [.bool a0, .int .i64 a1] (.int .i64 r) := by
  refine enterRet (n := 7) Try.func12 rfl rfl rfl (fun wd => ?_)
  refine c_seq ?_
  refine c_region ?_
  refine l_val rfl rfl rfl (r_assign (v := .int .i64 0) rfl) ?_
  refine l_nil ?_
  refine c_seq ?_
  refine c_seq ?_
  refine c_region ?_
  refine l_val rfl rfl rfl (r_move (v := .bool a0) rfl) ?_
  refine l_nil ?_
  refine c_if (b := a0) rfl (fun hb => ?_) (fun hb => ?_)
  · have H3 := cnd_t hb H; clear H
    refine c_seq ?_
    refine c_region ?_
    refine l_val rfl rfl rfl (r_assign (v := .int .i64 0) rfl) ?_
    refine l_nil ?_
    refine c_ret ?_
    obtain rfl := Option.some.inj H3
    refine ret1 (v := .int .i64 0) rfl rfl (fin rfl)
  · have H4 := cnd_f hb H; clear H
    refine c_skip ?_
    refine c_seq ?_
    refine c_region ?_
    refine l_val rfl rfl rfl (r_move (v := .int .i64 a1) rfl) ?_
    refine l_val rfl rfl rfl (r_assign (v := .int .i64 a1) rfl) ?_
    refine l_nil ?_
    refine c_ret ?_
    obtain rfl := Option.some.inj H4
    refine ret1 (v := .int .i64 a1) rfl rfl (fin rfl)
theorem k75 {a0 : (List T_api_Place)} {v0 : Value} {r : Int} {w : World} {h : Heap} (hw : Know h w noS) (f0 : FrS h 2 v0 (a0.map e_api_Place)) (H : where_middle a0 = some r) : Does Try.prog 75 (List.toArray [v0]) w (fun v w' => v = (.int .i64 r) ∧ Grow w w') := by
  refine enter (n := 40) Try.func75 rfl rfl rfl noS [] (Sat.nil _ _) ?_
  refine c_seq ?_
  refine c_region ?_
  refine l_val rfl rfl rfl (r_assign (v := .int .i64 0) rfl) ?_
  refine l_nil ?_
  refine c_seq ?_
  refine c_region ?_
  refine l_val rfl rfl rfl (r_assign (v := .int .i64 0) rfl) ?_
  refine l_val rfl rfl rfl (r_assign (v := .int .i64 (-1)) rfl) ?_
  refine l_nil ?_
  refine c_seq ?_
  refine c_seq ?_
  refine c_region ?_
  refine l_val rfl rfl rfl (r_move (v := v0) rfl) ?_
  refine l_val rfl rfl rfl (r_lenF Try.underlying65 rfl f0 rfl) ?_
  refine l_val rfl rfl rfl (r_move (v := .int .i64 0) rfl) ?_
  refine l_nil ?_
  refine c_block ?_
  refine c_fix (σ := Int × Int × Int) (τ := Unit) (fun next1 s => where_middle_l1 a0 next1 s.1 s.2.1 s.2.2) (fun s t => [(0, v0), (3, .int .i64 s.1), (4, .int .i64 s.2.1), (10, v0), (11, .int .i64 (a0.length : Int)), (12, .int .i64 s.2.2)]) (fun s t => []) (fun s t => True) (0, (-1), 0) () [] H (by exact trivial) (by exact ⟨rfl, rfl, rfl, rfl, rfl, rfl, trivial⟩) (by decide) rfl ?_
  rintro ⟨x3_2, x4_3, x12_3⟩ _ m1 gg H19 _
  clear H
  replace H19 : where_middle_l1 a0 (it (fun next1 s => where_middle_l1 a0 next1 s.1 s.2.1 s.2.2) m1) x3_2 x4_3 x12_3 = some r := H19
  generalize hn1 : it (fun next1 s => where_middle_l1 a0 next1 s.1 s.2.1 s.2.2) m1 = next1 at H19
  refine c_tidyF [(0, v0), (3, .int .i64 x3_2), (4, .int .i64 x4_3), (10, v0), (11, .int .i64 (a0.length : Int)), (12, .int .i64 x12_3)] [] rfl rfl ?_
  refine c_seq ?_
  refine c_region ?_
  refine l_val rfl rfl rfl (r_lss rfl rfl) ?_
  refine l_nil ?_
  refine c_seq ?_
  refine c_if (b := (decide (x12_3 < (a0.length : Int)))) rfl (fun hb => ?_) (fun hb => ?_)
  · have H20 := cnd_t hb H19; clear H19
    refine c_skip ?_
    refine c_meet (r := r) (σ := Int × Int) (τ := Unit) (fun s => where_middle_j2 x12_3 next1 s.1 s.2) (fun s t => [(0, v0), (3, .int .i64 s.1), (4, .int .i64 s.2), (10, v0), (11, .int .i64 (a0.length : Int)), (12, .int .i64 x12_3)]) (fun s t => []) (fun s t => True) ?_ ?_
    · refine c_block ?_
      refine c_seq ?_
      refine c_region ?_
      refine l_val rfl rfl rfl (r_move (v := .int .i64 x12_3) rfl) ?_
      obtain ⟨t15, h_t15, H23⟩ := bnd_some H20; clear H20
      refine l_val rfl rfl rfl (r_indexF Try.underlying65 Try.sizeOf71 rfl rfl f0 h_t15) ?_
      refine l_read (fun w hF hS => run_loadGN (f := e_api_Place) (i := x12_3) (sz := 2) (j := 0) (vs := [.int .i64 t15.Lat, .int .i64 t15.Lon]) Try.isAgg71 Try.sizeOf71 rfl rfl (f0.row (hw.now hF)) h_t15 rfl) rfl rfl rfl ?_
      refine l_alloc (cs := [.int .i64 0, .int .i64 0]) Try.zeroValue71 rfl rfl rfl (fun b2 => ?_)
      refine l_val rfl rfl rfl (r_assign (v := .int .i64 x12_3) rfl) ?_
      refine l_store (i := 0) (vs := [.int .i64 t15.Lat, .int .i64 t15.Lon]) (cs' := [.int .i64 t15.Lat, .int .i64 t15.Lon]) Try.sizeOf71 rfl rfl rfl rfl rfl rfl rfl rfl rfl ?_
      refine l_nil ?_
      refine c_seq ?_
      refine c_region ?_
      refine l_val rfl rfl rfl (r_assign (v := .int .i64 0) rfl) ?_
      refine l_nil ?_
      refine c_meet (r := r) (σ := Int) (τ := Unit) (fun s => where_middle_j3 x3_2 x4_3 x12_3 next1 s) (fun s t => [(0, v0), (3, .int .i64 x3_2), (4, .int .i64 x4_3), (5, .int .i64 x12_3), (7, .int .i64 s), (10, v0), (11, .int .i64 (a0.length : Int)), (12, .int .i64 x12_3)]) (fun s t => []) (fun s t => True) ?_ ?_
      · refine c_seq ?_
        refine c_region ?_
        refine l_val rfl rfl rfl (r_move (v := v0) rfl) ?_
        refine l_val rfl rfl rfl (r_lenF Try.underlying65 rfl f0 rfl) ?_
        refine l_val rfl rfl rfl (r_move (v := .int .i64 0) rfl) ?_
        refine l_nil ?_
        refine c_block ?_
        refine c_fix (σ := Int × Int) (τ := Unit) (fun next4 s => where_middle_l4 a0 x3_2 x4_3 x12_3 next1 t15 next4 s.1 s.2) (fun s t => [(0, v0), (3, .int .i64 x3_2), (4, .int .i64 x4_3), (5, .int .i64 x12_3), (6, .pointer (some ⟨b2, 0, none⟩)), (7, .int .i64 s.1), (10, v0), (11, .int .i64 (a0.length : Int)), (12, .int .i64 x12_3), (17, v0), (18, .int .i64 (a0.length : Int)), (19, .int .i64 s.2)]) (fun s t => [cellsC b2 [.int .i64 t15.Lat, .int .i64 t15.Lon] 71]) (fun s t => True) (0, 0) () [0] H23 (by exact trivial) (by exact ⟨rfl, rfl, rfl, rfl, rfl, rfl, rfl, rfl, rfl, rfl, rfl, rfl, trivial⟩) (by decide) rfl ?_
        rintro ⟨x7_3, x19_2⟩ _ m4 gg H29 _
        clear H23
        replace H29 : where_middle_l4 a0 x3_2 x4_3 x12_3 next1 t15 (it (fun next4 s => where_middle_l4 a0 x3_2 x4_3 x12_3 next1 t15 next4 s.1 s.2) m4) x7_3 x19_2 = some r := H29
        generalize hn4 : it (fun next4 s => where_middle_l4 a0 x3_2 x4_3 x12_3 next1 t15 next4 s.1 s.2) m4 = next4 at H29
        refine c_tidyF [(0, v0), (3, .int .i64 x3_2), (4, .int .i64 x4_3), (5, .int .i64 x12_3), (6, .pointer (some ⟨b2, 0, none⟩)), (7, .int .i64 x7_3), (10, v0), (11, .int .i64 (a0.length : Int)), (12, .int .i64 x12_3), (17, v0), (18, .int .i64 (a0.length : Int)), (19, .int .i64 x19_2)] [cellsC b2 [.int .i64 t15.Lat, .int .i64 t15.Lon] 71] rfl rfl ?_
        refine c_seq ?_
        refine c_region ?_
        refine l_val rfl rfl rfl (r_lss rfl rfl) ?_
        refine l_nil ?_
        refine c_seq ?_
        refine c_if (b := (decide (x19_2 < (a0.length : Int)))) rfl (fun hb => ?_) (fun hb => ?_)
        · have H30 := cnd_t hb H29; clear H29
          refine c_skip ?_
          refine c_seq ?_
          refine c_block ?_
          refine c_seq ?_
          refine c_region ?_
          obtain ⟨t21, h_t21, H31⟩ := bnd_some H30; clear H30
          refine l_val rfl rfl rfl (r_indexF Try.underlying65 Try.sizeOf71 rfl rfl f0 h_t21) ?_
          refine l_read (fun w hF hS => run_loadGN (f := e_api_Place) (i := x19_2) (sz := 2) (j := 0) (vs := [.int .i64 t21.Lat, .int .i64 t21.Lon]) Try.isAgg71 Try.sizeOf71 rfl rfl (f0.row (hw.now hF)) h_t21 rfl) rfl rfl rfl ?_
          refine l_alloc (cs := [.int .i64 0, .int .i64 0]) Try.zeroValue71 rfl rfl rfl (fun b3 => ?_)
          refine l_store (i := 1) (vs := [.int .i64 t21.Lat, .int .i64 t21.Lon]) (cs' := [.int .i64 t21.Lat, .int .i64 t21.Lon]) Try.sizeOf71 rfl rfl rfl rfl rfl rfl rfl rfl rfl ?_
          refine l_nil ?_
          refine c_region ?_
          refine l_val rfl rfl rfl (r_move (v := .int .i64 x7_3) rfl) ?_
          refine l_loadN (i := 0) (vs := [.int .i64 t15.Lat, .int .i64 t15.Lon]) Try.isAgg71 Try.sizeOf71 rfl rfl rfl rfl rfl ?_
          refine l_loadN (i := 1) (vs := [.int .i64 t21.Lat, .int .i64 t21.Lon]) Try.isAgg71 Try.sizeOf71 rfl rfl rfl rfl rfl ?_
          obtain ⟨t26, h_t26, H32⟩ := bnd_some H31; clear H31
          refine l_call (k71 h_t26) Try.call71 rfl rfl rfl ?_
          obtain ⟨t27, h_t27, H33⟩ := bnd_some H32; clear H32
          refine l_val rfl rfl rfl (r_addG rfl rfl h_t27) ?_
          refine l_val rfl rfl rfl (r_assign (v := .int .i64 t27) rfl) ?_
          refine l_nil ?_
          refine c_region ?_
          obtain ⟨t28, h_t28, H34⟩ := bnd_some H33; clear H33
          refine l_val rfl rfl rfl (r_addG rfl rfl h_t28) ?_
          refine l_val rfl rfl rfl (r_move (v := .int .i64 t28) rfl) ?_
          refine l_nil ?_
          refine c_close (t27, t28) () m4 [0] (by exact ⟨rfl, rfl, rfl, rfl, rfl, rfl, rfl, rfl, rfl, rfl, rfl, rfl, trivial⟩) (by decide) rfl (by exact ⟨(by subst hn4; exact H34), trivial⟩) (Nat.lt_succ_self _)
        · have H35 := cnd_f hb H29; clear H29
          refine c_exit ?_
          refine c_close x7_3 () 0 [] (by exact ⟨rfl, rfl, rfl, rfl, rfl, rfl, rfl, rfl, trivial⟩) (by decide) rfl (by exact ⟨H35, trivial⟩) (Nat.lt_succ_self _)
      · rintro x7 _ gg H24 _
        replace H24 : where_middle_j3 x3_2 x4_3 x12_3 next1 x7 = some r := H24
        refine c_tidyF [(0, v0), (3, .int .i64 x3_2), (4, .int .i64 x4_3), (5, .int .i64 x12_3), (7, .int .i64 x7), (10, v0), (11, .int .i64 (a0.length : Int)), (12, .int .i64 x12_3)] [] rfl rfl ?_
        refine c_seq ?_
        refine c_region ?_
        refine l_val rfl rfl rfl (r_move (v := .int .i64 x4_3) rfl) ?_
        refine l_val rfl rfl rfl (r_lss rfl rfl) ?_
        refine l_val rfl rfl rfl (r_move (v := .bool (decide (x4_3 < 0))) rfl) ?_
        refine split (fun hb => ?_) (fun hb => ?_)
        · have H25 := cnd_t hb H24; clear H24
          refine l_passed rfl rfl rfl ?_
          refine l_passed rfl rfl rfl ?_
          refine l_passed rfl rfl rfl ?_
          refine l_val rfl rfl rfl (r_pickT (v := .bool true) rfl rfl) ?_
          refine l_nil ?_
          refine c_true rfl ?_
          refine c_region ?_
          refine l_val rfl rfl rfl (r_move (v := .int .i64 x12_3) rfl) ?_
          refine l_val rfl rfl rfl (r_move (v := .int .i64 x7) rfl) ?_
          refine l_val rfl rfl rfl (r_assign (v := .int .i64 x12_3) rfl) ?_
          refine l_val rfl rfl rfl (r_assign (v := .int .i64 x7) rfl) ?_
          refine l_nil ?_
          refine c_close (x12_3, x7) () 0 [] (by exact ⟨rfl, rfl, rfl, rfl, rfl, rfl, trivial⟩) (by decide) rfl (by exact ⟨H25, trivial⟩) (Nat.lt_succ_self _)
        · have H26 := cnd_f hb H24; clear H24
          refine l_val rfl rfl rfl (r_move (v := .int .i64 x7) rfl) ?_
          refine l_val rfl rfl rfl (r_move (v := .int .i64 x4_3) rfl) ?_
          refine l_val rfl rfl rfl (r_lss rfl rfl) ?_
          refine l_val rfl rfl rfl (r_pickF (v := .bool (decide (x7 < x4_3))) rfl rfl) ?_
          refine l_nil ?_
          refine c_if (b := (decide (x7 < x4_3))) rfl (fun hb => ?_) (fun hb => ?_)
          · have H27 := cnd_t hb H26; clear H26
            refine c_region ?_
            refine l_val rfl rfl rfl (r_move (v := .int .i64 x12_3) rfl) ?_
            refine l_val rfl rfl rfl (r_move (v := .int .i64 x7) rfl) ?_
            refine l_val rfl rfl rfl (r_assign (v := .int .i64 x12_3) rfl) ?_
            refine l_val rfl rfl rfl (r_assign (v := .int .i64 x7) rfl) ?_
            refine l_nil ?_
            refine c_close (x12_3, x7) () 0 [] (by exact ⟨rfl, rfl, rfl, rfl, rfl, rfl, trivial⟩) (by decide) rfl (by exact ⟨H27, trivial⟩) (Nat.lt_succ_self _)
          · have H28 := cnd_f hb H26; clear H26
            refine c_skip ?_
            refine c_close (x3_2, x4_3) () 0 [] (by exact ⟨rfl, rfl, rfl, rfl, rfl, rfl, trivial⟩) (by decide) rfl (by exact ⟨H28, trivial⟩) (Nat.lt_succ_self _)
    · rintro ⟨x3_3, x4_4⟩ _ gg H21 _
      replace H21 : where_middle_j2 x12_3 next1 x3_3 x4_4 = some r := H21
      refine c_tidyF [(0, v0), (3, .int .i64 x3_3), (4, .int .i64 x4_4), (10, v0), (11, .int .i64 (a0.length : Int)), (12, .int .i64 x12_3)] [] rfl rfl ?_
      refine c_region ?_
      obtain ⟨t38, h_t38, H22⟩ := bnd_some H21; clear H21
      refine l_val rfl rfl rfl (r_addG rfl rfl h_t38) ?_
      refine l_val rfl rfl rfl (r_move (v := .int .i64 t38) rfl) ?_
      refine l_nil ?_
      refine c_close (x3_3, x4_4, t38) () m1 [] (by exact ⟨rfl, rfl, rfl, rfl, rfl, rfl, trivial⟩) (by decide) rfl (by exact ⟨(by subst hn1; exact H22), trivial⟩) (Nat.lt_succ_self _)
  · have H36 := cnd_f hb H19; clear H19
    refine c_exit ?_
    refine c_seq ?_
    refine c_region ?_
    refine l_val rfl rfl rfl (r_move (v := .int .i64 x3_2) rfl) ?_
    refine l_val rfl rfl rfl (r_assign (v := .int .i64 x3_2) rfl) ?_
    refine l_nil ?_
    refine c_ret ?_
    obtain rfl := Option.some.inj H36
    refine ret1 (v := .int .i64 x3_2) rfl rfl (fin rfl)
theorem k37 {a0 : (List T_api_Place)} {v0 : Value} {r : Int × Int} {w : World} {h : Heap} (hw : Know h w noS) (f0 : FrS h 2 v0 (a0.map e_api_Place)) (H : where_Middle a0 = some r) : Does Try.prog 37 (List.toArray [v0]) w (fun v w' => v = (.tuple #[.int .i64 r.1, .int .i64 r.2]) ∧ Grow w w') := by
  refine enter (n := 15) Try.func37 rfl rfl rfl noS [] (Sat.nil _ _) ?_
  refine c_seq ?_
  refine c_region ?_
  refine l_val rfl rfl rfl (r_assign (v := .int .i64 0) rfl) ?_
  refine l_val rfl rfl rfl (r_assign (v := .int .i64 0) rfl) ?_
  refine l_nil ?_
  refine c_seq ?_
  refine c_seq ?_
  refine c_region ?_
  refine l_val rfl rfl rfl (r_move (v := v0) rfl) ?_
  refine l_val rfl rfl rfl (r_lenF Try.underlying65 rfl f0 rfl) ?_
  refine l_val rfl rfl rfl (r_eql rfl rfl) ?_
  refine l_nil ?_
  refine c_if (b := (decide ((a0.length : Int) = 0))) rfl (fun hb => ?_) (fun hb => ?_)
  · have H7 := cnd_t hb H; clear H
    refine c_seq ?_
    refine c_region ?_
    refine l_val rfl rfl rfl (r_assign (v := .int .i64 0) rfl) ?_
    refine l_val rfl rfl rfl (r_assign (v := .int .i64 7) rfl) ?_
    refine l_nil ?_
    refine c_ret ?_
    obtain rfl := Option.some.inj H7
    refine ret2 (v1 := .int .i64 0) (v2 := .int .i64 7) rfl rfl rfl (fin rfl)
  · have H8 := cnd_f hb H; clear H
    refine c_skip ?_
    refine c_seq ?_
    refine c_seq ?_
    refine c_region ?_
    refine l_val rfl rfl rfl (r_move (v := v0) rfl) ?_
    obtain ⟨t9, h_t9, H9⟩ := bnd_some H8; clear H8
    refine l_callG (fun w hF hS => k69 (know_all w) (f0.mono (hw.now hF)) h_t9) Try.call69 rfl rfl rfl ?_
    refine l_val rfl rfl rfl (r_assign (v := .int .i64 t9) rfl) ?_
    refine l_nil ?_
    refine c_seq ?_
    refine c_region ?_
    refine l_val rfl rfl rfl (r_move (v := .int .i64 t9) rfl) ?_
    refine l_val rfl rfl rfl (r_neq rfl rfl) ?_
    refine l_nil ?_
    refine c_if (b := (decide (t9 ≠ 0))) rfl (fun hb => ?_) (fun hb => ?_)
    · have H10 := cnd_t hb H9; clear H9
      refine c_seq ?_
      refine c_region ?_
      refine l_val rfl rfl rfl (r_move (v := .int .i64 t9) rfl) ?_
      refine l_val rfl rfl rfl (r_assign (v := .int .i64 0) rfl) ?_
      refine l_val rfl rfl rfl (r_assign (v := .int .i64 t9) rfl) ?_
      refine l_nil ?_
      refine c_ret ?_
      obtain rfl := Option.some.inj H10
      refine ret2 (v1 := .int .i64 0) (v2 := .int .i64 t9) rfl rfl rfl (fin rfl)
    · have H11 := cnd_f hb H9; clear H9
      refine c_skip ?_
      refine c_seq ?_
      refine c_region ?_
      refine l_val rfl rfl rfl (r_move (v := v0) rfl) ?_
      obtain ⟨t14, h_t14, H12⟩ := bnd_some H11; clear H11
      refine l_callG (fun w hF hS => k75 (know_all w) (f0.mono (hw.now hF)) h_t14) Try.call75 rfl rfl rfl ?_
      refine l_val rfl rfl rfl (r_assign (v := .int .i64 t14) rfl) ?_
      refine l_val rfl rfl rfl (r_assign (v := .int .i64 0) rfl) ?_
      refine l_nil ?_
      refine c_ret ?_
      obtain rfl := Option.some.inj H12
      refine ret2 (v1 := .int .i64 t14) (v2 := .int .i64 0) rfl rfl rfl (fin rfl)
theorem k38 {a0 : (List T_api_Place)} {v0 : Value} {a1 : T_api_Place} {r : Int × Int × Int} {w : World} {h : Heap} (hw : Know h w noS) (f0 : FrS h 2 v0 (a0.map e_api_Place)) (H : where_Nearest a0 a1 = some r) : Does Try.prog 38 (List.toArray [v0, .agg #[.int .i64 a1.Lat, .int .i64 a1.Lon]]) w (fun v w' => v = (.tuple #[.int .i64 r.1, .int .i64 r.2.1, .int .i64 r.2.2]) ∧ Grow w w') := by
  refine enter (n := 51) Try.func38 rfl rfl rfl noS [] (Sat.nil _ _) ?_
  refine c_seq ?_
  refine c_region ?_
  refine l_box (cs := [.int .i64 a1.Lat, .int .i64 a1.Lon]) rfl rfl rfl rfl (fun b3 => ?_)
  refine l_val rfl rfl rfl (r_assign (v := .int .i64 0) rfl) ?_
  refine l_val rfl rfl rfl (r_assign (v := .int .i64 0) rfl) ?_
  refine l_val rfl rfl rfl (r_assign (v := .int .i64 0) rfl) ?_
  refine l_nil ?_
  refine c_seq ?_
  refine c_block ?_
  refine c_seq ?_
  refine c_region ?_
  refine l_val rfl rfl rfl (r_move (v := v0) rfl) ?_
  refine l_val rfl rfl rfl (r_lenF Try.underlying65 rfl f0 rfl) ?_
  refine l_val rfl rfl rfl (r_eql rfl rfl) ?_
  refine l_val rfl rfl rfl (r_assign (v := .bool (decide ((a0.length : Int) = 0))) rfl) ?_
  refine l_nil ?_
  refine c_if (b := (decide ((a0.length : Int) = 0))) rfl (fun hb => ?_) (fun hb => ?_)
  · have H21 := cnd_t hb H; clear H
    refine c_seq ?_
    refine c_region ?_
    refine l_val rfl rfl rfl (r_assign (v := .int .i64 0) rfl) ?_
    refine l_val rfl rfl rfl (r_assign (v := .int .i64 0) rfl) ?_
    refine l_val rfl rfl rfl (r_assign (v := .int .i64 7) rfl) ?_
    refine l_nil ?_
    refine c_ret ?_
    obtain rfl := Option.some.inj H21
    refine ret3 (v1 := .int .i64 0) (v2 := .int .i64 0) (v3 := .int .i64 7) rfl rfl rfl rfl (fin rfl)
  · have H22 := cnd_f hb H; clear H
    refine c_seq ?_
    refine c_region ?_
    refine l_val rfl rfl rfl (r_move (v := v0) rfl) ?_
    refine l_val rfl rfl rfl (r_lenF Try.underlying65 rfl f0 rfl) ?_
    refine l_val rfl rfl rfl (r_gtr rfl rfl) ?_
    refine l_val rfl rfl rfl (r_assign (v := .bool (decide (1000 < (a0.length : Int)))) rfl) ?_
    refine l_nil ?_
    refine c_if (b := (decide (1000 < (a0.length : Int)))) rfl (fun hb => ?_) (fun hb => ?_)
    · have H23 := cnd_t hb H22; clear H22
      refine c_seq ?_
      refine c_region ?_
      refine l_val rfl rfl rfl (r_assign (v := .int .i64 0) rfl) ?_
      refine l_val rfl rfl rfl (r_assign (v := .int .i64 0) rfl) ?_
      refine l_val rfl rfl rfl (r_assign (v := .int .i64 4) rfl) ?_
      refine l_nil ?_
      refine c_ret ?_
      obtain rfl := Option.some.inj H23
      refine ret3 (v1 := .int .i64 0) (v2 := .int .i64 0) (v3 := .int .i64 4) rfl rfl rfl rfl (fin rfl)
    · have H24 := cnd_f hb H22; clear H22
      refine c_skip ?_
      refine c_seq ?_
      refine c_seq ?_
      refine c_region ?_
      refine l_loadN (i := 0) (vs := [.int .i64 a1.Lat, .int .i64 a1.Lon]) Try.isAgg71 Try.sizeOf71 rfl rfl rfl rfl rfl ?_
      refine l_buildSlice (vs := [.agg #[.int .i64 a1.Lat, .int .i64 a1.Lon]]) (cs := [.int .i64 a1.Lat, .int .i64 a1.Lon]) Try.underlying65 Try.sizeOf71 Try.zeroValue71 rfl rfl rfl rfl rfl rfl rfl (fun b4 => ?_)
      refine l_val rfl rfl rfl (r_move (v := v0) rfl) ?_
      refine c_imp 1 rfl (imp_box (m := 1) (E := 71) (sz := 2) (xs := (([a1] : List T_api_Place)).map e_api_Place) rfl rfl rfl ⟨rfl, by decide⟩) ?_
      obtain ⟨l24, h_l24, H25⟩ := bnd_some H24; clear H24
      refine l_turn (turns_appG (i := 1) (hn := rfl) (rds := []) (p := ((some ⟨b4, 0, none⟩, 1) : Option Addr × Nat)) (sz := 2) (by_ := 16) (f := e_api_Place) (ys := ([a1] : List T_api_Place)) (ls := a0) (V := v0) Try.underlying65 (info_of Try.typeInfo71) rfl rfl rfl rfl rfl rfl rfl rfl f0.eq (List.length_map _) (fun w L' hF hS hi => (f0).row (hw.now hF)) (fun _ => rfl) (fun _ => rfl) h_l24) rfl rfl rfl (fun p => ?_)
      obtain ⟨t25, h_t25, H26⟩ := bnd_some H25; clear H25
      refine l_callG (fun w hF hS => k76 (know_all w) (frs_own (i := 1) rfl hS rfl) h_t25) Try.call76 rfl rfl rfl ?_
      refine l_val rfl rfl rfl (r_assign (v := .int .i64 t25) rfl) ?_
      refine l_nil ?_
      refine c_seq ?_
      refine c_region ?_
      refine l_val rfl rfl rfl (r_move (v := .int .i64 t25) rfl) ?_
      refine l_val rfl rfl rfl (r_neq rfl rfl) ?_
      refine l_nil ?_
      refine c_if (b := (decide (t25 ≠ 0))) rfl (fun hb => ?_) (fun hb => ?_)
      · have H27 := cnd_t hb H26; clear H26
        refine c_seq ?_
        refine c_region ?_
        refine l_val rfl rfl rfl (r_move (v := .int .i64 t25) rfl) ?_
        refine l_val rfl rfl rfl (r_assign (v := .int .i64 0) rfl) ?_
        refine l_val rfl rfl rfl (r_assign (v := .int .i64 0) rfl) ?_
        refine l_val rfl rfl rfl (r_assign (v := .int .i64 t25) rfl) ?_
        refine l_nil ?_
        refine c_ret ?_
        obtain rfl := Option.some.inj H27
        refine ret3 (v1 := .int .i64 0) (v2 := .int .i64 0) (v3 := .int .i64 t25) rfl rfl rfl rfl (fin rfl)
      · have H28 := cnd_f hb H26; clear H26
        refine c_skip ?_
        refine c_seq ?_
        refine c_region ?_
        refine l_val rfl rfl rfl (r_assign (v := .int .i64 0) rfl) ?_
        refine l_val rfl rfl rfl (r_assign (v := .int .i64 (-1)) rfl) ?_
        refine l_nil ?_
        refine c_meet (r := r) (σ := Int × Int) (τ := Unit) (fun s => where_Nearest_j1 s.1 s.2) (fun s t => [(8, .int .i64 s.1), (9, .int .i64 s.2)]) (fun s t => []) (fun s t => True) ?_ ?_
        · refine c_seq ?_
          refine c_region ?_
          refine l_val rfl rfl rfl (r_move (v := v0) rfl) ?_
          refine l_val rfl rfl rfl (r_lenF Try.underlying65 rfl f0 rfl) ?_
          refine l_val rfl rfl rfl (r_move (v := .int .i64 0) rfl) ?_
          refine l_nil ?_
          refine c_block ?_
          refine c_sel [0] [cellsC b3 [.int .i64 a1.Lat, .int .i64 a1.Lon] 71] rfl (by decide) ?_
          refine c_fix (σ := Int × Int × Int) (τ := Unit) (fun next2 s => where_Nearest_l2 a0 a1 next2 s.1 s.2.1 s.2.2) (fun s t => [(3, .pointer (some ⟨b3, 0, none⟩)), (8, .int .i64 s.1), (9, .int .i64 s.2.1), (29, v0), (30, .int .i64 (a0.length : Int)), (31, .int .i64 s.2.2)]) (fun s t => [cellsC b3 [.int .i64 a1.Lat, .int .i64 a1.Lon] 71]) (fun s t => True) (0, (-1), 0) () [0] H28 (by exact trivial) (by exact ⟨rfl, rfl, rfl, rfl, rfl, rfl, trivial⟩) (by decide) rfl ?_
          rintro ⟨x8_3, x9_4, x31_3⟩ _ m2 gg H30 _
          clear H28
          replace H30 : where_Nearest_l2 a0 a1 (it (fun next2 s => where_Nearest_l2 a0 a1 next2 s.1 s.2.1 s.2.2) m2) x8_3 x9_4 x31_3 = some r := H30
          generalize hn2 : it (fun next2 s => where_Nearest_l2 a0 a1 next2 s.1 s.2.1 s.2.2) m2 = next2 at H30
          refine c_tidyF [(3, .pointer (some ⟨b3, 0, none⟩)), (8, .int .i64 x8_3), (9, .int .i64 x9_4), (29, v0), (30, .int .i64 (a0.length : Int)), (31, .int .i64 x31_3)] [cellsC b3 [.int .i64 a1.Lat, .int .i64 a1.Lon] 71] rfl rfl ?_
          refine c_seq ?_
          refine c_region ?_
          refine l_val rfl rfl rfl (r_lss rfl rfl) ?_
          refine l_nil ?_
          refine c_seq ?_
          refine c_if (b := (decide (x31_3 < (a0.length : Int)))) rfl (fun hb => ?_) (fun hb => ?_)
          · have H31 := cnd_t hb H30; clear H30
            refine c_skip ?_
            refine c_meet (r := r) (σ := Int × Int) (τ := Unit) (fun s => where_Nearest_j3 x31_3 next2 s.1 s.2) (fun s t => [(3, .pointer (some ⟨b3, 0, none⟩)), (8, .int .i64 s.1), (9, .int .i64 s.2), (29, v0), (30, .int .i64 (a0.length : Int)), (31, .int .i64 x31_3)]) (fun s t => [cellsC b3 [.int .i64 a1.Lat, .int .i64 a1.Lon] 71]) (fun s t => True) ?_ ?_
            · refine c_block ?_
              refine c_seq ?_
              refine c_region ?_
              refine l_val rfl rfl rfl (r_move (v := .int .i64 x31_3) rfl) ?_
              obtain ⟨t34, h_t34, H34⟩ := bnd_some H31; clear H31
              refine l_val rfl rfl rfl (r_indexF Try.underlying65 Try.sizeOf71 rfl rfl f0 h_t34) ?_
              refine l_read (fun w hF hS => run_loadGN (f := e_api_Place) (i := x31_3) (sz := 2) (j := 0) (vs := [.int .i64 t34.Lat, .int .i64 t34.Lon]) Try.isAgg71 Try.sizeOf71 rfl rfl (f0.row (hw.now hF)) h_t34 rfl) rfl rfl rfl ?_
              refine l_alloc (cs := [.int .i64 0, .int .i64 0]) Try.zeroValue71 rfl rfl rfl (fun b5 => ?_)
              refine l_val rfl rfl rfl (r_assign (v := .int .i64 x31_3) rfl) ?_
              refine l_store (i := 1) (vs := [.int .i64 t34.Lat, .int .i64 t34.Lon]) (cs' := [.int .i64 t34.Lat, .int .i64 t34.Lon]) Try.sizeOf71 rfl rfl rfl rfl rfl rfl rfl rfl rfl ?_
              refine l_nil ?_
              refine c_seq ?_
              refine c_region ?_
              refine l_loadN (i := 0) (vs := [.int .i64 a1.Lat, .int .i64 a1.Lon]) Try.isAgg71 Try.sizeOf71 rfl rfl rfl rfl rfl ?_
              refine l_loadN (i := 1) (vs := [.int .i64 t34.Lat, .int .i64 t34.Lon]) Try.isAgg71 Try.sizeOf71 rfl rfl rfl rfl rfl ?_
              obtain ⟨t38, h_t38, H35⟩ := bnd_some H34; clear H34
              refine l_call (k71 h_t38) Try.call71 rfl rfl rfl ?_
              refine l_val rfl rfl rfl (r_assign (v := .int .i64 t38) rfl) ?_
              refine l_nil ?_
              refine c_seq ?_
              refine c_region ?_
              refine l_val rfl rfl rfl (r_move (v := .int .i64 x9_4) rfl) ?_
              refine l_val rfl rfl rfl (r_lss rfl rfl) ?_
              refine l_val rfl rfl rfl (r_move (v := .bool (decide (x9_4 < 0))) rfl) ?_
              refine split (fun hb => ?_) (fun hb => ?_)
              · have H36 := cnd_t hb H35; clear H35
                refine l_passed rfl rfl rfl ?_
                refine l_passed rfl rfl rfl ?_
                refine l_passed rfl rfl rfl ?_
                refine l_val rfl rfl rfl (r_pickT (v := .bool true) rfl rfl) ?_
                refine l_nil ?_
                refine c_true rfl ?_
                refine c_region ?_
                refine l_val rfl rfl rfl (r_move (v := .int .i64 x31_3) rfl) ?_
                refine l_val rfl rfl rfl (r_move (v := .int .i64 t38) rfl) ?_
                refine l_val rfl rfl rfl (r_assign (v := .int .i64 x31_3) rfl) ?_
                refine l_val rfl rfl rfl (r_assign (v := .int .i64 t38) rfl) ?_
                refine l_nil ?_
                refine c_close (x31_3, t38) () 0 [0] (by exact ⟨rfl, rfl, rfl, rfl, rfl, rfl, trivial⟩) (by decide) rfl (by exact ⟨H36, trivial⟩) (Nat.lt_succ_self _)
              · have H37 := cnd_f hb H35; clear H35
                refine l_val rfl rfl rfl (r_move (v := .int .i64 t38) rfl) ?_
                refine l_val rfl rfl rfl (r_move (v := .int .i64 x9_4) rfl) ?_
                refine l_val rfl rfl rfl (r_lss rfl rfl) ?_
                refine l_val rfl rfl rfl (r_pickF (v := .bool (decide (t38 < x9_4))) rfl rfl) ?_
                refine l_nil ?_
                refine c_if (b := (decide (t38 < x9_4))) rfl (fun hb => ?_) (fun hb => ?_)
                · have H38 := cnd_t hb H37; clear H37
                  refine c_region ?_
                  refine l_val rfl rfl rfl (r_move (v := .int .i64 x31_3) rfl) ?_
                  refine l_val rfl rfl rfl (r_move (v := .int .i64 t38) rfl) ?_
                  refine l_val rfl rfl rfl (r_assign (v := .int .i64 x31_3) rfl) ?_
                  refine l_val rfl rfl rfl (r_assign (v := .int .i64 t38) rfl) ?_
                  refine l_nil ?_
                  refine c_close (x31_3, t38) () 0 [0] (by exact ⟨rfl, rfl, rfl, rfl, rfl, rfl, trivial⟩) (by decide) rfl (by exact ⟨H38, trivial⟩) (Nat.lt_succ_self _)
                · have H39 := cnd_f hb H37; clear H37
                  refine c_skip ?_
                  refine c_close (x8_3, x9_4) () 0 [0] (by exact ⟨rfl, rfl, rfl, rfl, rfl, rfl, trivial⟩) (by decide) rfl (by exact ⟨H39, trivial⟩) (Nat.lt_succ_self _)
            · rintro ⟨x8_4, x9_5⟩ _ gg H32 _
              replace H32 : where_Nearest_j3 x31_3 next2 x8_4 x9_5 = some r := H32
              refine c_tidyF [(3, .pointer (some ⟨b3, 0, none⟩)), (8, .int .i64 x8_4), (9, .int .i64 x9_5), (29, v0), (30, .int .i64 (a0.length : Int)), (31, .int .i64 x31_3)] [cellsC b3 [.int .i64 a1.Lat, .int .i64 a1.Lon] 71] rfl rfl ?_
              refine c_region ?_
              obtain ⟨t48, h_t48, H33⟩ := bnd_some H32; clear H32
              refine l_val rfl rfl rfl (r_addG rfl rfl h_t48) ?_
              refine l_val rfl rfl rfl (r_move (v := .int .i64 t48) rfl) ?_
              refine l_nil ?_
              refine c_close (x8_4, x9_5, t48) () m2 [0] (by exact ⟨rfl, rfl, rfl, rfl, rfl, rfl, trivial⟩) (by decide) rfl (by exact ⟨(by subst hn2; exact H33), trivial⟩) (Nat.lt_succ_self _)
          · have H40 := cnd_f hb H30; clear H30
            refine c_exit ?_
            refine c_close (x8_3, x9_4) () 0 [] (by exact ⟨rfl, rfl, trivial⟩) (by decide) rfl (by exact ⟨H40, trivial⟩) (Nat.lt_succ_self _)
        · rintro ⟨x8, x9⟩ _ gg H29 _
          replace H29 : where_Nearest_j1 x8 x9 = some r := H29
          refine c_tidyF [(8, .int .i64 x8), (9, .int .i64 x9)] [] rfl rfl ?_
          refine c_seq ?_
          refine c_region ?_
          refine l_val rfl rfl rfl (r_move (v := .int .i64 x8) rfl) ?_
          refine l_val rfl rfl rfl (r_move (v := .int .i64 x9) rfl) ?_
          refine l_val rfl rfl rfl (r_assign (v := .int .i64 x8) rfl) ?_
          refine l_val rfl rfl rfl (r_assign (v := .int .i64 x9) rfl) ?_
          refine l_val rfl rfl rfl (r_assign (v := .int .i64 0) rfl) ?_
          refine l_nil ?_
          refine c_ret ?_
          obtain rfl := Option.some.inj H29
          refine ret3 (v1 := .int .i64 x8) (v2 := .int .i64 x9) (v3 := .int .i64 0) rfl rfl rfl rfl (fin rfl)
theorem k41 {a0 : T_api_Place} {r : Int} (H : R_PlaceFault a0 = some r) : Ret Try.prog 41 [.agg #[.int .i64 a0.Lat, .int .i64 a0.Lon]] (.int .i64 r) := by
  refine enterRet (n := 21) Try.func41 rfl rfl rfl (fun wd => ?_)
  refine c_seq ?_
  refine c_region ?_
  refine l_box (cs := [.int .i64 a0.Lat, .int .i64 a0.Lon]) rfl rfl rfl rfl (fun b1 => ?_)
  refine l_val rfl rfl rfl (r_assign (v := .int .i64 0) rfl) ?_
  refine l_nil ?_
  refine c_seq ?_
  refine c_seq ?_
  refine c_region ?_
  refine l_val rfl rfl rfl (r_field Try.runUnderlying71 rfl Try.sizeOf3 rfl rfl) ?_
  refine l_load1 (i := 0) (v := .int .i64 a0.Lat) Try.isAgg3 rfl rfl rfl rfl rfl ?_
  refine l_val rfl rfl rfl (r_lss rfl rfl) ?_
  refine l_val rfl rfl rfl (r_move (v := .bool (decide (a0.Lat < (-90000000)))) rfl) ?_
  refine split (fun hb => ?_) (fun hb => ?_)
  · have H9 := cnd_t hb H; clear H
    refine l_passed rfl rfl rfl ?_
    refine l_passed rfl rfl rfl ?_
    refine l_passed rfl rfl rfl ?_
    refine l_val rfl rfl rfl (r_pickT (v := .bool true) rfl rfl) ?_
    refine l_val rfl rfl rfl (r_move (v := .bool true) rfl) ?_
    refine l_passed rfl rfl rfl ?_
    refine l_passed rfl rfl rfl ?_
    refine l_passed rfl rfl rfl ?_
    refine l_val rfl rfl rfl (r_pickT (v := .bool true) rfl rfl) ?_
    refine l_val rfl rfl rfl (r_move (v := .bool true) rfl) ?_
    refine l_passed rfl rfl rfl ?_
    refine l_passed rfl rfl rfl ?_
    refine l_passed rfl rfl rfl ?_
    refine l_val rfl rfl rfl (r_pickT (v := .bool true) rfl rfl) ?_
    refine l_nil ?_
    refine c_true rfl ?_
    refine c_seq ?_
    refine c_region ?_
    refine l_val rfl rfl rfl (r_assign (v := .int .i64 2) rfl) ?_
    refine l_nil ?_
    refine c_ret ?_
    obtain rfl := Option.some.inj H9
    refine ret1 (v := .int .i64 2) rfl rfl (fin rfl)
  · have H10 := cnd_f hb H; clear H
    refine l_val rfl rfl rfl (r_field Try.runUnderlying71 rfl Try.sizeOf3 rfl rfl) ?_
    refine l_load1 (i := 0) (v := .int .i64 a0.Lat) Try.isAgg3 rfl rfl rfl rfl rfl ?_
    refine l_val rfl rfl rfl (r_gtr rfl rfl) ?_
    refine l_val rfl rfl rfl (r_pickF (v := .bool (decide (90000000 < a0.Lat))) rfl rfl) ?_
    refine l_val rfl rfl rfl (r_move (v := .bool (decide (90000000 < a0.Lat))) rfl) ?_
    refine split (fun hb => ?_) (fun hb => ?_)
    · have H11 := cnd_t hb H10; clear H10
      refine l_passed rfl rfl rfl ?_
      refine l_passed rfl rfl rfl ?_
      refine l_passed rfl rfl rfl ?_
      refine l_val rfl rfl rfl (r_pickT (v := .bool true) rfl rfl) ?_
      refine l_val rfl rfl rfl (r_move (v := .bool true) rfl) ?_
      refine l_passed rfl rfl rfl ?_
      refine l_passed rfl rfl rfl ?_
      refine l_passed rfl rfl rfl ?_
      refine l_val rfl rfl rfl (r_pickT (v := .bool true) rfl rfl) ?_
      refine l_nil ?_
      refine c_true rfl ?_
      refine c_seq ?_
      refine c_region ?_
      refine l_val rfl rfl rfl (r_assign (v := .int .i64 2) rfl) ?_
      refine l_nil ?_
      refine c_ret ?_
      obtain rfl := Option.some.inj H11
      refine ret1 (v := .int .i64 2) rfl rfl (fin rfl)
    · have H12 := cnd_f hb H10; clear H10
      refine l_val rfl rfl rfl (r_field Try.runUnderlying71 rfl Try.sizeOf3 rfl rfl) ?_
      refine l_load1 (i := 0) (v := .int .i64 a0.Lon) Try.isAgg3 rfl rfl rfl rfl rfl ?_
      refine l_val rfl rfl rfl (r_lss rfl rfl) ?_
      refine l_val rfl rfl rfl (r_pickF (v := .bool (decide (a0.Lon < (-180000000)))) rfl rfl) ?_
      refine l_val rfl rfl rfl (r_move (v := .bool (decide (a0.Lon < (-180000000)))) rfl) ?_
      refine split (fun hb => ?_) (fun hb => ?_)
      · have H13 := cnd_t hb H12; clear H12
        refine l_passed rfl rfl rfl ?_
        refine l_passed rfl rfl rfl ?_
        refine l_passed rfl rfl rfl ?_
        refine l_val rfl rfl rfl (r_pickT (v := .bool true) rfl rfl) ?_
        refine l_nil ?_
        refine c_true rfl ?_
        refine c_seq ?_
        refine c_region ?_
        refine l_val rfl rfl rfl (r_assign (v := .int .i64 2) rfl) ?_
        refine l_nil ?_
        refine c_ret ?_
        obtain rfl := Option.some.inj H13
        refine ret1 (v := .int .i64 2) rfl rfl (fin rfl)
      · have H14 := cnd_f hb H12; clear H12
        refine l_val rfl rfl rfl (r_field Try.runUnderlying71 rfl Try.sizeOf3 rfl rfl) ?_
        refine l_load1 (i := 0) (v := .int .i64 a0.Lon) Try.isAgg3 rfl rfl rfl rfl rfl ?_
        refine l_val rfl rfl rfl (r_gtr rfl rfl) ?_
        refine l_val rfl rfl rfl (r_pickF (v := .bool (decide (179999999 < a0.Lon))) rfl rfl) ?_
        refine l_nil ?_
        refine c_if (b := (decide (179999999 < a0.Lon))) rfl (fun hb => ?_) (fun hb => ?_)
        · have H15 := cnd_t hb H14; clear H14
          refine c_seq ?_
          refine c_region ?_
          refine l_val rfl rfl rfl (r_assign (v := .int .i64 2) rfl) ?_
          refine l_nil ?_
          refine c_ret ?_
          obtain rfl := Option.some.inj H15
          refine ret1 (v := .int .i64 2) rfl rfl (fin rfl)
        · have H16 := cnd_f hb H14; clear H14
          refine c_skip ?_
          refine c_seq ?_
          refine c_region ?_
          refine l_val rfl rfl rfl (r_assign (v := .int .i64 0) rfl) ?_
          refine l_nil ?_
          refine c_ret ?_
          obtain rfl := Option.some.inj H16
          refine ret1 (v := .int .i64 0) rfl rfl (fin rfl)
theorem k39 {a0 : (List T_api_Place)} {v0 : Value} {a1 : Bool} {r : Int} {w : World} {h : Heap} (hw : Know h w noS) (f0 : FrS h 2 v0 (a0.map e_api_Place)) (H : Law_listFault a0 a1 = some r) : Does Try.prog 39 (List.toArray [v0, .bool a1]) w (fun v w' => v = (.int .i64 r) ∧ Grow w w') := by
  refine enter (n := 35) Try.func39 rfl rfl rfl noS [] (Sat.nil _ _) ?_
  refine c_seq ?_
  refine c_region ?_
  refine l_val rfl rfl rfl (r_assign (v := .int .i64 0) rfl) ?_
  refine l_nil ?_
  refine c_meet (r := r) (σ := Int) (τ := Unit) (fun s => Law_listFault_j1 a0 s) (fun s t => [(0, v0), (5, .int .i64 s)]) (fun s t => []) (fun s t => True) ?_ ?_
  · refine c_region ?_
    refine l_val rfl rfl rfl (r_move (v := v0) rfl) ?_
    refine l_val rfl rfl rfl (r_lenF Try.underlying65 rfl f0 rfl) ?_
    refine l_val rfl rfl rfl (r_gtr rfl rfl) ?_
    refine l_val rfl rfl rfl (r_move (v := .bool (decide (0 < (a0.length : Int)))) rfl) ?_
    refine split (fun hb => ?_) (fun hb => ?_)
    · have H25 := cnd_t hb H; clear H
      refine l_passed rfl rfl rfl ?_
      refine l_passed rfl rfl rfl ?_
      refine l_val rfl rfl rfl (r_pickT (v := .bool true) rfl rfl) ?_
      obtain ⟨t15, h_t15, H26⟩ := bnd_some H25; clear H25
      refine l_call (k12 h_t15) Try.call12 rfl rfl rfl ?_
      refine l_val rfl rfl rfl (r_move (v := v0) rfl) ?_
      refine l_val rfl rfl rfl (r_lenF Try.underlying65 rfl f0 rfl) ?_
      refine l_val rfl rfl rfl (r_leq rfl rfl) ?_
      obtain ⟨t19, h_t19, H27⟩ := bnd_some H26; clear H26
      refine l_call (k12 h_t19) Try.call12 rfl rfl rfl ?_
      refine l_buildSlice (vs := [.int .i64 t15, .int .i64 t19]) (cs := [.int .i64 t15, .int .i64 t19]) Try.underlying95 Try.sizeOf25 Try.zeroValue25 rfl rfl rfl rfl rfl rfl rfl (fun b6 => ?_)
      obtain ⟨t21, h_t21, H28⟩ := bnd_some H27; clear H27
      refine l_callG (fun w hF hS => k10 (know_all w) (frs_box (i := 0) (xs := ([t15, t19] : List Int)) (f := e_i64) hS rfl rfl rfl rfl rfl) h_t21) Try.call10 rfl rfl rfl ?_
      refine l_val rfl rfl rfl (r_assign (v := .int .i64 t21) rfl) ?_
      refine l_nil ?_
      refine c_close t21 () 0 [] (by exact ⟨rfl, rfl, trivial⟩) (by decide) rfl (by exact ⟨H28, trivial⟩) (Nat.lt_succ_self _)
    · have H29 := cnd_f hb H; clear H
      refine l_val rfl rfl rfl (r_move (v := .bool a1) rfl) ?_
      refine l_val rfl rfl rfl (r_not rfl) ?_
      refine l_val rfl rfl rfl (r_pickF (v := .bool (!a1)) rfl rfl) ?_
      obtain ⟨t15_2, h_t15_2, H30⟩ := bnd_some H29; clear H29
      refine l_call (k12 h_t15_2) Try.call12 rfl rfl rfl ?_
      refine l_val rfl rfl rfl (r_move (v := v0) rfl) ?_
      refine l_val rfl rfl rfl (r_lenF Try.underlying65 rfl f0 rfl) ?_
      refine l_val rfl rfl rfl (r_leq rfl rfl) ?_
      obtain ⟨t19_2, h_t19_2, H31⟩ := bnd_some H30; clear H30
      refine l_call (k12 h_t19_2) Try.call12 rfl rfl rfl ?_
      refine l_buildSlice (vs := [.int .i64 t15_2, .int .i64 t19_2]) (cs := [.int .i64 t15_2, .int .i64 t19_2]) Try.underlying95 Try.sizeOf25 Try.zeroValue25 rfl rfl rfl rfl rfl rfl rfl (fun b7 => ?_)
      obtain ⟨t21_2, h_t21_2, H32⟩ := bnd_some H31; clear H31
      refine l_callG (fun w hF hS => k10 (know_all w) (frs_box (i := 0) (xs := ([t15_2, t19_2] : List Int)) (f := e_i64) hS rfl rfl rfl rfl rfl) h_t21_2) Try.call10 rfl rfl rfl ?_
      refine l_val rfl rfl rfl (r_assign (v := .int .i64 t21_2) rfl) ?_
      refine l_nil ?_
      refine c_close t21_2 () 0 [] (by exact ⟨rfl, rfl, trivial⟩) (by decide) rfl (by exact ⟨H32, trivial⟩) (Nat.lt_succ_self _)
  · rintro x5 _ gg H17 _
    replace H17 : Law_listFault_j1 a0 x5 = some r := H17
    refine c_tidyF [(0, v0), (5, .int .i64 x5)] [] rfl rfl ?_
    refine c_seq ?_
    refine c_seq ?_
    refine c_region ?_
    refine l_val rfl rfl rfl (r_move (v := v0) rfl) ?_
    refine l_val rfl rfl rfl (r_lenF Try.underlying65 rfl f0 rfl) ?_
    refine l_val rfl rfl rfl (r_move (v := .int .i64 0) rfl) ?_
    refine l_nil ?_
    refine c_block ?_
    refine c_fix (σ := Int × Int) (τ := Unit) (fun next2 s => Law_listFault_l2 a0 next2 s.1 s.2) (fun s t => [(5, .int .i64 s.1), (22, v0), (23, .int .i64 (a0.length : Int)), (24, .int .i64 s.2)]) (fun s t => []) (fun s t => True) (x5, 0) () [] H17 (by exact trivial) (by exact ⟨rfl, rfl, rfl, rfl, trivial⟩) (by decide) rfl ?_
    rintro ⟨x5_3, x24_2⟩ _ m2 gg H18 _
    clear H17
    replace H18 : Law_listFault_l2 a0 (it (fun next2 s => Law_listFault_l2 a0 next2 s.1 s.2) m2) x5_3 x24_2 = some r := H18
    generalize hn2 : it (fun next2 s => Law_listFault_l2 a0 next2 s.1 s.2) m2 = next2 at H18
    refine c_tidyF [(5, .int .i64 x5_3), (22, v0), (23, .int .i64 (a0.length : Int)), (24, .int .i64 x24_2)] [] rfl rfl ?_
    refine c_seq ?_
    refine c_region ?_
    refine l_val rfl rfl rfl (r_lss rfl rfl) ?_
    refine l_nil ?_
    refine c_seq ?_
    refine c_if (b := (decide (x24_2 < (a0.length : Int)))) rfl (fun hb => ?_) (fun hb => ?_)
    · have H19 := cnd_t hb H18; clear H18
      refine c_skip ?_
      refine c_seq ?_
      refine c_block ?_
      refine c_seq ?_
      refine c_region ?_
      obtain ⟨t26, h_t26, H20⟩ := bnd_some H19; clear H19
      refine l_val rfl rfl rfl (r_indexF Try.underlying65 Try.sizeOf71 rfl rfl f0 h_t26) ?_
      refine l_read (fun w hF hS => run_loadGN (f := e_api_Place) (i := x24_2) (sz := 2) (j := 0) (vs := [.int .i64 t26.Lat, .int .i64 t26.Lon]) Try.isAgg71 Try.sizeOf71 rfl rfl (f0.row (hw.now hF)) h_t26 rfl) rfl rfl rfl ?_
      refine l_alloc (cs := [.int .i64 0, .int .i64 0]) Try.zeroValue71 rfl rfl rfl (fun b4 => ?_)
      refine l_store (i := 0) (vs := [.int .i64 t26.Lat, .int .i64 t26.Lon]) (cs' := [.int .i64 t26.Lat, .int .i64 t26.Lon]) Try.sizeOf71 rfl rfl rfl rfl rfl rfl rfl rfl rfl ?_
      refine l_nil ?_
      refine c_region ?_
      refine l_val rfl rfl rfl (r_move (v := .int .i64 x5_3) rfl) ?_
      refine l_loadN (i := 0) (vs := [.int .i64 t26.Lat, .int .i64 t26.Lon]) Try.isAgg71 Try.sizeOf71 rfl rfl rfl rfl rfl ?_
      obtain ⟨t30, h_t30, H21⟩ := bnd_some H20; clear H20
      refine l_call (k41 h_t30) Try.call41 rfl rfl rfl ?_
      refine l_buildSlice (vs := [.int .i64 x5_3, .int .i64 t30]) (cs := [.int .i64 x5_3, .int .i64 t30]) Try.underlying95 Try.sizeOf25 Try.zeroValue25 rfl rfl rfl rfl rfl rfl rfl (fun b5 => ?_)
      obtain ⟨t32, h_t32, H22⟩ := bnd_some H21; clear H21
      refine l_callG (fun w hF hS => k10 (know_all w) (frs_box (i := 1) (xs := ([x5_3, t30] : List Int)) (f := e_i64) hS rfl rfl rfl rfl rfl) h_t32) Try.call10 rfl rfl rfl ?_
      refine l_val rfl rfl rfl (r_assign (v := .int .i64 t32) rfl) ?_
      refine l_nil ?_
      refine c_region ?_
      obtain ⟨t33, h_t33, H23⟩ := bnd_some H22; clear H22
      refine l_val rfl rfl rfl (r_addG rfl rfl h_t33) ?_
      refine l_val rfl rfl rfl (r_move (v := .int .i64 t33) rfl) ?_
      refine l_nil ?_
      refine c_close (t32, t33) () m2 [] (by exact ⟨rfl, rfl, rfl, rfl, trivial⟩) (by decide) rfl (by exact ⟨(by subst hn2; exact H23), trivial⟩) (Nat.lt_succ_self _)
    · have H24 := cnd_f hb H18; clear H18
      refine c_exit ?_
      refine c_seq ?_
      refine c_region ?_
      refine l_val rfl rfl rfl (r_move (v := .int .i64 x5_3) rfl) ?_
      refine l_val rfl rfl rfl (r_assign (v := .int .i64 x5_3) rfl) ?_
      refine l_nil ?_
      refine c_ret ?_
      obtain rfl := Option.some.inj H24
      refine ret1 (v := .int .i64 x5_3) rfl rfl (fin rfl)
theorem k40 {a0 : Int} {r : Int} (H : Law_metresFault a0 = some r) : Ret Try.prog 40 [.int .i64 a0] (.int .i64 r) := by
  refine enterRet (n := 10) Try.func40 rfl rfl rfl (fun wd => ?_)
  refine c_seq ?_
  refine c_region ?_
  refine l_val rfl rfl rfl (r_assign (v := .int .i64 0) rfl) ?_
  refine l_nil ?_
  refine c_seq ?_
  refine c_region ?_
  refine l_val rfl rfl rfl (r_move (v := .int .i64 a0) rfl) ?_
  refine l_val rfl rfl rfl (r_geq rfl rfl) ?_
  refine l_val rfl rfl rfl (r_move (v := .bool (decide (0 ≤ a0))) rfl) ?_
  refine split (fun hb => ?_) (fun hb => ?_)
  · have H5 := cnd_t hb H; clear H
    refine l_val rfl rfl rfl (r_move (v := .int .i64 a0) rfl) ?_
    refine l_val rfl rfl rfl (r_leq rfl rfl) ?_
    refine l_val rfl rfl rfl (r_pickT (v := .bool (decide (a0 ≤ 30000000))) rfl rfl) ?_
    obtain ⟨t9, h_t9, H6⟩ := bnd_some H5; clear H5
    refine l_call (k12 h_t9) Try.call12 rfl rfl rfl ?_
    refine l_val rfl rfl rfl (r_assign (v := .int .i64 t9) rfl) ?_
    refine l_nil ?_
    refine c_ret ?_
    obtain rfl := Option.some.inj H6
    refine ret1 (v := .int .i64 t9) rfl rfl (fin rfl)
  · have H7 := cnd_f hb H; clear H
    refine l_passed rfl rfl rfl ?_
    refine l_passed rfl rfl rfl ?_
    refine l_val rfl rfl rfl (r_pickF (v := .bool false) rfl rfl) ?_
    obtain ⟨t9_2, h_t9_2, H8⟩ := bnd_some H7; clear H7
    refine l_call (k12 h_t9_2) Try.call12 rfl rfl rfl ?_
    refine l_val rfl rfl rfl (r_assign (v := .int .i64 t9_2) rfl) ?_
    refine l_nil ?_
    refine c_ret ?_
    obtain rfl := Option.some.inj H8
    refine ret1 (v := .int .i64 t9_2) rfl rfl (fin rfl)
theorem k43 {a0 : (List T_api_Place)} {v0 : Value} {r : Int} {w : World} {h : Heap} (hw : Know h w noS) (f0 : FrS h 2 v0 (a0.map e_api_Place)) (H : R_MiddleOf a0 = some r) : Does Try.prog 43 (List.toArray [v0]) w (fun v w' => v = (.int .i64 r) ∧ Grow w w') := by
  refine enter (n := 40) Try.func43 rfl rfl rfl noS [] (Sat.nil _ _) ?_
  refine c_seq ?_
  refine c_region ?_
  refine l_val rfl rfl rfl (r_assign (v := .int .i64 0) rfl) ?_
  refine l_nil ?_
  refine c_seq ?_
  refine c_region ?_
  refine l_val rfl rfl rfl (r_assign (v := .int .i64 0) rfl) ?_
  refine l_val rfl rfl rfl (r_assign (v := .int .i64 (-1)) rfl) ?_
  refine l_nil ?_
  refine c_seq ?_
  refine c_seq ?_
  refine c_region ?_
  refine l_val rfl rfl rfl (r_move (v := v0) rfl) ?_
  refine l_val rfl rfl rfl (r_lenF Try.underlying65 rfl f0 rfl) ?_
  refine l_val rfl rfl rfl (r_move (v := .int .i64 0) rfl) ?_
  refine l_nil ?_
  refine c_block ?_
  refine c_fix (σ := Int × Int × Int) (τ := Unit) (fun next1 s => R_MiddleOf_l1 a0 next1 s.1 s.2.1 s.2.2) (fun s t => [(0, v0), (3, .int .i64 s.1), (4, .int .i64 s.2.1), (10, v0), (11, .int .i64 (a0.length : Int)), (12, .int .i64 s.2.2)]) (fun s t => []) (fun s t => True) (0, (-1), 0) () [] H (by exact trivial) (by exact ⟨rfl, rfl, rfl, rfl, rfl, rfl, trivial⟩) (by decide) rfl ?_
  rintro ⟨x3_2, x4_3, x12_3⟩ _ m1 gg H19 _
  clear H
  replace H19 : R_MiddleOf_l1 a0 (it (fun next1 s => R_MiddleOf_l1 a0 next1 s.1 s.2.1 s.2.2) m1) x3_2 x4_3 x12_3 = some r := H19
  generalize hn1 : it (fun next1 s => R_MiddleOf_l1 a0 next1 s.1 s.2.1 s.2.2) m1 = next1 at H19
  refine c_tidyF [(0, v0), (3, .int .i64 x3_2), (4, .int .i64 x4_3), (10, v0), (11, .int .i64 (a0.length : Int)), (12, .int .i64 x12_3)] [] rfl rfl ?_
  refine c_seq ?_
  refine c_region ?_
  refine l_val rfl rfl rfl (r_lss rfl rfl) ?_
  refine l_nil ?_
  refine c_seq ?_
  refine c_if (b := (decide (x12_3 < (a0.length : Int)))) rfl (fun hb => ?_) (fun hb => ?_)
  · have H20 := cnd_t hb H19; clear H19
    refine c_skip ?_
    refine c_meet (r := r) (σ := Int × Int) (τ := Unit) (fun s => R_MiddleOf_j2 x12_3 next1 s.1 s.2) (fun s t => [(0, v0), (3, .int .i64 s.1), (4, .int .i64 s.2), (10, v0), (11, .int .i64 (a0.length : Int)), (12, .int .i64 x12_3)]) (fun s t => []) (fun s t => True) ?_ ?_
    · refine c_block ?_
      refine c_seq ?_
      refine c_region ?_
      refine l_val rfl rfl rfl (r_move (v := .int .i64 x12_3) rfl) ?_
      obtain ⟨t15, h_t15, H23⟩ := bnd_some H20; clear H20
      refine l_val rfl rfl rfl (r_indexF Try.underlying65 Try.sizeOf71 rfl rfl f0 h_t15) ?_
      refine l_read (fun w hF hS => run_loadGN (f := e_api_Place) (i := x12_3) (sz := 2) (j := 0) (vs := [.int .i64 t15.Lat, .int .i64 t15.Lon]) Try.isAgg71 Try.sizeOf71 rfl rfl (f0.row (hw.now hF)) h_t15 rfl) rfl rfl rfl ?_
      refine l_alloc (cs := [.int .i64 0, .int .i64 0]) Try.zeroValue71 rfl rfl rfl (fun b2 => ?_)
      refine l_val rfl rfl rfl (r_assign (v := .int .i64 x12_3) rfl) ?_
      refine l_store (i := 0) (vs := [.int .i64 t15.Lat, .int .i64 t15.Lon]) (cs' := [.int .i64 t15.Lat, .int .i64 t15.Lon]) Try.sizeOf71 rfl rfl rfl rfl rfl rfl rfl rfl rfl ?_
      refine l_nil ?_
      refine c_seq ?_
      refine c_region ?_
      refine l_val rfl rfl rfl (r_assign (v := .int .i64 0) rfl) ?_
      refine l_nil ?_
      refine c_meet (r := r) (σ := Int) (τ := Unit) (fun s => R_MiddleOf_j3 x3_2 x4_3 x12_3 next1 s) (fun s t => [(0, v0), (3, .int .i64 x3_2), (4, .int .i64 x4_3), (5, .int .i64 x12_3), (7, .int .i64 s), (10, v0), (11, .int .i64 (a0.length : Int)), (12, .int .i64 x12_3)]) (fun s t => []) (fun s t => True) ?_ ?_
      · refine c_seq ?_
        refine c_region ?_
        refine l_val rfl rfl rfl (r_move (v := v0) rfl) ?_
        refine l_val rfl rfl rfl (r_lenF Try.underlying65 rfl f0 rfl) ?_
        refine l_val rfl rfl rfl (r_move (v := .int .i64 0) rfl) ?_
        refine l_nil ?_
        refine c_block ?_
        refine c_fix (σ := Int × Int) (τ := Unit) (fun next4 s => R_MiddleOf_l4 a0 x3_2 x4_3 x12_3 next1 t15 next4 s.1 s.2) (fun s t => [(0, v0), (3, .int .i64 x3_2), (4, .int .i64 x4_3), (5, .int .i64 x12_3), (6, .pointer (some ⟨b2, 0, none⟩)), (7, .int .i64 s.1), (10, v0), (11, .int .i64 (a0.length : Int)), (12, .int .i64 x12_3), (17, v0), (18, .int .i64 (a0.length : Int)), (19, .int .i64 s.2)]) (fun s t => [cellsC b2 [.int .i64 t15.Lat, .int .i64 t15.Lon] 71]) (fun s t => True) (0, 0) () [0] H23 (by exact trivial) (by exact ⟨rfl, rfl, rfl, rfl, rfl, rfl, rfl, rfl, rfl, rfl, rfl, rfl, trivial⟩) (by decide) rfl ?_
        rintro ⟨x7_3, x19_2⟩ _ m4 gg H29 _
        clear H23
        replace H29 : R_MiddleOf_l4 a0 x3_2 x4_3 x12_3 next1 t15 (it (fun next4 s => R_MiddleOf_l4 a0 x3_2 x4_3 x12_3 next1 t15 next4 s.1 s.2) m4) x7_3 x19_2 = some r := H29
        generalize hn4 : it (fun next4 s => R_MiddleOf_l4 a0 x3_2 x4_3 x12_3 next1 t15 next4 s.1 s.2) m4 = next4 at H29
        refine c_tidyF [(0, v0), (3, .int .i64 x3_2), (4, .int .i64 x4_3), (5, .int .i64 x12_3), (6, .pointer (some ⟨b2, 0, none⟩)), (7, .int .i64 x7_3), (10, v0), (11, .int .i64 (a0.length : Int)), (12, .int .i64 x12_3), (17, v0), (18, .int .i64 (a0.length : Int)), (19, .int .i64 x19_2)] [cellsC b2 [.int .i64 t15.Lat, .int .i64 t15.Lon] 71] rfl rfl ?_
        refine c_seq ?_
        refine c_region ?_
        refine l_val rfl rfl rfl (r_lss rfl rfl) ?_
        refine l_nil ?_
        refine c_seq ?_
        refine c_if (b := (decide (x19_2 < (a0.length : Int)))) rfl (fun hb => ?_) (fun hb => ?_)
        · have H30 := cnd_t hb H29; clear H29
          refine c_skip ?_
          refine c_seq ?_
          refine c_block ?_
          refine c_seq ?_
          refine c_region ?_
          obtain ⟨t21, h_t21, H31⟩ := bnd_some H30; clear H30
          refine l_val rfl rfl rfl (r_indexF Try.underlying65 Try.sizeOf71 rfl rfl f0 h_t21) ?_
          refine l_read (fun w hF hS => run_loadGN (f := e_api_Place) (i := x19_2) (sz := 2) (j := 0) (vs := [.int .i64 t21.Lat, .int .i64 t21.Lon]) Try.isAgg71 Try.sizeOf71 rfl rfl (f0.row (hw.now hF)) h_t21 rfl) rfl rfl rfl ?_
          refine l_alloc (cs := [.int .i64 0, .int .i64 0]) Try.zeroValue71 rfl rfl rfl (fun b3 => ?_)
          refine l_store (i := 1) (vs := [.int .i64 t21.Lat, .int .i64 t21.Lon]) (cs' := [.int .i64 t21.Lat, .int .i64 t21.Lon]) Try.sizeOf71 rfl rfl rfl rfl rfl rfl rfl rfl rfl ?_
          refine l_nil ?_
          refine c_region ?_
          refine l_val rfl rfl rfl (r_move (v := .int .i64 x7_3) rfl) ?_
          refine l_loadN (i := 0) (vs := [.int .i64 t15.Lat, .int .i64 t15.Lon]) Try.isAgg71 Try.sizeOf71 rfl rfl rfl rfl rfl ?_
          refine l_loadN (i := 1) (vs := [.int .i64 t21.Lat, .int .i64 t21.Lon]) Try.isAgg71 Try.sizeOf71 rfl rfl rfl rfl rfl ?_
          obtain ⟨t26, h_t26, H32⟩ := bnd_some H31; clear H31
          refine l_call (k44 h_t26) Try.call44 rfl rfl rfl ?_
          obtain ⟨t27, h_t27, H33⟩ := bnd_some H32; clear H32
          refine l_val rfl rfl rfl (r_addG rfl rfl h_t27) ?_
          refine l_val rfl rfl rfl (r_assign (v := .int .i64 t27) rfl) ?_
          refine l_nil ?_
          refine c_region ?_
          obtain ⟨t28, h_t28, H34⟩ := bnd_some H33; clear H33
          refine l_val rfl rfl rfl (r_addG rfl rfl h_t28) ?_
          refine l_val rfl rfl rfl (r_move (v := .int .i64 t28) rfl) ?_
          refine l_nil ?_
          refine c_close (t27, t28) () m4 [0] (by exact ⟨rfl, rfl, rfl, rfl, rfl, rfl, rfl, rfl, rfl, rfl, rfl, rfl, trivial⟩) (by decide) rfl (by exact ⟨(by subst hn4; exact H34), trivial⟩) (Nat.lt_succ_self _)
        · have H35 := cnd_f hb H29; clear H29
          refine c_exit ?_
          refine c_close x7_3 () 0 [] (by exact ⟨rfl, rfl, rfl, rfl, rfl, rfl, rfl, rfl, trivial⟩) (by decide) rfl (by exact ⟨H35, trivial⟩) (Nat.lt_succ_self _)
      · rintro x7 _ gg H24 _
        replace H24 : R_MiddleOf_j3 x3_2 x4_3 x12_3 next1 x7 = some r := H24
        refine c_tidyF [(0, v0), (3, .int .i64 x3_2), (4, .int .i64 x4_3), (5, .int .i64 x12_3), (7, .int .i64 x7), (10, v0), (11, .int .i64 (a0.length : Int)), (12, .int .i64 x12_3)] [] rfl rfl ?_
        refine c_seq ?_
        refine c_region ?_
        refine l_val rfl rfl rfl (r_move (v := .int .i64 x4_3) rfl) ?_
        refine l_val rfl rfl rfl (r_lss rfl rfl) ?_
        refine l_val rfl rfl rfl (r_move (v := .bool (decide (x4_3 < 0))) rfl) ?_
        refine split (fun hb => ?_) (fun hb => ?_)
        · have H25 := cnd_t hb H24; clear H24
          refine l_passed rfl rfl rfl ?_
          refine l_passed rfl rfl rfl ?_
          refine l_passed rfl rfl rfl ?_
          refine l_val rfl rfl rfl (r_pickT (v := .bool true) rfl rfl) ?_
          refine l_nil ?_
          refine c_true rfl ?_
          refine c_region ?_
          refine l_val rfl rfl rfl (r_move (v := .int .i64 x12_3) rfl) ?_
          refine l_val rfl rfl rfl (r_move (v := .int .i64 x7) rfl) ?_
          refine l_val rfl rfl rfl (r_assign (v := .int .i64 x12_3) rfl) ?_
          refine l_val rfl rfl rfl (r_assign (v := .int .i64 x7) rfl) ?_
          refine l_nil ?_
          refine c_close (x12_3, x7) () 0 [] (by exact ⟨rfl, rfl, rfl, rfl, rfl, rfl, trivial⟩) (by decide) rfl (by exact ⟨H25, trivial⟩) (Nat.lt_succ_self _)
        · have H26 := cnd_f hb H24; clear H24
          refine l_val rfl rfl rfl (r_move (v := .int .i64 x7) rfl) ?_
          refine l_val rfl rfl rfl (r_move (v := .int .i64 x4_3) rfl) ?_
          refine l_val rfl rfl rfl (r_lss rfl rfl) ?_
          refine l_val rfl rfl rfl (r_pickF (v := .bool (decide (x7 < x4_3))) rfl rfl) ?_
          refine l_nil ?_
          refine c_if (b := (decide (x7 < x4_3))) rfl (fun hb => ?_) (fun hb => ?_)
          · have H27 := cnd_t hb H26; clear H26
            refine c_region ?_
            refine l_val rfl rfl rfl (r_move (v := .int .i64 x12_3) rfl) ?_
            refine l_val rfl rfl rfl (r_move (v := .int .i64 x7) rfl) ?_
            refine l_val rfl rfl rfl (r_assign (v := .int .i64 x12_3) rfl) ?_
            refine l_val rfl rfl rfl (r_assign (v := .int .i64 x7) rfl) ?_
            refine l_nil ?_
            refine c_close (x12_3, x7) () 0 [] (by exact ⟨rfl, rfl, rfl, rfl, rfl, rfl, trivial⟩) (by decide) rfl (by exact ⟨H27, trivial⟩) (Nat.lt_succ_self _)
          · have H28 := cnd_f hb H26; clear H26
            refine c_skip ?_
            refine c_close (x3_2, x4_3) () 0 [] (by exact ⟨rfl, rfl, rfl, rfl, rfl, rfl, trivial⟩) (by decide) rfl (by exact ⟨H28, trivial⟩) (Nat.lt_succ_self _)
    · rintro ⟨x3_3, x4_4⟩ _ gg H21 _
      replace H21 : R_MiddleOf_j2 x12_3 next1 x3_3 x4_4 = some r := H21
      refine c_tidyF [(0, v0), (3, .int .i64 x3_3), (4, .int .i64 x4_4), (10, v0), (11, .int .i64 (a0.length : Int)), (12, .int .i64 x12_3)] [] rfl rfl ?_
      refine c_region ?_
      obtain ⟨t38, h_t38, H22⟩ := bnd_some H21; clear H21
      refine l_val rfl rfl rfl (r_addG rfl rfl h_t38) ?_
      refine l_val rfl rfl rfl (r_move (v := .int .i64 t38) rfl) ?_
      refine l_nil ?_
      refine c_close (x3_3, x4_4, t38) () m1 [] (by exact ⟨rfl, rfl, rfl, rfl, rfl, rfl, trivial⟩) (by decide) rfl (by exact ⟨(by subst hn1; exact H22), trivial⟩) (Nat.lt_succ_self _)
  · have H36 := cnd_f hb H19; clear H19
    refine c_exit ?_
    refine c_seq ?_
    refine c_region ?_
    refine l_val rfl rfl rfl (r_move (v := .int .i64 x3_2) rfl) ?_
    refine l_val rfl rfl rfl (r_assign (v := .int .i64 x3_2) rfl) ?_
    refine l_nil ?_
    refine c_ret ?_
    obtain rfl := Option.some.inj H36
    refine ret1 (v := .int .i64 x3_2) rfl rfl (fin rfl)
theorem k35 {a0 : (List Int)} {v0 : Value} {a1 : (List Int)} {v1 : Value} {r : Bool} {w : World} {h : Heap} (hw : Know h w noS) (f0 : FrS h 1 v0 (a0.map e_i64)) (f1 : FrS h 1 v1 (a1.map e_i64)) (H : slices_Equal_int a0 a1 = some r) : Does Try.prog 35 (List.toArray [v0, v1]) w (fun v w' => v = (.bool r) ∧ Grow w w') := by
  refine enter (n := 26) Try.func35 rfl rfl rfl noS [] (Sat.nil _ _) ?_
  refine c_seq ?_
  refine c_region ?_
  refine l_val rfl rfl rfl (r_assign (v := .bool false) rfl) ?_
  refine l_nil ?_
  refine c_seq ?_
  refine c_seq ?_
  refine c_region ?_
  refine l_val rfl rfl rfl (r_move (v := v0) rfl) ?_
  refine l_val rfl rfl rfl (r_lenF Try.underlying67 rfl f0 rfl) ?_
  refine l_val rfl rfl rfl (r_move (v := v1) rfl) ?_
  refine l_val rfl rfl rfl (r_lenF Try.underlying67 rfl f1 rfl) ?_
  refine l_val rfl rfl rfl (r_neq rfl rfl) ?_
  refine l_nil ?_
  refine c_if (b := (decide ((a0.length : Int) ≠ (a1.length : Int)))) rfl (fun hb => ?_) (fun hb => ?_)
  · have H11 := cnd_t hb H; clear H
    refine c_seq ?_
    refine c_region ?_
    refine l_val rfl rfl rfl (r_assign (v := .bool false) rfl) ?_
    refine l_nil ?_
    refine c_ret ?_
    obtain rfl := Option.some.inj H11
    refine ret1 (v := .bool false) rfl rfl (fin rfl)
  · have H12 := cnd_f hb H; clear H
    refine c_skip ?_
    refine c_seq ?_
    refine c_seq ?_
    refine c_region ?_
    refine l_val rfl rfl rfl (r_move (v := v0) rfl) ?_
    refine l_val rfl rfl rfl (r_lenF Try.underlying67 rfl f0 rfl) ?_
    refine l_val rfl rfl rfl (r_move (v := .int .i64 0) rfl) ?_
    refine l_nil ?_
    refine c_block ?_
    refine c_fix (σ := Int) (τ := Unit) (fun next1 s => slices_Equal_int_l1 a0 a1 next1 s) (fun s t => [(0, v0), (1, v1), (12, .int .i64 (a0.length : Int)), (13, .int .i64 s)]) (fun s t => []) (fun s t => True) 0 () [] H12 (by exact trivial) (by exact ⟨rfl, rfl, rfl, rfl, trivial⟩) (by decide) rfl ?_
    rintro x13_2 _ m1 gg H13 _
    clear H12
    replace H13 : slices_Equal_int_l1 a0 a1 (it (fun next1 s => slices_Equal_int_l1 a0 a1 next1 s) m1) x13_2 = some r := H13
    generalize hn1 : it (fun next1 s => slices_Equal_int_l1 a0 a1 next1 s) m1 = next1 at H13
    refine c_tidyF [(0, v0), (1, v1), (12, .int .i64 (a0.length : Int)), (13, .int .i64 x13_2)] [] rfl rfl ?_
    refine c_seq ?_
    refine c_region ?_
    refine l_val rfl rfl rfl (r_lss rfl rfl) ?_
    refine l_nil ?_
    refine c_seq ?_
    refine c_if (b := (decide (x13_2 < (a0.length : Int)))) rfl (fun hb => ?_) (fun hb => ?_)
    · have H14 := cnd_t hb H13; clear H13
      refine c_skip ?_
      refine c_seq ?_
      refine c_block ?_
      refine c_seq ?_
      refine c_region ?_
      refine l_val rfl rfl rfl (r_move (v := .int .i64 x13_2) rfl) ?_
      refine l_val rfl rfl rfl (r_assign (v := .int .i64 x13_2) rfl) ?_
      refine l_nil ?_
      refine c_seq ?_
      exact c_regionD (Kd.p :: Kd.p :: Kd.p :: Kd.d [] _ :: Kd.p :: Kd.p :: Kd.p :: Kd.d [] _ :: Kd.p :: []) 0 mixed (by
        refine d_val rfl rfl (r_move (v := v0) rfl) ?_
        refine d_val rfl rfl (r_move (v := .int .i64 x13_2) rfl) ?_
        have h_t18 := bnd_val H14
        have H15 := bnd_rest H14
        refine d_val rfl rfl (r_indexF Try.underlying67 Try.sizeOf3 rfl rfl f0 h_t18) ?_
        refine d_read (fun w hF => run_loadG1 (f := e_i64) (i := x13_2) (sz := 1) (j := 0) (v := .int .i64 (val (gAt a0 x13_2))) Try.isAgg3 rfl rfl (f0.row (hw.now hF)) h_t18 rfl) rfl rfl ?_
        refine d_val rfl rfl (r_move (v := v1) rfl) ?_
        refine d_val rfl rfl (r_move (v := .int .i64 x13_2) rfl) ?_
        have h_t22 := bnd_val H15
        have H16 := bnd_rest H15
        refine d_val rfl rfl (r_indexF Try.underlying67 Try.sizeOf3 rfl rfl f1 h_t22) ?_
        refine d_read (fun w hF => run_loadG1 (f := e_i64) (i := x13_2) (sz := 1) (j := 0) (v := .int .i64 (val (gAt a1 x13_2))) Try.isAgg3 rfl rfl (f1.row (hw.now hF)) h_t22 rfl) rfl rfl ?_
        refine d_val rfl rfl (r_neq rfl rfl) ?_
        refine d_nil ?_
        refine c_if (b := (decide ((val (gAt a0 x13_2)) ≠ (val (gAt a1 x13_2))))) rfl (fun hb => ?_) (fun hb => ?_)
        · have H17 := cnd_t hb H16; clear H16
          refine c_seq ?_
          refine c_region ?_
          refine l_val rfl rfl rfl (r_assign (v := .bool false) rfl) ?_
          refine l_nil ?_
          refine c_ret ?_
          obtain rfl := Option.some.inj H17
          refine ret1 (v := .bool false) rfl rfl (fin rfl)
        · have H18 := cnd_f hb H16; clear H16
          refine c_skip ?_
          refine c_region ?_
          obtain ⟨t25, h_t25, H19⟩ := bnd_some H18; clear H18
          refine l_val rfl rfl rfl (r_addG rfl rfl h_t25) ?_
          refine l_val rfl rfl rfl (r_move (v := .int .i64 t25) rfl) ?_
          refine l_nil ?_
          refine c_close t25 () m1 [] (by exact ⟨rfl, rfl, rfl, rfl, trivial⟩) (by decide) rfl (by exact ⟨(by subst hn1; exact H19), trivial⟩) (Nat.lt_succ_self _)
        ) (by kernel_rfl)
    · have H20 := cnd_f hb H13; clear H13
      refine c_exit ?_
      refine c_seq ?_
      refine c_region ?_
      refine l_val rfl rfl rfl (r_assign (v := .bool true) rfl) ?_
      refine l_nil ?_
      refine c_ret ?_
      obtain rfl := Option.some.inj H20
      refine ret1 (v := .bool true) rfl rfl (fin rfl)
theorem k81 {a0 : (List (List Int))} {v0 : Value} {a1 : (List (List Int))} {v1 : Value} {a2 : ((List Int) → (List Int) → Option (Bool))} {v2 : Value} {r : Bool} {w : World} {h : Heap} (hw : Know h w noS) (f0 : FrN h 1 v0 gs_int a0) (f1 : FrN h 1 v1 gs_int a1) (f2 : FnH Try.prog h v2 (fnR_func_int_int_bool a2)) (H : slices_EqualFunc_int_int_int_int a0 a1 a2 = some r) : Does Try.prog 81 (List.toArray [v0, v1, v2]) w (fun v w' => v = (.bool r) ∧ Grow w w') := by
  refine enter (n := 32) Try.func81 rfl rfl rfl noS [] (Sat.nil _ _) ?_
  refine c_seq ?_
  refine c_region ?_
  refine l_val rfl rfl rfl (r_assign (v := .bool false) rfl) ?_
  refine l_nil ?_
  refine c_seq ?_
  refine c_seq ?_
  refine c_region ?_
  refine l_val rfl rfl rfl (r_move (v := v0) rfl) ?_
  refine l_val rfl rfl rfl (r_lenFN Try.underlying78 rfl f0) ?_
  refine l_val rfl rfl rfl (r_move (v := v1) rfl) ?_
  refine l_val rfl rfl rfl (r_lenFN Try.underlying78 rfl f1) ?_
  refine l_val rfl rfl rfl (r_neq rfl rfl) ?_
  refine l_nil ?_
  refine c_if (b := (decide ((a0.length : Int) ≠ (a1.length : Int)))) rfl (fun hb => ?_) (fun hb => ?_)
  · have H12 := cnd_t hb H; clear H
    refine c_seq ?_
    refine c_region ?_
    refine l_val rfl rfl rfl (r_assign (v := .bool false) rfl) ?_
    refine l_nil ?_
    refine c_ret ?_
    obtain rfl := Option.some.inj H12
    refine ret1 (v := .bool false) rfl rfl (fin rfl)
  · have H13 := cnd_f hb H; clear H
    refine c_skip ?_
    refine c_seq ?_
    refine c_seq ?_
    refine c_region ?_
    refine l_val rfl rfl rfl (r_move (v := v0) rfl) ?_
    refine l_val rfl rfl rfl (r_lenFN Try.underlying78 rfl f0) ?_
    refine l_val rfl rfl rfl (r_move (v := .int .i64 0) rfl) ?_
    refine l_nil ?_
    refine c_block ?_
    refine c_fix (σ := Int) (τ := Unit) (fun next1 s => slices_EqualFunc_int_int_int_int_l1 a0 a1 a2 next1 s) (fun s t => [(1, v1), (2, v2), (15, v0), (16, .int .i64 (a0.length : Int)), (17, .int .i64 s)]) (fun s t => []) (fun s t => True) 0 () [] H13 (by exact trivial) (by exact ⟨rfl, rfl, rfl, rfl, rfl, trivial⟩) (by decide) rfl ?_
    rintro x17_2 _ m1 gg H14 _
    clear H13
    replace H14 : slices_EqualFunc_int_int_int_int_l1 a0 a1 a2 (it (fun next1 s => slices_EqualFunc_int_int_int_int_l1 a0 a1 a2 next1 s) m1) x17_2 = some r := H14
    generalize hn1 : it (fun next1 s => slices_EqualFunc_int_int_int_int_l1 a0 a1 a2 next1 s) m1 = next1 at H14
    refine c_tidyF [(1, v1), (2, v2), (15, v0), (16, .int .i64 (a0.length : Int)), (17, .int .i64 x17_2)] [] rfl rfl ?_
    refine c_seq ?_
    refine c_region ?_
    refine l_val rfl rfl rfl (r_lss rfl rfl) ?_
    refine l_nil ?_
    refine c_seq ?_
    refine c_if (b := (decide (x17_2 < (a0.length : Int)))) rfl (fun hb => ?_) (fun hb => ?_)
    · have H15 := cnd_t hb H14; clear H14
      refine c_skip ?_
      refine c_seq ?_
      refine c_block ?_
      refine c_seq ?_
      refine c_region ?_
      refine l_val rfl rfl rfl (r_move (v := .int .i64 x17_2) rfl) ?_
      obtain ⟨t20, h_t20, H16⟩ := bnd_some H15; clear H15
      refine l_val rfl rfl rfl (r_indexF Try.underlying78 Try.sizeOf67 rfl rfl f0.frs (f0.ix h_t20)) ?_
      refine l_read (fun w hF hS => run_loadG1 (f := (elC h v0 1)) (i := x17_2) (sz := 1) (j := 0) (v := (elH h v0 1 (Int.toNat x17_2) 0)) Try.isAgg67 rfl rfl (f0.frs.row (hw.now hF)) (f0.ix h_t20) (rg_of (cgs_int (f0.at h_t20)) rfl)) rfl rfl rfl ?_
      refine l_val rfl rfl rfl (r_assign (v := .int .i64 x17_2) rfl) ?_
      refine l_val rfl rfl rfl (r_assign (v := (elH h v0 1 (Int.toNat x17_2) 0)) rfl) ?_
      refine l_nil ?_
      refine c_seq ?_
      refine c_region ?_
      refine l_val rfl rfl rfl (r_move (v := v1) rfl) ?_
      refine l_val rfl rfl rfl (r_move (v := .int .i64 x17_2) rfl) ?_
      obtain ⟨t24, h_t24, H17⟩ := bnd_some H16; clear H16
      refine l_val rfl rfl rfl (r_indexF Try.underlying78 Try.sizeOf67 rfl rfl f1.frs (f1.ix h_t24)) ?_
      refine l_read (fun w hF hS => run_loadG1 (f := (elC h v1 1)) (i := x17_2) (sz := 1) (j := 0) (v := (elH h v1 1 (Int.toNat x17_2) 0)) Try.isAgg67 rfl rfl (f1.frs.row (hw.now hF)) (f1.ix h_t24) (rg_of (cgs_int (f1.at h_t24)) rfl)) rfl rfl rfl ?_
      refine l_val rfl rfl rfl (r_assign (v := (elH h v1 1 (Int.toNat x17_2) 0)) rfl) ?_
      refine l_nil ?_
      refine c_seq ?_
      refine c_region ?_
      refine l_val rfl rfl rfl (r_move (v := v2) rfl) ?_
      refine l_val rfl rfl rfl (r_move (v := (elH h v0 1 (Int.toNat x17_2) 0)) rfl) ?_
      refine l_val rfl rfl rfl (r_move (v := (elH h v1 1 (Int.toNat x17_2) 0)) rfl) ?_
      obtain ⟨t29, h_t29, H18⟩ := bnd_some H17; clear H17
      refine l_callV (R := fnR_func_int_int_bool a2) (r := .bool t29) (v := v2) (fun w hF hS => ⟨(f2.mono (hw.now hF)), ⟨t20, _, t24, _, _, ((show FrS h 1 (elH h v0 1 (Int.toNat x17_2) 0) (t20.map e_i64) from (f0.at h_t20)).mono (hw.now hF)), ((show FrS h 1 (elH h v1 1 (Int.toNat x17_2) 0) (t24.map e_i64) from (f1.at h_t24)).mono (hw.now hF)), rfl, h_t29, rfl⟩⟩) rfl rfl rfl rfl ?_
      refine l_val rfl rfl rfl (r_not rfl) ?_
      refine l_nil ?_
      refine c_if (b := (!t29)) rfl (fun hb => ?_) (fun hb => ?_)
      · have H19 := cnd_t hb H18; clear H18
        refine c_seq ?_
        refine c_region ?_
        refine l_val rfl rfl rfl (r_assign (v := .bool false) rfl) ?_
        refine l_nil ?_
        refine c_ret ?_
        obtain rfl := Option.some.inj H19
        refine ret1 (v := .bool false) rfl rfl (fin rfl)
      · have H20 := cnd_f hb H18; clear H18
        refine c_skip ?_
        refine c_region ?_
        obtain ⟨t31, h_t31, H21⟩ := bnd_some H20; clear H20
        refine l_val rfl rfl rfl (r_addG rfl rfl h_t31) ?_
        refine l_val rfl rfl rfl (r_move (v := .int .i64 t31) rfl) ?_
        refine l_nil ?_
        refine c_close t31 () m1 [] (by exact ⟨rfl, rfl, rfl, rfl, rfl, trivial⟩) (by decide) rfl (by exact ⟨(by subst hn1; exact H21), trivial⟩) (Nat.lt_succ_self _)
    · have H22 := cnd_f hb H14; clear H14
      refine c_exit ?_
      refine c_seq ?_
      refine c_region ?_
      refine l_val rfl rfl rfl (r_assign (v := .bool true) rfl) ?_
      refine l_nil ?_
      refine c_ret ?_
      obtain rfl := Option.some.inj H22
      refine ret1 (v := .bool true) rfl rfl (fin rfl)
theorem k45 {a0 : (List (List Int))} {v0 : Value} {a1 : Int} {a2 : (List (List Int))} {v2 : Value} {a3 : Int} {r : Bool} {w : World} {h : Heap} (hw : Know h w noS) (f0 : FrN h 1 v0 gs_int a0) (f2 : FrN h 1 v2 gs_int a2) (H : Law_lists_int a0 a1 a2 a3 = some r) : Does Try.prog 45 (List.toArray [v0, .int .i64 a1, v2, .int .i64 a3]) w (fun v w' => v = (.bool r) ∧ Grow w w') := by
  refine enter (n := 19) Try.func45 rfl rfl rfl noS [] (Sat.nil _ _) ?_
  refine c_seq ?_
  refine c_region ?_
  refine l_val rfl rfl rfl (r_assign (v := .bool false) rfl) ?_
  refine l_nil ?_
  refine c_meet (r := r) (σ := (List (List Int))) (τ := Value) (fun s => Law_lists_int_j1 a0 a1 a3 s) (fun s t => [(0, v0), (1, .int .i64 a1), (2, t), (3, .int .i64 a3)]) (fun s t => []) (fun s t => FrN h 1 t gs_int s) ?_ ?_
  · refine c_seq ?_
    refine c_region ?_
    refine l_val rfl rfl rfl (r_move (v := .int .i64 a3) rfl) ?_
    refine l_val rfl rfl rfl (r_neq rfl rfl) ?_
    refine l_nil ?_
    refine c_if (b := (decide (a3 ≠ 0))) rfl (fun hb => ?_) (fun hb => ?_)
    · have H11 := cnd_t hb H; clear H
      refine c_region ?_
      refine l_val rfl rfl rfl (r_assign (v := .slice none 0 0) rfl) ?_
      refine l_nil ?_
      refine c_close ([] : (List (List Int))) (.slice none 0 0) 0 [] (by exact ⟨rfl, rfl, rfl, rfl, trivial⟩) (by decide) rfl (by exact ⟨H11, (FrN.nil _ _ _)⟩) (Nat.lt_succ_self _)
    · have H12 := cnd_f hb H; clear H
      refine c_skip ?_
      refine c_close a2 v2 0 [] (by exact ⟨rfl, rfl, rfl, rfl, trivial⟩) (by decide) rfl (by exact ⟨H12, f2⟩) (Nat.lt_succ_self _)
  · rintro x2 gv gg H7 gf
    replace H7 : Law_lists_int_j1 a0 a1 a3 x2 = some r := H7
    refine c_tidyF [(0, v0), (1, .int .i64 a1), (2, gv), (3, .int .i64 a3)] [] rfl rfl ?_
    refine c_seq ?_
    refine c_region ?_
    refine l_val rfl rfl rfl (r_move (v := v0) rfl) ?_
    refine l_val rfl rfl rfl (r_move (v := gv) rfl) ?_
    obtain ⟨t13, h_t13, H8⟩ := bnd_some H7; clear H7
    refine l_callG (fun w hF hS => k81 (know_all w) (f0.mono (hw.now hF)) (gf.mono (hw.now hF)) (FnH.mk ⟨35, #[], #[], rfl, Try.call35, fun args2 post2 w2 hk2 hR2 => by obtain ⟨a0_, v0_, a1_, v1_, r_, fa0_, fa1_, rfl, H_, rfl⟩ := hR2; exact k35 (know_all w2) fa0_ fa1_ H_⟩) h_t13) Try.call81 rfl rfl rfl ?_
    refine l_val rfl rfl rfl (r_move (v := .bool t13) rfl) ?_
    refine split (fun hb => ?_) (fun hb => ?_)
    · have H9 := cnd_t hb H8; clear H8
      refine l_val rfl rfl rfl (r_move (v := .int .i64 a1) rfl) ?_
      refine l_val rfl rfl rfl (r_move (v := .int .i64 a3) rfl) ?_
      refine l_val rfl rfl rfl (r_eql rfl rfl) ?_
      refine l_val rfl rfl rfl (r_pickT (v := .bool (decide (a1 = a3))) rfl rfl) ?_
      refine l_val rfl rfl rfl (r_assign (v := .bool (decide (a1 = a3))) rfl) ?_
      refine l_nil ?_
      refine c_ret ?_
      obtain rfl := Option.some.inj H9
      refine ret1 (v := .bool (decide (a1 = a3))) rfl rfl (fin rfl)
    · have H10 := cnd_f hb H8; clear H8
      refine l_passed rfl rfl rfl ?_
      refine l_passed rfl rfl rfl ?_
      refine l_passed rfl rfl rfl ?_
      refine l_val rfl rfl rfl (r_pickF (v := .bool false) rfl rfl) ?_
      refine l_val rfl rfl rfl (r_assign (v := .bool false) rfl) ?_
      refine l_nil ?_
      refine c_ret ?_
      obtain rfl := Option.some.inj H10
      refine ret1 (v := .bool false) rfl rfl (fin rfl)
theorem k46 {a0 : Int} {a1 : Int} {a2 : Int} {a3 : Int} {r : Bool} (H : Law_told_int a0 a1 a2 a3 = some r) : Ret Try.prog 46 [.int .i64 a0, .int .i64 a1, .int .i64 a2, .int .i64 a3] (.bool r) := by
  refine enterRet (n := 21) Try.func46 rfl rfl rfl (fun wd => ?_)
  refine c_seq ?_
  refine c_region ?_
  refine l_val rfl rfl rfl (r_assign (v := .bool false) rfl) ?_
  refine l_nil ?_
  refine c_seq ?_
  refine c_region ?_
  refine l_val rfl rfl rfl (r_assign (v := .int .i64 0) rfl) ?_
  refine l_nil ?_
  refine c_meet (r := r) (σ := Int) (τ := Unit) (fun s => Law_told_int_j1 a0 a1 a3 s) (fun s t => [(0, .int .i64 a0), (1, .int .i64 a1), (2, .int .i64 s), (3, .int .i64 a3)]) (fun s t => []) (fun s t => True) ?_ ?_
  · refine c_seq ?_
    refine c_region ?_
    refine l_val rfl rfl rfl (r_move (v := .int .i64 a3) rfl) ?_
    refine l_val rfl rfl rfl (r_neq rfl rfl) ?_
    refine l_nil ?_
    refine c_if (b := (decide (a3 ≠ 0))) rfl (fun hb => ?_) (fun hb => ?_)
    · have H9 := cnd_t hb H; clear H
      refine c_region ?_
      refine l_val rfl rfl rfl (r_move (v := .int .i64 0) rfl) ?_
      refine l_val rfl rfl rfl (r_assign (v := .int .i64 0) rfl) ?_
      refine l_nil ?_
      refine c_close 0 () 0 [] (by exact ⟨rfl, rfl, rfl, rfl, trivial⟩) (by decide) rfl (by exact ⟨H9, trivial⟩) (Nat.lt_succ_self _)
    · have H10 := cnd_f hb H; clear H
      refine c_skip ?_
      refine c_close a2 () 0 [] (by exact ⟨rfl, rfl, rfl, rfl, trivial⟩) (by decide) rfl (by exact ⟨H10, trivial⟩) (Nat.lt_succ_self _)
  · rintro x2 _ gg H6 _
    replace H6 : Law_told_int_j1 a0 a1 a3 x2 = some r := H6
    refine c_tidyF [(0, .int .i64 a0), (1, .int .i64 a1), (2, .int .i64 x2), (3, .int .i64 a3)] [] rfl rfl ?_
    refine c_seq ?_
    refine c_region ?_
    refine l_val rfl rfl rfl (r_move (v := .int .i64 a0) rfl) ?_
    refine l_val rfl rfl rfl (r_move (v := .int .i64 x2) rfl) ?_
    refine l_val rfl rfl rfl (r_eql rfl rfl) ?_
    refine l_val rfl rfl rfl (r_move (v := .bool (decide (a0 = x2))) rfl) ?_
    refine split (fun hb => ?_) (fun hb => ?_)
    · have H7 := cnd_t hb H6; clear H6
      refine l_val rfl rfl rfl (r_move (v := .int .i64 a1) rfl) ?_
      refine l_val rfl rfl rfl (r_move (v := .int .i64 a3) rfl) ?_
      refine l_val rfl rfl rfl (r_eql rfl rfl) ?_
      refine l_val rfl rfl rfl (r_pickT (v := .bool (decide (a1 = a3))) rfl rfl) ?_
      refine l_val rfl rfl rfl (r_assign (v := .bool (decide (a1 = a3))) rfl) ?_
      refine l_nil ?_
      refine c_ret ?_
      obtain rfl := Option.some.inj H7
      refine ret1 (v := .bool (decide (a1 = a3))) rfl rfl (fin rfl)
    · have H8 := cnd_f hb H6; clear H6
      refine l_passed rfl rfl rfl ?_
      refine l_passed rfl rfl rfl ?_
      refine l_passed rfl rfl rfl ?_
      refine l_val rfl rfl rfl (r_pickF (v := .bool false) rfl rfl) ?_
      refine l_val rfl rfl rfl (r_assign (v := .bool false) rfl) ?_
      refine l_nil ?_
      refine c_ret ?_
      obtain rfl := Option.some.inj H8
      refine ret1 (v := .bool false) rfl rfl (fin rfl)
theorem k6 {a0 : (List T_api_Place)} {v0 : Value} {a1 : Int} {a2 : T_api_Place} {r : Bool} {w : World} {h : Heap} (hw : Know h w noS) (f0 : FrS h 2 v0 (a0.map e_api_Place)) (H : Law_WhereLists a0 a1 a2 = some r) : Does Try.prog 6 (List.toArray [v0, .int .i64 a1, .agg #[.int .i64 a2.Lat, .int .i64 a2.Lon]]) w (fun v w' => v = (.bool r) ∧ Grow w w') := by
  refine enter (n := 118) Try.func6 rfl rfl rfl noS [] (Sat.nil _ _) ?_
  refine c_poolNew noH ?_
  refine c_seq ?_
  refine c_region ?_
  refine l_box (cs := [.int .i64 a2.Lat, .int .i64 a2.Lon]) rfl rfl rfl rfl (fun b4 => ?_)
  refine l_val rfl rfl rfl (r_assign (v := .bool false) rfl) ?_
  refine l_nil ?_
  refine c_seq ?_
  refine c_region ?_
  refine l_val rfl rfl rfl (r_move (v := v0) rfl) ?_
  refine l_val rfl rfl rfl (r_move (v := .int .i64 a1) rfl) ?_
  obtain ⟨t27, h_t27, H43⟩ := bnd_some H; clear H
  refine l_make (makes_call (rds := []) (G := fun x : (Option Addr × Nat) => .tuple #[.slice x.1 t27.1.length x.2, .int .i64 t27.2]) (C := fun x : (Option Addr × Nat) => roD 1 gs_int (.slice x.1 t27.1.length x.2) t27.1.length t27.1) (fun w L' hF hS hi => k36 (know_all w) (f0.mono (hw.now hF)) h_t27) Try.call36 rfl) rfl rfl rfl (fun p => ?_)
  refine c_roD 2 rfl (fun hp css hn pf => ?_)
  refine c_split 2 rfl ?_
  refine c_poolJoin 0 2 rfl rfl (by decide) (fun _ _ => noH_le) (fun hp_2 hle hle_2 => ?_)
  refine l_val rfl rfl rfl (r_move (v := .tuple #[.slice p.1 t27.1.length p.2, .int .i64 t27.2]) rfl) ?_
  refine l_val rfl rfl rfl (r_extract (v := .slice p.1 t27.1.length p.2) rfl rfl) ?_
  refine l_val rfl rfl rfl (r_extract (v := .int .i64 t27.2) rfl rfl) ?_
  refine l_val rfl rfl rfl (r_assign (v := .slice p.1 t27.1.length p.2) rfl) ?_
  refine l_val rfl rfl rfl (r_assign (v := .int .i64 t27.2) rfl) ?_
  refine l_nil ?_
  refine c_seq ?_
  refine c_region ?_
  refine l_val rfl rfl rfl (r_move (v := v0) rfl) ?_
  obtain ⟨t32, h_t32, H44⟩ := bnd_some H43; clear H43
  refine l_callG (fun w hF hS => k37 (know_all w) (f0.mono (hw.now hF)) h_t32) Try.call37 rfl rfl rfl ?_
  refine l_val rfl rfl rfl (r_move (v := .tuple #[.int .i64 t32.1, .int .i64 t32.2]) rfl) ?_
  refine l_val rfl rfl rfl (r_extract (v := .int .i64 t32.1) rfl rfl) ?_
  refine l_val rfl rfl rfl (r_extract (v := .int .i64 t32.2) rfl rfl) ?_
  refine l_val rfl rfl rfl (r_assign (v := .int .i64 t32.1) rfl) ?_
  refine l_val rfl rfl rfl (r_assign (v := .int .i64 t32.2) rfl) ?_
  refine l_nil ?_
  refine c_seq ?_
  refine c_region ?_
  refine l_val rfl rfl rfl (r_move (v := v0) rfl) ?_
  refine l_loadN (i := 1) (vs := [.int .i64 a2.Lat, .int .i64 a2.Lon]) Try.isAgg71 Try.sizeOf71 rfl rfl rfl rfl rfl ?_
  obtain ⟨t38, h_t38, H45⟩ := bnd_some H44; clear H44
  refine l_callG (fun w hF hS => k38 (know_all w) (f0.mono (hw.now hF)) h_t38) Try.call38 rfl rfl rfl ?_
  refine l_val rfl rfl rfl (r_move (v := .tuple #[.int .i64 t38.1, .int .i64 t38.2.1, .int .i64 t38.2.2]) rfl) ?_
  refine l_val rfl rfl rfl (r_extract (v := .int .i64 t38.1) rfl rfl) ?_
  refine l_val rfl rfl rfl (r_extract (v := .int .i64 t38.2.1) rfl rfl) ?_
  refine l_val rfl rfl rfl (r_extract (v := .int .i64 t38.2.2) rfl rfl) ?_
  refine l_val rfl rfl rfl (r_assign (v := .int .i64 t38.1) rfl) ?_
  refine l_val rfl rfl rfl (r_assign (v := .int .i64 t38.2.1) rfl) ?_
  refine l_val rfl rfl rfl (r_assign (v := .int .i64 t38.2.2) rfl) ?_
  refine l_nil ?_
  refine c_seq ?_
  refine c_region ?_
  refine l_val rfl rfl rfl (r_move (v := v0) rfl) ?_
  obtain ⟨t43, h_t43, H46⟩ := bnd_some H45; clear H45
  refine l_callG (fun w hF hS => k39 (know_all w) (f0.mono (hw.now hF)) h_t43) Try.call39 rfl rfl rfl ?_
  refine l_val rfl rfl rfl (r_move (v := .int .i64 a1) rfl) ?_
  obtain ⟨t45, h_t45, H47⟩ := bnd_some H46; clear H46
  refine l_call (k40 h_t45) Try.call40 rfl rfl rfl ?_
  refine l_buildSlice (vs := [.int .i64 t43, .int .i64 t45]) (cs := [.int .i64 t43, .int .i64 t45]) Try.underlying95 Try.sizeOf25 Try.zeroValue25 rfl rfl rfl rfl rfl rfl rfl (fun b5 => ?_)
  obtain ⟨t47, h_t47, H48⟩ := bnd_some H47; clear H47
  refine l_callG (fun w hF hS => k10 (know_all w) (frs_box (i := 4) (xs := ([t43, t45] : List Int)) (f := e_i64) hS rfl rfl rfl rfl rfl) h_t47) Try.call10 rfl rfl rfl ?_
  refine l_val rfl rfl rfl (r_assign (v := .int .i64 t47) rfl) ?_
  refine l_nil ?_
  refine c_seq ?_
  refine c_region ?_
  refine l_val rfl rfl rfl (r_move (v := v0) rfl) ?_
  obtain ⟨t49, h_t49, H49⟩ := bnd_some H48; clear H48
  refine l_callG (fun w hF hS => k39 (know_all w) (f0.mono (hw.now hF)) h_t49) Try.call39 rfl rfl rfl ?_
  refine l_val rfl rfl rfl (r_assign (v := .int .i64 t49) rfl) ?_
  refine l_nil ?_
  refine c_seq ?_
  exact c_regionD (Kd.p :: Kd.p :: Kd.p :: Kd.d [] _ :: Kd.p :: Kd.p :: Kd.p :: Kd.d [] _ :: Kd.d [1] _ :: Kd.d [] _ :: Kd.p :: Kd.ns 5 [_, _, _, _] 25 4 :: Kd.d [5] _ :: Kd.p :: []) 1 mixed (by
    refine d_val rfl rfl (r_move (v := v0) rfl) ?_
    refine d_val rfl rfl (r_lenF Try.underlying65 rfl f0 rfl) ?_
    refine d_val rfl rfl (r_gtr rfl rfl) ?_
    have h_t53 := bnd_val H49
    have H50 := bnd_rest H49
    refine d_call (k12 h_t53) Try.call12 rfl rfl ?_
    refine d_val rfl rfl (r_move (v := v0) rfl) ?_
    refine d_val rfl rfl (r_lenF Try.underlying65 rfl f0 rfl) ?_
    refine d_val rfl rfl (r_leq rfl rfl) ?_
    have h_t57 := bnd_val H50
    have H51 := bnd_rest H50
    refine d_call (k12 h_t57) Try.call12 rfl rfl ?_
    refine d_loadN (i := 1) (vs := [.int .i64 a2.Lat, .int .i64 a2.Lon]) Try.isAgg71 Try.sizeOf71 rfl rfl rfl rfl ?_
    have h_t59 := bnd_val H51
    have H52 := bnd_rest H51
    refine d_call (k41 h_t59) Try.call41 rfl rfl ?_
    refine d_val rfl rfl (r_move (v := .int .i64 t49) rfl) ?_
    refine d_newS rfl rfl (run_buildSlice (vs := [.int .i64 (val (Law_unless (decide (0 < (a0.length : Int))) 7)), .int .i64 (val (Law_unless (decide ((a0.length : Int) ≤ 1000)) 4)), .int .i64 (val (R_PlaceFault a2)), .int .i64 t49]) (cs := [.int .i64 (val (Law_unless (decide (0 < (a0.length : Int))) 7)), .int .i64 (val (Law_unless (decide ((a0.length : Int) ≤ 1000)) 4)), .int .i64 (val (R_PlaceFault a2)), .int .i64 t49]) Try.underlying95 Try.sizeOf25 Try.zeroValue25 rfl rfl rfl rfl rfl) rfl (fun b6 => ?_)
    have h_t62 := bnd_val H52
    have H53 := bnd_rest H52
    refine d_callD (fun w L' hF hS hi => k10 (know_all w) (frs_box (i := 5) (xs := ([(val (Law_unless (decide (0 < (a0.length : Int))) 7)), (val (Law_unless (decide ((a0.length : Int) ≤ 1000)) 4)), (val (R_PlaceFault a2)), t49] : List Int)) (f := e_i64) hS ((hi 5 (by simp)).trans rfl) rfl rfl rfl rfl) h_t62) Try.call10 rfl rfl ?_
    refine d_val rfl rfl (r_assign (v := .int .i64 (val (Law_first ([(val (Law_unless (decide (0 < (a0.length : Int))) 7)), (val (Law_unless (decide ((a0.length : Int) ≤ 1000)) 4)), (val (R_PlaceFault a2)), t49] : List Int)))) rfl) ?_
    refine d_nil ?_
    refine c_seq ?_
    refine c_region ?_
    refine l_val rfl rfl rfl (r_assign (v := .slice none 0 0) rfl) ?_
    refine l_nil ?_
    refine c_meet (r := r) (σ := (List (List Int))) (τ := Heap × (List (List Value)) × (Option Addr × Nat)) (fun s => Law_WhereLists_j1 a0 a2 t27 t32 t38 t47 t49 (val (Law_first ([(val (Law_unless (decide (0 < (a0.length : Int))) 7)), (val (Law_unless (decide ((a0.length : Int) ≤ 1000)) 4)), (val (R_PlaceFault a2)), t49] : List Int))) s) (fun s t => [(0, v0), (5, .pointer (some ⟨b4, 0, none⟩)), (7, .slice p.1 t27.1.length p.2), (8, .int .i64 t27.2), (9, .int .i64 t32.1), (10, .int .i64 t32.2), (11, .int .i64 t38.1), (12, .int .i64 t38.2.1), (13, .int .i64 t38.2.2), (14, .int .i64 t47), (15, .int .i64 t49), (16, .int .i64 (val (Law_first ([(val (Law_unless (decide (0 < (a0.length : Int))) 7)), (val (Law_unless (decide ((a0.length : Int) ≤ 1000)) 4)), (val (R_PlaceFault a2)), t49] : List Int)))), (17, .slice t.2.2.1 t.2.1.length t.2.2.2)]) (fun s t => [poolC noH t.1, cellsC b4 [.int .i64 a2.Lat, .int .i64 a2.Lon] 71, roV 1 (.slice p.1 t27.1.length p.2) t27.1.length (css.map idC), rowV 67 1 (.slice t.2.2.1 t.2.1.length t.2.2.2) t.2.1.length (t.2.1.map idC)]) (fun s t => AllC gs_int t.1 1 css t27.1 ∧ AllC gs_int t.1 1 t.2.1 s) ?_ ?_
    · refine c_seq ?_
      refine c_region ?_
      refine l_val rfl rfl rfl (r_move (v := .int .i64 t47) rfl) ?_
      refine l_val rfl rfl rfl (r_eql rfl rfl) ?_
      refine l_nil ?_
      refine c_if (b := (decide (t47 = 0))) rfl (fun hb => ?_) (fun hb => ?_)
      · have H82 := cnd_t hb H53; clear H53
        refine c_region ?_
        refine l_val rfl rfl rfl (r_move (v := v0) rfl) ?_
        refine l_val rfl rfl rfl (r_move (v := .int .i64 a1) rfl) ?_
        obtain ⟨t67, h_t67, H83⟩ := bnd_some H82; clear H82
        refine l_make (makes_call (rds := []) (G := fun x : (Option Addr × Nat) => .slice x.1 t67.length x.2) (C := fun x : (Option Addr × Nat) => rowD 67 1 gs_int (.slice x.1 t67.length x.2) t67.length t67) (fun w L' hF hS hi => k42 (know_all w) (f0.mono (hw.now hF)) h_t67) Try.call42 rfl) rfl rfl rfl (fun p_3 => ?_)
        refine c_rowD 6 rfl (fun hp_4 css_4 hn_2 pf_4 => ?_)
        rw [hn_2]
        refine c_split 6 rfl ?_
        refine c_poolJoin 0 6 rfl rfl (by decide) (fun _ _ => noH_le) (fun hp_5 hle_3 hle_4 => ?_)
        refine l_val rfl rfl rfl (r_assign (v := .slice p_3.1 css_4.length p_3.2) rfl) ?_
        refine l_nil ?_
        refine c_close t67 (hp_5, css_4, p_3) 0 [0, 1, 3, 7] (by exact ⟨rfl, rfl, rfl, rfl, rfl, rfl, rfl, rfl, rfl, rfl, rfl, rfl, rfl, trivial⟩) (by decide) rfl (by exact ⟨H83, ⟨((pf.mono hle_2).mono hle_3), (pf_4.mono hle_4)⟩⟩) (Nat.lt_succ_self _)
      · have H84 := cnd_f hb H53; clear H53
        refine c_skip ?_
        refine c_nilRow 67 1 ?_
        refine c_close ([] : List (List Int)) (hp_2, ([] : List (List Value)), ((none, 0) : Option Addr × Nat)) 0 [0, 1, 3, 6] (by exact ⟨rfl, rfl, rfl, rfl, rfl, rfl, rfl, rfl, rfl, rfl, rfl, rfl, rfl, trivial⟩) (by decide) rfl (by exact ⟨H84, ⟨(pf.mono hle_2), (AllC.nil (G := gs_int) (h := hp_2) (sz := 1))⟩⟩) (Nat.lt_succ_self _)
    · rintro l_2 ⟨hp_3, css_3, p_2⟩ gg H54 ⟨pf_2, pf_3⟩
      replace H54 : Law_WhereLists_j1 a0 a2 t27 t32 t38 t47 t49 (val (Law_first ([(val (Law_unless (decide (0 < (a0.length : Int))) 7)), (val (Law_unless (decide ((a0.length : Int) ≤ 1000)) 4)), (val (R_PlaceFault a2)), t49] : List Int))) l_2 = some r := H54
      refine c_tidyF [(0, v0), (5, .pointer (some ⟨b4, 0, none⟩)), (7, .slice p.1 t27.1.length p.2), (8, .int .i64 t27.2), (9, .int .i64 t32.1), (10, .int .i64 t32.2), (11, .int .i64 t38.1), (12, .int .i64 t38.2.1), (13, .int .i64 t38.2.2), (14, .int .i64 t47), (15, .int .i64 t49), (16, .int .i64 (val (Law_first ([(val (Law_unless (decide (0 < (a0.length : Int))) 7)), (val (Law_unless (decide ((a0.length : Int) ≤ 1000)) 4)), (val (R_PlaceFault a2)), t49] : List Int)))), (17, .slice p_2.1 css_3.length p_2.2)] [poolC noH hp_3, cellsC b4 [.int .i64 a2.Lat, .int .i64 a2.Lon] 71, roV 1 (.slice p.1 t27.1.length p.2) t27.1.length (css.map idC), rowV 67 1 (.slice p_2.1 css_3.length p_2.2) css_3.length (css_3.map idC)] rfl rfl ?_
      refine c_seq ?_
      refine c_region ?_
      refine l_val rfl rfl rfl (r_assign (v := .int .i64 0) rfl) ?_
      refine l_val rfl rfl rfl (r_assign (v := .int .i64 0) rfl) ?_
      refine l_val rfl rfl rfl (r_assign (v := .int .i64 0) rfl) ?_
      refine l_nil ?_
      refine c_meet (r := r) (σ := Int) (τ := Unit) (fun s => Law_WhereLists_j2 a0 a2 t27 t32 t38 t47 t49 (val (Law_first ([(val (Law_unless (decide (0 < (a0.length : Int))) 7)), (val (Law_unless (decide ((a0.length : Int) ≤ 1000)) 4)), (val (R_PlaceFault a2)), t49] : List Int))) l_2 s) (fun s t => [(0, v0), (5, .pointer (some ⟨b4, 0, none⟩)), (7, .slice p.1 t27.1.length p.2), (8, .int .i64 t27.2), (9, .int .i64 t32.1), (10, .int .i64 t32.2), (11, .int .i64 t38.1), (12, .int .i64 t38.2.1), (13, .int .i64 t38.2.2), (14, .int .i64 t47), (15, .int .i64 t49), (16, .int .i64 (val (Law_first ([(val (Law_unless (decide (0 < (a0.length : Int))) 7)), (val (Law_unless (decide ((a0.length : Int) ≤ 1000)) 4)), (val (R_PlaceFault a2)), t49] : List Int)))), (17, .slice p_2.1 css_3.length p_2.2), (18, .int .i64 s), (19, .int .i64 0), (20, .int .i64 0)]) (fun s t => [poolC noH hp_3, cellsC b4 [.int .i64 a2.Lat, .int .i64 a2.Lon] 71, roV 1 (.slice p.1 t27.1.length p.2) t27.1.length (css.map idC), rowV 67 1 (.slice p_2.1 css_3.length p_2.2) css_3.length (css_3.map idC)]) (fun s t => True) ?_ ?_
      · refine c_seq ?_
        refine c_region ?_
        refine l_val rfl rfl rfl (r_move (v := .int .i64 t49) rfl) ?_
        refine l_val rfl rfl rfl (r_eql rfl rfl) ?_
        refine l_nil ?_
        refine c_if (b := (decide (t49 = 0))) rfl (fun hb => ?_) (fun hb => ?_)
        · have H79 := cnd_t hb H54; clear H54
          refine c_region ?_
          refine l_val rfl rfl rfl (r_move (v := v0) rfl) ?_
          obtain ⟨t71, h_t71, H80⟩ := bnd_some H79; clear H79
          refine l_callG (fun w hF hS => k43 (know_all w) (f0.mono (hw.now hF)) h_t71) Try.call43 rfl rfl rfl ?_
          refine l_val rfl rfl rfl (r_assign (v := .int .i64 t71) rfl) ?_
          refine l_nil ?_
          refine c_close t71 () 0 [0, 1, 2, 3] (by exact ⟨rfl, rfl, rfl, rfl, rfl, rfl, rfl, rfl, rfl, rfl, rfl, rfl, rfl, rfl, rfl, rfl, trivial⟩) (by decide) rfl (by exact ⟨H80, trivial⟩) (Nat.lt_succ_self _)
        · have H81 := cnd_f hb H54; clear H54
          refine c_skip ?_
          refine c_close 0 () 0 [0, 1, 2, 3] (by exact ⟨rfl, rfl, rfl, rfl, rfl, rfl, rfl, rfl, rfl, rfl, rfl, rfl, rfl, rfl, rfl, rfl, trivial⟩) (by decide) rfl (by exact ⟨H81, trivial⟩) (Nat.lt_succ_self _)
      · rintro x18 _ gg H55 _
        replace H55 : Law_WhereLists_j2 a0 a2 t27 t32 t38 t47 t49 (val (Law_first ([(val (Law_unless (decide (0 < (a0.length : Int))) 7)), (val (Law_unless (decide ((a0.length : Int) ≤ 1000)) 4)), (val (R_PlaceFault a2)), t49] : List Int))) l_2 x18 = some r := H55
        refine c_tidyF [(0, v0), (5, .pointer (some ⟨b4, 0, none⟩)), (7, .slice p.1 t27.1.length p.2), (8, .int .i64 t27.2), (9, .int .i64 t32.1), (10, .int .i64 t32.2), (11, .int .i64 t38.1), (12, .int .i64 t38.2.1), (13, .int .i64 t38.2.2), (14, .int .i64 t47), (15, .int .i64 t49), (16, .int .i64 (val (Law_first ([(val (Law_unless (decide (0 < (a0.length : Int))) 7)), (val (Law_unless (decide ((a0.length : Int) ≤ 1000)) 4)), (val (R_PlaceFault a2)), t49] : List Int)))), (17, .slice p_2.1 css_3.length p_2.2), (18, .int .i64 x18), (19, .int .i64 0), (20, .int .i64 0)] [poolC noH hp_3, cellsC b4 [.int .i64 a2.Lat, .int .i64 a2.Lon] 71, roV 1 (.slice p.1 t27.1.length p.2) t27.1.length (css.map idC), rowV 67 1 (.slice p_2.1 css_3.length p_2.2) css_3.length (css_3.map idC)] rfl rfl ?_
        refine c_meet (r := r) (σ := Int × Int) (τ := Unit) (fun s => Law_WhereLists_j3 t27 t32 t38 t47 t49 (val (Law_first ([(val (Law_unless (decide (0 < (a0.length : Int))) 7)), (val (Law_unless (decide ((a0.length : Int) ≤ 1000)) 4)), (val (R_PlaceFault a2)), t49] : List Int))) l_2 x18 s.1 s.2) (fun s t => [(7, .slice p.1 t27.1.length p.2), (8, .int .i64 t27.2), (9, .int .i64 t32.1), (10, .int .i64 t32.2), (11, .int .i64 t38.1), (12, .int .i64 t38.2.1), (13, .int .i64 t38.2.2), (14, .int .i64 t47), (15, .int .i64 t49), (16, .int .i64 (val (Law_first ([(val (Law_unless (decide (0 < (a0.length : Int))) 7)), (val (Law_unless (decide ((a0.length : Int) ≤ 1000)) 4)), (val (R_PlaceFault a2)), t49] : List Int)))), (17, .slice p_2.1 css_3.length p_2.2), (18, .int .i64 x18), (19, .int .i64 s.1), (20, .int .i64 s.2)]) (fun s t => [poolC noH hp_3, roV 1 (.slice p.1 t27.1.length p.2) t27.1.length (css.map idC), rowV 67 1 (.slice p_2.1 css_3.length p_2.2) css_3.length (css_3.map idC)]) (fun s t => True) ?_ ?_
        · refine c_seq ?_
          refine c_region ?_
          refine l_val rfl rfl rfl (r_move (v := .int .i64 (val (Law_first ([(val (Law_unless (decide (0 < (a0.length : Int))) 7)), (val (Law_unless (decide ((a0.length : Int) ≤ 1000)) 4)), (val (R_PlaceFault a2)), t49] : List Int)))) rfl) ?_
          refine l_val rfl rfl rfl (r_eql rfl rfl) ?_
          refine l_nil ?_
          refine c_if (b := (decide ((val (Law_first ([(val (Law_unless (decide (0 < (a0.length : Int))) 7)), (val (Law_unless (decide ((a0.length : Int) ≤ 1000)) 4)), (val (R_PlaceFault a2)), t49] : List Int))) = 0))) rfl (fun hb => ?_) (fun hb => ?_)
          · have H66 := cnd_t hb H55; clear H55
            refine c_seq ?_
            refine c_region ?_
            refine l_val rfl rfl rfl (r_move (v := v0) rfl) ?_
            refine l_val rfl rfl rfl (r_lenF Try.underlying65 rfl f0 rfl) ?_
            refine l_val rfl rfl rfl (r_move (v := .int .i64 0) rfl) ?_
            refine l_nil ?_
            refine c_block ?_
            refine c_fix (σ := Int × Int × Int) (τ := Unit) (fun next4 s => Law_WhereLists_l4 a0 a2 t27 t32 t38 t47 t49 (val (Law_first ([(val (Law_unless (decide (0 < (a0.length : Int))) 7)), (val (Law_unless (decide ((a0.length : Int) ≤ 1000)) 4)), (val (R_PlaceFault a2)), t49] : List Int))) l_2 x18 next4 s.1 s.2.1 s.2.2) (fun s t => [(5, .pointer (some ⟨b4, 0, none⟩)), (7, .slice p.1 t27.1.length p.2), (8, .int .i64 t27.2), (9, .int .i64 t32.1), (10, .int .i64 t32.2), (11, .int .i64 t38.1), (12, .int .i64 t38.2.1), (13, .int .i64 t38.2.2), (14, .int .i64 t47), (15, .int .i64 t49), (16, .int .i64 (val (Law_first ([(val (Law_unless (decide (0 < (a0.length : Int))) 7)), (val (Law_unless (decide ((a0.length : Int) ≤ 1000)) 4)), (val (R_PlaceFault a2)), t49] : List Int)))), (17, .slice p_2.1 css_3.length p_2.2), (18, .int .i64 x18), (19, .int .i64 s.1), (20, .int .i64 s.2.1), (74, v0), (75, .int .i64 (a0.length : Int)), (76, .int .i64 s.2.2)]) (fun s t => [poolC noH hp_3, cellsC b4 [.int .i64 a2.Lat, .int .i64 a2.Lon] 71, roV 1 (.slice p.1 t27.1.length p.2) t27.1.length (css.map idC), rowV 67 1 (.slice p_2.1 css_3.length p_2.2) css_3.length (css_3.map idC)]) (fun s t => True) (0, 0, 0) () [0, 1, 2, 3] H66 (by exact trivial) (by exact ⟨rfl, rfl, rfl, rfl, rfl, rfl, rfl, rfl, rfl, rfl, rfl, rfl, rfl, rfl, rfl, rfl, rfl, rfl, trivial⟩) (by decide) rfl ?_
            rintro ⟨x19_3, x20_4, x76_3⟩ _ m4 gg H67 _
            clear H66
            replace H67 : Law_WhereLists_l4 a0 a2 t27 t32 t38 t47 t49 (val (Law_first ([(val (Law_unless (decide (0 < (a0.length : Int))) 7)), (val (Law_unless (decide ((a0.length : Int) ≤ 1000)) 4)), (val (R_PlaceFault a2)), t49] : List Int))) l_2 x18 (it (fun next4 s => Law_WhereLists_l4 a0 a2 t27 t32 t38 t47 t49 (val (Law_first ([(val (Law_unless (decide (0 < (a0.length : Int))) 7)), (val (Law_unless (decide ((a0.length : Int) ≤ 1000)) 4)), (val (R_PlaceFault a2)), t49] : List Int))) l_2 x18 next4 s.1 s.2.1 s.2.2) m4) x19_3 x20_4 x76_3 = some r := H67
            generalize hn4 : it (fun next4 s => Law_WhereLists_l4 a0 a2 t27 t32 t38 t47 t49 (val (Law_first ([(val (Law_unless (decide (0 < (a0.length : Int))) 7)), (val (Law_unless (decide ((a0.length : Int) ≤ 1000)) 4)), (val (R_PlaceFault a2)), t49] : List Int))) l_2 x18 next4 s.1 s.2.1 s.2.2) m4 = next4 at H67
            refine c_tidyF [(5, .pointer (some ⟨b4, 0, none⟩)), (7, .slice p.1 t27.1.length p.2), (8, .int .i64 t27.2), (9, .int .i64 t32.1), (10, .int .i64 t32.2), (11, .int .i64 t38.1), (12, .int .i64 t38.2.1), (13, .int .i64 t38.2.2), (14, .int .i64 t47), (15, .int .i64 t49), (16, .int .i64 (val (Law_first ([(val (Law_unless (decide (0 < (a0.length : Int))) 7)), (val (Law_unless (decide ((a0.length : Int) ≤ 1000)) 4)), (val (R_PlaceFault a2)), t49] : List Int)))), (17, .slice p_2.1 css_3.length p_2.2), (18, .int .i64 x18), (19, .int .i64 x19_3), (20, .int .i64 x20_4), (74, v0), (75, .int .i64 (a0.length : Int)), (76, .int .i64 x76_3)] [poolC noH hp_3, cellsC b4 [.int .i64 a2.Lat, .int .i64 a2.Lon] 71, roV 1 (.slice p.1 t27.1.length p.2) t27.1.length (css.map idC), rowV 67 1 (.slice p_2.1 css_3.length p_2.2) css_3.length (css_3.map idC)] rfl rfl ?_
            refine c_seq ?_
            refine c_region ?_
            refine l_val rfl rfl rfl (r_lss rfl rfl) ?_
            refine l_nil ?_
            refine c_seq ?_
            refine c_if (b := (decide (x76_3 < (a0.length : Int)))) rfl (fun hb => ?_) (fun hb => ?_)
            · have H68 := cnd_t hb H67; clear H67
              refine c_skip ?_
              refine c_meet (r := r) (σ := Int × Int) (τ := Unit) (fun s => Law_WhereLists_j5 x76_3 next4 s.1 s.2) (fun s t => [(5, .pointer (some ⟨b4, 0, none⟩)), (7, .slice p.1 t27.1.length p.2), (8, .int .i64 t27.2), (9, .int .i64 t32.1), (10, .int .i64 t32.2), (11, .int .i64 t38.1), (12, .int .i64 t38.2.1), (13, .int .i64 t38.2.2), (14, .int .i64 t47), (15, .int .i64 t49), (16, .int .i64 (val (Law_first ([(val (Law_unless (decide (0 < (a0.length : Int))) 7)), (val (Law_unless (decide ((a0.length : Int) ≤ 1000)) 4)), (val (R_PlaceFault a2)), t49] : List Int)))), (17, .slice p_2.1 css_3.length p_2.2), (18, .int .i64 x18), (19, .int .i64 s.1), (20, .int .i64 s.2), (74, v0), (75, .int .i64 (a0.length : Int)), (76, .int .i64 x76_3)]) (fun s t => [poolC noH hp_3, cellsC b4 [.int .i64 a2.Lat, .int .i64 a2.Lon] 71, roV 1 (.slice p.1 t27.1.length p.2) t27.1.length (css.map idC), rowV 67 1 (.slice p_2.1 css_3.length p_2.2) css_3.length (css_3.map idC)]) (fun s t => True) ?_ ?_
              · refine c_block ?_
                refine c_seq ?_
                refine c_region ?_
                refine l_val rfl rfl rfl (r_move (v := .int .i64 x76_3) rfl) ?_
                obtain ⟨t79, h_t79, H71⟩ := bnd_some H68; clear H68
                refine l_val rfl rfl rfl (r_indexF Try.underlying65 Try.sizeOf71 rfl rfl f0 h_t79) ?_
                refine l_read (fun w hF hS => run_loadGN (f := e_api_Place) (i := x76_3) (sz := 2) (j := 0) (vs := [.int .i64 t79.Lat, .int .i64 t79.Lon]) Try.isAgg71 Try.sizeOf71 rfl rfl (f0.row (hw.now hF)) h_t79 rfl) rfl rfl rfl ?_
                refine l_alloc (cs := [.int .i64 0, .int .i64 0]) Try.zeroValue71 rfl rfl rfl (fun b7 => ?_)
                refine l_val rfl rfl rfl (r_assign (v := .int .i64 x76_3) rfl) ?_
                refine l_store (i := 4) (vs := [.int .i64 t79.Lat, .int .i64 t79.Lon]) (cs' := [.int .i64 t79.Lat, .int .i64 t79.Lon]) Try.sizeOf71 rfl rfl rfl rfl rfl rfl rfl rfl rfl ?_
                refine l_nil ?_
                refine c_seq ?_
                refine c_region ?_
                refine l_loadN (i := 1) (vs := [.int .i64 a2.Lat, .int .i64 a2.Lon]) Try.isAgg71 Try.sizeOf71 rfl rfl rfl rfl rfl ?_
                refine l_loadN (i := 4) (vs := [.int .i64 t79.Lat, .int .i64 t79.Lon]) Try.isAgg71 Try.sizeOf71 rfl rfl rfl rfl rfl ?_
                obtain ⟨t83, h_t83, H72⟩ := bnd_some H71; clear H71
                refine l_call (k44 h_t83) Try.call44 rfl rfl rfl ?_
                refine l_val rfl rfl rfl (r_assign (v := .int .i64 t83) rfl) ?_
                refine l_nil ?_
                refine c_seq ?_
                refine c_region ?_
                refine l_val rfl rfl rfl (r_move (v := .int .i64 x76_3) rfl) ?_
                refine l_val rfl rfl rfl (r_eql rfl rfl) ?_
                refine l_val rfl rfl rfl (r_move (v := .bool (decide (x76_3 = 0))) rfl) ?_
                refine split (fun hb => ?_) (fun hb => ?_)
                · have H73 := cnd_t hb H72; clear H72
                  refine l_passed rfl rfl rfl ?_
                  refine l_passed rfl rfl rfl ?_
                  refine l_passed rfl rfl rfl ?_
                  refine l_val rfl rfl rfl (r_pickT (v := .bool true) rfl rfl) ?_
                  refine l_nil ?_
                  refine c_true rfl ?_
                  refine c_region ?_
                  refine l_val rfl rfl rfl (r_move (v := .int .i64 x76_3) rfl) ?_
                  refine l_val rfl rfl rfl (r_move (v := .int .i64 t83) rfl) ?_
                  refine l_val rfl rfl rfl (r_assign (v := .int .i64 x76_3) rfl) ?_
                  refine l_val rfl rfl rfl (r_assign (v := .int .i64 t83) rfl) ?_
                  refine l_nil ?_
                  refine c_close (x76_3, t83) () 0 [0, 1, 2, 3] (by exact ⟨rfl, rfl, rfl, rfl, rfl, rfl, rfl, rfl, rfl, rfl, rfl, rfl, rfl, rfl, rfl, rfl, rfl, rfl, trivial⟩) (by decide) rfl (by exact ⟨H73, trivial⟩) (Nat.lt_succ_self _)
                · have H74 := cnd_f hb H72; clear H72
                  refine l_val rfl rfl rfl (r_move (v := .int .i64 t83) rfl) ?_
                  refine l_val rfl rfl rfl (r_move (v := .int .i64 x20_4) rfl) ?_
                  refine l_val rfl rfl rfl (r_lss rfl rfl) ?_
                  refine l_val rfl rfl rfl (r_pickF (v := .bool (decide (t83 < x20_4))) rfl rfl) ?_
                  refine l_nil ?_
                  refine c_if (b := (decide (t83 < x20_4))) rfl (fun hb => ?_) (fun hb => ?_)
                  · have H75 := cnd_t hb H74; clear H74
                    refine c_region ?_
                    refine l_val rfl rfl rfl (r_move (v := .int .i64 x76_3) rfl) ?_
                    refine l_val rfl rfl rfl (r_move (v := .int .i64 t83) rfl) ?_
                    refine l_val rfl rfl rfl (r_assign (v := .int .i64 x76_3) rfl) ?_
                    refine l_val rfl rfl rfl (r_assign (v := .int .i64 t83) rfl) ?_
                    refine l_nil ?_
                    refine c_close (x76_3, t83) () 0 [0, 1, 2, 3] (by exact ⟨rfl, rfl, rfl, rfl, rfl, rfl, rfl, rfl, rfl, rfl, rfl, rfl, rfl, rfl, rfl, rfl, rfl, rfl, trivial⟩) (by decide) rfl (by exact ⟨H75, trivial⟩) (Nat.lt_succ_self _)
                  · have H76 := cnd_f hb H74; clear H74
                    refine c_skip ?_
                    refine c_close (x19_3, x20_4) () 0 [0, 1, 2, 3] (by exact ⟨rfl, rfl, rfl, rfl, rfl, rfl, rfl, rfl, rfl, rfl, rfl, rfl, rfl, rfl, rfl, rfl, rfl, rfl, trivial⟩) (by decide) rfl (by exact ⟨H76, trivial⟩) (Nat.lt_succ_self _)
              · rintro ⟨x19_4, x20_5⟩ _ gg H69 _
                replace H69 : Law_WhereLists_j5 x76_3 next4 x19_4 x20_5 = some r := H69
                refine c_tidyF [(5, .pointer (some ⟨b4, 0, none⟩)), (7, .slice p.1 t27.1.length p.2), (8, .int .i64 t27.2), (9, .int .i64 t32.1), (10, .int .i64 t32.2), (11, .int .i64 t38.1), (12, .int .i64 t38.2.1), (13, .int .i64 t38.2.2), (14, .int .i64 t47), (15, .int .i64 t49), (16, .int .i64 (val (Law_first ([(val (Law_unless (decide (0 < (a0.length : Int))) 7)), (val (Law_unless (decide ((a0.length : Int) ≤ 1000)) 4)), (val (R_PlaceFault a2)), t49] : List Int)))), (17, .slice p_2.1 css_3.length p_2.2), (18, .int .i64 x18), (19, .int .i64 x19_4), (20, .int .i64 x20_5), (74, v0), (75, .int .i64 (a0.length : Int)), (76, .int .i64 x76_3)] [poolC noH hp_3, cellsC b4 [.int .i64 a2.Lat, .int .i64 a2.Lon] 71, roV 1 (.slice p.1 t27.1.length p.2) t27.1.length (css.map idC), rowV 67 1 (.slice p_2.1 css_3.length p_2.2) css_3.length (css_3.map idC)] rfl rfl ?_
                refine c_region ?_
                obtain ⟨t93, h_t93, H70⟩ := bnd_some H69; clear H69
                refine l_val rfl rfl rfl (r_addG rfl rfl h_t93) ?_
                refine l_val rfl rfl rfl (r_move (v := .int .i64 t93) rfl) ?_
                refine l_nil ?_
                refine c_close (x19_4, x20_5, t93) () m4 [0, 1, 2, 3] (by exact ⟨rfl, rfl, rfl, rfl, rfl, rfl, rfl, rfl, rfl, rfl, rfl, rfl, rfl, rfl, rfl, rfl, rfl, rfl, trivial⟩) (by decide) rfl (by exact ⟨(by subst hn4; exact H70), trivial⟩) (Nat.lt_succ_self _)
            · have H77 := cnd_f hb H67; clear H67
              refine c_exit ?_
              refine c_close (x19_3, x20_4) () 0 [0, 2, 3] (by exact ⟨rfl, rfl, rfl, rfl, rfl, rfl, rfl, rfl, rfl, rfl, rfl, rfl, rfl, rfl, trivial⟩) (by decide) rfl (by exact ⟨H77, trivial⟩) (Nat.lt_succ_self _)
          · have H78 := cnd_f hb H55; clear H55
            refine c_skip ?_
            refine c_close (0, 0) () 0 [0, 2, 3] (by exact ⟨rfl, rfl, rfl, rfl, rfl, rfl, rfl, rfl, rfl, rfl, rfl, rfl, rfl, rfl, trivial⟩) (by decide) rfl (by exact ⟨H78, trivial⟩) (Nat.lt_succ_self _)
        · rintro ⟨x19, x20⟩ _ gg H56 _
          replace H56 : Law_WhereLists_j3 t27 t32 t38 t47 t49 (val (Law_first ([(val (Law_unless (decide (0 < (a0.length : Int))) 7)), (val (Law_unless (decide ((a0.length : Int) ≤ 1000)) 4)), (val (R_PlaceFault a2)), t49] : List Int))) l_2 x18 x19 x20 = some r := H56
          refine c_tidyF [(7, .slice p.1 t27.1.length p.2), (8, .int .i64 t27.2), (9, .int .i64 t32.1), (10, .int .i64 t32.2), (11, .int .i64 t38.1), (12, .int .i64 t38.2.1), (13, .int .i64 t38.2.2), (14, .int .i64 t47), (15, .int .i64 t49), (16, .int .i64 (val (Law_first ([(val (Law_unless (decide (0 < (a0.length : Int))) 7)), (val (Law_unless (decide ((a0.length : Int) ≤ 1000)) 4)), (val (R_PlaceFault a2)), t49] : List Int)))), (17, .slice p_2.1 css_3.length p_2.2), (18, .int .i64 x18), (19, .int .i64 x19), (20, .int .i64 x20)] [poolC noH hp_3, roV 1 (.slice p.1 t27.1.length p.2) t27.1.length (css.map idC), rowV 67 1 (.slice p_2.1 css_3.length p_2.2) css_3.length (css_3.map idC)] rfl rfl ?_
          refine c_seq ?_
          refine c_region ?_
          refine l_val rfl rfl rfl (r_move (v := .slice p.1 t27.1.length p.2) rfl) ?_
          refine l_val rfl rfl rfl (r_move (v := .int .i64 t27.2) rfl) ?_
          refine l_val rfl rfl rfl (r_move (v := .slice p_2.1 css_3.length p_2.2) rfl) ?_
          refine l_val rfl rfl rfl (r_move (v := .int .i64 t47) rfl) ?_
          obtain ⟨t98, h_t98, H57⟩ := bnd_some H56; clear H56
          refine l_callG (fun w hF hS => k45 (know_all w) (frn_of (xs := t27.1) (frs_rd (i := 1) hS rfl) (pf_2.mono (pool_now (i := 0) hS rfl noH_le))) (frn_of (xs := l_2) (frs_own (i := 2) rfl hS rfl) (pf_3.mono (pool_now (i := 0) hS rfl noH_le))) h_t98) Try.call45 rfl rfl rfl ?_
          refine l_val rfl rfl rfl (r_move (v := .bool t98) rfl) ?_
          refine split (fun hb => ?_) (fun hb => ?_)
          · have H58 := cnd_t hb H57; clear H57
            refine l_val rfl rfl rfl (r_move (v := .int .i64 t32.1) rfl) ?_
            refine l_val rfl rfl rfl (r_move (v := .int .i64 t32.2) rfl) ?_
            refine l_val rfl rfl rfl (r_move (v := .int .i64 x18) rfl) ?_
            refine l_val rfl rfl rfl (r_move (v := .int .i64 t49) rfl) ?_
            obtain ⟨t104, h_t104, H59⟩ := bnd_some H58; clear H58
            refine l_call (k46 h_t104) Try.call46 rfl rfl rfl ?_
            refine l_val rfl rfl rfl (r_pickT (v := .bool t104) rfl rfl) ?_
            refine l_val rfl rfl rfl (r_move (v := .bool t104) rfl) ?_
            refine split (fun hb => ?_) (fun hb => ?_)
            · have H60 := cnd_t hb H59; clear H59
              refine l_val rfl rfl rfl (r_move (v := .int .i64 t38.1) rfl) ?_
              refine l_val rfl rfl rfl (r_move (v := .int .i64 t38.2.2) rfl) ?_
              refine l_val rfl rfl rfl (r_move (v := .int .i64 x19) rfl) ?_
              refine l_val rfl rfl rfl (r_move (v := .int .i64 (val (Law_first ([(val (Law_unless (decide (0 < (a0.length : Int))) 7)), (val (Law_unless (decide ((a0.length : Int) ≤ 1000)) 4)), (val (R_PlaceFault a2)), t49] : List Int)))) rfl) ?_
              obtain ⟨t111, h_t111, H61⟩ := bnd_some H60; clear H60
              refine l_call (k46 h_t111) Try.call46 rfl rfl rfl ?_
              refine l_val rfl rfl rfl (r_pickT (v := .bool t111) rfl rfl) ?_
              refine l_val rfl rfl rfl (r_move (v := .bool t111) rfl) ?_
              refine split (fun hb => ?_) (fun hb => ?_)
              · have H62 := cnd_t hb H61; clear H61
                refine l_val rfl rfl rfl (r_move (v := .int .i64 t38.2.1) rfl) ?_
                refine l_val rfl rfl rfl (r_move (v := .int .i64 x20) rfl) ?_
                refine l_val rfl rfl rfl (r_eql rfl rfl) ?_
                refine l_val rfl rfl rfl (r_pickT (v := .bool (decide (t38.2.1 = x20))) rfl rfl) ?_
                refine l_val rfl rfl rfl (r_assign (v := .bool (decide (t38.2.1 = x20))) rfl) ?_
                refine l_nil ?_
                refine c_ret ?_
                obtain rfl := Option.some.inj H62
                refine ret1 (v := .bool (decide (t38.2.1 = x20))) rfl rfl (fin rfl)
              · have H63 := cnd_f hb H61; clear H61
                refine l_passed rfl rfl rfl ?_
                refine l_passed rfl rfl rfl ?_
                refine l_passed rfl rfl rfl ?_
                refine l_val rfl rfl rfl (r_pickF (v := .bool false) rfl rfl) ?_
                refine l_val rfl rfl rfl (r_assign (v := .bool false) rfl) ?_
                refine l_nil ?_
                refine c_ret ?_
                obtain rfl := Option.some.inj H63
                refine ret1 (v := .bool false) rfl rfl (fin rfl)
            · have H64 := cnd_f hb H59; clear H59
              refine l_passed rfl rfl rfl ?_
              refine l_passed rfl rfl rfl ?_
              refine l_passed rfl rfl rfl ?_
              refine l_passed rfl rfl rfl ?_
              refine l_passed rfl rfl rfl ?_
              refine l_val rfl rfl rfl (r_pickF (v := .bool false) rfl rfl) ?_
              refine l_val rfl rfl rfl (r_move (v := .bool false) rfl) ?_
              refine l_passed rfl rfl rfl ?_
              refine l_passed rfl rfl rfl ?_
              refine l_passed rfl rfl rfl ?_
              refine l_val rfl rfl rfl (r_pickF (v := .bool false) rfl rfl) ?_
              refine l_val rfl rfl rfl (r_assign (v := .bool false) rfl) ?_
              refine l_nil ?_
              refine c_ret ?_
              obtain rfl := Option.some.inj H64
              refine ret1 (v := .bool false) rfl rfl (fin rfl)
          · have H65 := cnd_f hb H57; clear H57
            refine l_passed rfl rfl rfl ?_
            refine l_passed rfl rfl rfl ?_
            refine l_passed rfl rfl rfl ?_
            refine l_passed rfl rfl rfl ?_
            refine l_passed rfl rfl rfl ?_
            refine l_val rfl rfl rfl (r_pickF (v := .bool false) rfl rfl) ?_
            refine l_val rfl rfl rfl (r_move (v := .bool false) rfl) ?_
            refine l_passed rfl rfl rfl ?_
            refine l_passed rfl rfl rfl ?_
            refine l_passed rfl rfl rfl ?_
            refine l_passed rfl rfl rfl ?_
            refine l_passed rfl rfl rfl ?_
            refine l_val rfl rfl rfl (r_pickF (v := .bool false) rfl rfl) ?_
            refine l_val rfl rfl rfl (r_move (v := .bool false) rfl) ?_
            refine l_passed rfl rfl rfl ?_
            refine l_passed rfl rfl rfl ?_
            refine l_passed rfl rfl rfl ?_
            refine l_val rfl rfl rfl (r_pickF (v := .bool false) rfl rfl) ?_
            refine l_val rfl rfl rfl (r_assign (v := .bool false) rfl) ?_
            refine l_nil ?_
            refine c_ret ?_
            obtain rfl := Option.some.inj H65
            refine ret1 (v := .bool false) rfl rfl (fin rfl)
    ) (by kernel_rfl)
end Go.Proofs.Ytinpjnlocahjjaa
