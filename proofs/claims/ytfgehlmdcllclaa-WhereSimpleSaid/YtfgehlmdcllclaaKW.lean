/- Where, in common: the walks, printed by our generator; each follows its model. Conditions: the model yields a value. -/
import Derived.Test.YtfgehlmdcllclaaMW
import Derived.Test.YtfgehlmdcllclaaProg
import Derived.Test.YtfgehlmdcllclaaLx6
namespace Go.Proofs.Ytfgehlmdcllclaa
open Go Go.Vc Go.Md Go.M Go.Lx
set_option maxRecDepth 100000
set_option maxHeartbeats 4000000
set_option linter.unusedVariables false

theorem mixed : Try.prog.follows .mixedOrders = true := by kernel_rfl

abbrev e_i64 (x : Int) : List Value := [.int .i64 x]
abbrev e_where_Fix (x : T_where_Fix) : List Value := [.int .i64 x.Moment, .int .i64 x.Place.Lat, .int .i64 x.Place.Lon]
abbrev e_bool (x : Bool) : List Value := [.bool x]
def fnR_func_int_bool (m : (Int → Option (Bool))) (w : World) (args : List Value) (post : Value → World → Prop) : Prop :=
  ∃ (a0 : Int) (r : Bool), args = [.int .i64 a0] ∧ m a0 = some r ∧ post = fun v' w' => v' = (.bool r) ∧ Grow w w'
abbrev e_api_Place (x : T_api_Place) : List Value := [.int .i64 x.Lat, .int .i64 x.Lon]
def fnR_func_where_Fix_int_int (m : ((List T_where_Fix) → Int → Option (Int))) (w : World) (args : List Value) (post : Value → World → Prop) : Prop :=
  ∃ (a0 : (List T_where_Fix)) (v0 : Value) (a1 : Int) (r : Int), FrS (fun b => w.heap[b]?) 3 v0 (a0.map e_where_Fix) ∧ args = [v0, .int .i64 a1] ∧ m a0 a1 = some r ∧ post = fun v' w' => v' = (.int .i64 r) ∧ Grow w w'
def fnR_func_where_Fix_int_int_bool (m : ((List T_where_Fix) → Int → Int → Option (Bool))) (w : World) (args : List Value) (post : Value → World → Prop) : Prop :=
  ∃ (a0 : (List T_where_Fix)) (v0 : Value) (a1 : Int) (a2 : Int) (r : Bool), FrS (fun b => w.heap[b]?) 3 v0 (a0.map e_where_Fix) ∧ args = [v0, .int .i64 a1, .int .i64 a2] ∧ m a0 a1 a2 = some r ∧ post = fun v' w' => v' = (.bool r) ∧ Grow w w'
def fnR_func_int_int_int (m : (Int → Int → Option (Int))) (w : World) (args : List Value) (post : Value → World → Prop) : Prop :=
  ∃ (a0 : Int) (a1 : Int) (r : Int), args = [.int .i64 a0, .int .i64 a1] ∧ m a0 a1 = some r ∧ post = fun v' w' => v' = (.int .i64 r) ∧ Grow w w'
def fnR_func_api_Place_api_Place (m : ((List T_api_Place) → Option (T_api_Place))) (w : World) (args : List Value) (post : Value → World → Prop) : Prop :=
  ∃ (a0 : (List T_api_Place)) (v0 : Value) (r : T_api_Place), FrS (fun b => w.heap[b]?) 2 v0 (a0.map e_api_Place) ∧ args = [v0] ∧ m a0 = some r ∧ post = fun v' w' => v' = (.agg #[.int .i64 r.Lat, .int .i64 r.Lon]) ∧ Grow w w'
abbrev e_where_Stop (x : T_where_Stop) : List Value := [.int .i64 x.From, .int .i64 x.To, .int .i64 x.Place.Lat, .int .i64 x.Place.Lon]

theorem run_eqT25 (d : Nat) (w : World) (a0 b0 : Int) (a1 b1 : Int) : (Op.equalIn (d + 2) 25 (.agg #[.int .i64 a0, .int .i64 a1]) (.agg #[.int .i64 b0, .int .i64 b1])).run Try.prog w = .ok (decide (a0 = b0 ∧ a1 = b1)) w := by
  rw [run_equalIn_struct w (d + 1) 25 _ _ (by simp only [Program.fieldsOf, Try.underlying25]) Try.stoodInHeld25]
  simp only [Program.fieldsOf, Try.underlying25, Op.eqFields]
  simp [part, run_equalIn_int, run_equalIn_strL, run_equalIn_bool', Try.underlying3]
  repeat' split
  all_goals simp_all

theorem run_eqT78 (d : Nat) (w : World) (a0 b0 : Int) (a1 b1 : Int) (a2 b2 : Int) : (Op.equalIn (d + 3) 78 (.agg #[.int .i64 a0, .int .i64 a1, .int .i64 a2]) (.agg #[.int .i64 b0, .int .i64 b1, .int .i64 b2])).run Try.prog w = .ok (decide (a0 = b0 ∧ (a1 = b1 ∧ a2 = b2))) w := by
  rw [run_equalIn_struct w (d + 2) 78 _ _ (by simp only [Program.fieldsOf, Try.underlying78]) Try.stoodInHeld78]
  simp only [Program.fieldsOf, Try.underlying78, Op.eqFields]
  simp [part, run_equalIn_int, run_equalIn_strL, run_equalIn_bool', Try.underlying3, Try.isAgg25, Try.sizeOf25, run_eqT25 _ w]
  repeat' split
  all_goals simp_all

theorem run_eq_where_Fix (w : World) (x y : T_where_Fix) : (Op.equalIn Op.maxDepth 78 (.agg #[.int .i64 x.Moment, .int .i64 x.Place.Lat, .int .i64 x.Place.Lon]) (.agg #[.int .i64 y.Moment, .int .i64 y.Place.Lat, .int .i64 y.Place.Lon])).run Try.prog w = .ok (eq_where_Fix x y) w :=
  run_eqT78 9997 w _ _ _ _ _ _

theorem run_eq_api_Place (w : World) (x y : T_api_Place) : (Op.equalIn Op.maxDepth 25 (.agg #[.int .i64 x.Lat, .int .i64 x.Lon]) (.agg #[.int .i64 y.Lat, .int .i64 y.Lon])).run Try.prog w = .ok (eq_api_Place x y) w :=
  run_eqT25 9998 w _ _ _ _

theorem run_eqT90 (d : Nat) (w : World) (a0 b0 : Int) (a1 b1 : Int) (a2 b2 : Int) (a3 b3 : Int) : (Op.equalIn (d + 3) 90 (.agg #[.int .i64 a0, .int .i64 a1, .int .i64 a2, .int .i64 a3]) (.agg #[.int .i64 b0, .int .i64 b1, .int .i64 b2, .int .i64 b3])).run Try.prog w = .ok (decide (a0 = b0 ∧ a1 = b1 ∧ (a2 = b2 ∧ a3 = b3))) w := by
  rw [run_equalIn_struct w (d + 2) 90 _ _ (by simp only [Program.fieldsOf, Try.underlying90]) Try.stoodInHeld90]
  simp only [Program.fieldsOf, Try.underlying90, Op.eqFields]
  simp [part, run_equalIn_int, run_equalIn_strL, run_equalIn_bool', Try.underlying3, Try.isAgg25, Try.sizeOf25, run_eqT25 _ w]
  repeat' split
  all_goals simp_all

theorem run_eq_where_Stop (w : World) (x y : T_where_Stop) : (Op.equalIn Op.maxDepth 90 (.agg #[.int .i64 x.From, .int .i64 x.To, .int .i64 x.Place.Lat, .int .i64 x.Place.Lon]) (.agg #[.int .i64 y.From, .int .i64 y.To, .int .i64 y.Place.Lat, .int .i64 y.Place.Lon])).run Try.prog w = .ok (eq_where_Stop x y) w :=
  run_eqT90 9997 w _ _ _ _ _ _ _ _

theorem k15 {a0 : (List Int)} {v0 : Value} {r : Int} {w : World} {h : Heap} (hw : Know h w noS) (f0 : FrS h 1 v0 (a0.map e_i64)) (H : Law_first a0 = some r) : Does Try.prog 15 (List.toArray [v0]) w (fun v w' => v = (.int .i64 r) ∧ Grow w w') := by
  refine enter (n := 15) Try.func15 rfl rfl rfl noS [] (Sat.nil _ _) ?_
  refine c_seq ?_
  refine c_region ?_
  refine l_val rfl rfl rfl (r_assign (v := .int .i64 0) rfl) ?_
  refine l_nil ?_
  refine c_seq ?_
  refine c_seq ?_
  refine c_region ?_
  refine l_val rfl rfl rfl (r_move (v := v0) rfl) ?_
  refine l_val rfl rfl rfl (r_lenF Try.underlying106 rfl f0 rfl) ?_
  refine l_val rfl rfl rfl (r_move (v := .int .i64 0) rfl) ?_
  refine l_nil ?_
  refine c_block ?_
  refine c_fix (σ := Int) (τ := Unit) (fun next1 s => Law_first_l1 a0 next1 s) (fun s t => [(5, v0), (6, .int .i64 (a0.length : Int)), (7, .int .i64 s)]) (fun s t => []) (fun s t => True) 0 () [] H (by exact trivial) (by exact ⟨rfl, rfl, rfl, trivial⟩) (by decide) rfl ?_
  rintro x7_2 _ m1 gg H8 _
  clear H
  replace H8 : Law_first_l1 a0 (it (fun next1 s => Law_first_l1 a0 next1 s) m1) x7_2 = some r := H8
  generalize hn1 : it (fun next1 s => Law_first_l1 a0 next1 s) m1 = next1 at H8
  refine c_tidyF [(5, v0), (6, .int .i64 (a0.length : Int)), (7, .int .i64 x7_2)] [] rfl rfl ?_
  refine c_seq ?_
  refine c_region ?_
  refine l_val rfl rfl rfl (r_lss rfl rfl) ?_
  refine l_nil ?_
  refine c_seq ?_
  refine c_if (b := (decide (x7_2 < (a0.length : Int)))) rfl (fun hb => ?_) (fun hb => ?_)
  · have H9 := cnd_t hb H8; clear H8
    refine c_skip ?_
    refine c_seq ?_
    refine c_block ?_
    refine c_seq ?_
    refine c_region ?_
    obtain ⟨t9, h_t9, H10⟩ := bnd_some H9; clear H9
    refine l_val rfl rfl rfl (r_indexF Try.underlying106 Try.sizeOf26 rfl rfl f0 h_t9) ?_
    refine l_read (fun w hF hS => run_loadG1 (j := 0) (v := .int .i64 t9) Try.isAgg26 rfl rfl (f0.row (hw.now hF)) h_t9 rfl) rfl rfl rfl ?_
    refine l_val rfl rfl rfl (r_assign (v := .int .i64 t9) rfl) ?_
    refine l_nil ?_
    refine c_seq ?_
    refine c_region ?_
    refine l_val rfl rfl rfl (r_move (v := .int .i64 t9) rfl) ?_
    refine l_val rfl rfl rfl (r_neq rfl rfl) ?_
    refine l_nil ?_
    refine c_if (b := (decide (t9 ≠ 0))) rfl (fun hb => ?_) (fun hb => ?_)
    · have H11 := cnd_t hb H10; clear H10
      refine c_seq ?_
      refine c_region ?_
      refine l_val rfl rfl rfl (r_move (v := .int .i64 t9) rfl) ?_
      refine l_val rfl rfl rfl (r_assign (v := .int .i64 t9) rfl) ?_
      refine l_nil ?_
      refine c_ret ?_
      obtain rfl := Option.some.inj H11
      refine ret1 (v := .int .i64 t9) rfl rfl (fin rfl)
    · have H12 := cnd_f hb H10; clear H10
      refine c_skip ?_
      refine c_region ?_
      obtain ⟨t14, h_t14, H13⟩ := bnd_some H12; clear H12
      refine l_val rfl rfl rfl (r_addG rfl rfl h_t14) ?_
      refine l_val rfl rfl rfl (r_move (v := .int .i64 t14) rfl) ?_
      refine l_nil ?_
      refine c_close t14 () m1 [] (by exact ⟨rfl, rfl, rfl, trivial⟩) (by decide) rfl (by exact ⟨(by subst hn1; exact H13), trivial⟩) (Nat.lt_succ_self _)
  · have H14 := cnd_f hb H8; clear H8
    refine c_exit ?_
    refine c_seq ?_
    refine c_region ?_
    refine l_val rfl rfl rfl (r_assign (v := .int .i64 0) rfl) ?_
    refine l_nil ?_
    refine c_ret ?_
    obtain rfl := Option.some.inj H14
    refine ret1 (v := .int .i64 0) rfl rfl (fin rfl)
theorem k25 {a0 : Bool} {a1 : Int} {r : Int} (H : Law_unless a0 a1 = some r) : Ret Try.prog 25 [.bool a0, .int .i64 a1] (.int .i64 r) := by
  refine enterRet (n := 7) Try.func25 rfl rfl rfl (fun wd => ?_)
  refine c_seq ?_
  refine c_region ?_
  refine l_val rfl rfl rfl (r_assign (v := .int .i64 0) rfl) ?_
  refine l_nil ?_
  refine c_seq ?_
  refine c_seq ?_
  refine c_region ?_
  refine l_val rfl rfl rfl (r_move (v := .bool a0) rfl) ?_
  refine l_nil ?_
  refine c_if (b := a0) rfl (fun hb => ?_) (fun hb => ?_)
  · have H3 := cnd_t hb H; clear H
    refine c_seq ?_
    refine c_region ?_
    refine l_val rfl rfl rfl (r_assign (v := .int .i64 0) rfl) ?_
    refine l_nil ?_
    refine c_ret ?_
    obtain rfl := Option.some.inj H3
    refine ret1 (v := .int .i64 0) rfl rfl (fin rfl)
  · have H4 := cnd_f hb H; clear H
    refine c_skip ?_
    refine c_seq ?_
    refine c_region ?_
    refine l_val rfl rfl rfl (r_move (v := .int .i64 a1) rfl) ?_
    refine l_val rfl rfl rfl (r_assign (v := .int .i64 a1) rfl) ?_
    refine l_nil ?_
    refine c_ret ?_
    obtain rfl := Option.some.inj H4
    refine ret1 (v := .int .i64 a1) rfl rfl (fin rfl)
theorem k17 {a0 : Int} {r : Int} (H : Law_metresFault a0 = some r) : Ret Try.prog 17 [.int .i64 a0] (.int .i64 r) := by
  refine enterRet (n := 10) Try.func17 rfl rfl rfl (fun wd => ?_)
  refine c_seq ?_
  refine c_region ?_
  refine l_val rfl rfl rfl (r_assign (v := .int .i64 0) rfl) ?_
  refine l_nil ?_
  refine c_seq ?_
  refine c_region ?_
  refine l_val rfl rfl rfl (r_move (v := .int .i64 a0) rfl) ?_
  refine l_val rfl rfl rfl (r_geq rfl rfl) ?_
  refine l_val rfl rfl rfl (r_move (v := .bool (decide (0 ≤ a0))) rfl) ?_
  refine split (fun hb => ?_) (fun hb => ?_)
  · have H5 := cnd_t hb H; clear H
    refine l_val rfl rfl rfl (r_move (v := .int .i64 a0) rfl) ?_
    refine l_val rfl rfl rfl (r_leq rfl rfl) ?_
    refine l_val rfl rfl rfl (r_pickT (v := .bool (decide (a0 ≤ 30000000))) rfl rfl) ?_
    obtain ⟨t9, h_t9, H6⟩ := bnd_some H5; clear H5
    refine l_call (k25 h_t9) Try.call25 rfl rfl rfl ?_
    refine l_val rfl rfl rfl (r_assign (v := .int .i64 t9) rfl) ?_
    refine l_nil ?_
    refine c_ret ?_
    obtain rfl := Option.some.inj H6
    refine ret1 (v := .int .i64 t9) rfl rfl (fin rfl)
  · have H7 := cnd_f hb H; clear H
    refine l_passed rfl rfl rfl ?_
    refine l_passed rfl rfl rfl ?_
    refine l_val rfl rfl rfl (r_pickF (v := .bool false) rfl rfl) ?_
    obtain ⟨t9_2, h_t9_2, H8⟩ := bnd_some H7; clear H7
    refine l_call (k25 h_t9_2) Try.call25 rfl rfl rfl ?_
    refine l_val rfl rfl rfl (r_assign (v := .int .i64 t9_2) rfl) ?_
    refine l_nil ?_
    refine c_ret ?_
    obtain rfl := Option.some.inj H8
    refine ret1 (v := .int .i64 t9_2) rfl rfl (fin rfl)
theorem k16 {a0 : T_api_Place} {r : Int} (H : R_PlaceFault a0 = some r) : Ret Try.prog 16 [.agg #[.int .i64 a0.Lat, .int .i64 a0.Lon]] (.int .i64 r) := by
  refine enterRet (n := 21) Try.func16 rfl rfl rfl (fun wd => ?_)
  refine c_seq ?_
  refine c_region ?_
  refine l_box (cs := [.int .i64 a0.Lat, .int .i64 a0.Lon]) rfl rfl rfl rfl (fun b1 => ?_)
  refine l_val rfl rfl rfl (r_assign (v := .int .i64 0) rfl) ?_
  refine l_nil ?_
  refine c_seq ?_
  refine c_seq ?_
  refine c_region ?_
  refine l_val rfl rfl rfl (r_field Try.runUnderlying25 rfl Try.sizeOf3 rfl rfl) ?_
  refine l_load1 (i := 0) (v := .int .i64 a0.Lat) Try.isAgg3 rfl rfl rfl rfl rfl ?_
  refine l_val rfl rfl rfl (r_lss rfl rfl) ?_
  refine l_val rfl rfl rfl (r_move (v := .bool (decide (a0.Lat < (-90000000)))) rfl) ?_
  refine split (fun hb => ?_) (fun hb => ?_)
  · have H9 := cnd_t hb H; clear H
    refine l_passed rfl rfl rfl ?_
    refine l_passed rfl rfl rfl ?_
    refine l_passed rfl rfl rfl ?_
    refine l_val rfl rfl rfl (r_pickT (v := .bool true) rfl rfl) ?_
    refine l_val rfl rfl rfl (r_move (v := .bool true) rfl) ?_
    refine l_passed rfl rfl rfl ?_
    refine l_passed rfl rfl rfl ?_
    refine l_passed rfl rfl rfl ?_
    refine l_val rfl rfl rfl (r_pickT (v := .bool true) rfl rfl) ?_
    refine l_val rfl rfl rfl (r_move (v := .bool true) rfl) ?_
    refine l_passed rfl rfl rfl ?_
    refine l_passed rfl rfl rfl ?_
    refine l_passed rfl rfl rfl ?_
    refine l_val rfl rfl rfl (r_pickT (v := .bool true) rfl rfl) ?_
    refine l_nil ?_
    refine c_true rfl ?_
    refine c_seq ?_
    refine c_region ?_
    refine l_val rfl rfl rfl (r_assign (v := .int .i64 2) rfl) ?_
    refine l_nil ?_
    refine c_ret ?_
    obtain rfl := Option.some.inj H9
    refine ret1 (v := .int .i64 2) rfl rfl (fin rfl)
  · have H10 := cnd_f hb H; clear H
    refine l_val rfl rfl rfl (r_field Try.runUnderlying25 rfl Try.sizeOf3 rfl rfl) ?_
    refine l_load1 (i := 0) (v := .int .i64 a0.Lat) Try.isAgg3 rfl rfl rfl rfl rfl ?_
    refine l_val rfl rfl rfl (r_gtr rfl rfl) ?_
    refine l_val rfl rfl rfl (r_pickF (v := .bool (decide (90000000 < a0.Lat))) rfl rfl) ?_
    refine l_val rfl rfl rfl (r_move (v := .bool (decide (90000000 < a0.Lat))) rfl) ?_
    refine split (fun hb => ?_) (fun hb => ?_)
    · have H11 := cnd_t hb H10; clear H10
      refine l_passed rfl rfl rfl ?_
      refine l_passed rfl rfl rfl ?_
      refine l_passed rfl rfl rfl ?_
      refine l_val rfl rfl rfl (r_pickT (v := .bool true) rfl rfl) ?_
      refine l_val rfl rfl rfl (r_move (v := .bool true) rfl) ?_
      refine l_passed rfl rfl rfl ?_
      refine l_passed rfl rfl rfl ?_
      refine l_passed rfl rfl rfl ?_
      refine l_val rfl rfl rfl (r_pickT (v := .bool true) rfl rfl) ?_
      refine l_nil ?_
      refine c_true rfl ?_
      refine c_seq ?_
      refine c_region ?_
      refine l_val rfl rfl rfl (r_assign (v := .int .i64 2) rfl) ?_
      refine l_nil ?_
      refine c_ret ?_
      obtain rfl := Option.some.inj H11
      refine ret1 (v := .int .i64 2) rfl rfl (fin rfl)
    · have H12 := cnd_f hb H10; clear H10
      refine l_val rfl rfl rfl (r_field Try.runUnderlying25 rfl Try.sizeOf3 rfl rfl) ?_
      refine l_load1 (i := 0) (v := .int .i64 a0.Lon) Try.isAgg3 rfl rfl rfl rfl rfl ?_
      refine l_val rfl rfl rfl (r_lss rfl rfl) ?_
      refine l_val rfl rfl rfl (r_pickF (v := .bool (decide (a0.Lon < (-180000000)))) rfl rfl) ?_
      refine l_val rfl rfl rfl (r_move (v := .bool (decide (a0.Lon < (-180000000)))) rfl) ?_
      refine split (fun hb => ?_) (fun hb => ?_)
      · have H13 := cnd_t hb H12; clear H12
        refine l_passed rfl rfl rfl ?_
        refine l_passed rfl rfl rfl ?_
        refine l_passed rfl rfl rfl ?_
        refine l_val rfl rfl rfl (r_pickT (v := .bool true) rfl rfl) ?_
        refine l_nil ?_
        refine c_true rfl ?_
        refine c_seq ?_
        refine c_region ?_
        refine l_val rfl rfl rfl (r_assign (v := .int .i64 2) rfl) ?_
        refine l_nil ?_
        refine c_ret ?_
        obtain rfl := Option.some.inj H13
        refine ret1 (v := .int .i64 2) rfl rfl (fin rfl)
      · have H14 := cnd_f hb H12; clear H12
        refine l_val rfl rfl rfl (r_field Try.runUnderlying25 rfl Try.sizeOf3 rfl rfl) ?_
        refine l_load1 (i := 0) (v := .int .i64 a0.Lon) Try.isAgg3 rfl rfl rfl rfl rfl ?_
        refine l_val rfl rfl rfl (r_gtr rfl rfl) ?_
        refine l_val rfl rfl rfl (r_pickF (v := .bool (decide (179999999 < a0.Lon))) rfl rfl) ?_
        refine l_nil ?_
        refine c_if (b := (decide (179999999 < a0.Lon))) rfl (fun hb => ?_) (fun hb => ?_)
        · have H15 := cnd_t hb H14; clear H14
          refine c_seq ?_
          refine c_region ?_
          refine l_val rfl rfl rfl (r_assign (v := .int .i64 2) rfl) ?_
          refine l_nil ?_
          refine c_ret ?_
          obtain rfl := Option.some.inj H15
          refine ret1 (v := .int .i64 2) rfl rfl (fin rfl)
        · have H16 := cnd_f hb H14; clear H14
          refine c_skip ?_
          refine c_seq ?_
          refine c_region ?_
          refine l_val rfl rfl rfl (r_assign (v := .int .i64 0) rfl) ?_
          refine l_nil ?_
          refine c_ret ?_
          obtain rfl := Option.some.inj H16
          refine ret1 (v := .int .i64 0) rfl rfl (fin rfl)
theorem k29 {a0 : (List T_where_Fix)} {v0 : Value} {r : Int} {w : World} {h : Heap} (hw : Know h w noS) (f0 : FrS h 3 v0 (a0.map e_where_Fix)) (H : R_TrackFault a0 = some r) : Does Try.prog 29 (List.toArray [v0]) w (fun v w' => v = (.int .i64 r) ∧ Grow w w') := by
  refine enter (n := 44) Try.func29 rfl rfl rfl noS [] (Sat.nil _ _) ?_
  refine c_seq ?_
  refine c_region ?_
  refine l_val rfl rfl rfl (r_assign (v := .int .i64 0) rfl) ?_
  refine l_nil ?_
  refine c_seq ?_
  refine c_seq ?_
  refine c_region ?_
  refine l_val rfl rfl rfl (r_move (v := v0) rfl) ?_
  refine l_val rfl rfl rfl (r_lenF Try.underlying49 rfl f0 rfl) ?_
  refine l_val rfl rfl rfl (r_gtr rfl rfl) ?_
  refine l_nil ?_
  refine c_if (b := (decide (2000 < (a0.length : Int)))) rfl (fun hb => ?_) (fun hb => ?_)
  · have H22 := cnd_t hb H; clear H
    refine c_seq ?_
    refine c_region ?_
    refine l_val rfl rfl rfl (r_assign (v := .int .i64 4) rfl) ?_
    refine l_nil ?_
    refine c_ret ?_
    obtain rfl := Option.some.inj H22
    refine ret1 (v := .int .i64 4) rfl rfl (fin rfl)
  · have H23 := cnd_f hb H; clear H
    refine c_skip ?_
    refine c_seq ?_
    refine c_seq ?_
    refine c_region ?_
    refine l_val rfl rfl rfl (r_move (v := v0) rfl) ?_
    refine l_val rfl rfl rfl (r_lenF Try.underlying49 rfl f0 rfl) ?_
    refine l_val rfl rfl rfl (r_move (v := .int .i64 0) rfl) ?_
    refine l_nil ?_
    refine c_block ?_
    refine c_fix (σ := Int) (τ := Unit) (fun next1 s => R_TrackFault_l1 a0 next1 s) (fun s t => [(0, v0), (9, v0), (10, .int .i64 (a0.length : Int)), (11, .int .i64 s)]) (fun s t => []) (fun s t => True) 0 () [] H23 (by exact trivial) (by exact ⟨rfl, rfl, rfl, rfl, trivial⟩) (by decide) rfl ?_
    rintro x11_2 _ m1 gg H24 _
    clear H23
    replace H24 : R_TrackFault_l1 a0 (it (fun next1 s => R_TrackFault_l1 a0 next1 s) m1) x11_2 = some r := H24
    generalize hn1 : it (fun next1 s => R_TrackFault_l1 a0 next1 s) m1 = next1 at H24
    refine c_tidyF [(0, v0), (9, v0), (10, .int .i64 (a0.length : Int)), (11, .int .i64 x11_2)] [] rfl rfl ?_
    refine c_seq ?_
    refine c_region ?_
    refine l_val rfl rfl rfl (r_lss rfl rfl) ?_
    refine l_nil ?_
    refine c_seq ?_
    refine c_if (b := (decide (x11_2 < (a0.length : Int)))) rfl (fun hb => ?_) (fun hb => ?_)
    · have H25 := cnd_t hb H24; clear H24
      refine c_skip ?_
      refine c_meet (r := r) (σ := Int × Bool × Int × Int × Int) (τ := Nat) (fun s => R_TrackFault_j2 x11_2 next1 s.1 s.2.1 s.2.2.1 s.2.2.2.1 s.2.2.2.2) (fun s t => [(0, v0), (9, v0), (10, .int .i64 (a0.length : Int)), (11, .int .i64 x11_2), (20, .pointer (some ⟨t, 0, none⟩)), (21, .int .i64 s.1), (22, .bool s.2.1)]) (fun s t => [cellsC t [.int .i64 s.2.2.1, .int .i64 s.2.2.2.1, .int .i64 s.2.2.2.2] 78]) (fun s t => True) ?_ ?_
      · refine c_block ?_
        refine c_seq ?_
        refine c_region ?_
        refine l_val rfl rfl rfl (r_move (v := .int .i64 x11_2) rfl) ?_
        obtain ⟨t14, h_t14, H28⟩ := bnd_some H25; clear H25
        refine l_val rfl rfl rfl (r_indexF Try.underlying49 Try.sizeOf78 rfl rfl f0 h_t14) ?_
        refine l_read (fun w hF hS => run_loadGN (j := 0) (vs := [.int .i64 t14.Moment, .int .i64 t14.Place.Lat, .int .i64 t14.Place.Lon]) Try.isAgg78 Try.sizeOf78 rfl rfl (f0.row (hw.now hF)) h_t14 rfl) rfl rfl rfl ?_
        refine l_alloc (cs := [.int .i64 0, .int .i64 0, .int .i64 0]) Try.zeroValue78 rfl rfl rfl (fun b1 => ?_)
        refine l_val rfl rfl rfl (r_assign (v := .int .i64 x11_2) rfl) ?_
        refine l_store (i := 0) (vs := [.int .i64 t14.Moment, .int .i64 t14.Place.Lat, .int .i64 t14.Place.Lon]) (cs' := [.int .i64 t14.Moment, .int .i64 t14.Place.Lat, .int .i64 t14.Place.Lon]) Try.sizeOf78 rfl rfl rfl rfl rfl rfl rfl rfl rfl ?_
        refine l_nil ?_
        refine c_seq ?_
        refine c_seq ?_
        refine c_region ?_
        refine l_val rfl rfl rfl (r_field Try.runUnderlying78 rfl Try.sizeOf3 rfl rfl) ?_
        refine l_load1 (i := 0) (v := .int .i64 t14.Moment) Try.isAgg3 rfl rfl rfl rfl rfl ?_
        refine l_val rfl rfl rfl (r_lss rfl rfl) ?_
        refine l_val rfl rfl rfl (r_move (v := .bool (decide (t14.Moment < 0))) rfl) ?_
        refine split (fun hb => ?_) (fun hb => ?_)
        · have H29 := cnd_t hb H28; clear H28
          refine l_passed rfl rfl rfl ?_
          refine l_passed rfl rfl rfl ?_
          refine l_passed rfl rfl rfl ?_
          refine l_val rfl rfl rfl (r_pickT (v := .bool true) rfl rfl) ?_
          refine l_nil ?_
          refine c_true rfl ?_
          refine c_seq ?_
          refine c_region ?_
          refine l_val rfl rfl rfl (r_assign (v := .int .i64 2) rfl) ?_
          refine l_nil ?_
          refine c_ret ?_
          obtain rfl := Option.some.inj H29
          refine ret1 (v := .int .i64 2) rfl rfl (fin rfl)
        · have H30 := cnd_f hb H28; clear H28
          refine l_val rfl rfl rfl (r_field Try.runUnderlying78 rfl Try.sizeOf3 rfl rfl) ?_
          refine l_load1 (i := 0) (v := .int .i64 t14.Moment) Try.isAgg3 rfl rfl rfl rfl rfl ?_
          refine l_val rfl rfl rfl (r_gtr rfl rfl) ?_
          refine l_val rfl rfl rfl (r_pickF (v := .bool (decide (6311433599 < t14.Moment))) rfl rfl) ?_
          refine l_nil ?_
          refine c_if (b := (decide (6311433599 < t14.Moment))) rfl (fun hb => ?_) (fun hb => ?_)
          · have H31 := cnd_t hb H30; clear H30
            refine c_seq ?_
            refine c_region ?_
            refine l_val rfl rfl rfl (r_assign (v := .int .i64 2) rfl) ?_
            refine l_nil ?_
            refine c_ret ?_
            obtain rfl := Option.some.inj H31
            refine ret1 (v := .int .i64 2) rfl rfl (fin rfl)
          · have H32 := cnd_f hb H30; clear H30
            refine c_skip ?_
            refine c_seq ?_
            refine c_seq ?_
            refine c_region ?_
            refine l_val rfl rfl rfl (r_field Try.runUnderlying78 rfl Try.sizeOf25 rfl rfl) ?_
            refine l_loadN (i := 0) (vs := [.int .i64 t14.Place.Lat, .int .i64 t14.Place.Lon]) Try.isAgg25 Try.sizeOf25 rfl rfl rfl rfl rfl ?_
            obtain ⟨t26, h_t26, H33⟩ := bnd_some H32; clear H32
            refine l_call (k16 h_t26) Try.call16 rfl rfl rfl ?_
            refine l_val rfl rfl rfl (r_assign (v := .int .i64 t26) rfl) ?_
            refine l_nil ?_
            refine c_seq ?_
            refine c_region ?_
            refine l_val rfl rfl rfl (r_move (v := .int .i64 t26) rfl) ?_
            refine l_val rfl rfl rfl (r_neq rfl rfl) ?_
            refine l_nil ?_
            refine c_if (b := (decide (t26 ≠ 0))) rfl (fun hb => ?_) (fun hb => ?_)
            · have H34 := cnd_t hb H33; clear H33
              refine c_seq ?_
              refine c_region ?_
              refine l_val rfl rfl rfl (r_move (v := .int .i64 t26) rfl) ?_
              refine l_val rfl rfl rfl (r_assign (v := .int .i64 t26) rfl) ?_
              refine l_nil ?_
              refine c_ret ?_
              obtain rfl := Option.some.inj H34
              refine ret1 (v := .int .i64 t26) rfl rfl (fin rfl)
            · have H35 := cnd_f hb H33; clear H33
              refine c_skip ?_
              refine c_seq ?_
              exact c_regionD (Kd.p :: Kd.p :: Kd.p :: Kd.p :: Kd.d [0] _ :: Kd.p :: Kd.p :: Kd.p :: Kd.p :: Kd.p :: Kd.d [] _ :: Kd.p :: Kd.p :: []) 0 mixed (by
                refine d_val rfl rfl (r_move (v := .int .i64 x11_2) rfl) ?_
                refine d_val rfl rfl (r_gtr rfl rfl) ?_
                refine d_val rfl rfl (r_move (v := .bool (decide (0 < x11_2))) rfl) ?_
                refine splitS (fun hb => ?_) (fun hb => ?_)
                · have H36 := cnd_t hb H35
                  refine d_val rfl rfl (r_field Try.runUnderlying78 rfl Try.sizeOf3 rfl rfl) ?_
                  refine d_load1 (i := 0) (v := .int .i64 t14.Moment) Try.isAgg3 rfl rfl rfl rfl ?_
                  refine d_val rfl rfl (r_move (v := v0) rfl) ?_
                  refine d_val rfl rfl (r_move (v := .int .i64 x11_2) rfl) ?_
                  have h_t37 := bnd_val H36
                  have H37 := bnd_rest H36
                  refine d_val rfl rfl (r_subG rfl rfl h_t37) ?_
                  have h_t38 := bnd_val H37
                  have H38 := bnd_rest H37
                  refine d_val rfl rfl (r_indexF Try.underlying49 Try.sizeOf78 rfl rfl f0 h_t38) ?_
                  refine d_val rfl rfl (r_fieldP Try.runUnderlying78 rfl Try.sizeOf3 rfl rfl (some_of_at f0 h_t38)) ?_
                  refine d_read (fun w hF => run_loadG1 (j := 0) (v := .int .i64 (val (gAt a0 (val (gI (x11_2 - 1))))).Moment) Try.isAgg3 rfl rfl (f0.row (hw.now hF)) h_t38 rfl) rfl rfl ?_
                  refine d_val rfl rfl (r_leq rfl rfl) ?_
                  refine d_val rfl rfl (r_pickT (v := .bool (decide (t14.Moment ≤ (val (gAt a0 (val (gI (x11_2 - 1))))).Moment))) rfl rfl) ?_
                  refine d_nil ?_
                  refine c_if (b := (decide (t14.Moment ≤ (val (gAt a0 (val (gI (x11_2 - 1))))).Moment))) rfl (fun hb => ?_) (fun hb => ?_)
                  · have H39 := cnd_t hb H38; clear H38
                    refine c_seq ?_
                    refine c_region ?_
                    refine l_val rfl rfl rfl (r_assign (v := .int .i64 5) rfl) ?_
                    refine l_nil ?_
                    refine c_ret ?_
                    obtain rfl := Option.some.inj H39
                    refine ret1 (v := .int .i64 5) rfl rfl (fin rfl)
                  · have H40 := cnd_f hb H38; clear H38
                    refine c_skip ?_
                    refine c_close (t14.Moment, (decide (6311433599 < t14.Moment)), t14.Moment, t14.Place.Lat, t14.Place.Lon) b1 0 [0] (by exact ⟨rfl, rfl, rfl, rfl, rfl, rfl, rfl, trivial⟩) (by decide) rfl (by exact ⟨H40, trivial⟩) (Nat.lt_succ_self _)
                · have H41 := cnd_f hb H35
                  refine d_pass rfl rfl ?_
                  refine d_pass rfl rfl ?_
                  refine d_pass rfl rfl ?_
                  refine d_pass rfl rfl ?_
                  refine d_pass rfl rfl ?_
                  refine d_pass rfl rfl ?_
                  refine d_pass rfl rfl ?_
                  refine d_pass rfl rfl ?_
                  refine d_pass rfl rfl ?_
                  refine d_val rfl rfl (r_pickF (v := .bool false) rfl rfl) ?_
                  refine d_nil ?_
                  refine c_false rfl ?_
                  refine c_skip ?_
                  refine c_close (t14.Moment, (decide (6311433599 < t14.Moment)), t14.Moment, t14.Place.Lat, t14.Place.Lon) b1 0 [0] (by exact ⟨rfl, rfl, rfl, rfl, rfl, rfl, rfl, trivial⟩) (by decide) rfl (by exact ⟨H41, trivial⟩) (Nat.lt_succ_self _)
                ) (by kernel_rfl)
      · rintro ⟨x21, x22, m, m_2, m_3⟩ b gg H26 _
        replace H26 : R_TrackFault_j2 x11_2 next1 x21 x22 m m_2 m_3 = some r := H26
        refine c_tidyF [(0, v0), (9, v0), (10, .int .i64 (a0.length : Int)), (11, .int .i64 x11_2), (20, .pointer (some ⟨b, 0, none⟩)), (21, .int .i64 x21), (22, .bool x22)] [cellsC b [.int .i64 m, .int .i64 m_2, .int .i64 m_3] 78] rfl rfl ?_
        refine c_region ?_
        obtain ⟨t43, h_t43, H27⟩ := bnd_some H26; clear H26
        refine l_val rfl rfl rfl (r_addG rfl rfl h_t43) ?_
        refine l_val rfl rfl rfl (r_move (v := .int .i64 t43) rfl) ?_
        refine l_nil ?_
        refine c_close t43 () m1 [] (by exact ⟨rfl, rfl, rfl, rfl, trivial⟩) (by decide) rfl (by exact ⟨(by subst hn1; exact H27), trivial⟩) (Nat.lt_succ_self _)
    · have H42 := cnd_f hb H24; clear H24
      refine c_exit ?_
      refine c_seq ?_
      refine c_region ?_
      refine l_val rfl rfl rfl (r_assign (v := .int .i64 0) rfl) ?_
      refine l_nil ?_
      refine c_ret ?_
      obtain rfl := Option.some.inj H42
      refine ret1 (v := .int .i64 0) rfl rfl (fin rfl)
theorem k61 {a0 : Int} {a1 : Int} {a2 : Int} {r : Bool} (H : where_outside a0 a1 a2 = some r) : Ret Try.prog 61 [.int .i64 a0, .int .i64 a1, .int .i64 a2] (.bool r) := by
  refine enterRet (n := 15) Try.func61 rfl rfl rfl (fun wd => ?_)
  refine c_seq ?_
  refine c_region ?_
  refine l_val rfl rfl rfl (r_assign (v := .bool false) rfl) ?_
  refine l_nil ?_
  refine c_seq ?_
  refine c_region ?_
  refine l_val rfl rfl rfl (r_move (v := .int .i64 a0) rfl) ?_
  refine l_val rfl rfl rfl (r_move (v := .int .i64 a1) rfl) ?_
  refine l_val rfl rfl rfl (r_lss rfl rfl) ?_
  refine l_val rfl rfl rfl (r_move (v := .bool (decide (a0 < a1))) rfl) ?_
  refine split (fun hb => ?_) (fun hb => ?_)
  · have H3 := cnd_t hb H; clear H
    refine l_passed rfl rfl rfl ?_
    refine l_passed rfl rfl rfl ?_
    refine l_passed rfl rfl rfl ?_
    refine l_val rfl rfl rfl (r_pickT (v := .bool true) rfl rfl) ?_
    refine l_val rfl rfl rfl (r_assign (v := .bool true) rfl) ?_
    refine l_nil ?_
    refine c_ret ?_
    obtain rfl := Option.some.inj H3
    refine ret1 (v := .bool true) rfl rfl (fin rfl)
  · have H4 := cnd_f hb H; clear H
    refine l_val rfl rfl rfl (r_move (v := .int .i64 a0) rfl) ?_
    refine l_val rfl rfl rfl (r_move (v := .int .i64 a2) rfl) ?_
    refine l_val rfl rfl rfl (r_gtr rfl rfl) ?_
    refine l_val rfl rfl rfl (r_pickF (v := .bool (decide (a2 < a0))) rfl rfl) ?_
    refine l_val rfl rfl rfl (r_assign (v := .bool (decide (a2 < a0))) rfl) ?_
    refine l_nil ?_
    refine c_ret ?_
    obtain rfl := Option.some.inj H4
    refine ret1 (v := .bool (decide (a2 < a0))) rfl rfl (fin rfl)
theorem k68 {a0 : Int} {r : Bool} (H : where_isLat a0 = some r) : Ret Try.prog 68 [.int .i64 a0] (.bool r) := by
  refine enterRet (n := 6) Try.func68 rfl rfl rfl (fun wd => ?_)
  refine c_seq ?_
  refine c_region ?_
  refine l_val rfl rfl rfl (r_assign (v := .bool false) rfl) ?_
  refine l_nil ?_
  refine c_seq ?_
  refine c_region ?_
  refine l_val rfl rfl rfl (r_move (v := .int .i64 a0) rfl) ?_
  obtain ⟨t4, h_t4, H2⟩ := bnd_some H; clear H
  refine l_call (k61 h_t4) Try.call61 rfl rfl rfl ?_
  refine l_val rfl rfl rfl (r_not rfl) ?_
  refine l_val rfl rfl rfl (r_assign (v := .bool (!t4)) rfl) ?_
  refine l_nil ?_
  refine c_ret ?_
  obtain rfl := Option.some.inj H2
  refine ret1 (v := .bool (!t4)) rfl rfl (fin rfl)
theorem k69 {a0 : Int} {r : Bool} (H : where_isLon a0 = some r) : Ret Try.prog 69 [.int .i64 a0] (.bool r) := by
  refine enterRet (n := 6) Try.func69 rfl rfl rfl (fun wd => ?_)
  refine c_seq ?_
  refine c_region ?_
  refine l_val rfl rfl rfl (r_assign (v := .bool false) rfl) ?_
  refine l_nil ?_
  refine c_seq ?_
  refine c_region ?_
  refine l_val rfl rfl rfl (r_move (v := .int .i64 a0) rfl) ?_
  obtain ⟨t4, h_t4, H2⟩ := bnd_some H; clear H
  refine l_call (k61 h_t4) Try.call61 rfl rfl rfl ?_
  refine l_val rfl rfl rfl (r_not rfl) ?_
  refine l_val rfl rfl rfl (r_assign (v := .bool (!t4)) rfl) ?_
  refine l_nil ?_
  refine c_ret ?_
  obtain rfl := Option.some.inj H2
  refine ret1 (v := .bool (!t4)) rfl rfl (fin rfl)
theorem k60 {a0 : T_api_Place} {r : Int} (H : where_CheckPlace a0 = some r) : Ret Try.prog 60 [.agg #[.int .i64 a0.Lat, .int .i64 a0.Lon]] (.int .i64 r) := by
  refine enterRet (n := 13) Try.func60 rfl rfl rfl (fun wd => ?_)
  refine c_seq ?_
  refine c_region ?_
  refine l_box (cs := [.int .i64 a0.Lat, .int .i64 a0.Lon]) rfl rfl rfl rfl (fun b1 => ?_)
  refine l_val rfl rfl rfl (r_assign (v := .int .i64 0) rfl) ?_
  refine l_nil ?_
  refine c_seq ?_
  refine c_seq ?_
  refine c_region ?_
  refine l_val rfl rfl rfl (r_field Try.runUnderlying25 rfl Try.sizeOf3 rfl rfl) ?_
  refine l_load1 (i := 0) (v := .int .i64 a0.Lat) Try.isAgg3 rfl rfl rfl rfl rfl ?_
  obtain ⟨t5, h_t5, H7⟩ := bnd_some H; clear H
  refine l_call (k68 h_t5) Try.call68 rfl rfl rfl ?_
  refine l_val rfl rfl rfl (r_not rfl) ?_
  refine l_val rfl rfl rfl (r_move (v := .bool (!t5)) rfl) ?_
  refine split (fun hb => ?_) (fun hb => ?_)
  · have H8 := cnd_t hb H7; clear H7
    refine l_passed rfl rfl rfl ?_
    refine l_passed rfl rfl rfl ?_
    refine l_passed rfl rfl rfl ?_
    refine l_passed rfl rfl rfl ?_
    refine l_val rfl rfl rfl (r_pickT (v := .bool true) rfl rfl) ?_
    refine l_nil ?_
    refine c_true rfl ?_
    refine c_seq ?_
    refine c_region ?_
    refine l_val rfl rfl rfl (r_assign (v := .int .i64 2) rfl) ?_
    refine l_nil ?_
    refine c_ret ?_
    obtain rfl := Option.some.inj H8
    refine ret1 (v := .int .i64 2) rfl rfl (fin rfl)
  · have H9 := cnd_f hb H7; clear H7
    refine l_val rfl rfl rfl (r_field Try.runUnderlying25 rfl Try.sizeOf3 rfl rfl) ?_
    refine l_load1 (i := 0) (v := .int .i64 a0.Lon) Try.isAgg3 rfl rfl rfl rfl rfl ?_
    obtain ⟨t10, h_t10, H10⟩ := bnd_some H9; clear H9
    refine l_call (k69 h_t10) Try.call69 rfl rfl rfl ?_
    refine l_val rfl rfl rfl (r_not rfl) ?_
    refine l_val rfl rfl rfl (r_pickF (v := .bool (!t10)) rfl rfl) ?_
    refine l_nil ?_
    refine c_if (b := (!t10)) rfl (fun hb => ?_) (fun hb => ?_)
    · have H11 := cnd_t hb H10; clear H10
      refine c_seq ?_
      refine c_region ?_
      refine l_val rfl rfl rfl (r_assign (v := .int .i64 2) rfl) ?_
      refine l_nil ?_
      refine c_ret ?_
      obtain rfl := Option.some.inj H11
      refine ret1 (v := .int .i64 2) rfl rfl (fin rfl)
    · have H12 := cnd_f hb H10; clear H10
      refine c_skip ?_
      refine c_seq ?_
      refine c_region ?_
      refine l_val rfl rfl rfl (r_assign (v := .int .i64 0) rfl) ?_
      refine l_nil ?_
      refine c_ret ?_
      obtain rfl := Option.some.inj H12
      refine ret1 (v := .int .i64 0) rfl rfl (fin rfl)
theorem k76 {a0 : Int} {r : Bool} (H : where_isMoment a0 = some r) : Ret Try.prog 76 [.int .i64 a0] (.bool r) := by
  refine enterRet (n := 6) Try.func76 rfl rfl rfl (fun wd => ?_)
  refine c_seq ?_
  refine c_region ?_
  refine l_val rfl rfl rfl (r_assign (v := .bool false) rfl) ?_
  refine l_nil ?_
  refine c_seq ?_
  refine c_region ?_
  refine l_val rfl rfl rfl (r_move (v := .int .i64 a0) rfl) ?_
  obtain ⟨t4, h_t4, H2⟩ := bnd_some H; clear H
  refine l_call (k61 h_t4) Try.call61 rfl rfl rfl ?_
  refine l_val rfl rfl rfl (r_not rfl) ?_
  refine l_val rfl rfl rfl (r_assign (v := .bool (!t4)) rfl) ?_
  refine l_nil ?_
  refine c_ret ?_
  obtain rfl := Option.some.inj H2
  refine ret1 (v := .bool (!t4)) rfl rfl (fin rfl)
theorem k47 {a0 : (List T_where_Fix)} {v0 : Value} {r : Int} {w : World} {h : Heap} (hw : Know h w noS) (f0 : FrS h 3 v0 (a0.map e_where_Fix)) (H : where_CheckTrack a0 = some r) : Does Try.prog 47 (List.toArray [v0]) w (fun v w' => v = (.int .i64 r) ∧ Grow w w') := by
  refine enter (n := 40) Try.func47 rfl rfl rfl noS [] (Sat.nil _ _) ?_
  refine c_seq ?_
  refine c_region ?_
  refine l_val rfl rfl rfl (r_assign (v := .int .i64 0) rfl) ?_
  refine l_nil ?_
  refine c_seq ?_
  refine c_seq ?_
  refine c_region ?_
  refine l_val rfl rfl rfl (r_move (v := v0) rfl) ?_
  refine l_val rfl rfl rfl (r_lenF Try.underlying49 rfl f0 rfl) ?_
  refine l_val rfl rfl rfl (r_gtr rfl rfl) ?_
  refine l_nil ?_
  refine c_if (b := (decide (2000 < (a0.length : Int)))) rfl (fun hb => ?_) (fun hb => ?_)
  · have H21 := cnd_t hb H; clear H
    refine c_seq ?_
    refine c_region ?_
    refine l_val rfl rfl rfl (r_assign (v := .int .i64 4) rfl) ?_
    refine l_nil ?_
    refine c_ret ?_
    obtain rfl := Option.some.inj H21
    refine ret1 (v := .int .i64 4) rfl rfl (fin rfl)
  · have H22 := cnd_f hb H; clear H
    refine c_skip ?_
    refine c_seq ?_
    refine c_seq ?_
    refine c_region ?_
    refine l_val rfl rfl rfl (r_move (v := v0) rfl) ?_
    refine l_val rfl rfl rfl (r_lenF Try.underlying49 rfl f0 rfl) ?_
    refine l_val rfl rfl rfl (r_move (v := .int .i64 0) rfl) ?_
    refine l_nil ?_
    refine c_block ?_
    refine c_fix (σ := Int) (τ := Unit) (fun next1 s => where_CheckTrack_l1 a0 next1 s) (fun s t => [(0, v0), (9, v0), (10, .int .i64 (a0.length : Int)), (11, .int .i64 s)]) (fun s t => []) (fun s t => True) 0 () [] H22 (by exact trivial) (by exact ⟨rfl, rfl, rfl, rfl, trivial⟩) (by decide) rfl ?_
    rintro x11_2 _ m1 gg H23 _
    clear H22
    replace H23 : where_CheckTrack_l1 a0 (it (fun next1 s => where_CheckTrack_l1 a0 next1 s) m1) x11_2 = some r := H23
    generalize hn1 : it (fun next1 s => where_CheckTrack_l1 a0 next1 s) m1 = next1 at H23
    refine c_tidyF [(0, v0), (9, v0), (10, .int .i64 (a0.length : Int)), (11, .int .i64 x11_2)] [] rfl rfl ?_
    refine c_seq ?_
    refine c_region ?_
    refine l_val rfl rfl rfl (r_lss rfl rfl) ?_
    refine l_nil ?_
    refine c_seq ?_
    refine c_if (b := (decide (x11_2 < (a0.length : Int)))) rfl (fun hb => ?_) (fun hb => ?_)
    · have H24 := cnd_t hb H23; clear H23
      refine c_skip ?_
      refine c_meet (r := r) (σ := Unit) (τ := Unit) (fun s => where_CheckTrack_j2 x11_2 next1) (fun s t => [(0, v0), (9, v0), (10, .int .i64 (a0.length : Int)), (11, .int .i64 x11_2)]) (fun s t => []) (fun s t => True) ?_ ?_
      · refine c_block ?_
        refine c_seq ?_
        refine c_region ?_
        refine l_val rfl rfl rfl (r_move (v := .int .i64 x11_2) rfl) ?_
        obtain ⟨t14, h_t14, H27⟩ := bnd_some H24; clear H24
        refine l_val rfl rfl rfl (r_indexF Try.underlying49 Try.sizeOf78 rfl rfl f0 h_t14) ?_
        refine l_read (fun w hF hS => run_loadGN (j := 0) (vs := [.int .i64 t14.Moment, .int .i64 t14.Place.Lat, .int .i64 t14.Place.Lon]) Try.isAgg78 Try.sizeOf78 rfl rfl (f0.row (hw.now hF)) h_t14 rfl) rfl rfl rfl ?_
        refine l_alloc (cs := [.int .i64 0, .int .i64 0, .int .i64 0]) Try.zeroValue78 rfl rfl rfl (fun b1 => ?_)
        refine l_val rfl rfl rfl (r_assign (v := .int .i64 x11_2) rfl) ?_
        refine l_store (i := 0) (vs := [.int .i64 t14.Moment, .int .i64 t14.Place.Lat, .int .i64 t14.Place.Lon]) (cs' := [.int .i64 t14.Moment, .int .i64 t14.Place.Lat, .int .i64 t14.Place.Lon]) Try.sizeOf78 rfl rfl rfl rfl rfl rfl rfl rfl rfl ?_
        refine l_nil ?_
        refine c_seq ?_
        refine c_seq ?_
        refine c_region ?_
        refine l_val rfl rfl rfl (r_field Try.runUnderlying78 rfl Try.sizeOf3 rfl rfl) ?_
        refine l_load1 (i := 0) (v := .int .i64 t14.Moment) Try.isAgg3 rfl rfl rfl rfl rfl ?_
        obtain ⟨t18, h_t18, H28⟩ := bnd_some H27; clear H27
        refine l_call (k76 h_t18) Try.call76 rfl rfl rfl ?_
        refine l_val rfl rfl rfl (r_not rfl) ?_
        refine l_nil ?_
        refine c_if (b := (!t18)) rfl (fun hb => ?_) (fun hb => ?_)
        · have H29 := cnd_t hb H28; clear H28
          refine c_seq ?_
          refine c_region ?_
          refine l_val rfl rfl rfl (r_assign (v := .int .i64 2) rfl) ?_
          refine l_nil ?_
          refine c_ret ?_
          obtain rfl := Option.some.inj H29
          refine ret1 (v := .int .i64 2) rfl rfl (fin rfl)
        · have H30 := cnd_f hb H28; clear H28
          refine c_skip ?_
          refine c_seq ?_
          refine c_seq ?_
          refine c_region ?_
          refine l_val rfl rfl rfl (r_field Try.runUnderlying78 rfl Try.sizeOf25 rfl rfl) ?_
          refine l_loadN (i := 0) (vs := [.int .i64 t14.Place.Lat, .int .i64 t14.Place.Lon]) Try.isAgg25 Try.sizeOf25 rfl rfl rfl rfl rfl ?_
          obtain ⟨t22, h_t22, H31⟩ := bnd_some H30; clear H30
          refine l_call (k60 h_t22) Try.call60 rfl rfl rfl ?_
          refine l_val rfl rfl rfl (r_assign (v := .int .i64 t22) rfl) ?_
          refine l_nil ?_
          refine c_seq ?_
          refine c_region ?_
          refine l_val rfl rfl rfl (r_move (v := .int .i64 t22) rfl) ?_
          refine l_val rfl rfl rfl (r_neq rfl rfl) ?_
          refine l_nil ?_
          refine c_if (b := (decide (t22 ≠ 0))) rfl (fun hb => ?_) (fun hb => ?_)
          · have H32 := cnd_t hb H31; clear H31
            refine c_seq ?_
            refine c_region ?_
            refine l_val rfl rfl rfl (r_move (v := .int .i64 t22) rfl) ?_
            refine l_val rfl rfl rfl (r_assign (v := .int .i64 t22) rfl) ?_
            refine l_nil ?_
            refine c_ret ?_
            obtain rfl := Option.some.inj H32
            refine ret1 (v := .int .i64 t22) rfl rfl (fin rfl)
          · have H33 := cnd_f hb H31; clear H31
            refine c_skip ?_
            refine c_seq ?_
            exact c_regionD (Kd.p :: Kd.p :: Kd.p :: Kd.p :: Kd.d [0] _ :: Kd.p :: Kd.p :: Kd.p :: Kd.p :: Kd.p :: Kd.d [] _ :: Kd.p :: Kd.p :: []) 0 mixed (by
              refine d_val rfl rfl (r_move (v := .int .i64 x11_2) rfl) ?_
              refine d_val rfl rfl (r_gtr rfl rfl) ?_
              refine d_val rfl rfl (r_move (v := .bool (decide (0 < x11_2))) rfl) ?_
              refine splitS (fun hb => ?_) (fun hb => ?_)
              · have H34 := cnd_t hb H33
                refine d_val rfl rfl (r_field Try.runUnderlying78 rfl Try.sizeOf3 rfl rfl) ?_
                refine d_load1 (i := 0) (v := .int .i64 t14.Moment) Try.isAgg3 rfl rfl rfl rfl ?_
                refine d_val rfl rfl (r_move (v := v0) rfl) ?_
                refine d_val rfl rfl (r_move (v := .int .i64 x11_2) rfl) ?_
                have h_t33 := bnd_val H34
                have H35 := bnd_rest H34
                refine d_val rfl rfl (r_subG rfl rfl h_t33) ?_
                have h_t34 := bnd_val H35
                have H36 := bnd_rest H35
                refine d_val rfl rfl (r_indexF Try.underlying49 Try.sizeOf78 rfl rfl f0 h_t34) ?_
                refine d_val rfl rfl (r_fieldP Try.runUnderlying78 rfl Try.sizeOf3 rfl rfl (some_of_at f0 h_t34)) ?_
                refine d_read (fun w hF => run_loadG1 (j := 0) (v := .int .i64 (val (gAt a0 (val (gI (x11_2 - 1))))).Moment) Try.isAgg3 rfl rfl (f0.row (hw.now hF)) h_t34 rfl) rfl rfl ?_
                refine d_val rfl rfl (r_leq rfl rfl) ?_
                refine d_val rfl rfl (r_pickT (v := .bool (decide (t14.Moment ≤ (val (gAt a0 (val (gI (x11_2 - 1))))).Moment))) rfl rfl) ?_
                refine d_nil ?_
                refine c_if (b := (decide (t14.Moment ≤ (val (gAt a0 (val (gI (x11_2 - 1))))).Moment))) rfl (fun hb => ?_) (fun hb => ?_)
                · have H37 := cnd_t hb H36; clear H36
                  refine c_seq ?_
                  refine c_region ?_
                  refine l_val rfl rfl rfl (r_assign (v := .int .i64 5) rfl) ?_
                  refine l_nil ?_
                  refine c_ret ?_
                  obtain rfl := Option.some.inj H37
                  refine ret1 (v := .int .i64 5) rfl rfl (fin rfl)
                · have H38 := cnd_f hb H36; clear H36
                  refine c_skip ?_
                  refine c_close () () 0 [] (by exact ⟨rfl, rfl, rfl, rfl, trivial⟩) (by decide) rfl (by exact ⟨H38, trivial⟩) (Nat.lt_succ_self _)
              · have H39 := cnd_f hb H33
                refine d_pass rfl rfl ?_
                refine d_pass rfl rfl ?_
                refine d_pass rfl rfl ?_
                refine d_pass rfl rfl ?_
                refine d_pass rfl rfl ?_
                refine d_pass rfl rfl ?_
                refine d_pass rfl rfl ?_
                refine d_pass rfl rfl ?_
                refine d_pass rfl rfl ?_
                refine d_val rfl rfl (r_pickF (v := .bool false) rfl rfl) ?_
                refine d_nil ?_
                refine c_false rfl ?_
                refine c_skip ?_
                refine c_close () () 0 [] (by exact ⟨rfl, rfl, rfl, rfl, trivial⟩) (by decide) rfl (by exact ⟨H39, trivial⟩) (Nat.lt_succ_self _)
              ) (by kernel_rfl)
      · rintro _ _ gg H25 _
        replace H25 : where_CheckTrack_j2 x11_2 next1 = some r := H25
        refine c_tidyF [(0, v0), (9, v0), (10, .int .i64 (a0.length : Int)), (11, .int .i64 x11_2)] [] rfl rfl ?_
        refine c_region ?_
        obtain ⟨t39, h_t39, H26⟩ := bnd_some H25; clear H25
        refine l_val rfl rfl rfl (r_addG rfl rfl h_t39) ?_
        refine l_val rfl rfl rfl (r_move (v := .int .i64 t39) rfl) ?_
        refine l_nil ?_
        refine c_close t39 () m1 [] (by exact ⟨rfl, rfl, rfl, rfl, trivial⟩) (by decide) rfl (by exact ⟨(by subst hn1; exact H26), trivial⟩) (Nat.lt_succ_self _)
    · have H40 := cnd_f hb H23; clear H23
      refine c_exit ?_
      refine c_seq ?_
      refine c_region ?_
      refine l_val rfl rfl rfl (r_assign (v := .int .i64 0) rfl) ?_
      refine l_nil ?_
      refine c_ret ?_
      obtain rfl := Option.some.inj H40
      refine ret1 (v := .int .i64 0) rfl rfl (fin rfl)
theorem k64 {a0 : Int} {r : Int} (H : where_cosine a0 = some r) : Ret Try.prog 64 [.int .i64 a0] (.int .i64 r) := by
  refine enterRet (n := 17) Try.func64 rfl rfl rfl (fun wd => ?_)
  refine c_seq ?_
  refine c_region ?_
  refine l_val rfl rfl rfl (r_assign (v := .int .i64 0) rfl) ?_
  refine l_nil ?_
  refine c_seq ?_
  refine c_region ?_
  refine l_val rfl rfl rfl (r_move (v := .int .i64 a0) rfl) ?_
  obtain ⟨t5, h_t5, H9⟩ := bnd_some H; clear H
  refine l_val rfl rfl rfl (r_quoG rfl rfl h_t5) ?_
  refine l_val rfl rfl rfl (r_assign (v := .int .i64 t5) rfl) ?_
  refine l_nil ?_
  refine c_seq ?_
  refine c_region ?_
  refine l_val rfl rfl rfl (r_move (v := .int .i64 t5) rfl) ?_
  obtain ⟨t7, h_t7, H10⟩ := bnd_some H9; clear H9
  refine l_val rfl rfl rfl (r_mulG rfl rfl h_t7) ?_
  refine l_val rfl rfl rfl (r_move (v := .int .i64 t5) rfl) ?_
  obtain ⟨t9, h_t9, H11⟩ := bnd_some H10; clear H10
  refine l_val rfl rfl rfl (r_mulG rfl rfl h_t9) ?_
  obtain ⟨t10, h_t10, H12⟩ := bnd_some H11; clear H11
  refine l_val rfl rfl rfl (r_subG rfl rfl h_t10) ?_
  obtain ⟨t11, h_t11, H13⟩ := bnd_some H12; clear H12
  refine l_val rfl rfl rfl (r_mulG rfl rfl h_t11) ?_
  refine l_val rfl rfl rfl (r_move (v := .int .i64 t5) rfl) ?_
  refine l_val rfl rfl rfl (r_move (v := .int .i64 t5) rfl) ?_
  obtain ⟨t14, h_t14, H14⟩ := bnd_some H13; clear H13
  refine l_val rfl rfl rfl (r_mulG rfl rfl h_t14) ?_
  obtain ⟨t15, h_t15, H15⟩ := bnd_some H14; clear H14
  refine l_val rfl rfl rfl (r_addG rfl rfl h_t15) ?_
  obtain ⟨t16, h_t16, H16⟩ := bnd_some H15; clear H15
  refine l_val rfl rfl rfl (r_quoG rfl rfl h_t16) ?_
  refine l_val rfl rfl rfl (r_assign (v := .int .i64 t16) rfl) ?_
  refine l_nil ?_
  refine c_ret ?_
  obtain rfl := Option.some.inj H16
  refine ret1 (v := .int .i64 t16) rfl rfl (fin rfl)
theorem k108 {a0 : Int} {a1 : Int} {r : Int} (H : where_eastward a0 a1 = some r) : Ret Try.prog 108 [.int .i64 a0, .int .i64 a1] (.int .i64 r) := by
  refine enterRet (n := 11) Try.func108 rfl rfl rfl (fun wd => ?_)
  refine c_seq ?_
  refine c_region ?_
  refine l_val rfl rfl rfl (r_assign (v := .int .i64 0) rfl) ?_
  refine l_nil ?_
  refine c_seq ?_
  refine c_region ?_
  refine l_val rfl rfl rfl (r_move (v := .int .i64 a1) rfl) ?_
  refine l_val rfl rfl rfl (r_move (v := .int .i64 a0) rfl) ?_
  obtain ⟨t7, h_t7, H5⟩ := bnd_some H; clear H
  refine l_val rfl rfl rfl (r_subG rfl rfl h_t7) ?_
  obtain ⟨t8, h_t8, H6⟩ := bnd_some H5; clear H5
  refine l_val rfl rfl rfl (r_remG rfl rfl h_t8) ?_
  obtain ⟨t9, h_t9, H7⟩ := bnd_some H6; clear H6
  refine l_val rfl rfl rfl (r_addG rfl rfl h_t9) ?_
  obtain ⟨t10, h_t10, H8⟩ := bnd_some H7; clear H7
  refine l_val rfl rfl rfl (r_remG rfl rfl h_t10) ?_
  refine l_val rfl rfl rfl (r_assign (v := .int .i64 t10) rfl) ?_
  refine l_nil ?_
  refine c_ret ?_
  obtain rfl := Option.some.inj H8
  refine ret1 (v := .int .i64 t10) rfl rfl (fin rfl)
theorem k117 {a0 : Int} {a1 : Int} {r : Int} (H : where_short a0 a1 = some r) : Ret Try.prog 117 [.int .i64 a0, .int .i64 a1] (.int .i64 r) := by
  refine enterRet (n := 14) Try.func117 rfl rfl rfl (fun wd => ?_)
  refine c_seq ?_
  refine c_region ?_
  refine l_val rfl rfl rfl (r_assign (v := .int .i64 0) rfl) ?_
  refine l_nil ?_
  refine c_seq ?_
  refine c_region ?_
  refine l_val rfl rfl rfl (r_move (v := .int .i64 a0) rfl) ?_
  refine l_val rfl rfl rfl (r_move (v := .int .i64 a1) rfl) ?_
  obtain ⟨t8, h_t8, H5⟩ := bnd_some H; clear H
  refine l_call (k108 h_t8) Try.call108 rfl rfl rfl ?_
  refine l_val rfl rfl rfl (r_assign (v := .int .i64 t8) rfl) ?_
  refine l_nil ?_
  refine c_seq ?_
  refine c_seq ?_
  refine c_region ?_
  refine l_val rfl rfl rfl (r_move (v := .int .i64 t8) rfl) ?_
  refine l_val rfl rfl rfl (r_geq rfl rfl) ?_
  refine l_nil ?_
  refine c_if (b := (decide (180000000 ≤ t8))) rfl (fun hb => ?_) (fun hb => ?_)
  · have H6 := cnd_t hb H5; clear H5
    refine c_region ?_
    refine l_val rfl rfl rfl (r_move (v := .int .i64 t8) rfl) ?_
    obtain ⟨t12, h_t12, H7⟩ := bnd_some H6; clear H6
    refine l_val rfl rfl rfl (r_subG rfl rfl h_t12) ?_
    refine l_val rfl rfl rfl (r_assign (v := .int .i64 t12) rfl) ?_
    refine l_nil ?_
    refine c_seq ?_
    refine c_region ?_
    refine l_val rfl rfl rfl (r_move (v := .int .i64 t12) rfl) ?_
    refine l_val rfl rfl rfl (r_assign (v := .int .i64 t12) rfl) ?_
    refine l_nil ?_
    refine c_ret ?_
    obtain rfl := Option.some.inj H7
    refine ret1 (v := .int .i64 t12) rfl rfl (fin rfl)
  · have H8 := cnd_f hb H5; clear H5
    refine c_skip ?_
    refine c_seq ?_
    refine c_region ?_
    refine l_val rfl rfl rfl (r_move (v := .int .i64 t8) rfl) ?_
    refine l_val rfl rfl rfl (r_assign (v := .int .i64 t8) rfl) ?_
    refine l_nil ?_
    refine c_ret ?_
    obtain rfl := Option.some.inj H8
    refine ret1 (v := .int .i64 t8) rfl rfl (fin rfl)
theorem k118 {a0 : Int} {a1 : Int} {r : Int} (H : where_floor a0 a1 = some r) : Ret Try.prog 118 [.int .i64 a0, .int .i64 a1] (.int .i64 r) := by
  refine enterRet (n := 16) Try.func118 rfl rfl rfl (fun wd => ?_)
  refine c_seq ?_
  refine c_region ?_
  refine l_val rfl rfl rfl (r_assign (v := .int .i64 0) rfl) ?_
  refine l_nil ?_
  refine c_seq ?_
  refine c_region ?_
  refine l_val rfl rfl rfl (r_move (v := .int .i64 a0) rfl) ?_
  refine l_val rfl rfl rfl (r_move (v := .int .i64 a1) rfl) ?_
  obtain ⟨t8, h_t8, H6⟩ := bnd_some H; clear H
  refine l_val rfl rfl rfl (r_quoG rfl rfl h_t8) ?_
  refine l_val rfl rfl rfl (r_assign (v := .int .i64 t8) rfl) ?_
  refine l_nil ?_
  refine c_seq ?_
  refine c_seq ?_
  refine c_region ?_
  refine l_val rfl rfl rfl (r_move (v := .int .i64 a0) rfl) ?_
  refine l_val rfl rfl rfl (r_move (v := .int .i64 a1) rfl) ?_
  obtain ⟨t11, h_t11, H7⟩ := bnd_some H6; clear H6
  refine l_val rfl rfl rfl (r_remG rfl rfl h_t11) ?_
  refine l_val rfl rfl rfl (r_lss rfl rfl) ?_
  refine l_nil ?_
  refine c_if (b := (decide (t11 < 0))) rfl (fun hb => ?_) (fun hb => ?_)
  · have H8 := cnd_t hb H7; clear H7
    refine c_region ?_
    refine l_val rfl rfl rfl (r_move (v := .int .i64 t8) rfl) ?_
    obtain ⟨t14, h_t14, H9⟩ := bnd_some H8; clear H8
    refine l_val rfl rfl rfl (r_subG rfl rfl h_t14) ?_
    refine l_val rfl rfl rfl (r_assign (v := .int .i64 t14) rfl) ?_
    refine l_nil ?_
    refine c_seq ?_
    refine c_region ?_
    refine l_val rfl rfl rfl (r_move (v := .int .i64 t14) rfl) ?_
    refine l_val rfl rfl rfl (r_assign (v := .int .i64 t14) rfl) ?_
    refine l_nil ?_
    refine c_ret ?_
    obtain rfl := Option.some.inj H9
    refine ret1 (v := .int .i64 t14) rfl rfl (fin rfl)
  · have H10 := cnd_f hb H7; clear H7
    refine c_skip ?_
    refine c_seq ?_
    refine c_region ?_
    refine l_val rfl rfl rfl (r_move (v := .int .i64 t8) rfl) ?_
    refine l_val rfl rfl rfl (r_assign (v := .int .i64 t8) rfl) ?_
    refine l_nil ?_
    refine c_ret ?_
    obtain rfl := Option.some.inj H10
    refine ret1 (v := .int .i64 t8) rfl rfl (fin rfl)
theorem ext135 (b q : Nat) (h : gSqrt b = some q) (w : World) : (callFunc 135 (List.toArray [.float .f64 b])).run Try.prog w = .ok (.value (.float .f64 q)) w := by
  have h0 : (callFunc 135 #[.float .f64 b]).run Try.prog w = (do pure (.value (← Extern.MathSqrt.sqrt #[.float .f64 b])) : Sem Next).run Try.prog w := by kernel_rfl
  rw [h0]
  simp only [Sem.run_bind, Go.Lx.run_sqrt h, Result.andThen_ok, Sem.run_pure]

theorem k123 {a0 : Nat} {r : Nat} (H : math_Sqrt a0 = some r) : Ret Try.prog 123 [.float .f64 a0] (.float .f64 r) := by
  refine enterRet (n := 5) Try.func123 rfl rfl rfl (fun wd => ?_)
  refine c_seq ?_
  refine c_region ?_
  refine l_val rfl rfl rfl (r_assign (v := .float .f64 0) rfl) ?_
  refine l_nil ?_
  refine c_seq ?_
  refine c_region ?_
  refine l_val rfl rfl rfl (r_move (v := .float .f64 a0) rfl) ?_
  obtain ⟨t4, h_t4, H2⟩ := bnd_some H; clear H
  refine l_val rfl rfl rfl (r_ext (args := [.float .f64 a0]) (ext135 _ _ h_t4) rfl) ?_
  refine l_val rfl rfl rfl (r_assign (v := .float .f64 t4) rfl) ?_
  refine l_nil ?_
  refine c_ret ?_
  obtain rfl := Option.some.inj H2
  refine ret1 (v := .float .f64 t4) rfl rfl (fin rfl)
theorem k119 {a0 : Int} {r : Int} (H : where_root a0 = some r) : Ret Try.prog 119 [.int .i64 a0] (.int .i64 r) := by
  refine enterRet (n := 25) Try.func119 rfl rfl rfl (fun wd => ?_)
  refine c_seq ?_
  refine c_region ?_
  refine l_val rfl rfl rfl (r_assign (v := .int .i64 0) rfl) ?_
  refine l_nil ?_
  refine c_seq ?_
  refine c_region ?_
  refine l_val rfl rfl rfl (r_move (v := .int .i64 a0) rfl) ?_
  obtain ⟨t5, h_t5, H17⟩ := bnd_some H; clear H
  refine l_val rfl rfl rfl (r_convIFG Try.runUnderlying3 Try.runUnderlying141 rfl h_t5) ?_
  obtain ⟨t6, h_t6, H18⟩ := bnd_some H17; clear H17
  refine l_call (k123 h_t6) Try.call123 rfl rfl rfl ?_
  obtain ⟨t7, h_t7, H19⟩ := bnd_some H18; clear H18
  refine l_val rfl rfl rfl (r_convFIG Try.runUnderlying141 Try.runUnderlying3 rfl h_t7) ?_
  refine l_val rfl rfl rfl (r_assign (v := .int .i64 t7) rfl) ?_
  refine l_nil ?_
  refine c_meet (r := r) (σ := Int) (τ := Unit) (fun s => where_root_j1 a0 s) (fun s t => [(0, .int .i64 a0), (3, .int .i64 s)]) (fun s t => []) (fun s t => True) ?_ ?_
  · refine c_block ?_
    refine c_fix (σ := Int) (τ := Unit) (fun next3 s => where_root_l3 a0 next3 s) (fun s t => [(0, .int .i64 a0), (3, .int .i64 s)]) (fun s t => []) (fun s t => True) t7 () [] H19 (by exact trivial) (by exact ⟨rfl, rfl, trivial⟩) (by decide) rfl ?_
    rintro x3_5 _ m3 gg H28 _
    clear H19
    replace H28 : where_root_l3 a0 (it (fun next3 s => where_root_l3 a0 next3 s) m3) x3_5 = some r := H28
    generalize hn3 : it (fun next3 s => where_root_l3 a0 next3 s) m3 = next3 at H28
    refine c_tidyF [(0, .int .i64 a0), (3, .int .i64 x3_5)] [] rfl rfl ?_
    refine c_seq ?_
    refine c_seq ?_
    refine c_region ?_
    refine l_val rfl rfl rfl (r_move (v := .int .i64 x3_5) rfl) ?_
    refine l_val rfl rfl rfl (r_move (v := .int .i64 x3_5) rfl) ?_
    obtain ⟨t10, h_t10, H29⟩ := bnd_some H28; clear H28
    refine l_val rfl rfl rfl (r_mulG rfl rfl h_t10) ?_
    refine l_val rfl rfl rfl (r_move (v := .int .i64 a0) rfl) ?_
    refine l_val rfl rfl rfl (r_gtr rfl rfl) ?_
    refine l_nil ?_
    refine c_if (b := (decide (a0 < t10))) rfl (fun hb => ?_) (fun hb => ?_)
    · have H30 := cnd_t hb H29; clear H29
      refine c_skip ?_
      refine c_block ?_
      refine c_region ?_
      refine l_val rfl rfl rfl (r_move (v := .int .i64 x3_5) rfl) ?_
      obtain ⟨t14, h_t14, H31⟩ := bnd_some H30; clear H30
      refine l_val rfl rfl rfl (r_subG rfl rfl h_t14) ?_
      refine l_val rfl rfl rfl (r_assign (v := .int .i64 t14) rfl) ?_
      refine l_nil ?_
      refine c_close t14 () m3 [] (by exact ⟨rfl, rfl, trivial⟩) (by decide) rfl (by exact ⟨(by subst hn3; exact H31), trivial⟩) (Nat.lt_succ_self _)
    · have H32 := cnd_f hb H29; clear H29
      refine c_exit ?_
      refine c_close x3_5 () 0 [] (by exact ⟨rfl, rfl, trivial⟩) (by decide) rfl (by exact ⟨H32, trivial⟩) (Nat.lt_succ_self _)
  · rintro x3 _ gg H20 _
    replace H20 : where_root_j1 a0 x3 = some r := H20
    refine c_tidyF [(0, .int .i64 a0), (3, .int .i64 x3)] [] rfl rfl ?_
    refine c_seq ?_
    refine c_block ?_
    refine c_fix (σ := Int) (τ := Unit) (fun next2 s => where_root_l2 a0 next2 s) (fun s t => [(0, .int .i64 a0), (3, .int .i64 s)]) (fun s t => []) (fun s t => True) x3 () [] H20 (by exact trivial) (by exact ⟨rfl, rfl, trivial⟩) (by decide) rfl ?_
    rintro x3_3 _ m2 gg H21 _
    clear H20
    replace H21 : where_root_l2 a0 (it (fun next2 s => where_root_l2 a0 next2 s) m2) x3_3 = some r := H21
    generalize hn2 : it (fun next2 s => where_root_l2 a0 next2 s) m2 = next2 at H21
    refine c_tidyF [(0, .int .i64 a0), (3, .int .i64 x3_3)] [] rfl rfl ?_
    refine c_seq ?_
    refine c_seq ?_
    refine c_region ?_
    refine l_val rfl rfl rfl (r_move (v := .int .i64 x3_3) rfl) ?_
    obtain ⟨t16, h_t16, H22⟩ := bnd_some H21; clear H21
    refine l_val rfl rfl rfl (r_addG rfl rfl h_t16) ?_
    refine l_val rfl rfl rfl (r_move (v := .int .i64 x3_3) rfl) ?_
    obtain ⟨t18, h_t18, H23⟩ := bnd_some H22; clear H22
    refine l_val rfl rfl rfl (r_addG rfl rfl h_t18) ?_
    obtain ⟨t19, h_t19, H24⟩ := bnd_some H23; clear H23
    refine l_val rfl rfl rfl (r_mulG rfl rfl h_t19) ?_
    refine l_val rfl rfl rfl (r_move (v := .int .i64 a0) rfl) ?_
    refine l_val rfl rfl rfl (r_leq rfl rfl) ?_
    refine l_nil ?_
    refine c_if (b := (decide (t19 ≤ a0))) rfl (fun hb => ?_) (fun hb => ?_)
    · have H25 := cnd_t hb H24; clear H24
      refine c_skip ?_
      refine c_block ?_
      refine c_region ?_
      refine l_val rfl rfl rfl (r_move (v := .int .i64 x3_3) rfl) ?_
      obtain ⟨t23, h_t23, H26⟩ := bnd_some H25; clear H25
      refine l_val rfl rfl rfl (r_addG rfl rfl h_t23) ?_
      refine l_val rfl rfl rfl (r_assign (v := .int .i64 t23) rfl) ?_
      refine l_nil ?_
      refine c_close t23 () m2 [] (by exact ⟨rfl, rfl, trivial⟩) (by decide) rfl (by exact ⟨(by subst hn2; exact H26), trivial⟩) (Nat.lt_succ_self _)
    · have H27 := cnd_f hb H24; clear H24
      refine c_exit ?_
      refine c_seq ?_
      refine c_region ?_
      refine l_val rfl rfl rfl (r_move (v := .int .i64 x3_3) rfl) ?_
      refine l_val rfl rfl rfl (r_assign (v := .int .i64 x3_3) rfl) ?_
      refine l_nil ?_
      refine c_ret ?_
      obtain rfl := Option.some.inj H27
      refine ret1 (v := .int .i64 x3_3) rfl rfl (fin rfl)
theorem k81 {a0 : T_api_Place} {a1 : T_api_Place} {r : Int} (H : where_distance a0 a1 = some r) : Ret Try.prog 81 [.agg #[.int .i64 a0.Lat, .int .i64 a0.Lon], .agg #[.int .i64 a1.Lat, .int .i64 a1.Lon]] (.int .i64 r) := by
  refine enterRet (n := 36) Try.func81 rfl rfl rfl (fun wd => ?_)
  refine c_seq ?_
  refine c_region ?_
  refine l_box (cs := [.int .i64 a0.Lat, .int .i64 a0.Lon]) rfl rfl rfl rfl (fun b2 => ?_)
  refine l_box (cs := [.int .i64 a1.Lat, .int .i64 a1.Lon]) rfl rfl rfl rfl (fun b3 => ?_)
  refine l_val rfl rfl rfl (r_assign (v := .int .i64 0) rfl) ?_
  refine l_nil ?_
  refine c_seq ?_
  refine c_region ?_
  refine l_val rfl rfl rfl (r_field Try.runUnderlying25 rfl Try.sizeOf3 rfl rfl) ?_
  refine l_load1 (i := 1) (v := .int .i64 a1.Lat) Try.isAgg3 rfl rfl rfl rfl rfl ?_
  refine l_val rfl rfl rfl (r_field Try.runUnderlying25 rfl Try.sizeOf3 rfl rfl) ?_
  refine l_load1 (i := 0) (v := .int .i64 a0.Lat) Try.isAgg3 rfl rfl rfl rfl rfl ?_
  obtain ⟨t11, h_t11, H14⟩ := bnd_some H; clear H
  refine l_val rfl rfl rfl (r_subG rfl rfl h_t11) ?_
  refine l_val rfl rfl rfl (r_assign (v := .int .i64 t11) rfl) ?_
  refine l_nil ?_
  refine c_seq ?_
  exact c_regionD (Kd.p :: Kd.d [0] _ :: Kd.p :: Kd.d [1] _ :: Kd.d [] _ :: Kd.p :: Kd.d [0] _ :: Kd.p :: Kd.d [1] _ :: Kd.p :: Kd.d [] _ :: Kd.d [] _ :: Kd.p :: Kd.p :: Kd.p :: []) 0 mixed (by
    refine d_val rfl rfl (r_field Try.runUnderlying25 rfl Try.sizeOf3 rfl rfl) ?_
    refine d_load1 (i := 0) (v := .int .i64 a0.Lon) Try.isAgg3 rfl rfl rfl rfl ?_
    refine d_val rfl rfl (r_field Try.runUnderlying25 rfl Try.sizeOf3 rfl rfl) ?_
    refine d_load1 (i := 1) (v := .int .i64 a1.Lon) Try.isAgg3 rfl rfl rfl rfl ?_
    have h_t16 := bnd_val H14
    have H15 := bnd_rest H14
    refine d_call (k117 h_t16) Try.call117 rfl rfl ?_
    refine d_val rfl rfl (r_field Try.runUnderlying25 rfl Try.sizeOf3 rfl rfl) ?_
    refine d_load1 (i := 0) (v := .int .i64 a0.Lat) Try.isAgg3 rfl rfl rfl rfl ?_
    refine d_val rfl rfl (r_field Try.runUnderlying25 rfl Try.sizeOf3 rfl rfl) ?_
    refine d_load1 (i := 1) (v := .int .i64 a1.Lat) Try.isAgg3 rfl rfl rfl rfl ?_
    have h_t21 := bnd_val H15
    have H16 := bnd_rest H15
    refine d_val rfl rfl (r_addG rfl rfl h_t21) ?_
    have h_t22 := bnd_val H16
    have H17 := bnd_rest H16
    refine d_call (k118 h_t22) Try.call118 rfl rfl ?_
    have h_t23 := bnd_val H17
    have H18 := bnd_rest H17
    refine d_call (k64 h_t23) Try.call64 rfl rfl ?_
    have h_t24 := bnd_val H18
    have H19 := bnd_rest H18
    refine d_val rfl rfl (r_mulG rfl rfl h_t24) ?_
    have h_t25 := bnd_val H19
    have H20 := bnd_rest H19
    refine d_val rfl rfl (r_quoG rfl rfl h_t25) ?_
    refine d_val rfl rfl (r_assign (v := .int .i64 (val (gQuo (val (gI ((val (where_short a0.Lon a1.Lon)) * (val (where_cosine (val (where_floor (val (gI (a0.Lat + a1.Lat))) 2))))))) 1000000))) rfl) ?_
    refine d_nil ?_
    refine c_seq ?_
    refine c_region ?_
    refine l_val rfl rfl rfl (r_move (v := .int .i64 t11) rfl) ?_
    refine l_val rfl rfl rfl (r_move (v := .int .i64 t11) rfl) ?_
    obtain ⟨t28, h_t28, H21⟩ := bnd_some H20; clear H20
    refine l_val rfl rfl rfl (r_mulG rfl rfl h_t28) ?_
    refine l_val rfl rfl rfl (r_move (v := .int .i64 (val (gQuo (val (gI ((val (where_short a0.Lon a1.Lon)) * (val (where_cosine (val (where_floor (val (gI (a0.Lat + a1.Lat))) 2))))))) 1000000))) rfl) ?_
    refine l_val rfl rfl rfl (r_move (v := .int .i64 (val (gQuo (val (gI ((val (where_short a0.Lon a1.Lon)) * (val (where_cosine (val (where_floor (val (gI (a0.Lat + a1.Lat))) 2))))))) 1000000))) rfl) ?_
    obtain ⟨t31, h_t31, H22⟩ := bnd_some H21; clear H21
    refine l_val rfl rfl rfl (r_mulG rfl rfl h_t31) ?_
    obtain ⟨t32, h_t32, H23⟩ := bnd_some H22; clear H22
    refine l_val rfl rfl rfl (r_addG rfl rfl h_t32) ?_
    obtain ⟨t33, h_t33, H24⟩ := bnd_some H23; clear H23
    refine l_call (k119 h_t33) Try.call119 rfl rfl rfl ?_
    obtain ⟨t34, h_t34, H25⟩ := bnd_some H24; clear H24
    refine l_val rfl rfl rfl (r_mulG rfl rfl h_t34) ?_
    obtain ⟨t35, h_t35, H26⟩ := bnd_some H25; clear H25
    refine l_val rfl rfl rfl (r_quoG rfl rfl h_t35) ?_
    refine l_val rfl rfl rfl (r_assign (v := .int .i64 t35) rfl) ?_
    refine l_nil ?_
    refine c_ret ?_
    obtain rfl := Option.some.inj H26
    refine ret1 (v := .int .i64 t35) rfl rfl (fin rfl)
    ) (by kernel_rfl)
theorem k65 {a0 : Int} {r : Int} (H : where_wrap a0 = some r) : Ret Try.prog 65 [.int .i64 a0] (.int .i64 r) := by
  refine enterRet (n := 6) Try.func65 rfl rfl rfl (fun wd => ?_)
  refine c_seq ?_
  refine c_region ?_
  refine l_val rfl rfl rfl (r_assign (v := .int .i64 0) rfl) ?_
  refine l_nil ?_
  refine c_seq ?_
  refine c_region ?_
  refine l_val rfl rfl rfl (r_move (v := .int .i64 a0) rfl) ?_
  obtain ⟨t4, h_t4, H3⟩ := bnd_some H; clear H
  refine l_call (k108 h_t4) Try.call108 rfl rfl rfl ?_
  obtain ⟨t5, h_t5, H4⟩ := bnd_some H3; clear H3
  refine l_val rfl rfl rfl (r_subG rfl rfl h_t5) ?_
  refine l_val rfl rfl rfl (r_assign (v := .int .i64 t5) rfl) ?_
  refine l_nil ?_
  refine c_ret ?_
  obtain rfl := Option.some.inj H4
  refine ret1 (v := .int .i64 t5) rfl rfl (fin rfl)
theorem k82 {a0 : T_api_Place} {a1 : T_api_Place} {a2 : Int} {a3 : Int} {r : T_api_Place} (H : where_between a0 a1 a2 a3 = some r) : Ret Try.prog 82 [.agg #[.int .i64 a0.Lat, .int .i64 a0.Lon], .agg #[.int .i64 a1.Lat, .int .i64 a1.Lon], .int .i64 a2, .int .i64 a3] (.agg #[.int .i64 r.Lat, .int .i64 r.Lon]) := by
  refine enterRet (n := 35) Try.func82 rfl rfl rfl (fun wd => ?_)
  refine c_seq ?_
  refine c_region ?_
  refine l_box (cs := [.int .i64 a0.Lat, .int .i64 a0.Lon]) rfl rfl rfl rfl (fun b3 => ?_)
  refine l_box (cs := [.int .i64 a1.Lat, .int .i64 a1.Lon]) rfl rfl rfl rfl (fun b4 => ?_)
  refine l_alloc (cs := [.int .i64 0, .int .i64 0]) Try.zeroValue25 rfl rfl rfl (fun b5 => ?_)
  refine l_nil ?_
  refine c_seq ?_
  exact c_regionD (Kd.p :: Kd.d [0] _ :: Kd.p :: Kd.d [1] _ :: Kd.p :: Kd.d [0] _ :: Kd.p :: Kd.p :: Kd.p :: Kd.p :: Kd.d [] _ :: Kd.p :: Kd.p :: Kd.d [0] _ :: Kd.p :: Kd.d [0] _ :: Kd.p :: Kd.d [1] _ :: Kd.d [] _ :: Kd.p :: Kd.p :: Kd.p :: Kd.d [] _ :: Kd.p :: Kd.d [] _ :: Kd.p :: Kd.st 8 2 [_, _] 25 :: []) 0 mixed (by
    refine d_val rfl rfl (r_field Try.runUnderlying25 rfl Try.sizeOf3 rfl rfl) ?_
    refine d_load1 (i := 0) (v := .int .i64 a0.Lat) Try.isAgg3 rfl rfl rfl rfl ?_
    refine d_val rfl rfl (r_field Try.runUnderlying25 rfl Try.sizeOf3 rfl rfl) ?_
    refine d_load1 (i := 1) (v := .int .i64 a1.Lat) Try.isAgg3 rfl rfl rfl rfl ?_
    refine d_val rfl rfl (r_field Try.runUnderlying25 rfl Try.sizeOf3 rfl rfl) ?_
    refine d_load1 (i := 0) (v := .int .i64 a0.Lat) Try.isAgg3 rfl rfl rfl rfl ?_
    have h_t15 := bnd_val H
    have H10 := bnd_rest H
    refine d_val rfl rfl (r_subG rfl rfl h_t15) ?_
    refine d_val rfl rfl (r_move (v := .int .i64 a2) rfl) ?_
    have h_t17 := bnd_val H10
    have H11 := bnd_rest H10
    refine d_val rfl rfl (r_mulG rfl rfl h_t17) ?_
    refine d_val rfl rfl (r_move (v := .int .i64 a3) rfl) ?_
    have h_t19 := bnd_val H11
    have H12 := bnd_rest H11
    refine d_call (k118 h_t19) Try.call118 rfl rfl ?_
    have h_t20 := bnd_val H12
    have H13 := bnd_rest H12
    refine d_val rfl rfl (r_addG rfl rfl h_t20) ?_
    refine d_val rfl rfl (r_field Try.runUnderlying25 rfl Try.sizeOf3 rfl rfl) ?_
    refine d_load1 (i := 0) (v := .int .i64 a0.Lon) Try.isAgg3 rfl rfl rfl rfl ?_
    refine d_val rfl rfl (r_field Try.runUnderlying25 rfl Try.sizeOf3 rfl rfl) ?_
    refine d_load1 (i := 0) (v := .int .i64 a0.Lon) Try.isAgg3 rfl rfl rfl rfl ?_
    refine d_val rfl rfl (r_field Try.runUnderlying25 rfl Try.sizeOf3 rfl rfl) ?_
    refine d_load1 (i := 1) (v := .int .i64 a1.Lon) Try.isAgg3 rfl rfl rfl rfl ?_
    have h_t27 := bnd_val H13
    have H14 := bnd_rest H13
    refine d_call (k117 h_t27) Try.call117 rfl rfl ?_
    refine d_val rfl rfl (r_move (v := .int .i64 a2) rfl) ?_
    have h_t29 := bnd_val H14
    have H15 := bnd_rest H14
    refine d_val rfl rfl (r_mulG rfl rfl h_t29) ?_
    refine d_val rfl rfl (r_move (v := .int .i64 a3) rfl) ?_
    have h_t31 := bnd_val H15
    have H16 := bnd_rest H15
    refine d_call (k118 h_t31) Try.call118 rfl rfl ?_
    have h_t32 := bnd_val H16
    have H17 := bnd_rest H16
    refine d_val rfl rfl (r_addG rfl rfl h_t32) ?_
    have h_t33 := bnd_val H17
    have H18 := bnd_rest H17
    refine d_call (k65 h_t33) Try.call65 rfl rfl ?_
    refine d_val rfl rfl (r_build (pl := #[(0, 1), (1, 1)]) (ps := [(0, .int .i64 (val (gI (a0.Lat + (val (where_floor (val (gI ((val (gI (a1.Lat - a0.Lat))) * a2))) a3)))))), (1, .int .i64 (val (where_wrap (val (gI (a0.Lon + (val (where_floor (val (gI ((val (where_short a0.Lon a1.Lon)) * a2))) a3))))))))]) (cells := #[.int .i64 (val (gI (a0.Lat + (val (where_floor (val (gI ((val (gI (a1.Lat - a0.Lat))) * a2))) a3))))), .int .i64 (val (where_wrap (val (gI (a0.Lon + (val (where_floor (val (gI ((val (where_short a0.Lon a1.Lon)) * a2))) a3)))))))]) Try.zeroValue25 Try.runUnderlying25 (fun w => by kernel_rfl) rfl rfl) ?_
    refine d_store (i := 2) (vs := [.int .i64 (val (gI (a0.Lat + (val (where_floor (val (gI ((val (gI (a1.Lat - a0.Lat))) * a2))) a3))))), .int .i64 (val (where_wrap (val (gI (a0.Lon + (val (where_floor (val (gI ((val (where_short a0.Lon a1.Lon)) * a2))) a3)))))))]) (cs' := [.int .i64 (val (gI (a0.Lat + (val (where_floor (val (gI ((val (gI (a1.Lat - a0.Lat))) * a2))) a3))))), .int .i64 (val (where_wrap (val (gI (a0.Lon + (val (where_floor (val (gI ((val (where_short a0.Lon a1.Lon)) * a2))) a3)))))))]) Try.sizeOf25 rfl rfl rfl rfl rfl rfl rfl rfl rfl ?_
    refine d_nil ?_
    refine c_ret ?_
    obtain rfl := Option.some.inj H18
    refine retC (i := 2) (vs := [.int .i64 (val (gI (a0.Lat + (val (where_floor (val (gI ((val (gI (a1.Lat - a0.Lat))) * a2))) a3))))), .int .i64 (val (where_wrap (val (gI (a0.Lon + (val (where_floor (val (gI ((val (where_short a0.Lon a1.Lon)) * a2))) a3)))))))]) Try.isAgg25 Try.sizeOf25 rfl rfl rfl rfl (fin rfl)
    ) (by kernel_rfl)
theorem k67 {a0 : Int} {r : Int} (H : R_lon a0 = some r) : Ret Try.prog 67 [.int .i64 a0] (.int .i64 r) := by
  refine enterRet (n := 12) Try.func67 rfl rfl rfl (fun wd => ?_)
  refine c_seq ?_
  refine c_region ?_
  refine l_val rfl rfl rfl (r_assign (v := .int .i64 0) rfl) ?_
  refine l_nil ?_
  refine c_meet (r := r) (σ := Int) (τ := Unit) (fun s => R_lon_j1 s) (fun s t => [(0, .int .i64 s)]) (fun s t => []) (fun s t => True) ?_ ?_
  · refine c_block ?_
    refine c_fix (σ := Int) (τ := Unit) (fun next3 s => R_lon_l3 next3 s) (fun s t => [(0, .int .i64 s)]) (fun s t => []) (fun s t => True) a0 () [] H (by exact trivial) (by exact ⟨rfl, trivial⟩) (by decide) rfl ?_
    rintro x0_5 _ m3 gg H15 _
    clear H
    replace H15 : R_lon_l3 (it (fun next3 s => R_lon_l3 next3 s) m3) x0_5 = some r := H15
    generalize hn3 : it (fun next3 s => R_lon_l3 next3 s) m3 = next3 at H15
    refine c_tidyF [(0, .int .i64 x0_5)] [] rfl rfl ?_
    refine c_seq ?_
    refine c_seq ?_
    refine c_region ?_
    refine l_val rfl rfl rfl (r_move (v := .int .i64 x0_5) rfl) ?_
    refine l_val rfl rfl rfl (r_lss rfl rfl) ?_
    refine l_nil ?_
    refine c_if (b := (decide (x0_5 < (-180000000)))) rfl (fun hb => ?_) (fun hb => ?_)
    · have H16 := cnd_t hb H15; clear H15
      refine c_skip ?_
      refine c_block ?_
      refine c_region ?_
      refine l_val rfl rfl rfl (r_move (v := .int .i64 x0_5) rfl) ?_
      obtain ⟨t6, h_t6, H17⟩ := bnd_some H16; clear H16
      refine l_val rfl rfl rfl (r_addG rfl rfl h_t6) ?_
      refine l_val rfl rfl rfl (r_assign (v := .int .i64 t6) rfl) ?_
      refine l_nil ?_
      refine c_close t6 () m3 [] (by exact ⟨rfl, trivial⟩) (by decide) rfl (by exact ⟨(by subst hn3; exact H17), trivial⟩) (Nat.lt_succ_self _)
    · have H18 := cnd_f hb H15; clear H15
      refine c_exit ?_
      refine c_close x0_5 () 0 [] (by exact ⟨rfl, trivial⟩) (by decide) rfl (by exact ⟨H18, trivial⟩) (Nat.lt_succ_self _)
  · rintro x0 _ gg H10 _
    replace H10 : R_lon_j1 x0 = some r := H10
    refine c_tidyF [(0, .int .i64 x0)] [] rfl rfl ?_
    refine c_seq ?_
    refine c_block ?_
    refine c_fix (σ := Int) (τ := Unit) (fun next2 s => R_lon_l2 next2 s) (fun s t => [(0, .int .i64 s)]) (fun s t => []) (fun s t => True) x0 () [] H10 (by exact trivial) (by exact ⟨rfl, trivial⟩) (by decide) rfl ?_
    rintro x0_3 _ m2 gg H11 _
    clear H10
    replace H11 : R_lon_l2 (it (fun next2 s => R_lon_l2 next2 s) m2) x0_3 = some r := H11
    generalize hn2 : it (fun next2 s => R_lon_l2 next2 s) m2 = next2 at H11
    refine c_tidyF [(0, .int .i64 x0_3)] [] rfl rfl ?_
    refine c_seq ?_
    refine c_seq ?_
    refine c_region ?_
    refine l_val rfl rfl rfl (r_move (v := .int .i64 x0_3) rfl) ?_
    refine l_val rfl rfl rfl (r_geq rfl rfl) ?_
    refine l_nil ?_
    refine c_if (b := (decide (180000000 ≤ x0_3))) rfl (fun hb => ?_) (fun hb => ?_)
    · have H12 := cnd_t hb H11; clear H11
      refine c_skip ?_
      refine c_block ?_
      refine c_region ?_
      refine l_val rfl rfl rfl (r_move (v := .int .i64 x0_3) rfl) ?_
      obtain ⟨t10, h_t10, H13⟩ := bnd_some H12; clear H12
      refine l_val rfl rfl rfl (r_subG rfl rfl h_t10) ?_
      refine l_val rfl rfl rfl (r_assign (v := .int .i64 t10) rfl) ?_
      refine l_nil ?_
      refine c_close t10 () m2 [] (by exact ⟨rfl, trivial⟩) (by decide) rfl (by exact ⟨(by subst hn2; exact H13), trivial⟩) (Nat.lt_succ_self _)
    · have H14 := cnd_f hb H11; clear H11
      refine c_exit ?_
      refine c_seq ?_
      refine c_region ?_
      refine l_val rfl rfl rfl (r_move (v := .int .i64 x0_3) rfl) ?_
      refine l_val rfl rfl rfl (r_assign (v := .int .i64 x0_3) rfl) ?_
      refine l_nil ?_
      refine c_ret ?_
      obtain rfl := Option.some.inj H14
      refine ret1 (v := .int .i64 x0_3) rfl rfl (fin rfl)
theorem k85 {a0 : Int} {a1 : Int} {r : Int} (H : R_down a0 a1 = some r) : Ret Try.prog 85 [.int .i64 a0, .int .i64 a1] (.int .i64 r) := by
  refine enterRet (n := 23) Try.func85 rfl rfl rfl (fun wd => ?_)
  refine c_seq ?_
  refine c_region ?_
  refine l_val rfl rfl rfl (r_assign (v := .int .i64 0) rfl) ?_
  refine l_nil ?_
  refine c_seq ?_
  refine c_region ?_
  refine l_val rfl rfl rfl (r_move (v := .int .i64 a0) rfl) ?_
  refine l_val rfl rfl rfl (r_move (v := .int .i64 a1) rfl) ?_
  obtain ⟨t8, h_t8, H8⟩ := bnd_some H; clear H
  refine l_val rfl rfl rfl (r_quoG rfl rfl h_t8) ?_
  refine l_val rfl rfl rfl (r_assign (v := .int .i64 t8) rfl) ?_
  refine l_nil ?_
  refine c_seq ?_
  refine c_seq ?_
  refine c_region ?_
  refine l_val rfl rfl rfl (r_move (v := .int .i64 a0) rfl) ?_
  refine l_val rfl rfl rfl (r_move (v := .int .i64 a1) rfl) ?_
  obtain ⟨t11, h_t11, H9⟩ := bnd_some H8; clear H8
  refine l_val rfl rfl rfl (r_remG rfl rfl h_t11) ?_
  refine l_val rfl rfl rfl (r_neq rfl rfl) ?_
  refine l_val rfl rfl rfl (r_move (v := .bool (decide (t11 ≠ 0))) rfl) ?_
  refine split (fun hb => ?_) (fun hb => ?_)
  · have H10 := cnd_t hb H9; clear H9
    refine l_val rfl rfl rfl (r_move (v := .int .i64 a0) rfl) ?_
    refine l_val rfl rfl rfl (r_lss rfl rfl) ?_
    refine l_val rfl rfl rfl (r_move (v := .int .i64 a1) rfl) ?_
    refine l_val rfl rfl rfl (r_lss rfl rfl) ?_
    refine l_val rfl rfl rfl (r_neqB Try.underlying4 rfl rfl) ?_
    refine l_val rfl rfl rfl (r_pickT (v := .bool (decide ((decide (a0 < 0)) ≠ (decide (a1 < 0))))) rfl rfl) ?_
    refine l_nil ?_
    refine c_if (b := (decide ((decide (a0 < 0)) ≠ (decide (a1 < 0))))) rfl (fun hb => ?_) (fun hb => ?_)
    · have H11 := cnd_t hb H10; clear H10
      refine c_region ?_
      refine l_val rfl rfl rfl (r_move (v := .int .i64 t8) rfl) ?_
      obtain ⟨t21, h_t21, H12⟩ := bnd_some H11; clear H11
      refine l_val rfl rfl rfl (r_subG rfl rfl h_t21) ?_
      refine l_val rfl rfl rfl (r_assign (v := .int .i64 t21) rfl) ?_
      refine l_nil ?_
      refine c_seq ?_
      refine c_region ?_
      refine l_val rfl rfl rfl (r_move (v := .int .i64 t21) rfl) ?_
      refine l_val rfl rfl rfl (r_assign (v := .int .i64 t21) rfl) ?_
      refine l_nil ?_
      refine c_ret ?_
      obtain rfl := Option.some.inj H12
      refine ret1 (v := .int .i64 t21) rfl rfl (fin rfl)
    · have H13 := cnd_f hb H10; clear H10
      refine c_skip ?_
      refine c_seq ?_
      refine c_region ?_
      refine l_val rfl rfl rfl (r_move (v := .int .i64 t8) rfl) ?_
      refine l_val rfl rfl rfl (r_assign (v := .int .i64 t8) rfl) ?_
      refine l_nil ?_
      refine c_ret ?_
      obtain rfl := Option.some.inj H13
      refine ret1 (v := .int .i64 t8) rfl rfl (fin rfl)
  · have H14 := cnd_f hb H9; clear H9
    refine l_passed rfl rfl rfl ?_
    refine l_passed rfl rfl rfl ?_
    refine l_passed rfl rfl rfl ?_
    refine l_passed rfl rfl rfl ?_
    refine l_passed rfl rfl rfl ?_
    refine l_val rfl rfl rfl (r_pickF (v := .bool false) rfl rfl) ?_
    refine l_nil ?_
    refine c_false rfl ?_
    refine c_skip ?_
    refine c_seq ?_
    refine c_region ?_
    refine l_val rfl rfl rfl (r_move (v := .int .i64 t8) rfl) ?_
    refine l_val rfl rfl rfl (r_assign (v := .int .i64 t8) rfl) ?_
    refine l_nil ?_
    refine c_ret ?_
    obtain rfl := Option.some.inj H14
    refine ret1 (v := .int .i64 t8) rfl rfl (fin rfl)
theorem k83 {a0 : Int} {a1 : Int} {a2 : Int} {r : Int} (H : R_share a0 a1 a2 = some r) : Ret Try.prog 83 [.int .i64 a0, .int .i64 a1, .int .i64 a2] (.int .i64 r) := by
  refine enterRet (n := 12) Try.func83 rfl rfl rfl (fun wd => ?_)
  refine c_seq ?_
  refine c_region ?_
  refine l_val rfl rfl rfl (r_assign (v := .int .i64 0) rfl) ?_
  refine l_nil ?_
  refine c_seq ?_
  refine c_region ?_
  refine l_val rfl rfl rfl (r_move (v := .int .i64 a0) rfl) ?_
  refine l_val rfl rfl rfl (r_move (v := .int .i64 a1) rfl) ?_
  obtain ⟨t9, h_t9, H3⟩ := bnd_some H; clear H
  refine l_val rfl rfl rfl (r_mulG rfl rfl h_t9) ?_
  refine l_val rfl rfl rfl (r_move (v := .int .i64 a2) rfl) ?_
  obtain ⟨t11, h_t11, H4⟩ := bnd_some H3; clear H3
  refine l_call (k85 h_t11) Try.call85 rfl rfl rfl ?_
  refine l_val rfl rfl rfl (r_assign (v := .int .i64 t11) rfl) ?_
  refine l_nil ?_
  refine c_ret ?_
  obtain rfl := Option.some.inj H4
  refine ret1 (v := .int .i64 t11) rfl rfl (fin rfl)
theorem k70 {a0 : Int} {a1 : Int} {r : Int} (H : R_eastward a0 a1 = some r) : Ret Try.prog 70 [.int .i64 a0, .int .i64 a1] (.int .i64 r) := by
  refine enterRet (n := 14) Try.func70 rfl rfl rfl (fun wd => ?_)
  refine c_seq ?_
  refine c_region ?_
  refine l_val rfl rfl rfl (r_assign (v := .int .i64 0) rfl) ?_
  refine l_nil ?_
  refine c_seq ?_
  refine c_region ?_
  refine l_val rfl rfl rfl (r_move (v := .int .i64 a1) rfl) ?_
  refine l_val rfl rfl rfl (r_move (v := .int .i64 a0) rfl) ?_
  obtain ⟨t8, h_t8, H5⟩ := bnd_some H; clear H
  refine l_val rfl rfl rfl (r_subG rfl rfl h_t8) ?_
  refine l_val rfl rfl rfl (r_assign (v := .int .i64 t8) rfl) ?_
  refine l_nil ?_
  refine c_seq ?_
  refine c_seq ?_
  refine c_region ?_
  refine l_val rfl rfl rfl (r_move (v := .int .i64 t8) rfl) ?_
  refine l_val rfl rfl rfl (r_lss rfl rfl) ?_
  refine l_nil ?_
  refine c_if (b := (decide (t8 < 0))) rfl (fun hb => ?_) (fun hb => ?_)
  · have H6 := cnd_t hb H5; clear H5
    refine c_region ?_
    refine l_val rfl rfl rfl (r_move (v := .int .i64 t8) rfl) ?_
    obtain ⟨t12, h_t12, H7⟩ := bnd_some H6; clear H6
    refine l_val rfl rfl rfl (r_addG rfl rfl h_t12) ?_
    refine l_val rfl rfl rfl (r_assign (v := .int .i64 t12) rfl) ?_
    refine l_nil ?_
    refine c_seq ?_
    refine c_region ?_
    refine l_val rfl rfl rfl (r_move (v := .int .i64 t12) rfl) ?_
    refine l_val rfl rfl rfl (r_assign (v := .int .i64 t12) rfl) ?_
    refine l_nil ?_
    refine c_ret ?_
    obtain rfl := Option.some.inj H7
    refine ret1 (v := .int .i64 t12) rfl rfl (fin rfl)
  · have H8 := cnd_f hb H5; clear H5
    refine c_skip ?_
    refine c_seq ?_
    refine c_region ?_
    refine l_val rfl rfl rfl (r_move (v := .int .i64 t8) rfl) ?_
    refine l_val rfl rfl rfl (r_assign (v := .int .i64 t8) rfl) ?_
    refine l_nil ?_
    refine c_ret ?_
    obtain rfl := Option.some.inj H8
    refine ret1 (v := .int .i64 t8) rfl rfl (fin rfl)
theorem k84 {a0 : Int} {a1 : Int} {r : Int} (H : R_short a0 a1 = some r) : Ret Try.prog 84 [.int .i64 a0, .int .i64 a1] (.int .i64 r) := by
  refine enterRet (n := 14) Try.func84 rfl rfl rfl (fun wd => ?_)
  refine c_seq ?_
  refine c_region ?_
  refine l_val rfl rfl rfl (r_assign (v := .int .i64 0) rfl) ?_
  refine l_nil ?_
  refine c_seq ?_
  refine c_region ?_
  refine l_val rfl rfl rfl (r_move (v := .int .i64 a0) rfl) ?_
  refine l_val rfl rfl rfl (r_move (v := .int .i64 a1) rfl) ?_
  obtain ⟨t8, h_t8, H5⟩ := bnd_some H; clear H
  refine l_call (k70 h_t8) Try.call70 rfl rfl rfl ?_
  refine l_val rfl rfl rfl (r_assign (v := .int .i64 t8) rfl) ?_
  refine l_nil ?_
  refine c_seq ?_
  refine c_seq ?_
  refine c_region ?_
  refine l_val rfl rfl rfl (r_move (v := .int .i64 t8) rfl) ?_
  refine l_val rfl rfl rfl (r_geq rfl rfl) ?_
  refine l_nil ?_
  refine c_if (b := (decide (180000000 ≤ t8))) rfl (fun hb => ?_) (fun hb => ?_)
  · have H6 := cnd_t hb H5; clear H5
    refine c_region ?_
    refine l_val rfl rfl rfl (r_move (v := .int .i64 t8) rfl) ?_
    obtain ⟨t12, h_t12, H7⟩ := bnd_some H6; clear H6
    refine l_val rfl rfl rfl (r_subG rfl rfl h_t12) ?_
    refine l_val rfl rfl rfl (r_assign (v := .int .i64 t12) rfl) ?_
    refine l_nil ?_
    refine c_seq ?_
    refine c_region ?_
    refine l_val rfl rfl rfl (r_move (v := .int .i64 t12) rfl) ?_
    refine l_val rfl rfl rfl (r_assign (v := .int .i64 t12) rfl) ?_
    refine l_nil ?_
    refine c_ret ?_
    obtain rfl := Option.some.inj H7
    refine ret1 (v := .int .i64 t12) rfl rfl (fin rfl)
  · have H8 := cnd_f hb H5; clear H5
    refine c_skip ?_
    refine c_seq ?_
    refine c_region ?_
    refine l_val rfl rfl rfl (r_move (v := .int .i64 t8) rfl) ?_
    refine l_val rfl rfl rfl (r_assign (v := .int .i64 t8) rfl) ?_
    refine l_nil ?_
    refine c_ret ?_
    obtain rfl := Option.some.inj H8
    refine ret1 (v := .int .i64 t8) rfl rfl (fin rfl)
theorem k38 {a0 : T_api_Place} {a1 : T_api_Place} {a2 : Int} {a3 : Int} {r : T_api_Place} (H : R_BetweenOf a0 a1 a2 a3 = some r) : Ret Try.prog 38 [.agg #[.int .i64 a0.Lat, .int .i64 a0.Lon], .agg #[.int .i64 a1.Lat, .int .i64 a1.Lon], .int .i64 a2, .int .i64 a3] (.agg #[.int .i64 r.Lat, .int .i64 r.Lon]) := by
  refine enterRet (n := 33) Try.func38 rfl rfl rfl (fun wd => ?_)
  refine c_seq ?_
  refine c_region ?_
  refine l_box (cs := [.int .i64 a0.Lat, .int .i64 a0.Lon]) rfl rfl rfl rfl (fun b3 => ?_)
  refine l_box (cs := [.int .i64 a1.Lat, .int .i64 a1.Lon]) rfl rfl rfl rfl (fun b4 => ?_)
  refine l_alloc (cs := [.int .i64 0, .int .i64 0]) Try.zeroValue25 rfl rfl rfl (fun b5 => ?_)
  refine l_nil ?_
  refine c_seq ?_
  exact c_regionD (Kd.p :: Kd.d [0] _ :: Kd.p :: Kd.d [1] _ :: Kd.p :: Kd.d [0] _ :: Kd.p :: Kd.p :: Kd.p :: Kd.d [] _ :: Kd.p :: Kd.p :: Kd.d [0] _ :: Kd.p :: Kd.d [0] _ :: Kd.p :: Kd.d [1] _ :: Kd.d [] _ :: Kd.p :: Kd.p :: Kd.d [] _ :: Kd.p :: Kd.d [] _ :: Kd.p :: Kd.st 8 2 [_, _] 25 :: []) 0 mixed (by
    refine d_val rfl rfl (r_field Try.runUnderlying25 rfl Try.sizeOf3 rfl rfl) ?_
    refine d_load1 (i := 0) (v := .int .i64 a0.Lat) Try.isAgg3 rfl rfl rfl rfl ?_
    refine d_val rfl rfl (r_field Try.runUnderlying25 rfl Try.sizeOf3 rfl rfl) ?_
    refine d_load1 (i := 1) (v := .int .i64 a1.Lat) Try.isAgg3 rfl rfl rfl rfl ?_
    refine d_val rfl rfl (r_field Try.runUnderlying25 rfl Try.sizeOf3 rfl rfl) ?_
    refine d_load1 (i := 0) (v := .int .i64 a0.Lat) Try.isAgg3 rfl rfl rfl rfl ?_
    have h_t15 := bnd_val H
    have H8 := bnd_rest H
    refine d_val rfl rfl (r_subG rfl rfl h_t15) ?_
    refine d_val rfl rfl (r_move (v := .int .i64 a2) rfl) ?_
    refine d_val rfl rfl (r_move (v := .int .i64 a3) rfl) ?_
    have h_t18 := bnd_val H8
    have H9 := bnd_rest H8
    refine d_call (k83 h_t18) Try.call83 rfl rfl ?_
    have h_t19 := bnd_val H9
    have H10 := bnd_rest H9
    refine d_val rfl rfl (r_addG rfl rfl h_t19) ?_
    refine d_val rfl rfl (r_field Try.runUnderlying25 rfl Try.sizeOf3 rfl rfl) ?_
    refine d_load1 (i := 0) (v := .int .i64 a0.Lon) Try.isAgg3 rfl rfl rfl rfl ?_
    refine d_val rfl rfl (r_field Try.runUnderlying25 rfl Try.sizeOf3 rfl rfl) ?_
    refine d_load1 (i := 0) (v := .int .i64 a0.Lon) Try.isAgg3 rfl rfl rfl rfl ?_
    refine d_val rfl rfl (r_field Try.runUnderlying25 rfl Try.sizeOf3 rfl rfl) ?_
    refine d_load1 (i := 1) (v := .int .i64 a1.Lon) Try.isAgg3 rfl rfl rfl rfl ?_
    have h_t26 := bnd_val H10
    have H11 := bnd_rest H10
    refine d_call (k84 h_t26) Try.call84 rfl rfl ?_
    refine d_val rfl rfl (r_move (v := .int .i64 a2) rfl) ?_
    refine d_val rfl rfl (r_move (v := .int .i64 a3) rfl) ?_
    have h_t29 := bnd_val H11
    have H12 := bnd_rest H11
    refine d_call (k83 h_t29) Try.call83 rfl rfl ?_
    have h_t30 := bnd_val H12
    have H13 := bnd_rest H12
    refine d_val rfl rfl (r_addG rfl rfl h_t30) ?_
    have h_t31 := bnd_val H13
    have H14 := bnd_rest H13
    refine d_call (k67 h_t31) Try.call67 rfl rfl ?_
    refine d_val rfl rfl (r_build (pl := #[(0, 1), (1, 1)]) (ps := [(0, .int .i64 (val (gI (a0.Lat + (val (R_share (val (gI (a1.Lat - a0.Lat))) a2 a3)))))), (1, .int .i64 (val (R_lon (val (gI (a0.Lon + (val (R_share (val (R_short a0.Lon a1.Lon)) a2 a3))))))))]) (cells := #[.int .i64 (val (gI (a0.Lat + (val (R_share (val (gI (a1.Lat - a0.Lat))) a2 a3))))), .int .i64 (val (R_lon (val (gI (a0.Lon + (val (R_share (val (R_short a0.Lon a1.Lon)) a2 a3)))))))]) Try.zeroValue25 Try.runUnderlying25 (fun w => by kernel_rfl) rfl rfl) ?_
    refine d_store (i := 2) (vs := [.int .i64 (val (gI (a0.Lat + (val (R_share (val (gI (a1.Lat - a0.Lat))) a2 a3))))), .int .i64 (val (R_lon (val (gI (a0.Lon + (val (R_share (val (R_short a0.Lon a1.Lon)) a2 a3)))))))]) (cs' := [.int .i64 (val (gI (a0.Lat + (val (R_share (val (gI (a1.Lat - a0.Lat))) a2 a3))))), .int .i64 (val (R_lon (val (gI (a0.Lon + (val (R_share (val (R_short a0.Lon a1.Lon)) a2 a3)))))))]) Try.sizeOf25 rfl rfl rfl rfl rfl rfl rfl rfl rfl ?_
    refine d_nil ?_
    refine c_ret ?_
    obtain rfl := Option.some.inj H14
    refine retC (i := 2) (vs := [.int .i64 (val (gI (a0.Lat + (val (R_share (val (gI (a1.Lat - a0.Lat))) a2 a3))))), .int .i64 (val (R_lon (val (gI (a0.Lon + (val (R_share (val (R_short a0.Lon a1.Lon)) a2 a3)))))))]) Try.isAgg25 Try.sizeOf25 rfl rfl rfl rfl (fin rfl)
    ) (by kernel_rfl)
theorem k66 {a0 : Int} {r : Int} (H : R_CosineOf a0 = some r) : Ret Try.prog 66 [.int .i64 a0] (.int .i64 r) := by
  refine enterRet (n := 17) Try.func66 rfl rfl rfl (fun wd => ?_)
  refine c_seq ?_
  refine c_region ?_
  refine l_val rfl rfl rfl (r_assign (v := .int .i64 0) rfl) ?_
  refine l_nil ?_
  refine c_seq ?_
  refine c_region ?_
  refine l_val rfl rfl rfl (r_move (v := .int .i64 a0) rfl) ?_
  obtain ⟨t5, h_t5, H9⟩ := bnd_some H; clear H
  refine l_val rfl rfl rfl (r_quoG rfl rfl h_t5) ?_
  refine l_val rfl rfl rfl (r_assign (v := .int .i64 t5) rfl) ?_
  refine l_nil ?_
  refine c_seq ?_
  refine c_region ?_
  refine l_val rfl rfl rfl (r_move (v := .int .i64 t5) rfl) ?_
  obtain ⟨t7, h_t7, H10⟩ := bnd_some H9; clear H9
  refine l_val rfl rfl rfl (r_mulG rfl rfl h_t7) ?_
  refine l_val rfl rfl rfl (r_move (v := .int .i64 t5) rfl) ?_
  obtain ⟨t9, h_t9, H11⟩ := bnd_some H10; clear H10
  refine l_val rfl rfl rfl (r_mulG rfl rfl h_t9) ?_
  obtain ⟨t10, h_t10, H12⟩ := bnd_some H11; clear H11
  refine l_val rfl rfl rfl (r_subG rfl rfl h_t10) ?_
  obtain ⟨t11, h_t11, H13⟩ := bnd_some H12; clear H12
  refine l_val rfl rfl rfl (r_mulG rfl rfl h_t11) ?_
  refine l_val rfl rfl rfl (r_move (v := .int .i64 t5) rfl) ?_
  refine l_val rfl rfl rfl (r_move (v := .int .i64 t5) rfl) ?_
  obtain ⟨t14, h_t14, H14⟩ := bnd_some H13; clear H13
  refine l_val rfl rfl rfl (r_mulG rfl rfl h_t14) ?_
  obtain ⟨t15, h_t15, H15⟩ := bnd_some H14; clear H14
  refine l_val rfl rfl rfl (r_addG rfl rfl h_t15) ?_
  obtain ⟨t16, h_t16, H16⟩ := bnd_some H15; clear H15
  refine l_val rfl rfl rfl (r_quoG rfl rfl h_t16) ?_
  refine l_val rfl rfl rfl (r_assign (v := .int .i64 t16) rfl) ?_
  refine l_nil ?_
  refine c_ret ?_
  obtain rfl := Option.some.inj H16
  refine ret1 (v := .int .i64 t16) rfl rfl (fin rfl)
theorem k86 {a0 : Int} {r : Int} (H : R_root a0 = some r) : Ret Try.prog 86 [.int .i64 a0] (.int .i64 r) := by
  refine enterRet (n := 23) Try.func86 rfl rfl rfl (fun wd => ?_)
  refine c_seq ?_
  refine c_region ?_
  refine l_val rfl rfl rfl (r_assign (v := .int .i64 0) rfl) ?_
  refine l_nil ?_
  refine c_seq ?_
  refine c_region ?_
  refine l_val rfl rfl rfl (r_assign (v := .int .i64 0) rfl) ?_
  refine l_val rfl rfl rfl (r_assign (v := .int .i64 2147483648) rfl) ?_
  refine l_nil ?_
  refine c_seq ?_
  refine c_block ?_
  refine c_fix (σ := Int × Int) (τ := Unit) (fun next1 s => R_root_l1 a0 next1 s.1 s.2) (fun s t => [(0, .int .i64 a0), (3, .int .i64 s.1), (4, .int .i64 s.2)]) (fun s t => []) (fun s t => True) (0, 2147483648) () [] H (by exact trivial) (by exact ⟨rfl, rfl, rfl, trivial⟩) (by decide) rfl ?_
  rintro ⟨x3_2, x4_2⟩ _ m1 gg H11 _
  clear H
  replace H11 : R_root_l1 a0 (it (fun next1 s => R_root_l1 a0 next1 s.1 s.2) m1) x3_2 x4_2 = some r := H11
  generalize hn1 : it (fun next1 s => R_root_l1 a0 next1 s.1 s.2) m1 = next1 at H11
  refine c_tidyF [(0, .int .i64 a0), (3, .int .i64 x3_2), (4, .int .i64 x4_2)] [] rfl rfl ?_
  refine c_seq ?_
  refine c_seq ?_
  refine c_region ?_
  refine l_val rfl rfl rfl (r_move (v := .int .i64 x3_2) rfl) ?_
  refine l_val rfl rfl rfl (r_move (v := .int .i64 x4_2) rfl) ?_
  refine l_val rfl rfl rfl (r_lss rfl rfl) ?_
  refine l_nil ?_
  refine c_if (b := (decide (x3_2 < x4_2))) rfl (fun hb => ?_) (fun hb => ?_)
  · have H12 := cnd_t hb H11; clear H11
    refine c_skip ?_
    refine c_block ?_
    refine c_seq ?_
    refine c_region ?_
    refine l_val rfl rfl rfl (r_move (v := .int .i64 x3_2) rfl) ?_
    refine l_val rfl rfl rfl (r_move (v := .int .i64 x4_2) rfl) ?_
    obtain ⟨t11, h_t11, H13⟩ := bnd_some H12; clear H12
    refine l_val rfl rfl rfl (r_addG rfl rfl h_t11) ?_
    obtain ⟨t12, h_t12, H14⟩ := bnd_some H13; clear H13
    refine l_val rfl rfl rfl (r_addG rfl rfl h_t12) ?_
    obtain ⟨t13, h_t13, H15⟩ := bnd_some H14; clear H14
    refine l_val rfl rfl rfl (r_quoG rfl rfl h_t13) ?_
    refine l_val rfl rfl rfl (r_assign (v := .int .i64 t13) rfl) ?_
    refine l_nil ?_
    refine c_seq ?_
    refine c_region ?_
    refine l_val rfl rfl rfl (r_move (v := .int .i64 t13) rfl) ?_
    refine l_val rfl rfl rfl (r_move (v := .int .i64 t13) rfl) ?_
    obtain ⟨t16, h_t16, H16⟩ := bnd_some H15; clear H15
    refine l_val rfl rfl rfl (r_mulG rfl rfl h_t16) ?_
    refine l_val rfl rfl rfl (r_move (v := .int .i64 a0) rfl) ?_
    refine l_val rfl rfl rfl (r_leq rfl rfl) ?_
    refine l_nil ?_
    refine c_if (b := (decide (t16 ≤ a0))) rfl (fun hb => ?_) (fun hb => ?_)
    · have H17 := cnd_t hb H16; clear H16
      refine c_region ?_
      refine l_val rfl rfl rfl (r_move (v := .int .i64 t13) rfl) ?_
      refine l_val rfl rfl rfl (r_assign (v := .int .i64 t13) rfl) ?_
      refine l_nil ?_
      refine c_close (t13, x4_2) () m1 [] (by exact ⟨rfl, rfl, rfl, trivial⟩) (by decide) rfl (by exact ⟨(by subst hn1; exact H17), trivial⟩) (Nat.lt_succ_self _)
    · have H18 := cnd_f hb H16; clear H16
      refine c_region ?_
      refine l_val rfl rfl rfl (r_move (v := .int .i64 t13) rfl) ?_
      obtain ⟨t21, h_t21, H19⟩ := bnd_some H18; clear H18
      refine l_val rfl rfl rfl (r_subG rfl rfl h_t21) ?_
      refine l_val rfl rfl rfl (r_assign (v := .int .i64 t21) rfl) ?_
      refine l_nil ?_
      refine c_close (x3_2, t21) () m1 [] (by exact ⟨rfl, rfl, rfl, trivial⟩) (by decide) rfl (by exact ⟨(by subst hn1; exact H19), trivial⟩) (Nat.lt_succ_self _)
  · have H20 := cnd_f hb H11; clear H11
    refine c_exit ?_
    refine c_seq ?_
    refine c_region ?_
    refine l_val rfl rfl rfl (r_move (v := .int .i64 x3_2) rfl) ?_
    refine l_val rfl rfl rfl (r_assign (v := .int .i64 x3_2) rfl) ?_
    refine l_nil ?_
    refine c_ret ?_
    obtain rfl := Option.some.inj H20
    refine ret1 (v := .int .i64 x3_2) rfl rfl (fin rfl)
theorem k39 {a0 : T_api_Place} {a1 : T_api_Place} {r : Int} (H : R_DistanceOf a0 a1 = some r) : Ret Try.prog 39 [.agg #[.int .i64 a0.Lat, .int .i64 a0.Lon], .agg #[.int .i64 a1.Lat, .int .i64 a1.Lon]] (.int .i64 r) := by
  refine enterRet (n := 36) Try.func39 rfl rfl rfl (fun wd => ?_)
  refine c_seq ?_
  refine c_region ?_
  refine l_box (cs := [.int .i64 a0.Lat, .int .i64 a0.Lon]) rfl rfl rfl rfl (fun b2 => ?_)
  refine l_box (cs := [.int .i64 a1.Lat, .int .i64 a1.Lon]) rfl rfl rfl rfl (fun b3 => ?_)
  refine l_val rfl rfl rfl (r_assign (v := .int .i64 0) rfl) ?_
  refine l_nil ?_
  refine c_seq ?_
  refine c_region ?_
  refine l_val rfl rfl rfl (r_field Try.runUnderlying25 rfl Try.sizeOf3 rfl rfl) ?_
  refine l_load1 (i := 1) (v := .int .i64 a1.Lat) Try.isAgg3 rfl rfl rfl rfl rfl ?_
  refine l_val rfl rfl rfl (r_field Try.runUnderlying25 rfl Try.sizeOf3 rfl rfl) ?_
  refine l_load1 (i := 0) (v := .int .i64 a0.Lat) Try.isAgg3 rfl rfl rfl rfl rfl ?_
  obtain ⟨t11, h_t11, H14⟩ := bnd_some H; clear H
  refine l_val rfl rfl rfl (r_subG rfl rfl h_t11) ?_
  refine l_val rfl rfl rfl (r_assign (v := .int .i64 t11) rfl) ?_
  refine l_nil ?_
  refine c_seq ?_
  exact c_regionD (Kd.p :: Kd.d [0] _ :: Kd.p :: Kd.d [1] _ :: Kd.d [] _ :: Kd.p :: Kd.d [0] _ :: Kd.p :: Kd.d [1] _ :: Kd.p :: Kd.d [] _ :: Kd.d [] _ :: Kd.p :: Kd.p :: Kd.p :: []) 0 mixed (by
    refine d_val rfl rfl (r_field Try.runUnderlying25 rfl Try.sizeOf3 rfl rfl) ?_
    refine d_load1 (i := 0) (v := .int .i64 a0.Lon) Try.isAgg3 rfl rfl rfl rfl ?_
    refine d_val rfl rfl (r_field Try.runUnderlying25 rfl Try.sizeOf3 rfl rfl) ?_
    refine d_load1 (i := 1) (v := .int .i64 a1.Lon) Try.isAgg3 rfl rfl rfl rfl ?_
    have h_t16 := bnd_val H14
    have H15 := bnd_rest H14
    refine d_call (k84 h_t16) Try.call84 rfl rfl ?_
    refine d_val rfl rfl (r_field Try.runUnderlying25 rfl Try.sizeOf3 rfl rfl) ?_
    refine d_load1 (i := 0) (v := .int .i64 a0.Lat) Try.isAgg3 rfl rfl rfl rfl ?_
    refine d_val rfl rfl (r_field Try.runUnderlying25 rfl Try.sizeOf3 rfl rfl) ?_
    refine d_load1 (i := 1) (v := .int .i64 a1.Lat) Try.isAgg3 rfl rfl rfl rfl ?_
    have h_t21 := bnd_val H15
    have H16 := bnd_rest H15
    refine d_val rfl rfl (r_addG rfl rfl h_t21) ?_
    have h_t22 := bnd_val H16
    have H17 := bnd_rest H16
    refine d_call (k85 h_t22) Try.call85 rfl rfl ?_
    have h_t23 := bnd_val H17
    have H18 := bnd_rest H17
    refine d_call (k66 h_t23) Try.call66 rfl rfl ?_
    have h_t24 := bnd_val H18
    have H19 := bnd_rest H18
    refine d_val rfl rfl (r_mulG rfl rfl h_t24) ?_
    have h_t25 := bnd_val H19
    have H20 := bnd_rest H19
    refine d_val rfl rfl (r_quoG rfl rfl h_t25) ?_
    refine d_val rfl rfl (r_assign (v := .int .i64 (val (gQuo (val (gI ((val (R_short a0.Lon a1.Lon)) * (val (R_CosineOf (val (R_down (val (gI (a0.Lat + a1.Lat))) 2))))))) 1000000))) rfl) ?_
    refine d_nil ?_
    refine c_seq ?_
    refine c_region ?_
    refine l_val rfl rfl rfl (r_move (v := .int .i64 t11) rfl) ?_
    refine l_val rfl rfl rfl (r_move (v := .int .i64 t11) rfl) ?_
    obtain ⟨t28, h_t28, H21⟩ := bnd_some H20; clear H20
    refine l_val rfl rfl rfl (r_mulG rfl rfl h_t28) ?_
    refine l_val rfl rfl rfl (r_move (v := .int .i64 (val (gQuo (val (gI ((val (R_short a0.Lon a1.Lon)) * (val (R_CosineOf (val (R_down (val (gI (a0.Lat + a1.Lat))) 2))))))) 1000000))) rfl) ?_
    refine l_val rfl rfl rfl (r_move (v := .int .i64 (val (gQuo (val (gI ((val (R_short a0.Lon a1.Lon)) * (val (R_CosineOf (val (R_down (val (gI (a0.Lat + a1.Lat))) 2))))))) 1000000))) rfl) ?_
    obtain ⟨t31, h_t31, H22⟩ := bnd_some H21; clear H21
    refine l_val rfl rfl rfl (r_mulG rfl rfl h_t31) ?_
    obtain ⟨t32, h_t32, H23⟩ := bnd_some H22; clear H22
    refine l_val rfl rfl rfl (r_addG rfl rfl h_t32) ?_
    obtain ⟨t33, h_t33, H24⟩ := bnd_some H23; clear H23
    refine l_call (k86 h_t33) Try.call86 rfl rfl rfl ?_
    obtain ⟨t34, h_t34, H25⟩ := bnd_some H24; clear H24
    refine l_val rfl rfl rfl (r_mulG rfl rfl h_t34) ?_
    obtain ⟨t35, h_t35, H26⟩ := bnd_some H25; clear H25
    refine l_val rfl rfl rfl (r_quoG rfl rfl h_t35) ?_
    refine l_val rfl rfl rfl (r_assign (v := .int .i64 t35) rfl) ?_
    refine l_nil ?_
    refine c_ret ?_
    obtain rfl := Option.some.inj H26
    refine ret1 (v := .int .i64 t35) rfl rfl (fin rfl)
    ) (by kernel_rfl)
theorem k36 {a0 : Int} {a1 : Int} {a2 : Int} {a3 : Int} {r : Bool} (H : Law_told_int a0 a1 a2 a3 = some r) : Ret Try.prog 36 [.int .i64 a0, .int .i64 a1, .int .i64 a2, .int .i64 a3] (.bool r) := by
  refine enterRet (n := 21) Try.func36 rfl rfl rfl (fun wd => ?_)
  refine c_seq ?_
  refine c_region ?_
  refine l_val rfl rfl rfl (r_assign (v := .bool false) rfl) ?_
  refine l_nil ?_
  refine c_seq ?_
  refine c_region ?_
  refine l_val rfl rfl rfl (r_assign (v := .int .i64 0) rfl) ?_
  refine l_nil ?_
  refine c_meet (r := r) (σ := Int) (τ := Unit) (fun s => Law_told_int_j1 a0 a1 a3 s) (fun s t => [(0, .int .i64 a0), (1, .int .i64 a1), (2, .int .i64 s), (3, .int .i64 a3)]) (fun s t => []) (fun s t => True) ?_ ?_
  · refine c_seq ?_
    refine c_region ?_
    refine l_val rfl rfl rfl (r_move (v := .int .i64 a3) rfl) ?_
    refine l_val rfl rfl rfl (r_neq rfl rfl) ?_
    refine l_nil ?_
    refine c_if (b := (decide (a3 ≠ 0))) rfl (fun hb => ?_) (fun hb => ?_)
    · have H9 := cnd_t hb H; clear H
      refine c_region ?_
      refine l_val rfl rfl rfl (r_move (v := .int .i64 0) rfl) ?_
      refine l_val rfl rfl rfl (r_assign (v := .int .i64 0) rfl) ?_
      refine l_nil ?_
      refine c_close 0 () 0 [] (by exact ⟨rfl, rfl, rfl, rfl, trivial⟩) (by decide) rfl (by exact ⟨H9, trivial⟩) (Nat.lt_succ_self _)
    · have H10 := cnd_f hb H; clear H
      refine c_skip ?_
      refine c_close a2 () 0 [] (by exact ⟨rfl, rfl, rfl, rfl, trivial⟩) (by decide) rfl (by exact ⟨H10, trivial⟩) (Nat.lt_succ_self _)
  · rintro x2 _ gg H6 _
    replace H6 : Law_told_int_j1 a0 a1 a3 x2 = some r := H6
    refine c_tidyF [(0, .int .i64 a0), (1, .int .i64 a1), (2, .int .i64 x2), (3, .int .i64 a3)] [] rfl rfl ?_
    refine c_seq ?_
    refine c_region ?_
    refine l_val rfl rfl rfl (r_move (v := .int .i64 a0) rfl) ?_
    refine l_val rfl rfl rfl (r_move (v := .int .i64 x2) rfl) ?_
    refine l_val rfl rfl rfl (r_eql rfl rfl) ?_
    refine l_val rfl rfl rfl (r_move (v := .bool (decide (a0 = x2))) rfl) ?_
    refine split (fun hb => ?_) (fun hb => ?_)
    · have H7 := cnd_t hb H6; clear H6
      refine l_val rfl rfl rfl (r_move (v := .int .i64 a1) rfl) ?_
      refine l_val rfl rfl rfl (r_move (v := .int .i64 a3) rfl) ?_
      refine l_val rfl rfl rfl (r_eql rfl rfl) ?_
      refine l_val rfl rfl rfl (r_pickT (v := .bool (decide (a1 = a3))) rfl rfl) ?_
      refine l_val rfl rfl rfl (r_assign (v := .bool (decide (a1 = a3))) rfl) ?_
      refine l_nil ?_
      refine c_ret ?_
      obtain rfl := Option.some.inj H7
      refine ret1 (v := .bool (decide (a1 = a3))) rfl rfl (fin rfl)
    · have H8 := cnd_f hb H6; clear H6
      refine l_passed rfl rfl rfl ?_
      refine l_passed rfl rfl rfl ?_
      refine l_passed rfl rfl rfl ?_
      refine l_val rfl rfl rfl (r_pickF (v := .bool false) rfl rfl) ?_
      refine l_val rfl rfl rfl (r_assign (v := .bool false) rfl) ?_
      refine l_nil ?_
      refine c_ret ?_
      obtain rfl := Option.some.inj H8
      refine ret1 (v := .bool false) rfl rfl (fin rfl)
theorem k37 {a0 : T_api_Place} {a1 : Int} {a2 : T_api_Place} {a3 : Int} {r : Bool} (H : Law_told_api_Place a0 a1 a2 a3 = some r) : Ret Try.prog 37 [.agg #[.int .i64 a0.Lat, .int .i64 a0.Lon], .int .i64 a1, .agg #[.int .i64 a2.Lat, .int .i64 a2.Lon], .int .i64 a3] (.bool r) := by
  refine enterRet (n := 21) Try.func37 rfl rfl rfl (fun wd => ?_)
  refine c_seq ?_
  refine c_region ?_
  refine l_box (cs := [.int .i64 a0.Lat, .int .i64 a0.Lon]) rfl rfl rfl rfl (fun b3 => ?_)
  refine l_box (cs := [.int .i64 a2.Lat, .int .i64 a2.Lon]) rfl rfl rfl rfl (fun b4 => ?_)
  refine l_val rfl rfl rfl (r_assign (v := .bool false) rfl) ?_
  refine l_nil ?_
  refine c_seq ?_
  refine c_region ?_
  refine l_alloc (cs := [.int .i64 0, .int .i64 0]) Try.zeroValue25 rfl rfl rfl (fun b5 => ?_)
  refine l_nil ?_
  refine c_meet (r := r) (σ := Int × Int) (τ := Unit) (fun s => Law_told_api_Place_j1 a0 a1 a3 s.1 s.2) (fun s t => [(1, .int .i64 a1), (3, .int .i64 a3), (4, .pointer (some ⟨b3, 0, none⟩)), (6, .pointer (some ⟨b4, 0, none⟩))]) (fun s t => [cellsC b3 [.int .i64 a0.Lat, .int .i64 a0.Lon] 25, cellsC b4 [.int .i64 s.1, .int .i64 s.2] 25]) (fun s t => True) ?_ ?_
  · refine c_seq ?_
    refine c_region ?_
    refine l_val rfl rfl rfl (r_move (v := .int .i64 a3) rfl) ?_
    refine l_val rfl rfl rfl (r_neq rfl rfl) ?_
    refine l_nil ?_
    refine c_if (b := (decide (a3 ≠ 0))) rfl (fun hb => ?_) (fun hb => ?_)
    · have H9 := cnd_t hb H; clear H
      refine c_region ?_
      refine l_loadN (i := 2) (vs := [.int .i64 0, .int .i64 0]) Try.isAgg25 Try.sizeOf25 rfl rfl rfl rfl rfl ?_
      refine l_store (i := 1) (vs := [.int .i64 0, .int .i64 0]) (cs' := [.int .i64 0, .int .i64 0]) Try.sizeOf25 rfl rfl rfl rfl rfl rfl rfl rfl rfl ?_
      refine l_nil ?_
      refine c_close (0, 0) () 0 [0, 1] (by exact ⟨rfl, rfl, rfl, rfl, trivial⟩) (by decide) rfl (by exact ⟨H9, trivial⟩) (Nat.lt_succ_self _)
    · have H10 := cnd_f hb H; clear H
      refine c_skip ?_
      refine c_close (a2.Lat, a2.Lon) () 0 [0, 1] (by exact ⟨rfl, rfl, rfl, rfl, trivial⟩) (by decide) rfl (by exact ⟨H10, trivial⟩) (Nat.lt_succ_self _)
  · rintro ⟨m, m_2⟩ _ gg H6 _
    replace H6 : Law_told_api_Place_j1 a0 a1 a3 m m_2 = some r := H6
    refine c_tidyF [(1, .int .i64 a1), (3, .int .i64 a3), (4, .pointer (some ⟨b3, 0, none⟩)), (6, .pointer (some ⟨b4, 0, none⟩))] [cellsC b3 [.int .i64 a0.Lat, .int .i64 a0.Lon] 25, cellsC b4 [.int .i64 m, .int .i64 m_2] 25] rfl rfl ?_
    refine c_seq ?_
    refine c_region ?_
    refine l_loadN (i := 0) (vs := [.int .i64 a0.Lat, .int .i64 a0.Lon]) Try.isAgg25 Try.sizeOf25 rfl rfl rfl rfl rfl ?_
    refine l_loadN (i := 1) (vs := [.int .i64 m, .int .i64 m_2]) Try.isAgg25 Try.sizeOf25 rfl rfl rfl rfl rfl ?_
    refine l_val rfl rfl rfl (r_eqlA (xs := #[.int .i64 a0.Lat, .int .i64 a0.Lon]) (ys := #[.int .i64 m, .int .i64 m_2]) Try.eqGuardType25 (fun w => run_eq_api_Place w a0 (⟨m, m_2⟩ : T_api_Place)) rfl rfl) ?_
    refine l_val rfl rfl rfl (r_move (v := .bool (eq_api_Place a0 (⟨m, m_2⟩ : T_api_Place))) rfl) ?_
    refine split (fun hb => ?_) (fun hb => ?_)
    · have H7 := cnd_t hb H6; clear H6
      refine l_val rfl rfl rfl (r_move (v := .int .i64 a1) rfl) ?_
      refine l_val rfl rfl rfl (r_move (v := .int .i64 a3) rfl) ?_
      refine l_val rfl rfl rfl (r_eql rfl rfl) ?_
      refine l_val rfl rfl rfl (r_pickT (v := .bool (decide (a1 = a3))) rfl rfl) ?_
      refine l_val rfl rfl rfl (r_assign (v := .bool (decide (a1 = a3))) rfl) ?_
      refine l_nil ?_
      refine c_ret ?_
      obtain rfl := Option.some.inj H7
      refine ret1 (v := .bool (decide (a1 = a3))) rfl rfl (fin rfl)
    · have H8 := cnd_f hb H6; clear H6
      refine l_passed rfl rfl rfl ?_
      refine l_passed rfl rfl rfl ?_
      refine l_passed rfl rfl rfl ?_
      refine l_val rfl rfl rfl (r_pickF (v := .bool false) rfl rfl) ?_
      refine l_val rfl rfl rfl (r_assign (v := .bool false) rfl) ?_
      refine l_nil ?_
      refine c_ret ?_
      obtain rfl := Option.some.inj H8
      refine ret1 (v := .bool false) rfl rfl (fin rfl)
theorem k45 {a0 : Int} {r : Int} (H : Law_momentFault a0 = some r) : Ret Try.prog 45 [.int .i64 a0] (.int .i64 r) := by
  refine enterRet (n := 10) Try.func45 rfl rfl rfl (fun wd => ?_)
  refine c_seq ?_
  refine c_region ?_
  refine l_val rfl rfl rfl (r_assign (v := .int .i64 0) rfl) ?_
  refine l_nil ?_
  refine c_seq ?_
  refine c_region ?_
  refine l_val rfl rfl rfl (r_move (v := .int .i64 a0) rfl) ?_
  refine l_val rfl rfl rfl (r_geq rfl rfl) ?_
  refine l_val rfl rfl rfl (r_move (v := .bool (decide (0 ≤ a0))) rfl) ?_
  refine split (fun hb => ?_) (fun hb => ?_)
  · have H5 := cnd_t hb H; clear H
    refine l_val rfl rfl rfl (r_move (v := .int .i64 a0) rfl) ?_
    refine l_val rfl rfl rfl (r_leq rfl rfl) ?_
    refine l_val rfl rfl rfl (r_pickT (v := .bool (decide (a0 ≤ 6311433599))) rfl rfl) ?_
    obtain ⟨t9, h_t9, H6⟩ := bnd_some H5; clear H5
    refine l_call (k25 h_t9) Try.call25 rfl rfl rfl ?_
    refine l_val rfl rfl rfl (r_assign (v := .int .i64 t9) rfl) ?_
    refine l_nil ?_
    refine c_ret ?_
    obtain rfl := Option.some.inj H6
    refine ret1 (v := .int .i64 t9) rfl rfl (fin rfl)
  · have H7 := cnd_f hb H; clear H
    refine l_passed rfl rfl rfl ?_
    refine l_passed rfl rfl rfl ?_
    refine l_val rfl rfl rfl (r_pickF (v := .bool false) rfl rfl) ?_
    obtain ⟨t9_2, h_t9_2, H8⟩ := bnd_some H7; clear H7
    refine l_call (k25 h_t9_2) Try.call25 rfl rfl rfl ?_
    refine l_val rfl rfl rfl (r_assign (v := .int .i64 t9_2) rfl) ?_
    refine l_nil ?_
    refine c_ret ?_
    obtain rfl := Option.some.inj H8
    refine ret1 (v := .int .i64 t9_2) rfl rfl (fin rfl)
end Go.Proofs.Ytfgehlmdcllclaa
