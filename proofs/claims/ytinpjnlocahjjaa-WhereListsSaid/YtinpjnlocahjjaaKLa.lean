/- Groups: the walks, printed by our generator; each follows its model. Conditions: the model yields a value. -/
import Derived.Test.YtinpjnlocahjjaaMWl
import Derived.Test.YtinpjnlocahjjaaProg
import Derived.Test.YtinpjnlocahjjaaLx15
import Derived.Test.YtinpjnlocahjjaaSrt
namespace Go.Proofs.Ytinpjnlocahjjaa
open Go Go.Vc Go.Md Go.M Go.Lx
set_option maxRecDepth 100000
set_option maxHeartbeats 4000000
set_option linter.unusedVariables false

theorem mixed : Try.prog.follows .mixedOrders = true := by kernel_rfl

abbrev e_i64 (x : Int) : List Value := [.int .i64 x]
abbrev e_api_Place (x : T_api_Place) : List Value := [.int .i64 x.Lat, .int .i64 x.Lon]
abbrev e_bool (x : Bool) : List Value := [.bool x]
def fnR_func_int_int_bool (m : ((List Int) → (List Int) → Option (Bool))) (w : World) (args : List Value) (post : Value → World → Prop) : Prop :=
  ∃ (a0 : (List Int)) (v0 : Value) (a1 : (List Int)) (v1 : Value) (r : Bool), FrS (fun b => w.heap[b]?) 1 v0 (a0.map e_i64) ∧ FrS (fun b => w.heap[b]?) 1 v1 (a1.map e_i64) ∧ args = [v0, v1] ∧ m a0 a1 = some r ∧ post = fun v' w' => v' = (.bool r) ∧ Grow w w'

def gs_int (h : Heap) (c : Nat → Value) (x : (List Int)) : Prop := FrS h 1 (c 0) (x.map e_i64)
instance : Mon gs_int := ⟨fun k _ _ f => FrS.mono f k⟩
theorem cgs_int {h : Heap} {c : Nat → Value} {x : (List Int)} (_ : gs_int h c x) : (List.range 1).map c = [c 0] := rfl

theorem k70 {a0 : Int} {a1 : Int} {a2 : Int} {r : Bool} (H : where_outside a0 a1 a2 = some r) : Ret Try.prog 70 [.int .i64 a0, .int .i64 a1, .int .i64 a2] (.bool r) := by
  refine enterRet (n := 15) Try.func70 rfl rfl rfl (fun wd => ?_)
  refine c_seq ?_
  refine c_region ?_
  refine l_val rfl rfl rfl (r_assign (v := .bool false) rfl) ?_
  refine l_nil ?_
  refine c_seq ?_
  refine c_region ?_
  refine l_val rfl rfl rfl (r_move (v := .int .i64 a0) rfl) ?_
  refine l_val rfl rfl rfl (r_move (v := .int .i64 a1) rfl) ?_
  refine l_val rfl rfl rfl (r_lss rfl rfl) ?_
  refine l_val rfl rfl rfl (r_move (v := .bool (decide (a0 < a1))) rfl) ?_
  refine split (fun hb => ?_) (fun hb => ?_)
  · have H3 := cnd_t hb H; clear H
    refine l_passed rfl rfl rfl ?_
    refine l_passed rfl rfl rfl ?_
    refine l_passed rfl rfl rfl ?_
    refine l_val rfl rfl rfl (r_pickT (v := .bool true) rfl rfl) ?_
    refine l_val rfl rfl rfl (r_assign (v := .bool true) rfl) ?_
    refine l_nil ?_
    refine c_ret ?_
    obtain rfl := Option.some.inj H3
    refine ret1 (v := .bool true) rfl rfl (fin rfl)
  · have H4 := cnd_f hb H; clear H
    refine l_val rfl rfl rfl (r_move (v := .int .i64 a0) rfl) ?_
    refine l_val rfl rfl rfl (r_move (v := .int .i64 a2) rfl) ?_
    refine l_val rfl rfl rfl (r_gtr rfl rfl) ?_
    refine l_val rfl rfl rfl (r_pickF (v := .bool (decide (a2 < a0))) rfl rfl) ?_
    refine l_val rfl rfl rfl (r_assign (v := .bool (decide (a2 < a0))) rfl) ?_
    refine l_nil ?_
    refine c_ret ?_
    obtain rfl := Option.some.inj H4
    refine ret1 (v := .bool (decide (a2 < a0))) rfl rfl (fin rfl)
theorem k128 {a0 : Int} {r : Bool} (H : where_isLat a0 = some r) : Ret Try.prog 128 [.int .i64 a0] (.bool r) := by
  refine enterRet (n := 6) Try.func128 rfl rfl rfl (fun wd => ?_)
  refine c_seq ?_
  refine c_region ?_
  refine l_val rfl rfl rfl (r_assign (v := .bool false) rfl) ?_
  refine l_nil ?_
  refine c_seq ?_
  refine c_region ?_
  refine l_val rfl rfl rfl (r_move (v := .int .i64 a0) rfl) ?_
  obtain ⟨t4, h_t4, H2⟩ := bnd_some H; clear H
  refine l_call (k70 h_t4) Try.call70 rfl rfl rfl ?_
  refine l_val rfl rfl rfl (r_not rfl) ?_
  refine l_val rfl rfl rfl (r_assign (v := .bool (!t4)) rfl) ?_
  refine l_nil ?_
  refine c_ret ?_
  obtain rfl := Option.some.inj H2
  refine ret1 (v := .bool (!t4)) rfl rfl (fin rfl)
theorem k129 {a0 : Int} {r : Bool} (H : where_isLon a0 = some r) : Ret Try.prog 129 [.int .i64 a0] (.bool r) := by
  refine enterRet (n := 6) Try.func129 rfl rfl rfl (fun wd => ?_)
  refine c_seq ?_
  refine c_region ?_
  refine l_val rfl rfl rfl (r_assign (v := .bool false) rfl) ?_
  refine l_nil ?_
  refine c_seq ?_
  refine c_region ?_
  refine l_val rfl rfl rfl (r_move (v := .int .i64 a0) rfl) ?_
  obtain ⟨t4, h_t4, H2⟩ := bnd_some H; clear H
  refine l_call (k70 h_t4) Try.call70 rfl rfl rfl ?_
  refine l_val rfl rfl rfl (r_not rfl) ?_
  refine l_val rfl rfl rfl (r_assign (v := .bool (!t4)) rfl) ?_
  refine l_nil ?_
  refine c_ret ?_
  obtain rfl := Option.some.inj H2
  refine ret1 (v := .bool (!t4)) rfl rfl (fin rfl)
theorem k99 {a0 : T_api_Place} {r : Int} (H : where_CheckPlace a0 = some r) : Ret Try.prog 99 [.agg #[.int .i64 a0.Lat, .int .i64 a0.Lon]] (.int .i64 r) := by
  refine enterRet (n := 13) Try.func99 rfl rfl rfl (fun wd => ?_)
  refine c_seq ?_
  refine c_region ?_
  refine l_box (cs := [.int .i64 a0.Lat, .int .i64 a0.Lon]) rfl rfl rfl rfl (fun b1 => ?_)
  refine l_val rfl rfl rfl (r_assign (v := .int .i64 0) rfl) ?_
  refine l_nil ?_
  refine c_seq ?_
  refine c_seq ?_
  refine c_region ?_
  refine l_val rfl rfl rfl (r_field Try.runUnderlying71 rfl Try.sizeOf3 rfl rfl) ?_
  refine l_load1 (i := 0) (v := .int .i64 a0.Lat) Try.isAgg3 rfl rfl rfl rfl rfl ?_
  obtain ⟨t5, h_t5, H7⟩ := bnd_some H; clear H
  refine l_call (k128 h_t5) Try.call128 rfl rfl rfl ?_
  refine l_val rfl rfl rfl (r_not rfl) ?_
  refine l_val rfl rfl rfl (r_move (v := .bool (!t5)) rfl) ?_
  refine split (fun hb => ?_) (fun hb => ?_)
  · have H8 := cnd_t hb H7; clear H7
    refine l_passed rfl rfl rfl ?_
    refine l_passed rfl rfl rfl ?_
    refine l_passed rfl rfl rfl ?_
    refine l_passed rfl rfl rfl ?_
    refine l_val rfl rfl rfl (r_pickT (v := .bool true) rfl rfl) ?_
    refine l_nil ?_
    refine c_true rfl ?_
    refine c_seq ?_
    refine c_region ?_
    refine l_val rfl rfl rfl (r_assign (v := .int .i64 2) rfl) ?_
    refine l_nil ?_
    refine c_ret ?_
    obtain rfl := Option.some.inj H8
    refine ret1 (v := .int .i64 2) rfl rfl (fin rfl)
  · have H9 := cnd_f hb H7; clear H7
    refine l_val rfl rfl rfl (r_field Try.runUnderlying71 rfl Try.sizeOf3 rfl rfl) ?_
    refine l_load1 (i := 0) (v := .int .i64 a0.Lon) Try.isAgg3 rfl rfl rfl rfl rfl ?_
    obtain ⟨t10, h_t10, H10⟩ := bnd_some H9; clear H9
    refine l_call (k129 h_t10) Try.call129 rfl rfl rfl ?_
    refine l_val rfl rfl rfl (r_not rfl) ?_
    refine l_val rfl rfl rfl (r_pickF (v := .bool (!t10)) rfl rfl) ?_
    refine l_nil ?_
    refine c_if (b := (!t10)) rfl (fun hb => ?_) (fun hb => ?_)
    · have H11 := cnd_t hb H10; clear H10
      refine c_seq ?_
      refine c_region ?_
      refine l_val rfl rfl rfl (r_assign (v := .int .i64 2) rfl) ?_
      refine l_nil ?_
      refine c_ret ?_
      obtain rfl := Option.some.inj H11
      refine ret1 (v := .int .i64 2) rfl rfl (fin rfl)
    · have H12 := cnd_f hb H10; clear H10
      refine c_skip ?_
      refine c_seq ?_
      refine c_region ?_
      refine l_val rfl rfl rfl (r_assign (v := .int .i64 0) rfl) ?_
      refine l_nil ?_
      refine c_ret ?_
      obtain rfl := Option.some.inj H12
      refine ret1 (v := .int .i64 0) rfl rfl (fin rfl)
theorem k76 {a0 : (List T_api_Place)} {v0 : Value} {r : Int} {w : World} {h : Heap} (hw : Know h w noS) (f0 : FrS h 2 v0 (a0.map e_api_Place)) (H : where_checkPlaces a0 = some r) : Does Try.prog 76 (List.toArray [v0]) w (fun v w' => v = (.int .i64 r) ∧ Grow w w') := by
  refine enter (n := 18) Try.func76 rfl rfl rfl noS [] (Sat.nil _ _) ?_
  refine c_seq ?_
  refine c_region ?_
  refine l_val rfl rfl rfl (r_assign (v := .int .i64 0) rfl) ?_
  refine l_nil ?_
  refine c_seq ?_
  refine c_seq ?_
  refine c_region ?_
  refine l_val rfl rfl rfl (r_move (v := v0) rfl) ?_
  refine l_val rfl rfl rfl (r_lenF Try.underlying65 rfl f0 rfl) ?_
  refine l_val rfl rfl rfl (r_move (v := .int .i64 0) rfl) ?_
  refine l_nil ?_
  refine c_block ?_
  refine c_fix (σ := Int) (τ := Unit) (fun next1 s => where_checkPlaces_l1 a0 next1 s) (fun s t => [(6, v0), (7, .int .i64 (a0.length : Int)), (8, .int .i64 s)]) (fun s t => []) (fun s t => True) 0 () [] H (by exact trivial) (by exact ⟨rfl, rfl, rfl, trivial⟩) (by decide) rfl ?_
  rintro x8_2 _ m1 gg H9 _
  clear H
  replace H9 : where_checkPlaces_l1 a0 (it (fun next1 s => where_checkPlaces_l1 a0 next1 s) m1) x8_2 = some r := H9
  generalize hn1 : it (fun next1 s => where_checkPlaces_l1 a0 next1 s) m1 = next1 at H9
  refine c_tidyF [(6, v0), (7, .int .i64 (a0.length : Int)), (8, .int .i64 x8_2)] [] rfl rfl ?_
  refine c_seq ?_
  refine c_region ?_
  refine l_val rfl rfl rfl (r_lss rfl rfl) ?_
  refine l_nil ?_
  refine c_seq ?_
  refine c_if (b := (decide (x8_2 < (a0.length : Int)))) rfl (fun hb => ?_) (fun hb => ?_)
  · have H10 := cnd_t hb H9; clear H9
    refine c_skip ?_
    refine c_seq ?_
    refine c_block ?_
    refine c_seq ?_
    refine c_region ?_
    obtain ⟨t10, h_t10, H11⟩ := bnd_some H10; clear H10
    refine l_val rfl rfl rfl (r_indexF Try.underlying65 Try.sizeOf71 rfl rfl f0 h_t10) ?_
    refine l_read (fun w hF hS => run_loadGN (f := e_api_Place) (i := x8_2) (sz := 2) (j := 0) (vs := [.int .i64 t10.Lat, .int .i64 t10.Lon]) Try.isAgg71 Try.sizeOf71 rfl rfl (f0.row (hw.now hF)) h_t10 rfl) rfl rfl rfl ?_
    refine l_alloc (cs := [.int .i64 0, .int .i64 0]) Try.zeroValue71 rfl rfl rfl (fun b1 => ?_)
    refine l_store (i := 0) (vs := [.int .i64 t10.Lat, .int .i64 t10.Lon]) (cs' := [.int .i64 t10.Lat, .int .i64 t10.Lon]) Try.sizeOf71 rfl rfl rfl rfl rfl rfl rfl rfl rfl ?_
    refine l_nil ?_
    refine c_seq ?_
    refine c_region ?_
    refine l_loadN (i := 0) (vs := [.int .i64 t10.Lat, .int .i64 t10.Lon]) Try.isAgg71 Try.sizeOf71 rfl rfl rfl rfl rfl ?_
    obtain ⟨t13, h_t13, H12⟩ := bnd_some H11; clear H11
    refine l_call (k99 h_t13) Try.call99 rfl rfl rfl ?_
    refine l_val rfl rfl rfl (r_assign (v := .int .i64 t13) rfl) ?_
    refine l_nil ?_
    refine c_seq ?_
    refine c_region ?_
    refine l_val rfl rfl rfl (r_move (v := .int .i64 t13) rfl) ?_
    refine l_val rfl rfl rfl (r_neq rfl rfl) ?_
    refine l_nil ?_
    refine c_if (b := (decide (t13 ≠ 0))) rfl (fun hb => ?_) (fun hb => ?_)
    · have H13 := cnd_t hb H12; clear H12
      refine c_seq ?_
      refine c_region ?_
      refine l_val rfl rfl rfl (r_move (v := .int .i64 t13) rfl) ?_
      refine l_val rfl rfl rfl (r_assign (v := .int .i64 t13) rfl) ?_
      refine l_nil ?_
      refine c_ret ?_
      obtain rfl := Option.some.inj H13
      refine ret1 (v := .int .i64 t13) rfl rfl (fin rfl)
    · have H14 := cnd_f hb H12; clear H12
      refine c_skip ?_
      refine c_region ?_
      obtain ⟨t17, h_t17, H15⟩ := bnd_some H14; clear H14
      refine l_val rfl rfl rfl (r_addG rfl rfl h_t17) ?_
      refine l_val rfl rfl rfl (r_move (v := .int .i64 t17) rfl) ?_
      refine l_nil ?_
      refine c_close t17 () m1 [] (by exact ⟨rfl, rfl, rfl, trivial⟩) (by decide) rfl (by exact ⟨(by subst hn1; exact H15), trivial⟩) (Nat.lt_succ_self _)
  · have H16 := cnd_f hb H9; clear H9
    refine c_exit ?_
    refine c_seq ?_
    refine c_region ?_
    refine l_val rfl rfl rfl (r_assign (v := .int .i64 0) rfl) ?_
    refine l_nil ?_
    refine c_ret ?_
    obtain rfl := Option.some.inj H16
    refine ret1 (v := .int .i64 0) rfl rfl (fin rfl)
theorem k69 {a0 : (List T_api_Place)} {v0 : Value} {r : Int} {w : World} {h : Heap} (hw : Know h w noS) (f0 : FrS h 2 v0 (a0.map e_api_Place)) (H : where_checkList a0 = some r) : Does Try.prog 69 (List.toArray [v0]) w (fun v w' => v = (.int .i64 r) ∧ Grow w w') := by
  refine enter (n := 8) Try.func69 rfl rfl rfl noS [] (Sat.nil _ _) ?_
  refine c_seq ?_
  refine c_region ?_
  refine l_val rfl rfl rfl (r_assign (v := .int .i64 0) rfl) ?_
  refine l_nil ?_
  refine c_seq ?_
  refine c_seq ?_
  refine c_region ?_
  refine l_val rfl rfl rfl (r_move (v := v0) rfl) ?_
  refine l_val rfl rfl rfl (r_lenF Try.underlying65 rfl f0 rfl) ?_
  refine l_val rfl rfl rfl (r_gtr rfl rfl) ?_
  refine l_nil ?_
  refine c_if (b := (decide (1000 < (a0.length : Int)))) rfl (fun hb => ?_) (fun hb => ?_)
  · have H4 := cnd_t hb H; clear H
    refine c_seq ?_
    refine c_region ?_
    refine l_val rfl rfl rfl (r_assign (v := .int .i64 4) rfl) ?_
    refine l_nil ?_
    refine c_ret ?_
    obtain rfl := Option.some.inj H4
    refine ret1 (v := .int .i64 4) rfl rfl (fin rfl)
  · have H5 := cnd_f hb H; clear H
    refine c_skip ?_
    refine c_seq ?_
    refine c_region ?_
    refine l_val rfl rfl rfl (r_move (v := v0) rfl) ?_
    obtain ⟨t7, h_t7, H6⟩ := bnd_some H5; clear H5
    refine l_callG (fun w hF hS => k76 (know_all w) (f0.mono (hw.now hF)) h_t7) Try.call76 rfl rfl rfl ?_
    refine l_val rfl rfl rfl (r_assign (v := .int .i64 t7) rfl) ?_
    refine l_nil ?_
    refine c_ret ?_
    obtain rfl := Option.some.inj H6
    refine ret1 (v := .int .i64 t7) rfl rfl (fin rfl)
theorem k131 {a0 : Int} {a1 : Int} {r : Int} (H : where_eastward a0 a1 = some r) : Ret Try.prog 131 [.int .i64 a0, .int .i64 a1] (.int .i64 r) := by
  refine enterRet (n := 11) Try.func131 rfl rfl rfl (fun wd => ?_)
  refine c_seq ?_
  refine c_region ?_
  refine l_val rfl rfl rfl (r_assign (v := .int .i64 0) rfl) ?_
  refine l_nil ?_
  refine c_seq ?_
  refine c_region ?_
  refine l_val rfl rfl rfl (r_move (v := .int .i64 a1) rfl) ?_
  refine l_val rfl rfl rfl (r_move (v := .int .i64 a0) rfl) ?_
  obtain ⟨t7, h_t7, H5⟩ := bnd_some H; clear H
  refine l_val rfl rfl rfl (r_subG rfl rfl h_t7) ?_
  obtain ⟨t8, h_t8, H6⟩ := bnd_some H5; clear H5
  refine l_val rfl rfl rfl (r_remG rfl rfl h_t8) ?_
  obtain ⟨t9, h_t9, H7⟩ := bnd_some H6; clear H6
  refine l_val rfl rfl rfl (r_addG rfl rfl h_t9) ?_
  obtain ⟨t10, h_t10, H8⟩ := bnd_some H7; clear H7
  refine l_val rfl rfl rfl (r_remG rfl rfl h_t10) ?_
  refine l_val rfl rfl rfl (r_assign (v := .int .i64 t10) rfl) ?_
  refine l_nil ?_
  refine c_ret ?_
  obtain rfl := Option.some.inj H8
  refine ret1 (v := .int .i64 t10) rfl rfl (fin rfl)
theorem k110 {a0 : Int} {a1 : Int} {r : Int} (H : where_short a0 a1 = some r) : Ret Try.prog 110 [.int .i64 a0, .int .i64 a1] (.int .i64 r) := by
  refine enterRet (n := 14) Try.func110 rfl rfl rfl (fun wd => ?_)
  refine c_seq ?_
  refine c_region ?_
  refine l_val rfl rfl rfl (r_assign (v := .int .i64 0) rfl) ?_
  refine l_nil ?_
  refine c_seq ?_
  refine c_region ?_
  refine l_val rfl rfl rfl (r_move (v := .int .i64 a0) rfl) ?_
  refine l_val rfl rfl rfl (r_move (v := .int .i64 a1) rfl) ?_
  obtain ⟨t8, h_t8, H5⟩ := bnd_some H; clear H
  refine l_call (k131 h_t8) Try.call131 rfl rfl rfl ?_
  refine l_val rfl rfl rfl (r_assign (v := .int .i64 t8) rfl) ?_
  refine l_nil ?_
  refine c_seq ?_
  refine c_seq ?_
  refine c_region ?_
  refine l_val rfl rfl rfl (r_move (v := .int .i64 t8) rfl) ?_
  refine l_val rfl rfl rfl (r_geq rfl rfl) ?_
  refine l_nil ?_
  refine c_if (b := (decide (180000000 ≤ t8))) rfl (fun hb => ?_) (fun hb => ?_)
  · have H6 := cnd_t hb H5; clear H5
    refine c_region ?_
    refine l_val rfl rfl rfl (r_move (v := .int .i64 t8) rfl) ?_
    obtain ⟨t12, h_t12, H7⟩ := bnd_some H6; clear H6
    refine l_val rfl rfl rfl (r_subG rfl rfl h_t12) ?_
    refine l_val rfl rfl rfl (r_assign (v := .int .i64 t12) rfl) ?_
    refine l_nil ?_
    refine c_seq ?_
    refine c_region ?_
    refine l_val rfl rfl rfl (r_move (v := .int .i64 t12) rfl) ?_
    refine l_val rfl rfl rfl (r_assign (v := .int .i64 t12) rfl) ?_
    refine l_nil ?_
    refine c_ret ?_
    obtain rfl := Option.some.inj H7
    refine ret1 (v := .int .i64 t12) rfl rfl (fin rfl)
  · have H8 := cnd_f hb H5; clear H5
    refine c_skip ?_
    refine c_seq ?_
    refine c_region ?_
    refine l_val rfl rfl rfl (r_move (v := .int .i64 t8) rfl) ?_
    refine l_val rfl rfl rfl (r_assign (v := .int .i64 t8) rfl) ?_
    refine l_nil ?_
    refine c_ret ?_
    obtain rfl := Option.some.inj H8
    refine ret1 (v := .int .i64 t8) rfl rfl (fin rfl)
theorem k111 {a0 : Int} {r : Int} (H : where_cosine a0 = some r) : Ret Try.prog 111 [.int .i64 a0] (.int .i64 r) := by
  refine enterRet (n := 17) Try.func111 rfl rfl rfl (fun wd => ?_)
  refine c_seq ?_
  refine c_region ?_
  refine l_val rfl rfl rfl (r_assign (v := .int .i64 0) rfl) ?_
  refine l_nil ?_
  refine c_seq ?_
  refine c_region ?_
  refine l_val rfl rfl rfl (r_move (v := .int .i64 a0) rfl) ?_
  obtain ⟨t5, h_t5, H9⟩ := bnd_some H; clear H
  refine l_val rfl rfl rfl (r_quoG rfl rfl h_t5) ?_
  refine l_val rfl rfl rfl (r_assign (v := .int .i64 t5) rfl) ?_
  refine l_nil ?_
  refine c_seq ?_
  refine c_region ?_
  refine l_val rfl rfl rfl (r_move (v := .int .i64 t5) rfl) ?_
  obtain ⟨t7, h_t7, H10⟩ := bnd_some H9; clear H9
  refine l_val rfl rfl rfl (r_mulG rfl rfl h_t7) ?_
  refine l_val rfl rfl rfl (r_move (v := .int .i64 t5) rfl) ?_
  obtain ⟨t9, h_t9, H11⟩ := bnd_some H10; clear H10
  refine l_val rfl rfl rfl (r_mulG rfl rfl h_t9) ?_
  obtain ⟨t10, h_t10, H12⟩ := bnd_some H11; clear H11
  refine l_val rfl rfl rfl (r_subG rfl rfl h_t10) ?_
  obtain ⟨t11, h_t11, H13⟩ := bnd_some H12; clear H12
  refine l_val rfl rfl rfl (r_mulG rfl rfl h_t11) ?_
  refine l_val rfl rfl rfl (r_move (v := .int .i64 t5) rfl) ?_
  refine l_val rfl rfl rfl (r_move (v := .int .i64 t5) rfl) ?_
  obtain ⟨t14, h_t14, H14⟩ := bnd_some H13; clear H13
  refine l_val rfl rfl rfl (r_mulG rfl rfl h_t14) ?_
  obtain ⟨t15, h_t15, H15⟩ := bnd_some H14; clear H14
  refine l_val rfl rfl rfl (r_addG rfl rfl h_t15) ?_
  obtain ⟨t16, h_t16, H16⟩ := bnd_some H15; clear H15
  refine l_val rfl rfl rfl (r_quoG rfl rfl h_t16) ?_
  refine l_val rfl rfl rfl (r_assign (v := .int .i64 t16) rfl) ?_
  refine l_nil ?_
  refine c_ret ?_
  obtain rfl := Option.some.inj H16
  refine ret1 (v := .int .i64 t16) rfl rfl (fin rfl)
theorem k112 {a0 : Int} {a1 : Int} {r : Int} (H : where_floor a0 a1 = some r) : Ret Try.prog 112 [.int .i64 a0, .int .i64 a1] (.int .i64 r) := by
  refine enterRet (n := 16) Try.func112 rfl rfl rfl (fun wd => ?_)
  refine c_seq ?_
  refine c_region ?_
  refine l_val rfl rfl rfl (r_assign (v := .int .i64 0) rfl) ?_
  refine l_nil ?_
  refine c_seq ?_
  refine c_region ?_
  refine l_val rfl rfl rfl (r_move (v := .int .i64 a0) rfl) ?_
  refine l_val rfl rfl rfl (r_move (v := .int .i64 a1) rfl) ?_
  obtain ⟨t8, h_t8, H6⟩ := bnd_some H; clear H
  refine l_val rfl rfl rfl (r_quoG rfl rfl h_t8) ?_
  refine l_val rfl rfl rfl (r_assign (v := .int .i64 t8) rfl) ?_
  refine l_nil ?_
  refine c_seq ?_
  refine c_seq ?_
  refine c_region ?_
  refine l_val rfl rfl rfl (r_move (v := .int .i64 a0) rfl) ?_
  refine l_val rfl rfl rfl (r_move (v := .int .i64 a1) rfl) ?_
  obtain ⟨t11, h_t11, H7⟩ := bnd_some H6; clear H6
  refine l_val rfl rfl rfl (r_remG rfl rfl h_t11) ?_
  refine l_val rfl rfl rfl (r_lss rfl rfl) ?_
  refine l_nil ?_
  refine c_if (b := (decide (t11 < 0))) rfl (fun hb => ?_) (fun hb => ?_)
  · have H8 := cnd_t hb H7; clear H7
    refine c_region ?_
    refine l_val rfl rfl rfl (r_move (v := .int .i64 t8) rfl) ?_
    obtain ⟨t14, h_t14, H9⟩ := bnd_some H8; clear H8
    refine l_val rfl rfl rfl (r_subG rfl rfl h_t14) ?_
    refine l_val rfl rfl rfl (r_assign (v := .int .i64 t14) rfl) ?_
    refine l_nil ?_
    refine c_seq ?_
    refine c_region ?_
    refine l_val rfl rfl rfl (r_move (v := .int .i64 t14) rfl) ?_
    refine l_val rfl rfl rfl (r_assign (v := .int .i64 t14) rfl) ?_
    refine l_nil ?_
    refine c_ret ?_
    obtain rfl := Option.some.inj H9
    refine ret1 (v := .int .i64 t14) rfl rfl (fin rfl)
  · have H10 := cnd_f hb H7; clear H7
    refine c_skip ?_
    refine c_seq ?_
    refine c_region ?_
    refine l_val rfl rfl rfl (r_move (v := .int .i64 t8) rfl) ?_
    refine l_val rfl rfl rfl (r_assign (v := .int .i64 t8) rfl) ?_
    refine l_nil ?_
    refine c_ret ?_
    obtain rfl := Option.some.inj H10
    refine ret1 (v := .int .i64 t8) rfl rfl (fin rfl)
theorem ext158 (b q : Nat) (h : gSqrt b = some q) (w : World) : (callFunc 158 (List.toArray [.float .f64 b])).run Try.prog w = .ok (.value (.float .f64 q)) w := by
  have h0 : (callFunc 158 #[.float .f64 b]).run Try.prog w = (do pure (.value (← Extern.MathSqrt.sqrt #[.float .f64 b])) : Sem Next).run Try.prog w := by kernel_rfl
  rw [h0]
  simp only [Sem.run_bind, Go.Lx.run_sqrt h, Result.andThen_ok, Sem.run_pure]

theorem k132 {a0 : Nat} {r : Nat} (H : math_Sqrt a0 = some r) : Ret Try.prog 132 [.float .f64 a0] (.float .f64 r) := by
  refine enterRet (n := 5) Try.func132 rfl rfl rfl (fun wd => ?_)
  refine c_seq ?_
  refine c_region ?_
  refine l_val rfl rfl rfl (r_assign (v := .float .f64 0) rfl) ?_
  refine l_nil ?_
  refine c_seq ?_
  refine c_region ?_
  refine l_val rfl rfl rfl (r_move (v := .float .f64 a0) rfl) ?_
  obtain ⟨t4, h_t4, H2⟩ := bnd_some H; clear H
  refine l_val rfl rfl rfl (r_ext (args := [.float .f64 a0]) (ext158 _ _ h_t4) rfl) ?_
  refine l_val rfl rfl rfl (r_assign (v := .float .f64 t4) rfl) ?_
  refine l_nil ?_
  refine c_ret ?_
  obtain rfl := Option.some.inj H2
  refine ret1 (v := .float .f64 t4) rfl rfl (fin rfl)
theorem k113 {a0 : Int} {r : Int} (H : where_root a0 = some r) : Ret Try.prog 113 [.int .i64 a0] (.int .i64 r) := by
  refine enterRet (n := 25) Try.func113 rfl rfl rfl (fun wd => ?_)
  refine c_seq ?_
  refine c_region ?_
  refine l_val rfl rfl rfl (r_assign (v := .int .i64 0) rfl) ?_
  refine l_nil ?_
  refine c_seq ?_
  refine c_region ?_
  refine l_val rfl rfl rfl (r_move (v := .int .i64 a0) rfl) ?_
  obtain ⟨t5, h_t5, H17⟩ := bnd_some H; clear H
  refine l_val rfl rfl rfl (r_convIFG Try.runUnderlying3 Try.runUnderlying156 rfl h_t5) ?_
  obtain ⟨t6, h_t6, H18⟩ := bnd_some H17; clear H17
  refine l_call (k132 h_t6) Try.call132 rfl rfl rfl ?_
  obtain ⟨t7, h_t7, H19⟩ := bnd_some H18; clear H18
  refine l_val rfl rfl rfl (r_convFIG Try.runUnderlying156 Try.runUnderlying3 rfl h_t7) ?_
  refine l_val rfl rfl rfl (r_assign (v := .int .i64 t7) rfl) ?_
  refine l_nil ?_
  refine c_meet (r := r) (σ := Int) (τ := Unit) (fun s => where_root_j1 a0 s) (fun s t => [(0, .int .i64 a0), (3, .int .i64 s)]) (fun s t => []) (fun s t => True) ?_ ?_
  · refine c_block ?_
    refine c_fix (σ := Int) (τ := Unit) (fun next3 s => where_root_l3 a0 next3 s) (fun s t => [(0, .int .i64 a0), (3, .int .i64 s)]) (fun s t => []) (fun s t => True) t7 () [] H19 (by exact trivial) (by exact ⟨rfl, rfl, trivial⟩) (by decide) rfl ?_
    rintro x3_5 _ m3 gg H28 _
    clear H19
    replace H28 : where_root_l3 a0 (it (fun next3 s => where_root_l3 a0 next3 s) m3) x3_5 = some r := H28
    generalize hn3 : it (fun next3 s => where_root_l3 a0 next3 s) m3 = next3 at H28
    refine c_tidyF [(0, .int .i64 a0), (3, .int .i64 x3_5)] [] rfl rfl ?_
    refine c_seq ?_
    refine c_seq ?_
    refine c_region ?_
    refine l_val rfl rfl rfl (r_move (v := .int .i64 x3_5) rfl) ?_
    refine l_val rfl rfl rfl (r_move (v := .int .i64 x3_5) rfl) ?_
    obtain ⟨t10, h_t10, H29⟩ := bnd_some H28; clear H28
    refine l_val rfl rfl rfl (r_mulG rfl rfl h_t10) ?_
    refine l_val rfl rfl rfl (r_move (v := .int .i64 a0) rfl) ?_
    refine l_val rfl rfl rfl (r_gtr rfl rfl) ?_
    refine l_nil ?_
    refine c_if (b := (decide (a0 < t10))) rfl (fun hb => ?_) (fun hb => ?_)
    · have H30 := cnd_t hb H29; clear H29
      refine c_skip ?_
      refine c_block ?_
      refine c_region ?_
      refine l_val rfl rfl rfl (r_move (v := .int .i64 x3_5) rfl) ?_
      obtain ⟨t14, h_t14, H31⟩ := bnd_some H30; clear H30
      refine l_val rfl rfl rfl (r_subG rfl rfl h_t14) ?_
      refine l_val rfl rfl rfl (r_assign (v := .int .i64 t14) rfl) ?_
      refine l_nil ?_
      refine c_close t14 () m3 [] (by exact ⟨rfl, rfl, trivial⟩) (by decide) rfl (by exact ⟨(by subst hn3; exact H31), trivial⟩) (Nat.lt_succ_self _)
    · have H32 := cnd_f hb H29; clear H29
      refine c_exit ?_
      refine c_close x3_5 () 0 [] (by exact ⟨rfl, rfl, trivial⟩) (by decide) rfl (by exact ⟨H32, trivial⟩) (Nat.lt_succ_self _)
  · rintro x3 _ gg H20 _
    replace H20 : where_root_j1 a0 x3 = some r := H20
    refine c_tidyF [(0, .int .i64 a0), (3, .int .i64 x3)] [] rfl rfl ?_
    refine c_seq ?_
    refine c_block ?_
    refine c_fix (σ := Int) (τ := Unit) (fun next2 s => where_root_l2 a0 next2 s) (fun s t => [(0, .int .i64 a0), (3, .int .i64 s)]) (fun s t => []) (fun s t => True) x3 () [] H20 (by exact trivial) (by exact ⟨rfl, rfl, trivial⟩) (by decide) rfl ?_
    rintro x3_3 _ m2 gg H21 _
    clear H20
    replace H21 : where_root_l2 a0 (it (fun next2 s => where_root_l2 a0 next2 s) m2) x3_3 = some r := H21
    generalize hn2 : it (fun next2 s => where_root_l2 a0 next2 s) m2 = next2 at H21
    refine c_tidyF [(0, .int .i64 a0), (3, .int .i64 x3_3)] [] rfl rfl ?_
    refine c_seq ?_
    refine c_seq ?_
    refine c_region ?_
    refine l_val rfl rfl rfl (r_move (v := .int .i64 x3_3) rfl) ?_
    obtain ⟨t16, h_t16, H22⟩ := bnd_some H21; clear H21
    refine l_val rfl rfl rfl (r_addG rfl rfl h_t16) ?_
    refine l_val rfl rfl rfl (r_move (v := .int .i64 x3_3) rfl) ?_
    obtain ⟨t18, h_t18, H23⟩ := bnd_some H22; clear H22
    refine l_val rfl rfl rfl (r_addG rfl rfl h_t18) ?_
    obtain ⟨t19, h_t19, H24⟩ := bnd_some H23; clear H23
    refine l_val rfl rfl rfl (r_mulG rfl rfl h_t19) ?_
    refine l_val rfl rfl rfl (r_move (v := .int .i64 a0) rfl) ?_
    refine l_val rfl rfl rfl (r_leq rfl rfl) ?_
    refine l_nil ?_
    refine c_if (b := (decide (t19 ≤ a0))) rfl (fun hb => ?_) (fun hb => ?_)
    · have H25 := cnd_t hb H24; clear H24
      refine c_skip ?_
      refine c_block ?_
      refine c_region ?_
      refine l_val rfl rfl rfl (r_move (v := .int .i64 x3_3) rfl) ?_
      obtain ⟨t23, h_t23, H26⟩ := bnd_some H25; clear H25
      refine l_val rfl rfl rfl (r_addG rfl rfl h_t23) ?_
      refine l_val rfl rfl rfl (r_assign (v := .int .i64 t23) rfl) ?_
      refine l_nil ?_
      refine c_close t23 () m2 [] (by exact ⟨rfl, rfl, trivial⟩) (by decide) rfl (by exact ⟨(by subst hn2; exact H26), trivial⟩) (Nat.lt_succ_self _)
    · have H27 := cnd_f hb H24; clear H24
      refine c_exit ?_
      refine c_seq ?_
      refine c_region ?_
      refine l_val rfl rfl rfl (r_move (v := .int .i64 x3_3) rfl) ?_
      refine l_val rfl rfl rfl (r_assign (v := .int .i64 x3_3) rfl) ?_
      refine l_nil ?_
      refine c_ret ?_
      obtain rfl := Option.some.inj H27
      refine ret1 (v := .int .i64 x3_3) rfl rfl (fin rfl)
theorem k71 {a0 : T_api_Place} {a1 : T_api_Place} {r : Int} (H : where_distance a0 a1 = some r) : Ret Try.prog 71 [.agg #[.int .i64 a0.Lat, .int .i64 a0.Lon], .agg #[.int .i64 a1.Lat, .int .i64 a1.Lon]] (.int .i64 r) := by
  refine enterRet (n := 36) Try.func71 rfl rfl rfl (fun wd => ?_)
  refine c_seq ?_
  refine c_region ?_
  refine l_box (cs := [.int .i64 a0.Lat, .int .i64 a0.Lon]) rfl rfl rfl rfl (fun b2 => ?_)
  refine l_box (cs := [.int .i64 a1.Lat, .int .i64 a1.Lon]) rfl rfl rfl rfl (fun b3 => ?_)
  refine l_val rfl rfl rfl (r_assign (v := .int .i64 0) rfl) ?_
  refine l_nil ?_
  refine c_seq ?_
  refine c_region ?_
  refine l_val rfl rfl rfl (r_field Try.runUnderlying71 rfl Try.sizeOf3 rfl rfl) ?_
  refine l_load1 (i := 1) (v := .int .i64 a1.Lat) Try.isAgg3 rfl rfl rfl rfl rfl ?_
  refine l_val rfl rfl rfl (r_field Try.runUnderlying71 rfl Try.sizeOf3 rfl rfl) ?_
  refine l_load1 (i := 0) (v := .int .i64 a0.Lat) Try.isAgg3 rfl rfl rfl rfl rfl ?_
  obtain ⟨t11, h_t11, H14⟩ := bnd_some H; clear H
  refine l_val rfl rfl rfl (r_subG rfl rfl h_t11) ?_
  refine l_val rfl rfl rfl (r_assign (v := .int .i64 t11) rfl) ?_
  refine l_nil ?_
  refine c_seq ?_
  exact c_regionD (Kd.p :: Kd.d [0] _ :: Kd.p :: Kd.d [1] _ :: Kd.d [] _ :: Kd.p :: Kd.d [0] _ :: Kd.p :: Kd.d [1] _ :: Kd.p :: Kd.d [] _ :: Kd.d [] _ :: Kd.p :: Kd.p :: Kd.p :: []) 0 mixed (by
    refine d_val rfl rfl (r_field Try.runUnderlying71 rfl Try.sizeOf3 rfl rfl) ?_
    refine d_load1 (i := 0) (v := .int .i64 a0.Lon) Try.isAgg3 rfl rfl rfl rfl ?_
    refine d_val rfl rfl (r_field Try.runUnderlying71 rfl Try.sizeOf3 rfl rfl) ?_
    refine d_load1 (i := 1) (v := .int .i64 a1.Lon) Try.isAgg3 rfl rfl rfl rfl ?_
    have h_t16 := bnd_val H14
    have H15 := bnd_rest H14
    refine d_call (k110 h_t16) Try.call110 rfl rfl ?_
    refine d_val rfl rfl (r_field Try.runUnderlying71 rfl Try.sizeOf3 rfl rfl) ?_
    refine d_load1 (i := 0) (v := .int .i64 a0.Lat) Try.isAgg3 rfl rfl rfl rfl ?_
    refine d_val rfl rfl (r_field Try.runUnderlying71 rfl Try.sizeOf3 rfl rfl) ?_
    refine d_load1 (i := 1) (v := .int .i64 a1.Lat) Try.isAgg3 rfl rfl rfl rfl ?_
    have h_t21 := bnd_val H15
    have H16 := bnd_rest H15
    refine d_val rfl rfl (r_addG rfl rfl h_t21) ?_
    have h_t22 := bnd_val H16
    have H17 := bnd_rest H16
    refine d_call (k112 h_t22) Try.call112 rfl rfl ?_
    have h_t23 := bnd_val H17
    have H18 := bnd_rest H17
    refine d_call (k111 h_t23) Try.call111 rfl rfl ?_
    have h_t24 := bnd_val H18
    have H19 := bnd_rest H18
    refine d_val rfl rfl (r_mulG rfl rfl h_t24) ?_
    have h_t25 := bnd_val H19
    have H20 := bnd_rest H19
    refine d_val rfl rfl (r_quoG rfl rfl h_t25) ?_
    refine d_val rfl rfl (r_assign (v := .int .i64 (val (gQuo (val (gI ((val (where_short a0.Lon a1.Lon)) * (val (where_cosine (val (where_floor (val (gI (a0.Lat + a1.Lat))) 2))))))) 1000000))) rfl) ?_
    refine d_nil ?_
    refine c_seq ?_
    refine c_region ?_
    refine l_val rfl rfl rfl (r_move (v := .int .i64 t11) rfl) ?_
    refine l_val rfl rfl rfl (r_move (v := .int .i64 t11) rfl) ?_
    obtain ⟨t28, h_t28, H21⟩ := bnd_some H20; clear H20
    refine l_val rfl rfl rfl (r_mulG rfl rfl h_t28) ?_
    refine l_val rfl rfl rfl (r_move (v := .int .i64 (val (gQuo (val (gI ((val (where_short a0.Lon a1.Lon)) * (val (where_cosine (val (where_floor (val (gI (a0.Lat + a1.Lat))) 2))))))) 1000000))) rfl) ?_
    refine l_val rfl rfl rfl (r_move (v := .int .i64 (val (gQuo (val (gI ((val (where_short a0.Lon a1.Lon)) * (val (where_cosine (val (where_floor (val (gI (a0.Lat + a1.Lat))) 2))))))) 1000000))) rfl) ?_
    obtain ⟨t31, h_t31, H22⟩ := bnd_some H21; clear H21
    refine l_val rfl rfl rfl (r_mulG rfl rfl h_t31) ?_
    obtain ⟨t32, h_t32, H23⟩ := bnd_some H22; clear H22
    refine l_val rfl rfl rfl (r_addG rfl rfl h_t32) ?_
    obtain ⟨t33, h_t33, H24⟩ := bnd_some H23; clear H23
    refine l_call (k113 h_t33) Try.call113 rfl rfl rfl ?_
    obtain ⟨t34, h_t34, H25⟩ := bnd_some H24; clear H24
    refine l_val rfl rfl rfl (r_mulG rfl rfl h_t34) ?_
    obtain ⟨t35, h_t35, H26⟩ := bnd_some H25; clear H25
    refine l_val rfl rfl rfl (r_quoG rfl rfl h_t35) ?_
    refine l_val rfl rfl rfl (r_assign (v := .int .i64 t35) rfl) ?_
    refine l_nil ?_
    refine c_ret ?_
    obtain rfl := Option.some.inj H26
    refine ret1 (v := .int .i64 t35) rfl rfl (fin rfl)
    ) (by kernel_rfl)
theorem k72 {a0 : (List Int)} {p0 : Option Addr × Nat} {n0 : Nat} {r : (List Int)} {w : World} {h : Heap} {S : Nat → Prop} (hcs : (rowV 3 1 (.slice p0.1 n0 p0.2) n0 (a0.map e_i64)).P S w) (hlt : ∀ b, S b → b < w.heap.size) (_ : Know h w S) (hn0 : n0 = a0.length) (H : gSortI a0 = some r) : Does Try.prog 72 (List.toArray [.slice p0.1 n0 p0.2]) w (fun v w' => ∃ x : Unit, v = (.tuple #[]) ∧ Turn w w' S (rowV 3 1 (.slice p0.1 n0 p0.2) n0 (r.map e_i64))) :=
  sort_ints (ρ := Go.Proofs.Try.lays189_ren) Go.Proofs.Try.lays189 hcs hlt hn0 H

theorem k73 {a : Option Addr} {n c : Nat} (hc : n ≤ c) : Ret Try.prog 73 [.slice a n c] (.slice (cutA a 0 n 1) n n) := by
  refine enterRet (n := 9) Try.func73 rfl rfl rfl (fun wd => ?_)
  refine c_seq ?_
  refine c_region ?_
  refine l_val rfl rfl rfl (r_assign (v := .slice none 0 0) rfl) ?_
  refine l_nil ?_
  refine c_seq ?_
  refine c_region ?_
  refine l_val rfl rfl rfl (r_move (v := .slice a n c) rfl) ?_
  refine l_val rfl rfl rfl (r_move (v := .slice a n c) rfl) ?_
  refine l_val rfl rfl rfl (r_len Try.underlying67 rfl) ?_
  refine l_val rfl rfl rfl (r_move (v := .slice a n c) rfl) ?_
  refine l_val rfl rfl rfl (r_len Try.underlying67 rfl) ?_
  refine l_val rfl rfl rfl (r_sliceHM (a := a) (m := n) (c := c) (h := (n : Int)) (q := (n : Int)) Try.underlying67 Try.sizeOf3 rfl rfl rfl (Int.natCast_nonneg n) (Int.le_refl _) (Int.ofNat_le.2 hc)) ?_
  refine l_val rfl rfl rfl (r_assign (v := .slice (cutA a 0 n 1) n n) rfl) ?_
  refine l_nil ?_
  refine c_ret ?_
  exact ret1 (v := .slice (cutA a 0 n 1) n n) rfl rfl (fin rfl)

theorem k74 {a : Option Addr} {n c : Nat} (hc : n ≤ c) : Ret Try.prog 74 [.slice a n c] (.slice (cutA a 0 n 1) n n) := by
  refine enterRet (n := 9) Try.func74 rfl rfl rfl (fun wd => ?_)
  refine c_seq ?_
  refine c_region ?_
  refine l_val rfl rfl rfl (r_assign (v := .slice none 0 0) rfl) ?_
  refine l_nil ?_
  refine c_seq ?_
  refine c_region ?_
  refine l_val rfl rfl rfl (r_move (v := .slice a n c) rfl) ?_
  refine l_val rfl rfl rfl (r_move (v := .slice a n c) rfl) ?_
  refine l_val rfl rfl rfl (r_len Try.underlying78 rfl) ?_
  refine l_val rfl rfl rfl (r_move (v := .slice a n c) rfl) ?_
  refine l_val rfl rfl rfl (r_len Try.underlying78 rfl) ?_
  refine l_val rfl rfl rfl (r_sliceHM (a := a) (m := n) (c := c) (h := (n : Int)) (q := (n : Int)) Try.underlying78 Try.sizeOf67 rfl rfl rfl (Int.natCast_nonneg n) (Int.le_refl _) (Int.ofNat_le.2 hc)) ?_
  refine l_val rfl rfl rfl (r_assign (v := .slice (cutA a 0 n 1) n n) rfl) ?_
  refine l_nil ?_
  refine c_ret ?_
  exact ret1 (v := .slice (cutA a 0 n 1) n n) rfl rfl (fin rfl)

theorem k36 {a0 : (List T_api_Place)} {v0 : Value} {a1 : Int} {r : (List (List Int)) × Int} {w : World} {h : Heap} (hw : Know h w noS) (f0 : FrS h 2 v0 (a0.map e_api_Place)) (H : where_Groups a0 a1 = some r) : Does Try.prog 36 (List.toArray [v0, .int .i64 a1]) w (fun v w' => ∃ x : (Option Addr × Nat), v = (.tuple #[.slice x.1 r.1.length x.2, .int .i64 r.2]) ∧ Turn w w' noS (roD 1 gs_int (.slice x.1 r.1.length x.2) r.1.length r.1)) := by
  refine enter (n := 87) Try.func36 rfl rfl rfl noS [] (Sat.nil _ _) ?_
  refine c_poolNew noH ?_
  refine c_seq ?_
  refine c_region ?_
  refine l_val rfl rfl rfl (r_assign (v := .slice none 0 0) rfl) ?_
  refine l_val rfl rfl rfl (r_assign (v := .int .i64 0) rfl) ?_
  refine l_nil ?_
  refine c_seq ?_
  refine c_seq ?_
  refine c_region ?_
  refine l_val rfl rfl rfl (r_move (v := v0) rfl) ?_
  obtain ⟨t14, h_t14, H87⟩ := bnd_some H; clear H
  refine l_callG (fun w hF hS => k69 (know_all w) (f0.mono (hw.now hF)) h_t14) Try.call69 rfl rfl rfl ?_
  refine l_val rfl rfl rfl (r_assign (v := .int .i64 t14) rfl) ?_
  refine l_nil ?_
  refine c_seq ?_
  refine c_region ?_
  refine l_val rfl rfl rfl (r_move (v := .int .i64 t14) rfl) ?_
  refine l_val rfl rfl rfl (r_neq rfl rfl) ?_
  refine l_nil ?_
  refine c_if (b := (decide (t14 ≠ 0))) rfl (fun hb => ?_) (fun hb => ?_)
  · have H88 := cnd_t hb H87; clear H87
    refine c_seq ?_
    refine c_region ?_
    refine l_val rfl rfl rfl (r_move (v := .int .i64 t14) rfl) ?_
    refine l_val rfl rfl rfl (r_assign (v := .slice none 0 0) rfl) ?_
    refine l_val rfl rfl rfl (r_assign (v := .int .i64 t14) rfl) ?_
    refine l_nil ?_
    refine c_ret ?_
    refine c_nilRow 67 1 ?_
    obtain rfl := Option.some.inj H88
    refine c_imp 1 rfl (row_ro _ _ _ _ _) ?_
    refine c_both 0 1 rfl rfl (by decide) ?_
    refine c_imp 0 rfl (imp_roD (p := ((none, 0) : Option Addr × Nat)) rfl (AllC.nil (G := gs_int) (h := noH) (sz := 1))) ?_
    refine ret2 (v1 := .slice ((none, 0) : Option Addr × Nat).1 (([] : List (List Value)).length) ((none, 0) : Option Addr × Nat).2) (v2 := .int .i64 t14) rfl rfl rfl (finX ((none, 0) : Option Addr × Nat) (i := 0) rfl (by first | rfl | rw [(show (([] : List (List Value)).length) = ([] : List (List Int)).length from (AllC.nil (G := gs_int) (h := noH) (sz := 1)).len)]) (by first | exact Imp.refl _ | exact Imp.of (by rw [(show (([] : List (List Value)).length) = ([] : List (List Int)).length from (AllC.nil (G := gs_int) (h := noH) (sz := 1)).len)])))
  · have H89 := cnd_f hb H87; clear H87
    refine c_skip ?_
    refine c_seq ?_
    refine c_seq ?_
    refine c_region ?_
    refine l_val rfl rfl rfl (r_move (v := .int .i64 a1) rfl) ?_
    obtain ⟨t19, h_t19, H90⟩ := bnd_some H89; clear H89
    refine l_call (k70 h_t19) Try.call70 rfl rfl rfl ?_
    refine l_nil ?_
    refine c_if (b := t19) rfl (fun hb => ?_) (fun hb => ?_)
    · have H91 := cnd_t hb H90; clear H90
      refine c_seq ?_
      refine c_region ?_
      refine l_val rfl rfl rfl (r_assign (v := .slice none 0 0) rfl) ?_
      refine l_val rfl rfl rfl (r_assign (v := .int .i64 2) rfl) ?_
      refine l_nil ?_
      refine c_ret ?_
      refine c_nilRow 67 1 ?_
      obtain rfl := Option.some.inj H91
      refine c_imp 1 rfl (row_ro _ _ _ _ _) ?_
      refine c_both 0 1 rfl rfl (by decide) ?_
      refine c_imp 0 rfl (imp_roD (p := ((none, 0) : Option Addr × Nat)) rfl (AllC.nil (G := gs_int) (h := noH) (sz := 1))) ?_
      refine ret2 (v1 := .slice ((none, 0) : Option Addr × Nat).1 (([] : List (List Value)).length) ((none, 0) : Option Addr × Nat).2) (v2 := .int .i64 2) rfl rfl rfl (finX ((none, 0) : Option Addr × Nat) (i := 0) rfl (by first | rfl | rw [(show (([] : List (List Value)).length) = ([] : List (List Int)).length from (AllC.nil (G := gs_int) (h := noH) (sz := 1)).len)]) (by first | exact Imp.refl _ | exact Imp.of (by rw [(show (([] : List (List Value)).length) = ([] : List (List Int)).length from (AllC.nil (G := gs_int) (h := noH) (sz := 1)).len)])))
    · have H92 := cnd_f hb H90; clear H90
      refine c_skip ?_
      refine c_seq ?_
      refine c_region ?_
      refine l_val rfl rfl rfl (r_assign (v := .slice none 0 0) rfl) ?_
      refine l_nil ?_
      refine c_seq ?_
      refine c_region ?_
      refine l_val rfl rfl rfl (r_move (v := v0) rfl) ?_
      refine l_val rfl rfl rfl (r_lenF Try.underlying65 rfl f0 rfl) ?_
      obtain ⟨t22, h_t22, H93⟩ := bnd_some H92; clear H92
      refine l_make (rds := []) (makes_makeG (E := 4) (sz := 1) (f := e_bool) (xs := t22) Try.underlying111 (info_of Try.typeInfo4) rfl rfl rfl rfl rfl rfl ⟨rfl, rfl⟩ h_t22) rfl rfl rfl (fun p => ?_)
      refine l_val rfl rfl rfl (r_assign (v := .slice p.1 t22.length p.2) rfl) ?_
      refine l_nil ?_
      refine c_meet (r := r) (σ := (List (List Int))) (τ := Heap × (List (List Value)) × (Option Addr × Nat)) (fun s => where_Groups_j1 s) (fun s t => [(7, .slice t.2.2.1 t.2.1.length t.2.2.2)]) (fun s t => [poolC noH t.1, rowV 67 1 (.slice t.2.2.1 t.2.1.length t.2.2.2) t.2.1.length (t.2.1.map idC)]) (fun s t => AllC gs_int t.1 1 t.2.1 s) ?_ ?_
      · refine c_seq ?_
        refine c_region ?_
        refine l_val rfl rfl rfl (r_move (v := v0) rfl) ?_
        refine l_val rfl rfl rfl (r_lenF Try.underlying65 rfl f0 rfl) ?_
        refine l_val rfl rfl rfl (r_move (v := .int .i64 0) rfl) ?_
        refine l_nil ?_
        refine c_block ?_
        refine c_nilRow 67 1 ?_
        refine c_fix (σ := Int × (List Bool) × (List (List Int))) (τ := Heap × (List (List Value)) × (Option Addr × Nat)) (fun next2 s => where_Groups_l2 a0 a1 next2 s.1 s.2.1 s.2.2) (fun s t => [(0, v0), (1, .int .i64 a1), (7, .slice t.2.2.1 t.2.1.length t.2.2.2), (8, .slice p.1 t22.length p.2), (24, .int .i64 (a0.length : Int)), (25, .int .i64 s.1)]) (fun s t => [poolC noH t.1, rowV 4 1 (.slice p.1 t22.length p.2) t22.length (s.2.1.map e_bool), rowV 67 1 (.slice t.2.2.1 t.2.1.length t.2.2.2) t.2.1.length (t.2.1.map idC)]) (fun s t => t22.length = s.2.1.length ∧ AllC gs_int t.1 1 t.2.1 s.2.2) (0, t22, ([] : List (List Int))) (noH, ([] : List (List Value)), ((none, 0) : Option Addr × Nat)) [0, 1, 2] H93 (by exact ⟨rfl, (AllC.nil (G := gs_int) (h := noH) (sz := 1))⟩) (by exact ⟨rfl, rfl, rfl, rfl, rfl, rfl, trivial⟩) (by decide) rfl ?_
        rintro ⟨x25_2, l_4, l_5⟩ ⟨hp_2, css_2, p_3⟩ m2 gg H95 ⟨hl_2, pf_3⟩
        clear H93
        replace H95 : where_Groups_l2 a0 a1 (it (fun next2 s => where_Groups_l2 a0 a1 next2 s.1 s.2.1 s.2.2) m2) x25_2 l_4 l_5 = some r := H95
        generalize hn2 : it (fun next2 s => where_Groups_l2 a0 a1 next2 s.1 s.2.1 s.2.2) m2 = next2 at H95
        refine c_tidyF [(0, v0), (1, .int .i64 a1), (7, .slice p_3.1 css_2.length p_3.2), (8, .slice p.1 t22.length p.2), (24, .int .i64 (a0.length : Int)), (25, .int .i64 x25_2)] [poolC noH hp_2, rowV 4 1 (.slice p.1 t22.length p.2) t22.length (l_4.map e_bool), rowV 67 1 (.slice p_3.1 css_2.length p_3.2) css_2.length (css_2.map idC)] rfl rfl ?_
        refine c_seq ?_
        refine c_region ?_
        refine l_val rfl rfl rfl (r_lss rfl rfl) ?_
        refine l_nil ?_
        refine c_seq ?_
        refine c_if (b := (decide (x25_2 < (a0.length : Int)))) rfl (fun hb => ?_) (fun hb => ?_)
        · have H96 := cnd_t hb H95; clear H95
          refine c_skip ?_
          refine c_meet (r := r) (σ := (List Bool) × (List (List Int))) (τ := Heap × (List (List Value)) × (Option Addr × Nat)) (fun s => where_Groups_j3 x25_2 next2 s.1 s.2) (fun s t => [(0, v0), (1, .int .i64 a1), (7, .slice t.2.2.1 t.2.1.length t.2.2.2), (8, .slice p.1 t22.length p.2), (24, .int .i64 (a0.length : Int)), (25, .int .i64 x25_2)]) (fun s t => [poolC noH t.1, rowV 4 1 (.slice p.1 t22.length p.2) t22.length (s.1.map e_bool), rowV 67 1 (.slice t.2.2.1 t.2.1.length t.2.2.2) t.2.1.length (t.2.1.map idC)]) (fun s t => t22.length = s.1.length ∧ AllC gs_int t.1 1 t.2.1 s.2) ?_ ?_
          · refine c_block ?_
            refine c_seq ?_
            refine c_region ?_
            refine l_val rfl rfl rfl (r_move (v := .int .i64 x25_2) rfl) ?_
            refine l_val rfl rfl rfl (r_assign (v := .int .i64 x25_2) rfl) ?_
            refine l_nil ?_
            refine c_seq ?_
            refine c_seq ?_
            refine c_region ?_
            refine l_val rfl rfl rfl (r_move (v := .slice p.1 t22.length p.2) rfl) ?_
            refine l_val rfl rfl rfl (r_move (v := .int .i64 x25_2) rfl) ?_
            obtain ⟨t30, h_t30, H99⟩ := bnd_some H96; clear H96
            refine l_read (fun w hF hS => run_indexO Try.underlying111 Try.sizeOf4 rfl rfl (rowOf (i := 1) hS rfl) hl_2 h_t30) rfl rfl rfl ?_
            refine l_read (fun w hF hS => run_loadG1 (f := e_bool) (i := x25_2) (sz := 1) (j := 0) (v := .bool t30) Try.isAgg4 rfl rfl (rowOf (i := 1) hS rfl) h_t30 rfl) rfl rfl rfl ?_
            refine l_nil ?_
            refine c_if (b := t30) rfl (fun hb => ?_) (fun hb => ?_)
            · have H100 := cnd_t hb H99; clear H99
              refine c_exit ?_
              refine c_close (l_4, l_5) (hp_2, css_2, p_3) 0 [0, 1, 2] (by exact ⟨rfl, rfl, rfl, rfl, rfl, rfl, trivial⟩) (by decide) rfl (by exact ⟨H100, ⟨hl_2, pf_3⟩⟩) (Nat.lt_succ_self _)
            · have H101 := cnd_f hb H99; clear H99
              refine c_skip ?_
              refine c_seq ?_
              refine c_region ?_
              refine l_val rfl rfl rfl (r_move (v := .slice p.1 t22.length p.2) rfl) ?_
              refine l_val rfl rfl rfl (r_move (v := .int .i64 x25_2) rfl) ?_
              obtain ⟨t34, h_t34, H102⟩ := bnd_some H101; clear H101
              refine l_read (fun w hF hS => run_indexO Try.underlying111 Try.sizeOf4 rfl rfl (rowOf (i := 1) hS rfl) hl_2 h_t34) rfl rfl rfl ?_
              obtain ⟨l1, h_l1, H103⟩ := bnd_some H102; clear H102
              refine l_storeG (q := 1) (j := 0) (i := x25_2) (sz := 1) (hm := hl_2) (f := e_bool) (vs := [.bool true]) Try.sizeOf4 rfl rfl rfl rfl rfl rfl rfl rfl rfl (fun y_ hy_ => by first | rfl | (cases hy_.symm.trans h_t34; rfl)) h_l1 ?_
              refine l_nil ?_
              refine c_seq ?_
              refine c_region ?_
              refine l_val rfl rfl rfl (r_move (v := .int .i64 x25_2) rfl) ?_
              refine l_buildSlice (vs := [.int .i64 x25_2]) (cs := [.int .i64 x25_2]) Try.underlying67 Try.sizeOf3 Try.zeroValue3 rfl rfl rfl rfl rfl rfl rfl (fun b6 => ?_)
              refine l_val rfl rfl rfl (r_assign (v := .slice (some ⟨b6, 0, none⟩) 1 1) rfl) ?_
              refine l_nil ?_
              refine c_meet (r := r) (σ := (List Bool) × (List Int)) (τ := (Option Addr × Nat) × Nat) (fun s => where_Groups_j4 x25_2 l_5 next2 s.1 s.2) (fun s t => [(0, v0), (1, .int .i64 a1), (7, .slice p_3.1 css_2.length p_3.2), (8, .slice p.1 t22.length p.2), (10, .slice t.1.1 t.2 t.1.2), (24, .int .i64 (a0.length : Int)), (25, .int .i64 x25_2)]) (fun s t => [poolC noH hp_2, rowV 4 1 (.slice p.1 t22.length p.2) t22.length (s.1.map e_bool), rowV 67 1 (.slice p_3.1 css_2.length p_3.2) css_2.length (css_2.map idC), rowV 3 1 (.slice t.1.1 t.2 t.1.2) t.2 (s.2.map e_i64)]) (fun s t => t22.length = s.1.length ∧ t.2 = s.2.length) ?_ ?_
              · refine c_seq ?_
                refine c_region ?_
                refine l_val rfl rfl rfl (r_assign (v := .int .i64 0) rfl) ?_
                refine l_nil ?_
                refine c_block ?_
                refine c_imp 3 rfl (imp_box (m := 1) (E := 3) (sz := 1) (xs := (([x25_2] : List Int)).map e_i64) rfl rfl rfl ⟨rfl, by decide⟩) ?_
                refine c_fix (σ := Int × (List Bool) × (List Int)) (τ := (Option Addr × Nat) × Nat) (fun next5 s => where_Groups_l5 a0 a1 x25_2 l_5 next2 next5 s.1 s.2.1 s.2.2) (fun s t => [(0, v0), (1, .int .i64 a1), (7, .slice p_3.1 css_2.length p_3.2), (8, .slice p.1 t22.length p.2), (10, .slice t.1.1 t.2 t.1.2), (11, .int .i64 s.1), (24, .int .i64 (a0.length : Int)), (25, .int .i64 x25_2)]) (fun s t => [poolC noH hp_2, rowV 4 1 (.slice p.1 t22.length p.2) t22.length (s.2.1.map e_bool), rowV 67 1 (.slice p_3.1 css_2.length p_3.2) css_2.length (css_2.map idC), rowV 3 1 (.slice t.1.1 t.2 t.1.2) t.2 (s.2.2.map e_i64)]) (fun s t => t22.length = s.2.1.length ∧ t.2 = s.2.2.length) (0, l1, ([x25_2] : List Int)) (((some ⟨b6, 0, none⟩, 1) : Option Addr × Nat), 1) [0, 1, 2, 3] H103 (by exact ⟨(gSet_n hl_2 h_l1), rfl⟩) (by exact ⟨rfl, rfl, rfl, rfl, rfl, rfl, rfl, rfl, trivial⟩) (by decide) rfl ?_
                rintro ⟨x11_2, l_12, l_13⟩ ⟨p_7, n_2⟩ m5 gg H107 ⟨hl_9, hl_10⟩
                clear H103
                replace H107 : where_Groups_l5 a0 a1 x25_2 l_5 next2 (it (fun next5 s => where_Groups_l5 a0 a1 x25_2 l_5 next2 next5 s.1 s.2.1 s.2.2) m5) x11_2 l_12 l_13 = some r := H107
                generalize hn5 : it (fun next5 s => where_Groups_l5 a0 a1 x25_2 l_5 next2 next5 s.1 s.2.1 s.2.2) m5 = next5 at H107
                refine c_tidyF [(0, v0), (1, .int .i64 a1), (7, .slice p_3.1 css_2.length p_3.2), (8, .slice p.1 t22.length p.2), (10, .slice p_7.1 n_2 p_7.2), (11, .int .i64 x11_2), (24, .int .i64 (a0.length : Int)), (25, .int .i64 x25_2)] [poolC noH hp_2, rowV 4 1 (.slice p.1 t22.length p.2) t22.length (l_12.map e_bool), rowV 67 1 (.slice p_3.1 css_2.length p_3.2) css_2.length (css_2.map idC), rowV 3 1 (.slice p_7.1 n_2 p_7.2) n_2 (l_13.map e_i64)] rfl rfl ?_
                refine c_seq ?_
                refine c_seq ?_
                refine c_region ?_
                refine l_val rfl rfl rfl (r_move (v := .int .i64 x11_2) rfl) ?_
                refine l_val rfl rfl rfl (r_move (v := .slice p_7.1 n_2 p_7.2) rfl) ?_
                refine l_val rfl rfl rfl (r_lenN Try.underlying67 rfl hl_10) ?_
                refine l_val rfl rfl rfl (r_lss rfl rfl) ?_
                refine l_nil ?_
                refine c_if (b := (decide (x11_2 < (l_13.length : Int)))) rfl (fun hb => ?_) (fun hb => ?_)
                · have H108 := cnd_t hb H107; clear H107
                  refine c_skip ?_
                  refine c_meet (r := r) (σ := (List Bool) × (List Int)) (τ := (Option Addr × Nat) × Nat) (fun s => where_Groups_j6 x11_2 next5 s.1 s.2) (fun s t => [(0, v0), (1, .int .i64 a1), (7, .slice p_3.1 css_2.length p_3.2), (8, .slice p.1 t22.length p.2), (10, .slice t.1.1 t.2 t.1.2), (11, .int .i64 x11_2), (24, .int .i64 (a0.length : Int)), (25, .int .i64 x25_2)]) (fun s t => [poolC noH hp_2, rowV 4 1 (.slice p.1 t22.length p.2) t22.length (s.1.map e_bool), rowV 67 1 (.slice p_3.1 css_2.length p_3.2) css_2.length (css_2.map idC), rowV 3 1 (.slice t.1.1 t.2 t.1.2) t.2 (s.2.map e_i64)]) (fun s t => t22.length = s.1.length ∧ t.2 = s.2.length) ?_ ?_
                  · refine c_block ?_
                    refine c_seq ?_
                    refine c_region ?_
                    refine l_val rfl rfl rfl (r_move (v := v0) rfl) ?_
                    refine l_val rfl rfl rfl (r_lenF Try.underlying65 rfl f0 rfl) ?_
                    refine l_val rfl rfl rfl (r_move (v := .int .i64 0) rfl) ?_
                    refine l_nil ?_
                    refine c_block ?_
                    refine c_fix (σ := Int × (List Bool) × (List Int)) (τ := (Option Addr × Nat) × Nat) (fun next7 s => where_Groups_l7 a0 a1 x11_2 next5 next7 s.1 s.2.1 s.2.2) (fun s t => [(0, v0), (1, .int .i64 a1), (7, .slice p_3.1 css_2.length p_3.2), (8, .slice p.1 t22.length p.2), (10, .slice t.1.1 t.2 t.1.2), (11, .int .i64 x11_2), (24, .int .i64 (a0.length : Int)), (25, .int .i64 x25_2), (44, .int .i64 (a0.length : Int)), (45, .int .i64 s.1)]) (fun s t => [poolC noH hp_2, rowV 4 1 (.slice p.1 t22.length p.2) t22.length (s.2.1.map e_bool), rowV 67 1 (.slice p_3.1 css_2.length p_3.2) css_2.length (css_2.map idC), rowV 3 1 (.slice t.1.1 t.2 t.1.2) t.2 (s.2.2.map e_i64)]) (fun s t => t22.length = s.2.1.length ∧ t.2 = s.2.2.length) (0, l_12, l_13) (p_7, n_2) [0, 1, 2, 3] H108 (by exact ⟨hl_9, hl_10⟩) (by exact ⟨rfl, rfl, rfl, rfl, rfl, rfl, rfl, rfl, rfl, rfl, trivial⟩) (by decide) rfl ?_
                    rintro ⟨x45_2, l_18, l_19⟩ ⟨p_9, n_4⟩ m7 gg H111 ⟨hl_15, hl_16⟩
                    clear H108
                    replace H111 : where_Groups_l7 a0 a1 x11_2 next5 (it (fun next7 s => where_Groups_l7 a0 a1 x11_2 next5 next7 s.1 s.2.1 s.2.2) m7) x45_2 l_18 l_19 = some r := H111
                    generalize hn7 : it (fun next7 s => where_Groups_l7 a0 a1 x11_2 next5 next7 s.1 s.2.1 s.2.2) m7 = next7 at H111
                    refine c_tidyF [(0, v0), (1, .int .i64 a1), (7, .slice p_3.1 css_2.length p_3.2), (8, .slice p.1 t22.length p.2), (10, .slice p_9.1 n_4 p_9.2), (11, .int .i64 x11_2), (24, .int .i64 (a0.length : Int)), (25, .int .i64 x25_2), (44, .int .i64 (a0.length : Int)), (45, .int .i64 x45_2)] [poolC noH hp_2, rowV 4 1 (.slice p.1 t22.length p.2) t22.length (l_18.map e_bool), rowV 67 1 (.slice p_3.1 css_2.length p_3.2) css_2.length (css_2.map idC), rowV 3 1 (.slice p_9.1 n_4 p_9.2) n_4 (l_19.map e_i64)] rfl rfl ?_
                    refine c_seq ?_
                    refine c_region ?_
                    refine l_val rfl rfl rfl (r_lss rfl rfl) ?_
                    refine l_nil ?_
                    refine c_seq ?_
                    refine c_if (b := (decide (x45_2 < (a0.length : Int)))) rfl (fun hb => ?_) (fun hb => ?_)
                    · have H112 := cnd_t hb H111; clear H111
                      refine c_skip ?_
                      refine c_meet (r := r) (σ := (List Bool) × (List Int)) (τ := (Option Addr × Nat) × Nat) (fun s => where_Groups_j8 x45_2 next7 s.1 s.2) (fun s t => [(0, v0), (1, .int .i64 a1), (7, .slice p_3.1 css_2.length p_3.2), (8, .slice p.1 t22.length p.2), (10, .slice t.1.1 t.2 t.1.2), (11, .int .i64 x11_2), (24, .int .i64 (a0.length : Int)), (25, .int .i64 x25_2), (44, .int .i64 (a0.length : Int)), (45, .int .i64 x45_2)]) (fun s t => [poolC noH hp_2, rowV 4 1 (.slice p.1 t22.length p.2) t22.length (s.1.map e_bool), rowV 67 1 (.slice p_3.1 css_2.length p_3.2) css_2.length (css_2.map idC), rowV 3 1 (.slice t.1.1 t.2 t.1.2) t.2 (s.2.map e_i64)]) (fun s t => t22.length = s.1.length ∧ t.2 = s.2.length) ?_ ?_
                      · refine c_block ?_
                        refine c_seq ?_
                        refine c_region ?_
                        refine l_val rfl rfl rfl (r_move (v := .int .i64 x45_2) rfl) ?_
                        refine l_val rfl rfl rfl (r_assign (v := .int .i64 x45_2) rfl) ?_
                        refine l_nil ?_
                        refine c_seq ?_
                        exact c_regionD (Kd.p :: Kd.p :: Kd.d [1] _ :: Kd.d [1] _ :: Kd.p :: Kd.p :: Kd.p :: Kd.p :: Kd.p :: Kd.d [3] _ :: Kd.d [3] _ :: Kd.p :: Kd.d [] _ :: Kd.p :: Kd.p :: Kd.p :: Kd.d [] _ :: Kd.d [] _ :: Kd.p :: Kd.p :: Kd.p :: []) 0 mixed (by
                          refine d_val rfl rfl (r_move (v := .slice p.1 t22.length p.2) rfl) ?_
                          refine d_val rfl rfl (r_move (v := .int .i64 x45_2) rfl) ?_
                          have h_t50 := bnd_val H112
                          have H115 := bnd_rest H112
                          refine d_readD (fun w L' hF hS hi => run_indexO Try.underlying111 Try.sizeOf4 rfl rfl (rowOf (i := 1) hS ((hi 1 (by simp)).trans rfl)) hl_15 h_t50) rfl rfl ?_
                          refine d_readD (fun w L' hF hS hi => run_loadG1 (f := e_bool) (i := x45_2) (sz := 1) (j := 0) (v := .bool (val (gAt l_18 x45_2))) Try.isAgg4 rfl rfl (rowOf (i := 1) hS ((hi 1 (by simp)).trans rfl)) h_t50 rfl) rfl rfl ?_
                          refine d_val rfl rfl (r_not rfl) ?_
                          refine d_val rfl rfl (r_move (v := .bool (!(val (gAt l_18 x45_2)))) rfl) ?_
                          refine splitS (fun hb => ?_) (fun hb => ?_)
                          · have H116 := cnd_t hb H115
                            refine d_val rfl rfl (r_move (v := v0) rfl) ?_
                            refine d_val rfl rfl (r_move (v := .slice p_9.1 n_4 p_9.2) rfl) ?_
                            refine d_val rfl rfl (r_move (v := .int .i64 x11_2) rfl) ?_
                            have h_t57 := bnd_val H116
                            have H117 := bnd_rest H116
                            refine d_readD (fun w L' hF hS hi => run_indexO Try.underlying67 Try.sizeOf3 rfl rfl (rowOf (i := 3) hS ((hi 3 (by simp)).trans rfl)) hl_16 h_t57) rfl rfl ?_
                            refine d_readD (fun w L' hF hS hi => run_loadG1 (f := e_i64) (i := x11_2) (sz := 1) (j := 0) (v := .int .i64 (val (gAt l_19 x11_2))) Try.isAgg3 rfl rfl (rowOf (i := 3) hS ((hi 3 (by simp)).trans rfl)) h_t57 rfl) rfl rfl ?_
                            have h_t59 := bnd_val H117
                            have H118 := bnd_rest H117
                            refine d_val rfl rfl (r_indexF Try.underlying65 Try.sizeOf71 rfl rfl f0 h_t59) ?_
                            refine d_read (fun w hF => run_loadGN (f := e_api_Place) (i := (val (gAt l_19 x11_2))) (sz := 2) (j := 0) (vs := [.int .i64 (val (gAt a0 (val (gAt l_19 x11_2)))).Lat, .int .i64 (val (gAt a0 (val (gAt l_19 x11_2)))).Lon]) Try.isAgg71 Try.sizeOf71 rfl rfl (f0.row (hw.now hF)) h_t59 rfl) rfl rfl ?_
                            refine d_val rfl rfl (r_move (v := v0) rfl) ?_
                            refine d_val rfl rfl (r_move (v := .int .i64 x45_2) rfl) ?_
                            have h_t63 := bnd_val H118
                            have H119 := bnd_rest H118
                            refine d_val rfl rfl (r_indexF Try.underlying65 Try.sizeOf71 rfl rfl f0 h_t63) ?_
                            refine d_read (fun w hF => run_loadGN (f := e_api_Place) (i := x45_2) (sz := 2) (j := 0) (vs := [.int .i64 (val (gAt a0 x45_2)).Lat, .int .i64 (val (gAt a0 x45_2)).Lon]) Try.isAgg71 Try.sizeOf71 rfl rfl (f0.row (hw.now hF)) h_t63 rfl) rfl rfl ?_
                            have h_t65 := bnd_val H119
                            have H120 := bnd_rest H119
                            refine d_call (k71 h_t65) Try.call71 rfl rfl ?_
                            refine d_val rfl rfl (r_move (v := .int .i64 a1) rfl) ?_
                            refine d_val rfl rfl (r_leq rfl rfl) ?_
                            refine d_val rfl rfl (r_pickT (v := .bool (decide ((val (where_distance (val (gAt a0 (val (gAt l_19 x11_2)))) (val (gAt a0 x45_2)))) ≤ a1))) rfl rfl) ?_
                            refine d_nil ?_
                            refine c_if (b := (decide ((val (where_distance (val (gAt a0 (val (gAt l_19 x11_2)))) (val (gAt a0 x45_2)))) ≤ a1))) rfl (fun hb => ?_) (fun hb => ?_)
                            · have H121 := cnd_t hb H120; clear H120
                              refine c_seq ?_
                              refine c_region ?_
                              refine l_val rfl rfl rfl (r_move (v := .slice p.1 t22.length p.2) rfl) ?_
                              refine l_val rfl rfl rfl (r_move (v := .int .i64 x45_2) rfl) ?_
                              obtain ⟨t71, h_t71, H122⟩ := bnd_some H121; clear H121
                              refine l_read (fun w hF hS => run_indexO Try.underlying111 Try.sizeOf4 rfl rfl (rowOf (i := 1) hS rfl) hl_15 h_t71) rfl rfl rfl ?_
                              obtain ⟨l1_2, h_l1_2, H123⟩ := bnd_some H122; clear H122
                              refine l_storeG (q := 1) (j := 0) (i := x45_2) (sz := 1) (hm := hl_15) (f := e_bool) (vs := [.bool true]) Try.sizeOf4 rfl rfl rfl rfl rfl rfl rfl rfl rfl (fun y_ hy_ => by first | rfl | (cases hy_.symm.trans h_t71; rfl)) h_l1_2 ?_
                              refine l_nil ?_
                              refine c_region ?_
                              refine l_val rfl rfl rfl (r_move (v := .slice p_9.1 n_4 p_9.2) rfl) ?_
                              refine l_val rfl rfl rfl (r_move (v := .int .i64 x45_2) rfl) ?_
                              refine l_buildSlice (vs := [.int .i64 x45_2]) (cs := [.int .i64 x45_2]) Try.underlying67 Try.sizeOf3 Try.zeroValue3 rfl rfl rfl rfl rfl rfl rfl (fun b8 => ?_)
                              obtain ⟨l75, h_l75, H124⟩ := bnd_some H123; clear H123
                              refine l_turn (turns_appG (i := 3) (hn := hl_16) (rds := [4]) (p := p_9) (sz := 1) (by_ := 8) (f := e_i64) (ys := l_19) (ls := ([x45_2] : List Int)) (V := .slice (some ⟨b8, 0, none⟩) 1 1) Try.underlying67 (info_of Try.typeInfo3) rfl rfl rfl rfl rfl rfl rfl rfl rfl rfl (fun w L' hF hS hi => row_box (i := 4) hS ((hi 4 (by simp)).trans rfl) rfl rfl) (fun _ => rfl) (fun _ => rfl) h_l75) rfl rfl rfl (fun p_11 => ?_)
                              refine l_val rfl rfl rfl (r_assign (v := .slice p_11.1 l75.length p_11.2) rfl) ?_
                              refine l_nil ?_
                              refine c_close (l1_2, l75) (p_11, l75.length) 0 [0, 1, 2, 3] (by exact ⟨rfl, rfl, rfl, rfl, rfl, rfl, rfl, rfl, rfl, rfl, trivial⟩) (by decide) rfl (by exact ⟨H124, ⟨(gSet_n hl_15 h_l1_2), rfl⟩⟩) (Nat.lt_succ_self _)
                            · have H125 := cnd_f hb H120; clear H120
                              refine c_skip ?_
                              refine c_close (l_18, l_19) (p_9, n_4) 0 [0, 1, 2, 3] (by exact ⟨rfl, rfl, rfl, rfl, rfl, rfl, rfl, rfl, rfl, rfl, trivial⟩) (by decide) rfl (by exact ⟨H125, ⟨hl_15, hl_16⟩⟩) (Nat.lt_succ_self _)
                          · have H126 := cnd_f hb H115
                            refine d_pass rfl rfl ?_
                            refine d_pass rfl rfl ?_
                            refine d_pass rfl rfl ?_
                            refine d_pass rfl rfl ?_
                            refine d_pass rfl rfl ?_
                            refine d_pass rfl rfl ?_
                            refine d_pass rfl rfl ?_
                            refine d_pass rfl rfl ?_
                            refine d_pass rfl rfl ?_
                            refine d_pass rfl rfl ?_
                            refine d_pass rfl rfl ?_
                            refine d_pass rfl rfl ?_
                            refine d_pass rfl rfl ?_
                            refine d_pass rfl rfl ?_
                            refine d_val rfl rfl (r_pickF (v := .bool false) rfl rfl) ?_
                            refine d_nil ?_
                            refine c_false rfl ?_
                            refine c_skip ?_
                            refine c_close (l_18, l_19) (p_9, n_4) 0 [0, 1, 2, 3] (by exact ⟨rfl, rfl, rfl, rfl, rfl, rfl, rfl, rfl, rfl, rfl, trivial⟩) (by decide) rfl (by exact ⟨H126, ⟨hl_15, hl_16⟩⟩) (Nat.lt_succ_self _)
                          ) (by kernel_rfl)
                      · rintro ⟨l_20, l_21⟩ ⟨p_10, n_5⟩ gg H113 ⟨hl_17, hl_18⟩
                        replace H113 : where_Groups_j8 x45_2 next7 l_20 l_21 = some r := H113
                        refine c_tidyF [(0, v0), (1, .int .i64 a1), (7, .slice p_3.1 css_2.length p_3.2), (8, .slice p.1 t22.length p.2), (10, .slice p_10.1 n_5 p_10.2), (11, .int .i64 x11_2), (24, .int .i64 (a0.length : Int)), (25, .int .i64 x25_2), (44, .int .i64 (a0.length : Int)), (45, .int .i64 x45_2)] [poolC noH hp_2, rowV 4 1 (.slice p.1 t22.length p.2) t22.length (l_20.map e_bool), rowV 67 1 (.slice p_3.1 css_2.length p_3.2) css_2.length (css_2.map idC), rowV 3 1 (.slice p_10.1 n_5 p_10.2) n_5 (l_21.map e_i64)] rfl rfl ?_
                        refine c_region ?_
                        obtain ⟨t76, h_t76, H114⟩ := bnd_some H113; clear H113
                        refine l_val rfl rfl rfl (r_addG rfl rfl h_t76) ?_
                        refine l_val rfl rfl rfl (r_move (v := .int .i64 t76) rfl) ?_
                        refine l_nil ?_
                        refine c_close (t76, l_20, l_21) (p_10, n_5) m7 [0, 1, 2, 3] (by exact ⟨rfl, rfl, rfl, rfl, rfl, rfl, rfl, rfl, rfl, rfl, trivial⟩) (by decide) rfl (by exact ⟨(by subst hn7; exact H114), ⟨hl_17, hl_18⟩⟩) (Nat.lt_succ_self _)
                    · have H127 := cnd_f hb H111; clear H111
                      refine c_exit ?_
                      refine c_close (l_18, l_19) (p_9, n_4) 0 [0, 1, 2, 3] (by exact ⟨rfl, rfl, rfl, rfl, rfl, rfl, rfl, rfl, trivial⟩) (by decide) rfl (by exact ⟨H127, ⟨hl_15, hl_16⟩⟩) (Nat.lt_succ_self _)
                  · rintro ⟨l_14, l_15⟩ ⟨p_8, n_3⟩ gg H109 ⟨hl_11, hl_12⟩
                    replace H109 : where_Groups_j6 x11_2 next5 l_14 l_15 = some r := H109
                    refine c_tidyF [(0, v0), (1, .int .i64 a1), (7, .slice p_3.1 css_2.length p_3.2), (8, .slice p.1 t22.length p.2), (10, .slice p_8.1 n_3 p_8.2), (11, .int .i64 x11_2), (24, .int .i64 (a0.length : Int)), (25, .int .i64 x25_2)] [poolC noH hp_2, rowV 4 1 (.slice p.1 t22.length p.2) t22.length (l_14.map e_bool), rowV 67 1 (.slice p_3.1 css_2.length p_3.2) css_2.length (css_2.map idC), rowV 3 1 (.slice p_8.1 n_3 p_8.2) n_3 (l_15.map e_i64)] rfl rfl ?_
                    refine c_region ?_
                    refine l_val rfl rfl rfl (r_move (v := .int .i64 x11_2) rfl) ?_
                    obtain ⟨t42, h_t42, H110⟩ := bnd_some H109; clear H109
                    refine l_val rfl rfl rfl (r_addG rfl rfl h_t42) ?_
                    refine l_val rfl rfl rfl (r_assign (v := .int .i64 t42) rfl) ?_
                    refine l_nil ?_
                    refine c_close (t42, l_14, l_15) (p_8, n_3) m5 [0, 1, 2, 3] (by exact ⟨rfl, rfl, rfl, rfl, rfl, rfl, rfl, rfl, trivial⟩) (by decide) rfl (by exact ⟨(by subst hn5; exact H110), ⟨hl_11, hl_12⟩⟩) (Nat.lt_succ_self _)
                · have H128 := cnd_f hb H107; clear H107
                  refine c_exit ?_
                  refine c_close (l_12, l_13) (p_7, n_2) 0 [0, 1, 2, 3] (by exact ⟨rfl, rfl, rfl, rfl, rfl, rfl, rfl, trivial⟩) (by decide) rfl (by exact ⟨H128, ⟨hl_9, hl_10⟩⟩) (Nat.lt_succ_self _)
              · rintro ⟨l_8, l_9⟩ ⟨p_5, n⟩ gg H104 ⟨hl_4, hl_5⟩
                replace H104 : where_Groups_j4 x25_2 l_5 next2 l_8 l_9 = some r := H104
                refine c_tidyF [(0, v0), (1, .int .i64 a1), (7, .slice p_3.1 css_2.length p_3.2), (8, .slice p.1 t22.length p.2), (10, .slice p_5.1 n p_5.2), (24, .int .i64 (a0.length : Int)), (25, .int .i64 x25_2)] [poolC noH hp_2, rowV 4 1 (.slice p.1 t22.length p.2) t22.length (l_8.map e_bool), rowV 67 1 (.slice p_3.1 css_2.length p_3.2) css_2.length (css_2.map idC), rowV 3 1 (.slice p_5.1 n p_5.2) n (l_9.map e_i64)] rfl rfl ?_
                refine c_seq ?_
                refine c_region ?_
                refine l_val rfl rfl rfl (r_move (v := .slice p_5.1 n p_5.2) rfl) ?_
                obtain ⟨t78, h_t78, H105⟩ := bnd_some H104; clear H104
                refine l_turn (turns_callB (i := 3) (rds := []) (G := fun x : Unit => .tuple #[]) (C := fun x : Unit => rowV 3 1 (.slice p_5.1 n p_5.2) n (t78.map e_i64)) rfl (fun w L' S hF hS hi hp hlt ho hA => k72 hp hlt (know_but w S) hl_5 h_t78) Try.call72 rfl) rfl rfl rfl (fun _ => ?_)
                refine c_know (fun w hF hS => lenOf (i := 3) hS rfl) (fun hl_6_ => ?_)
                have hl_6 : n = t78.length := by simpa using hl_6_.symm
                refine l_nil ?_
                refine c_region ?_
                refine l_val rfl rfl rfl (r_move (v := .slice p_3.1 css_2.length p_3.2) rfl) ?_
                refine l_val rfl rfl rfl (r_move (v := .slice p_5.1 n p_5.2) rfl) ?_
                refine l_callG (fun w hF hS => k73 (capOf (i := 3) hS rfl) w) Try.call73 rfl rfl rfl ?_
                refine l_buildSlice (vs := [.slice (cutA p_5.1 0 n 1) n n]) (cs := [.slice (cutA p_5.1 0 n 1) n n]) Try.underlying78 Try.sizeOf67 Try.zeroValue67 rfl rfl rfl rfl rfl rfl rfl (fun b7 => ?_)
                refine c_imp 3 rfl (imp_clipO _ _ _ _ _ _) ?_
                refine c_freeze (Φ := fun H_ => FrS H_ 1 (.slice (cutA p_5.1 0 n 1) n n) (t78.map e_i64)) 0 3 rfl rfl (by decide) (fun _ _ => noH_le) (fz_ro _) (fun hp_4 hle hf => ?_)
                obtain ⟨l83, h_l83, H106⟩ := bnd_some H105; clear H105
                refine l_turn (turns_appendM (i := 2) (k := 4) (p := p_3) (f := idC) (ys := css_2) (ls := [[.slice (cutA p_5.1 0 n 1) n n]]) Try.underlying78 (info_of Try.typeInfo67) rfl rfl rfl rfl rfl rfl rfl rfl rfl rfl rfl rfl rfl rfl (by simp only [idC, List.map_cons, List.map_nil, List.all_cons, List.all_nil, hf.one] <;> rfl) (app63 ((pf_3.mono hle).app h_l83 (nc := [[.slice (cutA p_5.1 0 n 1) n n]]) rfl)) rfl) rfl rfl rfl (fun p_6 => ?_)
                have pf_5 : AllC gs_int hp_4 1 (css_2 ++ [[Value.slice (cutA p_5.1 0 n 1) n n]]) l83 := AllC.snocG (pf_3.mono hle) h_l83 rfl (hf)
                refine l_val rfl rfl rfl (r_assign (v := .slice p_6.1 ((css_2 ++ [[Value.slice (cutA p_5.1 0 n 1) n n]]).length) p_6.2) rfl) ?_
                refine l_nil ?_
                refine c_close (l_8, l83) (hp_4, (css_2 ++ [[Value.slice (cutA p_5.1 0 n 1) n n]]), p_6) 0 [0, 1, 2] (by exact ⟨rfl, rfl, rfl, rfl, rfl, rfl, trivial⟩) (by decide) rfl (by exact ⟨H106, ⟨hl_4, pf_5⟩⟩) (Nat.lt_succ_self _)
          · rintro ⟨l_6, l_7⟩ ⟨hp_3, css_3, p_4⟩ gg H97 ⟨hl_3, pf_4⟩
            replace H97 : where_Groups_j3 x25_2 next2 l_6 l_7 = some r := H97
            refine c_tidyF [(0, v0), (1, .int .i64 a1), (7, .slice p_4.1 css_3.length p_4.2), (8, .slice p.1 t22.length p.2), (24, .int .i64 (a0.length : Int)), (25, .int .i64 x25_2)] [poolC noH hp_3, rowV 4 1 (.slice p.1 t22.length p.2) t22.length (l_6.map e_bool), rowV 67 1 (.slice p_4.1 css_3.length p_4.2) css_3.length (css_3.map idC)] rfl rfl ?_
            refine c_region ?_
            obtain ⟨t84, h_t84, H98⟩ := bnd_some H97; clear H97
            refine l_val rfl rfl rfl (r_addG rfl rfl h_t84) ?_
            refine l_val rfl rfl rfl (r_move (v := .int .i64 t84) rfl) ?_
            refine l_nil ?_
            refine c_close (t84, l_6, l_7) (hp_3, css_3, p_4) m2 [0, 1, 2] (by exact ⟨rfl, rfl, rfl, rfl, rfl, rfl, trivial⟩) (by decide) rfl (by exact ⟨(by subst hn2; exact H98), ⟨hl_3, pf_4⟩⟩) (Nat.lt_succ_self _)
        · have H129 := cnd_f hb H95; clear H95
          refine c_exit ?_
          refine c_close l_5 (hp_2, css_2, p_3) 0 [0, 2] (by exact ⟨rfl, trivial⟩) (by decide) rfl (by exact ⟨H129, pf_3⟩) (Nat.lt_succ_self _)
      · rintro l ⟨hp, css, p_2⟩ gg H94 pf
        replace H94 : where_Groups_j1 l = some r := H94
        refine c_tidyF [(7, .slice p_2.1 css.length p_2.2)] [poolC noH hp, rowV 67 1 (.slice p_2.1 css.length p_2.2) css.length (css.map idC)] rfl rfl ?_
        refine c_seq ?_
        refine c_region ?_
        refine l_val rfl rfl rfl (r_move (v := .slice p_2.1 css.length p_2.2) rfl) ?_
        refine l_callG (fun w hF hS => k74 (capOf (i := 1) hS rfl) w) Try.call74 rfl rfl rfl ?_
        refine l_val rfl rfl rfl (r_assign (v := .slice (cutA p_2.1 0 css.length 1) css.length css.length) rfl) ?_
        refine l_val rfl rfl rfl (r_assign (v := .int .i64 0) rfl) ?_
        refine l_nil ?_
        refine c_ret ?_
        obtain rfl := Option.some.inj H94
        refine c_imp 1 rfl (imp_clipO _ _ _ _ _ _) ?_
        refine c_both 0 1 rfl rfl (by decide) ?_
        refine c_imp 0 rfl (imp_roD (p := (cutA p_2.1 0 css.length 1, css.length)) rfl pf) ?_
        refine ret2 (v1 := .slice (cutA p_2.1 0 css.length 1) css.length css.length) (v2 := .int .i64 0) rfl rfl rfl (finX (cutA p_2.1 0 css.length 1, css.length) (i := 0) rfl (by first | rfl | rw [(show css.length = l.length from pf.len)]) (by first | exact Imp.refl _ | exact Imp.of (by rw [(show css.length = l.length from pf.len)])))
theorem k116 {a0 : Int} {a1 : Int} {r : Int} (H : R_eastward a0 a1 = some r) : Ret Try.prog 116 [.int .i64 a0, .int .i64 a1] (.int .i64 r) := by
  refine enterRet (n := 14) Try.func116 rfl rfl rfl (fun wd => ?_)
  refine c_seq ?_
  refine c_region ?_
  refine l_val rfl rfl rfl (r_assign (v := .int .i64 0) rfl) ?_
  refine l_nil ?_
  refine c_seq ?_
  refine c_region ?_
  refine l_val rfl rfl rfl (r_move (v := .int .i64 a1) rfl) ?_
  refine l_val rfl rfl rfl (r_move (v := .int .i64 a0) rfl) ?_
  obtain ⟨t8, h_t8, H5⟩ := bnd_some H; clear H
  refine l_val rfl rfl rfl (r_subG rfl rfl h_t8) ?_
  refine l_val rfl rfl rfl (r_assign (v := .int .i64 t8) rfl) ?_
  refine l_nil ?_
  refine c_seq ?_
  refine c_seq ?_
  refine c_region ?_
  refine l_val rfl rfl rfl (r_move (v := .int .i64 t8) rfl) ?_
  refine l_val rfl rfl rfl (r_lss rfl rfl) ?_
  refine l_nil ?_
  refine c_if (b := (decide (t8 < 0))) rfl (fun hb => ?_) (fun hb => ?_)
  · have H6 := cnd_t hb H5; clear H5
    refine c_region ?_
    refine l_val rfl rfl rfl (r_move (v := .int .i64 t8) rfl) ?_
    obtain ⟨t12, h_t12, H7⟩ := bnd_some H6; clear H6
    refine l_val rfl rfl rfl (r_addG rfl rfl h_t12) ?_
    refine l_val rfl rfl rfl (r_assign (v := .int .i64 t12) rfl) ?_
    refine l_nil ?_
    refine c_seq ?_
    refine c_region ?_
    refine l_val rfl rfl rfl (r_move (v := .int .i64 t12) rfl) ?_
    refine l_val rfl rfl rfl (r_assign (v := .int .i64 t12) rfl) ?_
    refine l_nil ?_
    refine c_ret ?_
    obtain rfl := Option.some.inj H7
    refine ret1 (v := .int .i64 t12) rfl rfl (fin rfl)
  · have H8 := cnd_f hb H5; clear H5
    refine c_skip ?_
    refine c_seq ?_
    refine c_region ?_
    refine l_val rfl rfl rfl (r_move (v := .int .i64 t8) rfl) ?_
    refine l_val rfl rfl rfl (r_assign (v := .int .i64 t8) rfl) ?_
    refine l_nil ?_
    refine c_ret ?_
    obtain rfl := Option.some.inj H8
    refine ret1 (v := .int .i64 t8) rfl rfl (fin rfl)
theorem k77 {a0 : Int} {a1 : Int} {r : Int} (H : R_short a0 a1 = some r) : Ret Try.prog 77 [.int .i64 a0, .int .i64 a1] (.int .i64 r) := by
  refine enterRet (n := 14) Try.func77 rfl rfl rfl (fun wd => ?_)
  refine c_seq ?_
  refine c_region ?_
  refine l_val rfl rfl rfl (r_assign (v := .int .i64 0) rfl) ?_
  refine l_nil ?_
  refine c_seq ?_
  refine c_region ?_
  refine l_val rfl rfl rfl (r_move (v := .int .i64 a0) rfl) ?_
  refine l_val rfl rfl rfl (r_move (v := .int .i64 a1) rfl) ?_
  obtain ⟨t8, h_t8, H5⟩ := bnd_some H; clear H
  refine l_call (k116 h_t8) Try.call116 rfl rfl rfl ?_
  refine l_val rfl rfl rfl (r_assign (v := .int .i64 t8) rfl) ?_
  refine l_nil ?_
  refine c_seq ?_
  refine c_seq ?_
  refine c_region ?_
  refine l_val rfl rfl rfl (r_move (v := .int .i64 t8) rfl) ?_
  refine l_val rfl rfl rfl (r_geq rfl rfl) ?_
  refine l_nil ?_
  refine c_if (b := (decide (180000000 ≤ t8))) rfl (fun hb => ?_) (fun hb => ?_)
  · have H6 := cnd_t hb H5; clear H5
    refine c_region ?_
    refine l_val rfl rfl rfl (r_move (v := .int .i64 t8) rfl) ?_
    obtain ⟨t12, h_t12, H7⟩ := bnd_some H6; clear H6
    refine l_val rfl rfl rfl (r_subG rfl rfl h_t12) ?_
    refine l_val rfl rfl rfl (r_assign (v := .int .i64 t12) rfl) ?_
    refine l_nil ?_
    refine c_seq ?_
    refine c_region ?_
    refine l_val rfl rfl rfl (r_move (v := .int .i64 t12) rfl) ?_
    refine l_val rfl rfl rfl (r_assign (v := .int .i64 t12) rfl) ?_
    refine l_nil ?_
    refine c_ret ?_
    obtain rfl := Option.some.inj H7
    refine ret1 (v := .int .i64 t12) rfl rfl (fin rfl)
  · have H8 := cnd_f hb H5; clear H5
    refine c_skip ?_
    refine c_seq ?_
    refine c_region ?_
    refine l_val rfl rfl rfl (r_move (v := .int .i64 t8) rfl) ?_
    refine l_val rfl rfl rfl (r_assign (v := .int .i64 t8) rfl) ?_
    refine l_nil ?_
    refine c_ret ?_
    obtain rfl := Option.some.inj H8
    refine ret1 (v := .int .i64 t8) rfl rfl (fin rfl)
theorem k78 {a0 : Int} {r : Int} (H : R_CosineOf a0 = some r) : Ret Try.prog 78 [.int .i64 a0] (.int .i64 r) := by
  refine enterRet (n := 17) Try.func78 rfl rfl rfl (fun wd => ?_)
  refine c_seq ?_
  refine c_region ?_
  refine l_val rfl rfl rfl (r_assign (v := .int .i64 0) rfl) ?_
  refine l_nil ?_
  refine c_seq ?_
  refine c_region ?_
  refine l_val rfl rfl rfl (r_move (v := .int .i64 a0) rfl) ?_
  obtain ⟨t5, h_t5, H9⟩ := bnd_some H; clear H
  refine l_val rfl rfl rfl (r_quoG rfl rfl h_t5) ?_
  refine l_val rfl rfl rfl (r_assign (v := .int .i64 t5) rfl) ?_
  refine l_nil ?_
  refine c_seq ?_
  refine c_region ?_
  refine l_val rfl rfl rfl (r_move (v := .int .i64 t5) rfl) ?_
  obtain ⟨t7, h_t7, H10⟩ := bnd_some H9; clear H9
  refine l_val rfl rfl rfl (r_mulG rfl rfl h_t7) ?_
  refine l_val rfl rfl rfl (r_move (v := .int .i64 t5) rfl) ?_
  obtain ⟨t9, h_t9, H11⟩ := bnd_some H10; clear H10
  refine l_val rfl rfl rfl (r_mulG rfl rfl h_t9) ?_
  obtain ⟨t10, h_t10, H12⟩ := bnd_some H11; clear H11
  refine l_val rfl rfl rfl (r_subG rfl rfl h_t10) ?_
  obtain ⟨t11, h_t11, H13⟩ := bnd_some H12; clear H12
  refine l_val rfl rfl rfl (r_mulG rfl rfl h_t11) ?_
  refine l_val rfl rfl rfl (r_move (v := .int .i64 t5) rfl) ?_
  refine l_val rfl rfl rfl (r_move (v := .int .i64 t5) rfl) ?_
  obtain ⟨t14, h_t14, H14⟩ := bnd_some H13; clear H13
  refine l_val rfl rfl rfl (r_mulG rfl rfl h_t14) ?_
  obtain ⟨t15, h_t15, H15⟩ := bnd_some H14; clear H14
  refine l_val rfl rfl rfl (r_addG rfl rfl h_t15) ?_
  obtain ⟨t16, h_t16, H16⟩ := bnd_some H15; clear H15
  refine l_val rfl rfl rfl (r_quoG rfl rfl h_t16) ?_
  refine l_val rfl rfl rfl (r_assign (v := .int .i64 t16) rfl) ?_
  refine l_nil ?_
  refine c_ret ?_
  obtain rfl := Option.some.inj H16
  refine ret1 (v := .int .i64 t16) rfl rfl (fin rfl)
theorem k79 {a0 : Int} {a1 : Int} {r : Int} (H : R_down a0 a1 = some r) : Ret Try.prog 79 [.int .i64 a0, .int .i64 a1] (.int .i64 r) := by
  refine enterRet (n := 23) Try.func79 rfl rfl rfl (fun wd => ?_)
  refine c_seq ?_
  refine c_region ?_
  refine l_val rfl rfl rfl (r_assign (v := .int .i64 0) rfl) ?_
  refine l_nil ?_
  refine c_seq ?_
  refine c_region ?_
  refine l_val rfl rfl rfl (r_move (v := .int .i64 a0) rfl) ?_
  refine l_val rfl rfl rfl (r_move (v := .int .i64 a1) rfl) ?_
  obtain ⟨t8, h_t8, H8⟩ := bnd_some H; clear H
  refine l_val rfl rfl rfl (r_quoG rfl rfl h_t8) ?_
  refine l_val rfl rfl rfl (r_assign (v := .int .i64 t8) rfl) ?_
  refine l_nil ?_
  refine c_seq ?_
  refine c_seq ?_
  refine c_region ?_
  refine l_val rfl rfl rfl (r_move (v := .int .i64 a0) rfl) ?_
  refine l_val rfl rfl rfl (r_move (v := .int .i64 a1) rfl) ?_
  obtain ⟨t11, h_t11, H9⟩ := bnd_some H8; clear H8
  refine l_val rfl rfl rfl (r_remG rfl rfl h_t11) ?_
  refine l_val rfl rfl rfl (r_neq rfl rfl) ?_
  refine l_val rfl rfl rfl (r_move (v := .bool (decide (t11 ≠ 0))) rfl) ?_
  refine split (fun hb => ?_) (fun hb => ?_)
  · have H10 := cnd_t hb H9; clear H9
    refine l_val rfl rfl rfl (r_move (v := .int .i64 a0) rfl) ?_
    refine l_val rfl rfl rfl (r_lss rfl rfl) ?_
    refine l_val rfl rfl rfl (r_move (v := .int .i64 a1) rfl) ?_
    refine l_val rfl rfl rfl (r_lss rfl rfl) ?_
    refine l_val rfl rfl rfl (r_neqB Try.underlying4 rfl rfl) ?_
    refine l_val rfl rfl rfl (r_pickT (v := .bool (decide ((decide (a0 < 0)) ≠ (decide (a1 < 0))))) rfl rfl) ?_
    refine l_nil ?_
    refine c_if (b := (decide ((decide (a0 < 0)) ≠ (decide (a1 < 0))))) rfl (fun hb => ?_) (fun hb => ?_)
    · have H11 := cnd_t hb H10; clear H10
      refine c_region ?_
      refine l_val rfl rfl rfl (r_move (v := .int .i64 t8) rfl) ?_
      obtain ⟨t21, h_t21, H12⟩ := bnd_some H11; clear H11
      refine l_val rfl rfl rfl (r_subG rfl rfl h_t21) ?_
      refine l_val rfl rfl rfl (r_assign (v := .int .i64 t21) rfl) ?_
      refine l_nil ?_
      refine c_seq ?_
      refine c_region ?_
      refine l_val rfl rfl rfl (r_move (v := .int .i64 t21) rfl) ?_
      refine l_val rfl rfl rfl (r_assign (v := .int .i64 t21) rfl) ?_
      refine l_nil ?_
      refine c_ret ?_
      obtain rfl := Option.some.inj H12
      refine ret1 (v := .int .i64 t21) rfl rfl (fin rfl)
    · have H13 := cnd_f hb H10; clear H10
      refine c_skip ?_
      refine c_seq ?_
      refine c_region ?_
      refine l_val rfl rfl rfl (r_move (v := .int .i64 t8) rfl) ?_
      refine l_val rfl rfl rfl (r_assign (v := .int .i64 t8) rfl) ?_
      refine l_nil ?_
      refine c_ret ?_
      obtain rfl := Option.some.inj H13
      refine ret1 (v := .int .i64 t8) rfl rfl (fin rfl)
  · have H14 := cnd_f hb H9; clear H9
    refine l_passed rfl rfl rfl ?_
    refine l_passed rfl rfl rfl ?_
    refine l_passed rfl rfl rfl ?_
    refine l_passed rfl rfl rfl ?_
    refine l_passed rfl rfl rfl ?_
    refine l_val rfl rfl rfl (r_pickF (v := .bool false) rfl rfl) ?_
    refine l_nil ?_
    refine c_false rfl ?_
    refine c_skip ?_
    refine c_seq ?_
    refine c_region ?_
    refine l_val rfl rfl rfl (r_move (v := .int .i64 t8) rfl) ?_
    refine l_val rfl rfl rfl (r_assign (v := .int .i64 t8) rfl) ?_
    refine l_nil ?_
    refine c_ret ?_
    obtain rfl := Option.some.inj H14
    refine ret1 (v := .int .i64 t8) rfl rfl (fin rfl)
theorem k80 {a0 : Int} {r : Int} (H : R_root a0 = some r) : Ret Try.prog 80 [.int .i64 a0] (.int .i64 r) := by
  refine enterRet (n := 23) Try.func80 rfl rfl rfl (fun wd => ?_)
  refine c_seq ?_
  refine c_region ?_
  refine l_val rfl rfl rfl (r_assign (v := .int .i64 0) rfl) ?_
  refine l_nil ?_
  refine c_seq ?_
  refine c_region ?_
  refine l_val rfl rfl rfl (r_assign (v := .int .i64 0) rfl) ?_
  refine l_val rfl rfl rfl (r_assign (v := .int .i64 2147483648) rfl) ?_
  refine l_nil ?_
  refine c_seq ?_
  refine c_block ?_
  refine c_fix (σ := Int × Int) (τ := Unit) (fun next1 s => R_root_l1 a0 next1 s.1 s.2) (fun s t => [(0, .int .i64 a0), (3, .int .i64 s.1), (4, .int .i64 s.2)]) (fun s t => []) (fun s t => True) (0, 2147483648) () [] H (by exact trivial) (by exact ⟨rfl, rfl, rfl, trivial⟩) (by decide) rfl ?_
  rintro ⟨x3_2, x4_2⟩ _ m1 gg H11 _
  clear H
  replace H11 : R_root_l1 a0 (it (fun next1 s => R_root_l1 a0 next1 s.1 s.2) m1) x3_2 x4_2 = some r := H11
  generalize hn1 : it (fun next1 s => R_root_l1 a0 next1 s.1 s.2) m1 = next1 at H11
  refine c_tidyF [(0, .int .i64 a0), (3, .int .i64 x3_2), (4, .int .i64 x4_2)] [] rfl rfl ?_
  refine c_seq ?_
  refine c_seq ?_
  refine c_region ?_
  refine l_val rfl rfl rfl (r_move (v := .int .i64 x3_2) rfl) ?_
  refine l_val rfl rfl rfl (r_move (v := .int .i64 x4_2) rfl) ?_
  refine l_val rfl rfl rfl (r_lss rfl rfl) ?_
  refine l_nil ?_
  refine c_if (b := (decide (x3_2 < x4_2))) rfl (fun hb => ?_) (fun hb => ?_)
  · have H12 := cnd_t hb H11; clear H11
    refine c_skip ?_
    refine c_block ?_
    refine c_seq ?_
    refine c_region ?_
    refine l_val rfl rfl rfl (r_move (v := .int .i64 x3_2) rfl) ?_
    refine l_val rfl rfl rfl (r_move (v := .int .i64 x4_2) rfl) ?_
    obtain ⟨t11, h_t11, H13⟩ := bnd_some H12; clear H12
    refine l_val rfl rfl rfl (r_addG rfl rfl h_t11) ?_
    obtain ⟨t12, h_t12, H14⟩ := bnd_some H13; clear H13
    refine l_val rfl rfl rfl (r_addG rfl rfl h_t12) ?_
    obtain ⟨t13, h_t13, H15⟩ := bnd_some H14; clear H14
    refine l_val rfl rfl rfl (r_quoG rfl rfl h_t13) ?_
    refine l_val rfl rfl rfl (r_assign (v := .int .i64 t13) rfl) ?_
    refine l_nil ?_
    refine c_seq ?_
    refine c_region ?_
    refine l_val rfl rfl rfl (r_move (v := .int .i64 t13) rfl) ?_
    refine l_val rfl rfl rfl (r_move (v := .int .i64 t13) rfl) ?_
    obtain ⟨t16, h_t16, H16⟩ := bnd_some H15; clear H15
    refine l_val rfl rfl rfl (r_mulG rfl rfl h_t16) ?_
    refine l_val rfl rfl rfl (r_move (v := .int .i64 a0) rfl) ?_
    refine l_val rfl rfl rfl (r_leq rfl rfl) ?_
    refine l_nil ?_
    refine c_if (b := (decide (t16 ≤ a0))) rfl (fun hb => ?_) (fun hb => ?_)
    · have H17 := cnd_t hb H16; clear H16
      refine c_region ?_
      refine l_val rfl rfl rfl (r_move (v := .int .i64 t13) rfl) ?_
      refine l_val rfl rfl rfl (r_assign (v := .int .i64 t13) rfl) ?_
      refine l_nil ?_
      refine c_close (t13, x4_2) () m1 [] (by exact ⟨rfl, rfl, rfl, trivial⟩) (by decide) rfl (by exact ⟨(by subst hn1; exact H17), trivial⟩) (Nat.lt_succ_self _)
    · have H18 := cnd_f hb H16; clear H16
      refine c_region ?_
      refine l_val rfl rfl rfl (r_move (v := .int .i64 t13) rfl) ?_
      obtain ⟨t21, h_t21, H19⟩ := bnd_some H18; clear H18
      refine l_val rfl rfl rfl (r_subG rfl rfl h_t21) ?_
      refine l_val rfl rfl rfl (r_assign (v := .int .i64 t21) rfl) ?_
      refine l_nil ?_
      refine c_close (x3_2, t21) () m1 [] (by exact ⟨rfl, rfl, rfl, trivial⟩) (by decide) rfl (by exact ⟨(by subst hn1; exact H19), trivial⟩) (Nat.lt_succ_self _)
  · have H20 := cnd_f hb H11; clear H11
    refine c_exit ?_
    refine c_seq ?_
    refine c_region ?_
    refine l_val rfl rfl rfl (r_move (v := .int .i64 x3_2) rfl) ?_
    refine l_val rfl rfl rfl (r_assign (v := .int .i64 x3_2) rfl) ?_
    refine l_nil ?_
    refine c_ret ?_
    obtain rfl := Option.some.inj H20
    refine ret1 (v := .int .i64 x3_2) rfl rfl (fin rfl)
theorem k44 {a0 : T_api_Place} {a1 : T_api_Place} {r : Int} (H : R_DistanceOf a0 a1 = some r) : Ret Try.prog 44 [.agg #[.int .i64 a0.Lat, .int .i64 a0.Lon], .agg #[.int .i64 a1.Lat, .int .i64 a1.Lon]] (.int .i64 r) := by
  refine enterRet (n := 36) Try.func44 rfl rfl rfl (fun wd => ?_)
  refine c_seq ?_
  refine c_region ?_
  refine l_box (cs := [.int .i64 a0.Lat, .int .i64 a0.Lon]) rfl rfl rfl rfl (fun b2 => ?_)
  refine l_box (cs := [.int .i64 a1.Lat, .int .i64 a1.Lon]) rfl rfl rfl rfl (fun b3 => ?_)
  refine l_val rfl rfl rfl (r_assign (v := .int .i64 0) rfl) ?_
  refine l_nil ?_
  refine c_seq ?_
  refine c_region ?_
  refine l_val rfl rfl rfl (r_field Try.runUnderlying71 rfl Try.sizeOf3 rfl rfl) ?_
  refine l_load1 (i := 1) (v := .int .i64 a1.Lat) Try.isAgg3 rfl rfl rfl rfl rfl ?_
  refine l_val rfl rfl rfl (r_field Try.runUnderlying71 rfl Try.sizeOf3 rfl rfl) ?_
  refine l_load1 (i := 0) (v := .int .i64 a0.Lat) Try.isAgg3 rfl rfl rfl rfl rfl ?_
  obtain ⟨t11, h_t11, H14⟩ := bnd_some H; clear H
  refine l_val rfl rfl rfl (r_subG rfl rfl h_t11) ?_
  refine l_val rfl rfl rfl (r_assign (v := .int .i64 t11) rfl) ?_
  refine l_nil ?_
  refine c_seq ?_
  exact c_regionD (Kd.p :: Kd.d [0] _ :: Kd.p :: Kd.d [1] _ :: Kd.d [] _ :: Kd.p :: Kd.d [0] _ :: Kd.p :: Kd.d [1] _ :: Kd.p :: Kd.d [] _ :: Kd.d [] _ :: Kd.p :: Kd.p :: Kd.p :: []) 0 mixed (by
    refine d_val rfl rfl (r_field Try.runUnderlying71 rfl Try.sizeOf3 rfl rfl) ?_
    refine d_load1 (i := 0) (v := .int .i64 a0.Lon) Try.isAgg3 rfl rfl rfl rfl ?_
    refine d_val rfl rfl (r_field Try.runUnderlying71 rfl Try.sizeOf3 rfl rfl) ?_
    refine d_load1 (i := 1) (v := .int .i64 a1.Lon) Try.isAgg3 rfl rfl rfl rfl ?_
    have h_t16 := bnd_val H14
    have H15 := bnd_rest H14
    refine d_call (k77 h_t16) Try.call77 rfl rfl ?_
    refine d_val rfl rfl (r_field Try.runUnderlying71 rfl Try.sizeOf3 rfl rfl) ?_
    refine d_load1 (i := 0) (v := .int .i64 a0.Lat) Try.isAgg3 rfl rfl rfl rfl ?_
    refine d_val rfl rfl (r_field Try.runUnderlying71 rfl Try.sizeOf3 rfl rfl) ?_
    refine d_load1 (i := 1) (v := .int .i64 a1.Lat) Try.isAgg3 rfl rfl rfl rfl ?_
    have h_t21 := bnd_val H15
    have H16 := bnd_rest H15
    refine d_val rfl rfl (r_addG rfl rfl h_t21) ?_
    have h_t22 := bnd_val H16
    have H17 := bnd_rest H16
    refine d_call (k79 h_t22) Try.call79 rfl rfl ?_
    have h_t23 := bnd_val H17
    have H18 := bnd_rest H17
    refine d_call (k78 h_t23) Try.call78 rfl rfl ?_
    have h_t24 := bnd_val H18
    have H19 := bnd_rest H18
    refine d_val rfl rfl (r_mulG rfl rfl h_t24) ?_
    have h_t25 := bnd_val H19
    have H20 := bnd_rest H19
    refine d_val rfl rfl (r_quoG rfl rfl h_t25) ?_
    refine d_val rfl rfl (r_assign (v := .int .i64 (val (gQuo (val (gI ((val (R_short a0.Lon a1.Lon)) * (val (R_CosineOf (val (R_down (val (gI (a0.Lat + a1.Lat))) 2))))))) 1000000))) rfl) ?_
    refine d_nil ?_
    refine c_seq ?_
    refine c_region ?_
    refine l_val rfl rfl rfl (r_move (v := .int .i64 t11) rfl) ?_
    refine l_val rfl rfl rfl (r_move (v := .int .i64 t11) rfl) ?_
    obtain ⟨t28, h_t28, H21⟩ := bnd_some H20; clear H20
    refine l_val rfl rfl rfl (r_mulG rfl rfl h_t28) ?_
    refine l_val rfl rfl rfl (r_move (v := .int .i64 (val (gQuo (val (gI ((val (R_short a0.Lon a1.Lon)) * (val (R_CosineOf (val (R_down (val (gI (a0.Lat + a1.Lat))) 2))))))) 1000000))) rfl) ?_
    refine l_val rfl rfl rfl (r_move (v := .int .i64 (val (gQuo (val (gI ((val (R_short a0.Lon a1.Lon)) * (val (R_CosineOf (val (R_down (val (gI (a0.Lat + a1.Lat))) 2))))))) 1000000))) rfl) ?_
    obtain ⟨t31, h_t31, H22⟩ := bnd_some H21; clear H21
    refine l_val rfl rfl rfl (r_mulG rfl rfl h_t31) ?_
    obtain ⟨t32, h_t32, H23⟩ := bnd_some H22; clear H22
    refine l_val rfl rfl rfl (r_addG rfl rfl h_t32) ?_
    obtain ⟨t33, h_t33, H24⟩ := bnd_some H23; clear H23
    refine l_call (k80 h_t33) Try.call80 rfl rfl rfl ?_
    obtain ⟨t34, h_t34, H25⟩ := bnd_some H24; clear H24
    refine l_val rfl rfl rfl (r_mulG rfl rfl h_t34) ?_
    obtain ⟨t35, h_t35, H26⟩ := bnd_some H25; clear H25
    refine l_val rfl rfl rfl (r_quoG rfl rfl h_t35) ?_
    refine l_val rfl rfl rfl (r_assign (v := .int .i64 t35) rfl) ?_
    refine l_nil ?_
    refine c_ret ?_
    obtain rfl := Option.some.inj H26
    refine ret1 (v := .int .i64 t35) rfl rfl (fin rfl)
    ) (by kernel_rfl)
theorem k42 {a0 : (List T_api_Place)} {v0 : Value} {a1 : Int} {r : (List (List Int))} {w : World} {h : Heap} (hw : Know h w noS) (f0 : FrS h 2 v0 (a0.map e_api_Place)) (H : R_GroupsOf a0 a1 = some r) : Does Try.prog 42 (List.toArray [v0, .int .i64 a1]) w (fun v w' => ∃ x : (Option Addr × Nat), v = (.slice x.1 r.length x.2) ∧ Turn w w' noS (rowD 67 1 gs_int (.slice x.1 r.length x.2) r.length r)) := by
  refine enter (n := 76) Try.func42 rfl rfl rfl noS [] (Sat.nil _ _) ?_
  refine c_poolNew noH ?_
  refine c_seq ?_
  refine c_region ?_
  refine l_val rfl rfl rfl (r_assign (v := .slice none 0 0) rfl) ?_
  refine l_nil ?_
  refine c_seq ?_
  refine c_region ?_
  refine l_val rfl rfl rfl (r_move (v := v0) rfl) ?_
  refine l_val rfl rfl rfl (r_lenF Try.underlying65 rfl f0 rfl) ?_
  obtain ⟨t13, h_t13, H37⟩ := bnd_some H; clear H
  refine l_make (rds := []) (makes_makeG (E := 4) (sz := 1) (f := e_bool) (xs := t13) Try.underlying111 (info_of Try.typeInfo4) rfl rfl rfl rfl rfl rfl ⟨rfl, rfl⟩ h_t13) rfl rfl rfl (fun p => ?_)
  refine l_val rfl rfl rfl (r_assign (v := .slice p.1 t13.length p.2) rfl) ?_
  refine l_nil ?_
  refine c_seq ?_
  refine c_region ?_
  refine l_val rfl rfl rfl (r_assign (v := .slice none 0 0) rfl) ?_
  refine l_nil ?_
  refine c_seq ?_
  refine c_seq ?_
  refine c_region ?_
  refine l_val rfl rfl rfl (r_move (v := v0) rfl) ?_
  refine l_val rfl rfl rfl (r_lenF Try.underlying65 rfl f0 rfl) ?_
  refine l_val rfl rfl rfl (r_move (v := .int .i64 0) rfl) ?_
  refine l_nil ?_
  refine c_block ?_
  refine c_nilRow 67 1 ?_
  refine c_fix (σ := Int × (List Bool) × (List (List Int))) (τ := Heap × (List (List Value)) × (Option Addr × Nat)) (fun next1 s => R_GroupsOf_l1 a0 a1 next1 s.1 s.2.1 s.2.2) (fun s t => [(0, v0), (1, .int .i64 a1), (5, .slice p.1 t13.length p.2), (6, .slice t.2.2.1 t.2.1.length t.2.2.2), (15, .int .i64 (a0.length : Int)), (16, .int .i64 s.1)]) (fun s t => [poolC noH t.1, rowV 4 1 (.slice p.1 t13.length p.2) t13.length (s.2.1.map e_bool), rowV 67 1 (.slice t.2.2.1 t.2.1.length t.2.2.2) t.2.1.length (t.2.1.map idC)]) (fun s t => t13.length = s.2.1.length ∧ AllC gs_int t.1 1 t.2.1 s.2.2) (0, t13, ([] : List (List Int))) (noH, ([] : List (List Value)), ((none, 0) : Option Addr × Nat)) [0, 1, 2] H37 (by exact ⟨rfl, (AllC.nil (G := gs_int) (h := noH) (sz := 1))⟩) (by exact ⟨rfl, rfl, rfl, rfl, rfl, rfl, trivial⟩) (by decide) rfl ?_
  rintro ⟨x16_2, l_3, l_4⟩ ⟨hp, css, p_2⟩ m1 gg H38 ⟨hl_2, pf_2⟩
  clear H37
  replace H38 : R_GroupsOf_l1 a0 a1 (it (fun next1 s => R_GroupsOf_l1 a0 a1 next1 s.1 s.2.1 s.2.2) m1) x16_2 l_3 l_4 = some r := H38
  generalize hn1 : it (fun next1 s => R_GroupsOf_l1 a0 a1 next1 s.1 s.2.1 s.2.2) m1 = next1 at H38
  refine c_tidyF [(0, v0), (1, .int .i64 a1), (5, .slice p.1 t13.length p.2), (6, .slice p_2.1 css.length p_2.2), (15, .int .i64 (a0.length : Int)), (16, .int .i64 x16_2)] [poolC noH hp, rowV 4 1 (.slice p.1 t13.length p.2) t13.length (l_3.map e_bool), rowV 67 1 (.slice p_2.1 css.length p_2.2) css.length (css.map idC)] rfl rfl ?_
  refine c_seq ?_
  refine c_region ?_
  refine l_val rfl rfl rfl (r_lss rfl rfl) ?_
  refine l_nil ?_
  refine c_seq ?_
  refine c_if (b := (decide (x16_2 < (a0.length : Int)))) rfl (fun hb => ?_) (fun hb => ?_)
  · have H39 := cnd_t hb H38; clear H38
    refine c_skip ?_
    refine c_meet (r := r) (σ := (List Bool) × (List (List Int))) (τ := Heap × (List (List Value)) × (Option Addr × Nat)) (fun s => R_GroupsOf_j2 x16_2 next1 s.1 s.2) (fun s t => [(0, v0), (1, .int .i64 a1), (5, .slice p.1 t13.length p.2), (6, .slice t.2.2.1 t.2.1.length t.2.2.2), (15, .int .i64 (a0.length : Int)), (16, .int .i64 x16_2)]) (fun s t => [poolC noH t.1, rowV 4 1 (.slice p.1 t13.length p.2) t13.length (s.1.map e_bool), rowV 67 1 (.slice t.2.2.1 t.2.1.length t.2.2.2) t.2.1.length (t.2.1.map idC)]) (fun s t => t13.length = s.1.length ∧ AllC gs_int t.1 1 t.2.1 s.2) ?_ ?_
    · refine c_block ?_
      refine c_seq ?_
      refine c_region ?_
      refine l_val rfl rfl rfl (r_move (v := .int .i64 x16_2) rfl) ?_
      refine l_val rfl rfl rfl (r_assign (v := .int .i64 x16_2) rfl) ?_
      refine l_nil ?_
      refine c_seq ?_
      refine c_seq ?_
      refine c_region ?_
      refine l_val rfl rfl rfl (r_move (v := .slice p.1 t13.length p.2) rfl) ?_
      refine l_val rfl rfl rfl (r_move (v := .int .i64 x16_2) rfl) ?_
      obtain ⟨t21, h_t21, H42⟩ := bnd_some H39; clear H39
      refine l_read (fun w hF hS => run_indexO Try.underlying111 Try.sizeOf4 rfl rfl (rowOf (i := 1) hS rfl) hl_2 h_t21) rfl rfl rfl ?_
      refine l_read (fun w hF hS => run_loadG1 (f := e_bool) (i := x16_2) (sz := 1) (j := 0) (v := .bool t21) Try.isAgg4 rfl rfl (rowOf (i := 1) hS rfl) h_t21 rfl) rfl rfl rfl ?_
      refine l_nil ?_
      refine c_if (b := t21) rfl (fun hb => ?_) (fun hb => ?_)
      · have H43 := cnd_t hb H42; clear H42
        refine c_exit ?_
        refine c_close (l_3, l_4) (hp, css, p_2) 0 [0, 1, 2] (by exact ⟨rfl, rfl, rfl, rfl, rfl, rfl, trivial⟩) (by decide) rfl (by exact ⟨H43, ⟨hl_2, pf_2⟩⟩) (Nat.lt_succ_self _)
      · have H44 := cnd_f hb H42; clear H42
        refine c_skip ?_
        refine c_seq ?_
        refine c_region ?_
        refine l_val rfl rfl rfl (r_move (v := .slice p.1 t13.length p.2) rfl) ?_
        refine l_val rfl rfl rfl (r_move (v := .int .i64 x16_2) rfl) ?_
        obtain ⟨t25, h_t25, H45⟩ := bnd_some H44; clear H44
        refine l_read (fun w hF hS => run_indexO Try.underlying111 Try.sizeOf4 rfl rfl (rowOf (i := 1) hS rfl) hl_2 h_t25) rfl rfl rfl ?_
        obtain ⟨l1, h_l1, H46⟩ := bnd_some H45; clear H45
        refine l_storeG (q := 1) (j := 0) (i := x16_2) (sz := 1) (hm := hl_2) (f := e_bool) (vs := [.bool true]) Try.sizeOf4 rfl rfl rfl rfl rfl rfl rfl rfl rfl (fun y_ hy_ => by first | rfl | (cases hy_.symm.trans h_t25; rfl)) h_l1 ?_
        refine l_nil ?_
        refine c_seq ?_
        refine c_region ?_
        refine l_val rfl rfl rfl (r_move (v := .int .i64 x16_2) rfl) ?_
        refine l_buildSlice (vs := [.int .i64 x16_2]) (cs := [.int .i64 x16_2]) Try.underlying67 Try.sizeOf3 Try.zeroValue3 rfl rfl rfl rfl rfl rfl rfl (fun b3 => ?_)
        refine l_val rfl rfl rfl (r_assign (v := .slice (some ⟨b3, 0, none⟩) 1 1) rfl) ?_
        refine l_nil ?_
        refine c_meet (r := r) (σ := (List Bool) × (List Int)) (τ := (Option Addr × Nat) × Nat) (fun s => R_GroupsOf_j3 x16_2 l_4 next1 s.1 s.2) (fun s t => [(0, v0), (1, .int .i64 a1), (5, .slice p.1 t13.length p.2), (6, .slice p_2.1 css.length p_2.2), (8, .slice t.1.1 t.2 t.1.2), (15, .int .i64 (a0.length : Int)), (16, .int .i64 x16_2)]) (fun s t => [poolC noH hp, rowV 4 1 (.slice p.1 t13.length p.2) t13.length (s.1.map e_bool), rowV 67 1 (.slice p_2.1 css.length p_2.2) css.length (css.map idC), rowV 3 1 (.slice t.1.1 t.2 t.1.2) t.2 (s.2.map e_i64)]) (fun s t => t13.length = s.1.length ∧ t.2 = s.2.length) ?_ ?_
        · refine c_seq ?_
          refine c_region ?_
          refine l_val rfl rfl rfl (r_assign (v := .int .i64 0) rfl) ?_
          refine l_nil ?_
          refine c_block ?_
          refine c_imp 3 rfl (imp_box (m := 1) (E := 3) (sz := 1) (xs := (([x16_2] : List Int)).map e_i64) rfl rfl rfl ⟨rfl, by decide⟩) ?_
          refine c_fix (σ := Int × (List Bool) × (List Int)) (τ := (Option Addr × Nat) × Nat) (fun next4 s => R_GroupsOf_l4 a0 a1 x16_2 l_4 next1 next4 s.1 s.2.1 s.2.2) (fun s t => [(0, v0), (1, .int .i64 a1), (5, .slice p.1 t13.length p.2), (6, .slice p_2.1 css.length p_2.2), (8, .slice t.1.1 t.2 t.1.2), (9, .int .i64 s.1), (15, .int .i64 (a0.length : Int)), (16, .int .i64 x16_2)]) (fun s t => [poolC noH hp, rowV 4 1 (.slice p.1 t13.length p.2) t13.length (s.2.1.map e_bool), rowV 67 1 (.slice p_2.1 css.length p_2.2) css.length (css.map idC), rowV 3 1 (.slice t.1.1 t.2 t.1.2) t.2 (s.2.2.map e_i64)]) (fun s t => t13.length = s.2.1.length ∧ t.2 = s.2.2.length) (0, l1, ([x16_2] : List Int)) (((some ⟨b3, 0, none⟩, 1) : Option Addr × Nat), 1) [0, 1, 2, 3] H46 (by exact ⟨(gSet_n hl_2 h_l1), rfl⟩) (by exact ⟨rfl, rfl, rfl, rfl, rfl, rfl, rfl, rfl, trivial⟩) (by decide) rfl ?_
          rintro ⟨x9_2, l_11, l_12⟩ ⟨p_6, n_2⟩ m4 gg H50 ⟨hl_9, hl_10⟩
          clear H46
          replace H50 : R_GroupsOf_l4 a0 a1 x16_2 l_4 next1 (it (fun next4 s => R_GroupsOf_l4 a0 a1 x16_2 l_4 next1 next4 s.1 s.2.1 s.2.2) m4) x9_2 l_11 l_12 = some r := H50
          generalize hn4 : it (fun next4 s => R_GroupsOf_l4 a0 a1 x16_2 l_4 next1 next4 s.1 s.2.1 s.2.2) m4 = next4 at H50
          refine c_tidyF [(0, v0), (1, .int .i64 a1), (5, .slice p.1 t13.length p.2), (6, .slice p_2.1 css.length p_2.2), (8, .slice p_6.1 n_2 p_6.2), (9, .int .i64 x9_2), (15, .int .i64 (a0.length : Int)), (16, .int .i64 x16_2)] [poolC noH hp, rowV 4 1 (.slice p.1 t13.length p.2) t13.length (l_11.map e_bool), rowV 67 1 (.slice p_2.1 css.length p_2.2) css.length (css.map idC), rowV 3 1 (.slice p_6.1 n_2 p_6.2) n_2 (l_12.map e_i64)] rfl rfl ?_
          refine c_seq ?_
          refine c_seq ?_
          refine c_region ?_
          refine l_val rfl rfl rfl (r_move (v := .int .i64 x9_2) rfl) ?_
          refine l_val rfl rfl rfl (r_move (v := .slice p_6.1 n_2 p_6.2) rfl) ?_
          refine l_val rfl rfl rfl (r_lenN Try.underlying67 rfl hl_10) ?_
          refine l_val rfl rfl rfl (r_lss rfl rfl) ?_
          refine l_nil ?_
          refine c_if (b := (decide (x9_2 < (l_12.length : Int)))) rfl (fun hb => ?_) (fun hb => ?_)
          · have H51 := cnd_t hb H50; clear H50
            refine c_skip ?_
            refine c_meet (r := r) (σ := (List Bool) × (List Int)) (τ := (Option Addr × Nat) × Nat) (fun s => R_GroupsOf_j5 x9_2 next4 s.1 s.2) (fun s t => [(0, v0), (1, .int .i64 a1), (5, .slice p.1 t13.length p.2), (6, .slice p_2.1 css.length p_2.2), (8, .slice t.1.1 t.2 t.1.2), (9, .int .i64 x9_2), (15, .int .i64 (a0.length : Int)), (16, .int .i64 x16_2)]) (fun s t => [poolC noH hp, rowV 4 1 (.slice p.1 t13.length p.2) t13.length (s.1.map e_bool), rowV 67 1 (.slice p_2.1 css.length p_2.2) css.length (css.map idC), rowV 3 1 (.slice t.1.1 t.2 t.1.2) t.2 (s.2.map e_i64)]) (fun s t => t13.length = s.1.length ∧ t.2 = s.2.length) ?_ ?_
            · refine c_block ?_
              refine c_seq ?_
              refine c_region ?_
              refine l_val rfl rfl rfl (r_move (v := v0) rfl) ?_
              refine l_val rfl rfl rfl (r_lenF Try.underlying65 rfl f0 rfl) ?_
              refine l_val rfl rfl rfl (r_move (v := .int .i64 0) rfl) ?_
              refine l_nil ?_
              refine c_block ?_
              refine c_fix (σ := Int × (List Bool) × (List Int)) (τ := (Option Addr × Nat) × Nat) (fun next6 s => R_GroupsOf_l6 a0 a1 x9_2 next4 next6 s.1 s.2.1 s.2.2) (fun s t => [(0, v0), (1, .int .i64 a1), (5, .slice p.1 t13.length p.2), (6, .slice p_2.1 css.length p_2.2), (8, .slice t.1.1 t.2 t.1.2), (9, .int .i64 x9_2), (15, .int .i64 (a0.length : Int)), (16, .int .i64 x16_2), (35, .int .i64 (a0.length : Int)), (36, .int .i64 s.1)]) (fun s t => [poolC noH hp, rowV 4 1 (.slice p.1 t13.length p.2) t13.length (s.2.1.map e_bool), rowV 67 1 (.slice p_2.1 css.length p_2.2) css.length (css.map idC), rowV 3 1 (.slice t.1.1 t.2 t.1.2) t.2 (s.2.2.map e_i64)]) (fun s t => t13.length = s.2.1.length ∧ t.2 = s.2.2.length) (0, l_11, l_12) (p_6, n_2) [0, 1, 2, 3] H51 (by exact ⟨hl_9, hl_10⟩) (by exact ⟨rfl, rfl, rfl, rfl, rfl, rfl, rfl, rfl, rfl, rfl, trivial⟩) (by decide) rfl ?_
              rintro ⟨x36_2, l_17, l_18⟩ ⟨p_8, n_4⟩ m6 gg H54 ⟨hl_15, hl_16⟩
              clear H51
              replace H54 : R_GroupsOf_l6 a0 a1 x9_2 next4 (it (fun next6 s => R_GroupsOf_l6 a0 a1 x9_2 next4 next6 s.1 s.2.1 s.2.2) m6) x36_2 l_17 l_18 = some r := H54
              generalize hn6 : it (fun next6 s => R_GroupsOf_l6 a0 a1 x9_2 next4 next6 s.1 s.2.1 s.2.2) m6 = next6 at H54
              refine c_tidyF [(0, v0), (1, .int .i64 a1), (5, .slice p.1 t13.length p.2), (6, .slice p_2.1 css.length p_2.2), (8, .slice p_8.1 n_4 p_8.2), (9, .int .i64 x9_2), (15, .int .i64 (a0.length : Int)), (16, .int .i64 x16_2), (35, .int .i64 (a0.length : Int)), (36, .int .i64 x36_2)] [poolC noH hp, rowV 4 1 (.slice p.1 t13.length p.2) t13.length (l_17.map e_bool), rowV 67 1 (.slice p_2.1 css.length p_2.2) css.length (css.map idC), rowV 3 1 (.slice p_8.1 n_4 p_8.2) n_4 (l_18.map e_i64)] rfl rfl ?_
              refine c_seq ?_
              refine c_region ?_
              refine l_val rfl rfl rfl (r_lss rfl rfl) ?_
              refine l_nil ?_
              refine c_seq ?_
              refine c_if (b := (decide (x36_2 < (a0.length : Int)))) rfl (fun hb => ?_) (fun hb => ?_)
              · have H55 := cnd_t hb H54; clear H54
                refine c_skip ?_
                refine c_meet (r := r) (σ := (List Bool) × (List Int)) (τ := (Option Addr × Nat) × Nat) (fun s => R_GroupsOf_j7 x36_2 next6 s.1 s.2) (fun s t => [(0, v0), (1, .int .i64 a1), (5, .slice p.1 t13.length p.2), (6, .slice p_2.1 css.length p_2.2), (8, .slice t.1.1 t.2 t.1.2), (9, .int .i64 x9_2), (15, .int .i64 (a0.length : Int)), (16, .int .i64 x16_2), (35, .int .i64 (a0.length : Int)), (36, .int .i64 x36_2)]) (fun s t => [poolC noH hp, rowV 4 1 (.slice p.1 t13.length p.2) t13.length (s.1.map e_bool), rowV 67 1 (.slice p_2.1 css.length p_2.2) css.length (css.map idC), rowV 3 1 (.slice t.1.1 t.2 t.1.2) t.2 (s.2.map e_i64)]) (fun s t => t13.length = s.1.length ∧ t.2 = s.2.length) ?_ ?_
                · refine c_block ?_
                  refine c_seq ?_
                  refine c_region ?_
                  refine l_val rfl rfl rfl (r_move (v := .int .i64 x36_2) rfl) ?_
                  refine l_val rfl rfl rfl (r_assign (v := .int .i64 x36_2) rfl) ?_
                  refine l_nil ?_
                  refine c_seq ?_
                  exact c_regionD (Kd.p :: Kd.p :: Kd.d [1] _ :: Kd.d [1] _ :: Kd.p :: Kd.p :: Kd.p :: Kd.p :: Kd.p :: Kd.d [3] _ :: Kd.d [3] _ :: Kd.p :: Kd.d [] _ :: Kd.p :: Kd.p :: Kd.p :: Kd.d [] _ :: Kd.d [] _ :: Kd.p :: Kd.p :: Kd.p :: []) 0 mixed (by
                    refine d_val rfl rfl (r_move (v := .slice p.1 t13.length p.2) rfl) ?_
                    refine d_val rfl rfl (r_move (v := .int .i64 x36_2) rfl) ?_
                    have h_t41 := bnd_val H55
                    have H58 := bnd_rest H55
                    refine d_readD (fun w L' hF hS hi => run_indexO Try.underlying111 Try.sizeOf4 rfl rfl (rowOf (i := 1) hS ((hi 1 (by simp)).trans rfl)) hl_15 h_t41) rfl rfl ?_
                    refine d_readD (fun w L' hF hS hi => run_loadG1 (f := e_bool) (i := x36_2) (sz := 1) (j := 0) (v := .bool (val (gAt l_17 x36_2))) Try.isAgg4 rfl rfl (rowOf (i := 1) hS ((hi 1 (by simp)).trans rfl)) h_t41 rfl) rfl rfl ?_
                    refine d_val rfl rfl (r_not rfl) ?_
                    refine d_val rfl rfl (r_move (v := .bool (!(val (gAt l_17 x36_2)))) rfl) ?_
                    refine splitS (fun hb => ?_) (fun hb => ?_)
                    · have H59 := cnd_t hb H58
                      refine d_val rfl rfl (r_move (v := v0) rfl) ?_
                      refine d_val rfl rfl (r_move (v := .slice p_8.1 n_4 p_8.2) rfl) ?_
                      refine d_val rfl rfl (r_move (v := .int .i64 x9_2) rfl) ?_
                      have h_t48 := bnd_val H59
                      have H60 := bnd_rest H59
                      refine d_readD (fun w L' hF hS hi => run_indexO Try.underlying67 Try.sizeOf3 rfl rfl (rowOf (i := 3) hS ((hi 3 (by simp)).trans rfl)) hl_16 h_t48) rfl rfl ?_
                      refine d_readD (fun w L' hF hS hi => run_loadG1 (f := e_i64) (i := x9_2) (sz := 1) (j := 0) (v := .int .i64 (val (gAt l_18 x9_2))) Try.isAgg3 rfl rfl (rowOf (i := 3) hS ((hi 3 (by simp)).trans rfl)) h_t48 rfl) rfl rfl ?_
                      have h_t50 := bnd_val H60
                      have H61 := bnd_rest H60
                      refine d_val rfl rfl (r_indexF Try.underlying65 Try.sizeOf71 rfl rfl f0 h_t50) ?_
                      refine d_read (fun w hF => run_loadGN (f := e_api_Place) (i := (val (gAt l_18 x9_2))) (sz := 2) (j := 0) (vs := [.int .i64 (val (gAt a0 (val (gAt l_18 x9_2)))).Lat, .int .i64 (val (gAt a0 (val (gAt l_18 x9_2)))).Lon]) Try.isAgg71 Try.sizeOf71 rfl rfl (f0.row (hw.now hF)) h_t50 rfl) rfl rfl ?_
                      refine d_val rfl rfl (r_move (v := v0) rfl) ?_
                      refine d_val rfl rfl (r_move (v := .int .i64 x36_2) rfl) ?_
                      have h_t54 := bnd_val H61
                      have H62 := bnd_rest H61
                      refine d_val rfl rfl (r_indexF Try.underlying65 Try.sizeOf71 rfl rfl f0 h_t54) ?_
                      refine d_read (fun w hF => run_loadGN (f := e_api_Place) (i := x36_2) (sz := 2) (j := 0) (vs := [.int .i64 (val (gAt a0 x36_2)).Lat, .int .i64 (val (gAt a0 x36_2)).Lon]) Try.isAgg71 Try.sizeOf71 rfl rfl (f0.row (hw.now hF)) h_t54 rfl) rfl rfl ?_
                      have h_t56 := bnd_val H62
                      have H63 := bnd_rest H62
                      refine d_call (k44 h_t56) Try.call44 rfl rfl ?_
                      refine d_val rfl rfl (r_move (v := .int .i64 a1) rfl) ?_
                      refine d_val rfl rfl (r_leq rfl rfl) ?_
                      refine d_val rfl rfl (r_pickT (v := .bool (decide ((val (R_DistanceOf (val (gAt a0 (val (gAt l_18 x9_2)))) (val (gAt a0 x36_2)))) ≤ a1))) rfl rfl) ?_
                      refine d_nil ?_
                      refine c_if (b := (decide ((val (R_DistanceOf (val (gAt a0 (val (gAt l_18 x9_2)))) (val (gAt a0 x36_2)))) ≤ a1))) rfl (fun hb => ?_) (fun hb => ?_)
                      · have H64 := cnd_t hb H63; clear H63
                        refine c_seq ?_
                        refine c_region ?_
                        refine l_val rfl rfl rfl (r_move (v := .slice p.1 t13.length p.2) rfl) ?_
                        refine l_val rfl rfl rfl (r_move (v := .int .i64 x36_2) rfl) ?_
                        obtain ⟨t62, h_t62, H65⟩ := bnd_some H64; clear H64
                        refine l_read (fun w hF hS => run_indexO Try.underlying111 Try.sizeOf4 rfl rfl (rowOf (i := 1) hS rfl) hl_15 h_t62) rfl rfl rfl ?_
                        obtain ⟨l1_2, h_l1_2, H66⟩ := bnd_some H65; clear H65
                        refine l_storeG (q := 1) (j := 0) (i := x36_2) (sz := 1) (hm := hl_15) (f := e_bool) (vs := [.bool true]) Try.sizeOf4 rfl rfl rfl rfl rfl rfl rfl rfl rfl (fun y_ hy_ => by first | rfl | (cases hy_.symm.trans h_t62; rfl)) h_l1_2 ?_
                        refine l_nil ?_
                        refine c_region ?_
                        refine l_val rfl rfl rfl (r_move (v := .slice p_8.1 n_4 p_8.2) rfl) ?_
                        refine l_val rfl rfl rfl (r_move (v := .int .i64 x36_2) rfl) ?_
                        refine l_buildSlice (vs := [.int .i64 x36_2]) (cs := [.int .i64 x36_2]) Try.underlying67 Try.sizeOf3 Try.zeroValue3 rfl rfl rfl rfl rfl rfl rfl (fun b5 => ?_)
                        obtain ⟨l66, h_l66, H67⟩ := bnd_some H66; clear H66
                        refine l_turn (turns_appG (i := 3) (hn := hl_16) (rds := [4]) (p := p_8) (sz := 1) (by_ := 8) (f := e_i64) (ys := l_18) (ls := ([x36_2] : List Int)) (V := .slice (some ⟨b5, 0, none⟩) 1 1) Try.underlying67 (info_of Try.typeInfo3) rfl rfl rfl rfl rfl rfl rfl rfl rfl rfl (fun w L' hF hS hi => row_box (i := 4) hS ((hi 4 (by simp)).trans rfl) rfl rfl) (fun _ => rfl) (fun _ => rfl) h_l66) rfl rfl rfl (fun p_10 => ?_)
                        refine l_val rfl rfl rfl (r_assign (v := .slice p_10.1 l66.length p_10.2) rfl) ?_
                        refine l_nil ?_
                        refine c_close (l1_2, l66) (p_10, l66.length) 0 [0, 1, 2, 3] (by exact ⟨rfl, rfl, rfl, rfl, rfl, rfl, rfl, rfl, rfl, rfl, trivial⟩) (by decide) rfl (by exact ⟨H67, ⟨(gSet_n hl_15 h_l1_2), rfl⟩⟩) (Nat.lt_succ_self _)
                      · have H68 := cnd_f hb H63; clear H63
                        refine c_skip ?_
                        refine c_close (l_17, l_18) (p_8, n_4) 0 [0, 1, 2, 3] (by exact ⟨rfl, rfl, rfl, rfl, rfl, rfl, rfl, rfl, rfl, rfl, trivial⟩) (by decide) rfl (by exact ⟨H68, ⟨hl_15, hl_16⟩⟩) (Nat.lt_succ_self _)
                    · have H69 := cnd_f hb H58
                      refine d_pass rfl rfl ?_
                      refine d_pass rfl rfl ?_
                      refine d_pass rfl rfl ?_
                      refine d_pass rfl rfl ?_
                      refine d_pass rfl rfl ?_
                      refine d_pass rfl rfl ?_
                      refine d_pass rfl rfl ?_
                      refine d_pass rfl rfl ?_
                      refine d_pass rfl rfl ?_
                      refine d_pass rfl rfl ?_
                      refine d_pass rfl rfl ?_
                      refine d_pass rfl rfl ?_
                      refine d_pass rfl rfl ?_
                      refine d_pass rfl rfl ?_
                      refine d_val rfl rfl (r_pickF (v := .bool false) rfl rfl) ?_
                      refine d_nil ?_
                      refine c_false rfl ?_
                      refine c_skip ?_
                      refine c_close (l_17, l_18) (p_8, n_4) 0 [0, 1, 2, 3] (by exact ⟨rfl, rfl, rfl, rfl, rfl, rfl, rfl, rfl, rfl, rfl, trivial⟩) (by decide) rfl (by exact ⟨H69, ⟨hl_15, hl_16⟩⟩) (Nat.lt_succ_self _)
                    ) (by kernel_rfl)
                · rintro ⟨l_19, l_20⟩ ⟨p_9, n_5⟩ gg H56 ⟨hl_17, hl_18⟩
                  replace H56 : R_GroupsOf_j7 x36_2 next6 l_19 l_20 = some r := H56
                  refine c_tidyF [(0, v0), (1, .int .i64 a1), (5, .slice p.1 t13.length p.2), (6, .slice p_2.1 css.length p_2.2), (8, .slice p_9.1 n_5 p_9.2), (9, .int .i64 x9_2), (15, .int .i64 (a0.length : Int)), (16, .int .i64 x16_2), (35, .int .i64 (a0.length : Int)), (36, .int .i64 x36_2)] [poolC noH hp, rowV 4 1 (.slice p.1 t13.length p.2) t13.length (l_19.map e_bool), rowV 67 1 (.slice p_2.1 css.length p_2.2) css.length (css.map idC), rowV 3 1 (.slice p_9.1 n_5 p_9.2) n_5 (l_20.map e_i64)] rfl rfl ?_
                  refine c_region ?_
                  obtain ⟨t67, h_t67, H57⟩ := bnd_some H56; clear H56
                  refine l_val rfl rfl rfl (r_addG rfl rfl h_t67) ?_
                  refine l_val rfl rfl rfl (r_move (v := .int .i64 t67) rfl) ?_
                  refine l_nil ?_
                  refine c_close (t67, l_19, l_20) (p_9, n_5) m6 [0, 1, 2, 3] (by exact ⟨rfl, rfl, rfl, rfl, rfl, rfl, rfl, rfl, rfl, rfl, trivial⟩) (by decide) rfl (by exact ⟨(by subst hn6; exact H57), ⟨hl_17, hl_18⟩⟩) (Nat.lt_succ_self _)
              · have H70 := cnd_f hb H54; clear H54
                refine c_exit ?_
                refine c_close (l_17, l_18) (p_8, n_4) 0 [0, 1, 2, 3] (by exact ⟨rfl, rfl, rfl, rfl, rfl, rfl, rfl, rfl, trivial⟩) (by decide) rfl (by exact ⟨H70, ⟨hl_15, hl_16⟩⟩) (Nat.lt_succ_self _)
            · rintro ⟨l_13, l_14⟩ ⟨p_7, n_3⟩ gg H52 ⟨hl_11, hl_12⟩
              replace H52 : R_GroupsOf_j5 x9_2 next4 l_13 l_14 = some r := H52
              refine c_tidyF [(0, v0), (1, .int .i64 a1), (5, .slice p.1 t13.length p.2), (6, .slice p_2.1 css.length p_2.2), (8, .slice p_7.1 n_3 p_7.2), (9, .int .i64 x9_2), (15, .int .i64 (a0.length : Int)), (16, .int .i64 x16_2)] [poolC noH hp, rowV 4 1 (.slice p.1 t13.length p.2) t13.length (l_13.map e_bool), rowV 67 1 (.slice p_2.1 css.length p_2.2) css.length (css.map idC), rowV 3 1 (.slice p_7.1 n_3 p_7.2) n_3 (l_14.map e_i64)] rfl rfl ?_
              refine c_region ?_
              refine l_val rfl rfl rfl (r_move (v := .int .i64 x9_2) rfl) ?_
              obtain ⟨t33, h_t33, H53⟩ := bnd_some H52; clear H52
              refine l_val rfl rfl rfl (r_addG rfl rfl h_t33) ?_
              refine l_val rfl rfl rfl (r_assign (v := .int .i64 t33) rfl) ?_
              refine l_nil ?_
              refine c_close (t33, l_13, l_14) (p_7, n_3) m4 [0, 1, 2, 3] (by exact ⟨rfl, rfl, rfl, rfl, rfl, rfl, rfl, rfl, trivial⟩) (by decide) rfl (by exact ⟨(by subst hn4; exact H53), ⟨hl_11, hl_12⟩⟩) (Nat.lt_succ_self _)
          · have H71 := cnd_f hb H50; clear H50
            refine c_exit ?_
            refine c_close (l_11, l_12) (p_6, n_2) 0 [0, 1, 2, 3] (by exact ⟨rfl, rfl, rfl, rfl, rfl, rfl, rfl, trivial⟩) (by decide) rfl (by exact ⟨H71, ⟨hl_9, hl_10⟩⟩) (Nat.lt_succ_self _)
        · rintro ⟨l_7, l_8⟩ ⟨p_4, n⟩ gg H47 ⟨hl_4, hl_5⟩
          replace H47 : R_GroupsOf_j3 x16_2 l_4 next1 l_7 l_8 = some r := H47
          refine c_tidyF [(0, v0), (1, .int .i64 a1), (5, .slice p.1 t13.length p.2), (6, .slice p_2.1 css.length p_2.2), (8, .slice p_4.1 n p_4.2), (15, .int .i64 (a0.length : Int)), (16, .int .i64 x16_2)] [poolC noH hp, rowV 4 1 (.slice p.1 t13.length p.2) t13.length (l_7.map e_bool), rowV 67 1 (.slice p_2.1 css.length p_2.2) css.length (css.map idC), rowV 3 1 (.slice p_4.1 n p_4.2) n (l_8.map e_i64)] rfl rfl ?_
          refine c_seq ?_
          refine c_region ?_
          refine l_val rfl rfl rfl (r_move (v := .slice p_4.1 n p_4.2) rfl) ?_
          obtain ⟨t69, h_t69, H48⟩ := bnd_some H47; clear H47
          refine l_turn (turns_callB (i := 3) (rds := []) (G := fun x : Unit => .tuple #[]) (C := fun x : Unit => rowV 3 1 (.slice p_4.1 n p_4.2) n (t69.map e_i64)) rfl (fun w L' S hF hS hi hp hlt ho hA => k72 hp hlt (know_but w S) hl_5 h_t69) Try.call72 rfl) rfl rfl rfl (fun _ => ?_)
          refine c_know (fun w hF hS => lenOf (i := 3) hS rfl) (fun hl_6_ => ?_)
          have hl_6 : n = t69.length := by simpa using hl_6_.symm
          refine l_nil ?_
          refine c_region ?_
          refine l_val rfl rfl rfl (r_move (v := .slice p_2.1 css.length p_2.2) rfl) ?_
          refine l_val rfl rfl rfl (r_move (v := .slice p_4.1 n p_4.2) rfl) ?_
          refine l_buildSlice (vs := [.slice p_4.1 n p_4.2]) (cs := [.slice p_4.1 n p_4.2]) Try.underlying78 Try.sizeOf67 Try.zeroValue67 rfl rfl rfl rfl rfl rfl rfl (fun b4 => ?_)
          refine c_freeze (Φ := fun H_ => FrS H_ 1 (.slice p_4.1 n p_4.2) (t69.map e_i64)) 0 3 rfl rfl (by decide) (fun _ _ => noH_le) (fz_own _) (fun hp_3 hle hf => ?_)
          obtain ⟨l73, h_l73, H49⟩ := bnd_some H48; clear H48
          refine l_turn (turns_appendM (i := 2) (k := 4) (p := p_2) (f := idC) (ys := css) (ls := [[.slice p_4.1 n p_4.2]]) Try.underlying78 (info_of Try.typeInfo67) rfl rfl rfl rfl rfl rfl rfl rfl rfl rfl rfl rfl rfl rfl (by simp only [idC, List.map_cons, List.map_nil, List.all_cons, List.all_nil, hf.one] <;> rfl) (app63 ((pf_2.mono hle).app h_l73 (nc := [[.slice p_4.1 n p_4.2]]) rfl)) rfl) rfl rfl rfl (fun p_5 => ?_)
          have pf_4 : AllC gs_int hp_3 1 (css ++ [[Value.slice p_4.1 n p_4.2]]) l73 := AllC.snocG (pf_2.mono hle) h_l73 rfl (hf)
          refine l_val rfl rfl rfl (r_assign (v := .slice p_5.1 ((css ++ [[Value.slice p_4.1 n p_4.2]]).length) p_5.2) rfl) ?_
          refine l_nil ?_
          refine c_close (l_7, l73) (hp_3, (css ++ [[Value.slice p_4.1 n p_4.2]]), p_5) 0 [0, 1, 2] (by exact ⟨rfl, rfl, rfl, rfl, rfl, rfl, trivial⟩) (by decide) rfl (by exact ⟨H49, ⟨hl_4, pf_4⟩⟩) (Nat.lt_succ_self _)
    · rintro ⟨l_5, l_6⟩ ⟨hp_2, css_2, p_3⟩ gg H40 ⟨hl_3, pf_3⟩
      replace H40 : R_GroupsOf_j2 x16_2 next1 l_5 l_6 = some r := H40
      refine c_tidyF [(0, v0), (1, .int .i64 a1), (5, .slice p.1 t13.length p.2), (6, .slice p_3.1 css_2.length p_3.2), (15, .int .i64 (a0.length : Int)), (16, .int .i64 x16_2)] [poolC noH hp_2, rowV 4 1 (.slice p.1 t13.length p.2) t13.length (l_5.map e_bool), rowV 67 1 (.slice p_3.1 css_2.length p_3.2) css_2.length (css_2.map idC)] rfl rfl ?_
      refine c_region ?_
      obtain ⟨t74, h_t74, H41⟩ := bnd_some H40; clear H40
      refine l_val rfl rfl rfl (r_addG rfl rfl h_t74) ?_
      refine l_val rfl rfl rfl (r_move (v := .int .i64 t74) rfl) ?_
      refine l_nil ?_
      refine c_close (t74, l_5, l_6) (hp_2, css_2, p_3) m1 [0, 1, 2] (by exact ⟨rfl, rfl, rfl, rfl, rfl, rfl, trivial⟩) (by decide) rfl (by exact ⟨(by subst hn1; exact H41), ⟨hl_3, pf_3⟩⟩) (Nat.lt_succ_self _)
  · have H72 := cnd_f hb H38; clear H38
    refine c_exit ?_
    refine c_seq ?_
    refine c_region ?_
    refine l_val rfl rfl rfl (r_move (v := .slice p_2.1 css.length p_2.2) rfl) ?_
    refine l_val rfl rfl rfl (r_assign (v := .slice p_2.1 css.length p_2.2) rfl) ?_
    refine l_nil ?_
    refine c_ret ?_
    obtain rfl := Option.some.inj H72
    refine c_both 0 2 rfl rfl (by decide) ?_
    refine c_imp 0 rfl (imp_rowD (p := p_2) rfl pf_2) ?_
    refine ret1 (v := .slice p_2.1 css.length p_2.2) rfl rfl (finX p_2 (i := 0) rfl (by first | rfl | rw [(show css.length = l_4.length from pf_2.len)]) (by first | exact Imp.refl _ | exact Imp.of (by rw [(show css.length = l_4.length from pf_2.len)])))
end Go.Proofs.Ytinpjnlocahjjaa
