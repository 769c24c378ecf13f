/- WhereAreas: the walks, printed by our generator; each follows its model. Conditions: the model yields a value. -/
import Derived.Test.YtilhbkglchppjaaDoorMWa
import Derived.Test.YtilhbkglchppjaaDoorProg
import Derived.Test.YtilhbkglchppjaaDoorLx15
import Derived.Test.YtilhbkglchppjaaDoorSrt
import Derived.Test.YtilhbkglchppjaaDoorLx17
import Derived.Test.YtilhbkglchppjaaDoorLx18
namespace Go.Proofs.YtilhbkglchppjaaDoor
open Go Go.Vc Go.Md Go.M Go.Lx
set_option maxRecDepth 100000
set_option maxHeartbeats 4000000
set_option linter.unusedVariables false

theorem mixed : Tryd.prog.follows .mixedOrders = true := by kernel_rfl

abbrev e_i64 (x : Int) : List Value := [.int .i64 x]
abbrev e_string (x : (List UInt8)) : List Value := [str x]
abbrev e_api_Place (x : T_api_Place) : List Value := [.int .i64 x.Lat, .int .i64 x.Lon]
def fnR_func_api_Place_int (m : (T_api_Place → Option (Int))) (w : World) (args : List Value) (post : Value → World → Prop) : Prop :=
  ∃ (a0 : T_api_Place) (r : Int), args = [.agg #[.int .i64 a0.Lat, .int .i64 a0.Lon]] ∧ m a0 = some r ∧ post = fun v' w' => v' = (.int .i64 r) ∧ Grow w w'

def gs_api_Place (h : Heap) (c : Nat → Value) (x : (List T_api_Place)) : Prop := FrS h 2 (c 0) (x.map e_api_Place)
instance : Mon gs_api_Place := ⟨fun k _ _ f => FrS.mono f k⟩
theorem cgs_api_Place {h : Heap} {c : Nat → Value} {x : (List T_api_Place)} (_ : gs_api_Place h c x) : (List.range 1).map c = [c 0] := rfl
def g_where_Area (h : Heap) (c : Nat → Value) (x : T_where_Area) : Prop := c 0 = str x.Name ∧ gs_api_Place h (fun j => c (1 + j)) x.Ring
instance : Mon g_where_Area := ⟨fun k _ _ f => by obtain ⟨h0, h1⟩ := f; exact ⟨h0, Mon.mono k _ _ h1⟩⟩
theorem cg_where_Area {h : Heap} {c : Nat → Value} {x : T_where_Area} (f : g_where_Area h c x) : (List.range 2).map c = [str x.Name, c 1] := by
  obtain ⟨h0, h1⟩ := f
  show [c 0, c 1] = _
  simp only [h0]
theorem g_where_Area_p1 {h : Heap} {c : Nat → Value} {x : T_where_Area} (f : g_where_Area h c x) : gs_api_Place h (fun j => c (1 + j)) x.Ring := by
  obtain ⟨h0, h1⟩ := f; exact h1


theorem k8 {a0 : (List Int)} {v0 : Value} {r : Int} {w : World} {h : Heap} (hw : Know h w noS) (f0 : FrS h 1 v0 (a0.map e_i64)) (H : Law_first a0 = some r) : Does Tryd.prog 8 (List.toArray [v0]) w (fun v w' => v = (.int .i64 r) ∧ Grow w w') := by
  refine enter (n := 15) Tryd.func8 rfl rfl rfl noS [] (Sat.nil _ _) ?_
  refine c_seq ?_
  refine c_region ?_
  refine l_val rfl rfl rfl (r_assign (v := .int .i64 0) rfl) ?_
  refine l_nil ?_
  refine c_seq ?_
  refine c_seq ?_
  refine c_region ?_
  refine l_val rfl rfl rfl (r_move (v := v0) rfl) ?_
  refine l_val rfl rfl rfl (r_lenF Tryd.underlying99 rfl f0 rfl) ?_
  refine l_val rfl rfl rfl (r_move (v := .int .i64 0) rfl) ?_
  refine l_nil ?_
  refine c_block ?_
  refine c_fix (σ := Int) (τ := Unit) (fun next1 s => Law_first_l1 a0 next1 s) (fun s t => [(5, v0), (6, .int .i64 (a0.length : Int)), (7, .int .i64 s)]) (fun s t => []) (fun s t => True) 0 () [] H (by exact trivial) (by exact ⟨rfl, rfl, rfl, trivial⟩) (by decide) rfl ?_
  rintro x7_2 _ m1 gg H8 _
  clear H
  replace H8 : Law_first_l1 a0 (it (fun next1 s => Law_first_l1 a0 next1 s) m1) x7_2 = some r := H8
  generalize hn1 : it (fun next1 s => Law_first_l1 a0 next1 s) m1 = next1 at H8
  refine c_tidyF [(5, v0), (6, .int .i64 (a0.length : Int)), (7, .int .i64 x7_2)] [] rfl rfl ?_
  refine c_seq ?_
  refine c_region ?_
  refine l_val rfl rfl rfl (r_lss rfl rfl) ?_
  refine l_nil ?_
  refine c_seq ?_
  refine c_if (b := (decide (x7_2 < (a0.length : Int)))) rfl (fun hb => ?_) (fun hb => ?_)
  · have H9 := cnd_t hb H8; clear H8
    refine c_skip ?_
    refine c_seq ?_
    refine c_block ?_
    refine c_seq ?_
    refine c_region ?_
    obtain ⟨t9, h_t9, H10⟩ := bnd_some H9; clear H9
    refine l_val rfl rfl rfl (r_indexF Tryd.underlying99 Tryd.sizeOf23 rfl rfl f0 h_t9) ?_
    refine l_read (fun w hF hS => run_loadG1 (f := e_i64) (i := x7_2) (sz := 1) (j := 0) (v := .int .i64 t9) Tryd.isAgg23 rfl rfl (f0.row (hw.now hF)) h_t9 rfl) rfl rfl rfl ?_
    refine l_val rfl rfl rfl (r_assign (v := .int .i64 t9) rfl) ?_
    refine l_nil ?_
    refine c_seq ?_
    refine c_region ?_
    refine l_val rfl rfl rfl (r_move (v := .int .i64 t9) rfl) ?_
    refine l_val rfl rfl rfl (r_neq rfl rfl) ?_
    refine l_nil ?_
    refine c_if (b := (decide (t9 ≠ 0))) rfl (fun hb => ?_) (fun hb => ?_)
    · have H11 := cnd_t hb H10; clear H10
      refine c_seq ?_
      refine c_region ?_
      refine l_val rfl rfl rfl (r_move (v := .int .i64 t9) rfl) ?_
      refine l_val rfl rfl rfl (r_assign (v := .int .i64 t9) rfl) ?_
      refine l_nil ?_
      refine c_ret ?_
      obtain rfl := Option.some.inj H11
      refine ret1 (v := .int .i64 t9) rfl rfl (fin rfl)
    · have H12 := cnd_f hb H10; clear H10
      refine c_skip ?_
      refine c_region ?_
      obtain ⟨t14, h_t14, H13⟩ := bnd_some H12; clear H12
      refine l_val rfl rfl rfl (r_addG rfl rfl h_t14) ?_
      refine l_val rfl rfl rfl (r_move (v := .int .i64 t14) rfl) ?_
      refine l_nil ?_
      refine c_close t14 () m1 [] (by exact ⟨rfl, rfl, rfl, trivial⟩) (by decide) rfl (by exact ⟨(by subst hn1; exact H13), trivial⟩) (Nat.lt_succ_self _)
  · have H14 := cnd_f hb H8; clear H8
    refine c_exit ?_
    refine c_seq ?_
    refine c_region ?_
    refine l_val rfl rfl rfl (r_assign (v := .int .i64 0) rfl) ?_
    refine l_nil ?_
    refine c_ret ?_
    obtain rfl := Option.some.inj H14
    refine ret1 (v := .int .i64 0) rfl rfl (fin rfl)
theorem k14 {a0 : Bool} {a1 : Int} {r : Int} (H : Law_unless a0 a1 = some r) : Ret Tryd.prog 14 [.bool a0, .int .i64 a1] (.int .i64 r) := by
  refine enterRet (n := 7) Tryd.func14 rfl rfl rfl (fun wd => ?_)
  refine c_seq ?_
  refine c_region ?_
  refine l_val rfl rfl rfl (r_assign (v := .int .i64 0) rfl) ?_
  refine l_nil ?_
  refine c_seq ?_
  refine c_seq ?_
  refine c_region ?_
  refine l_val rfl rfl rfl (r_move (v := .bool a0) rfl) ?_
  refine l_nil ?_
  refine c_if (b := a0) rfl (fun hb => ?_) (fun hb => ?_)
  · have H3 := cnd_t hb H; clear H
    refine c_seq ?_
    refine c_region ?_
    refine l_val rfl rfl rfl (r_assign (v := .int .i64 0) rfl) ?_
    refine l_nil ?_
    refine c_ret ?_
    obtain rfl := Option.some.inj H3
    refine ret1 (v := .int .i64 0) rfl rfl (fin rfl)
  · have H4 := cnd_f hb H; clear H
    refine c_skip ?_
    refine c_seq ?_
    refine c_region ?_
    refine l_val rfl rfl rfl (r_move (v := .int .i64 a1) rfl) ?_
    refine l_val rfl rfl rfl (r_assign (v := .int .i64 a1) rfl) ?_
    refine l_nil ?_
    refine c_ret ?_
    obtain rfl := Option.some.inj H4
    refine ret1 (v := .int .i64 a1) rfl rfl (fin rfl)
theorem k63 {a0 : (List (List UInt8))} {v0 : Value} {a1 : (List (List UInt8))} {v1 : Value} {r : Bool} {w : World} {h : Heap} (hw : Know h w noS) (f0 : FrS h 1 v0 (a0.map e_string)) (f1 : FrS h 1 v1 (a1.map e_string)) (H : slices_Equal_string a0 a1 = some r) : Does Tryd.prog 63 (List.toArray [v0, v1]) w (fun v w' => v = (.bool r) ∧ Grow w w') := by
  refine enter (n := 26) Tryd.func63 rfl rfl rfl noS [] (Sat.nil _ _) ?_
  refine c_seq ?_
  refine c_region ?_
  refine l_val rfl rfl rfl (r_assign (v := .bool false) rfl) ?_
  refine l_nil ?_
  refine c_seq ?_
  refine c_seq ?_
  refine c_region ?_
  refine l_val rfl rfl rfl (r_move (v := v0) rfl) ?_
  refine l_val rfl rfl rfl (r_lenF Tryd.underlying28 rfl f0 rfl) ?_
  refine l_val rfl rfl rfl (r_move (v := v1) rfl) ?_
  refine l_val rfl rfl rfl (r_lenF Tryd.underlying28 rfl f1 rfl) ?_
  refine l_val rfl rfl rfl (r_neq rfl rfl) ?_
  refine l_nil ?_
  refine c_if (b := (decide ((a0.length : Int) ≠ (a1.length : Int)))) rfl (fun hb => ?_) (fun hb => ?_)
  · have H11 := cnd_t hb H; clear H
    refine c_seq ?_
    refine c_region ?_
    refine l_val rfl rfl rfl (r_assign (v := .bool false) rfl) ?_
    refine l_nil ?_
    refine c_ret ?_
    obtain rfl := Option.some.inj H11
    refine ret1 (v := .bool false) rfl rfl (fin rfl)
  · have H12 := cnd_f hb H; clear H
    refine c_skip ?_
    refine c_seq ?_
    refine c_seq ?_
    refine c_region ?_
    refine l_val rfl rfl rfl (r_move (v := v0) rfl) ?_
    refine l_val rfl rfl rfl (r_lenF Tryd.underlying28 rfl f0 rfl) ?_
    refine l_val rfl rfl rfl (r_move (v := .int .i64 0) rfl) ?_
    refine l_nil ?_
    refine c_block ?_
    refine c_fix (σ := Int) (τ := Unit) (fun next1 s => slices_Equal_string_l1 a0 a1 next1 s) (fun s t => [(0, v0), (1, v1), (12, .int .i64 (a0.length : Int)), (13, .int .i64 s)]) (fun s t => []) (fun s t => True) 0 () [] H12 (by exact trivial) (by exact ⟨rfl, rfl, rfl, rfl, trivial⟩) (by decide) rfl ?_
    rintro x13_2 _ m1 gg H13 _
    clear H12
    replace H13 : slices_Equal_string_l1 a0 a1 (it (fun next1 s => slices_Equal_string_l1 a0 a1 next1 s) m1) x13_2 = some r := H13
    generalize hn1 : it (fun next1 s => slices_Equal_string_l1 a0 a1 next1 s) m1 = next1 at H13
    refine c_tidyF [(0, v0), (1, v1), (12, .int .i64 (a0.length : Int)), (13, .int .i64 x13_2)] [] rfl rfl ?_
    refine c_seq ?_
    refine c_region ?_
    refine l_val rfl rfl rfl (r_lss rfl rfl) ?_
    refine l_nil ?_
    refine c_seq ?_
    refine c_if (b := (decide (x13_2 < (a0.length : Int)))) rfl (fun hb => ?_) (fun hb => ?_)
    · have H14 := cnd_t hb H13; clear H13
      refine c_skip ?_
      refine c_seq ?_
      refine c_block ?_
      refine c_seq ?_
      refine c_region ?_
      refine l_val rfl rfl rfl (r_move (v := .int .i64 x13_2) rfl) ?_
      refine l_val rfl rfl rfl (r_assign (v := .int .i64 x13_2) rfl) ?_
      refine l_nil ?_
      refine c_seq ?_
      exact c_regionD (Kd.p :: Kd.p :: Kd.p :: Kd.d [] _ :: Kd.p :: Kd.p :: Kd.p :: Kd.d [] _ :: Kd.p :: []) 0 mixed (by
        refine d_val rfl rfl (r_move (v := v0) rfl) ?_
        refine d_val rfl rfl (r_move (v := .int .i64 x13_2) rfl) ?_
        have h_t18 := bnd_val H14
        have H15 := bnd_rest H14
        refine d_val rfl rfl (r_indexF Tryd.underlying28 Tryd.sizeOf9 rfl rfl f0 h_t18) ?_
        refine d_read (fun w hF => run_loadG1 (f := e_string) (i := x13_2) (sz := 1) (j := 0) (v := str (val (gAt a0 x13_2))) Tryd.isAgg9 rfl rfl (f0.row (hw.now hF)) h_t18 rfl) rfl rfl ?_
        refine d_val rfl rfl (r_move (v := v1) rfl) ?_
        refine d_val rfl rfl (r_move (v := .int .i64 x13_2) rfl) ?_
        have h_t22 := bnd_val H15
        have H16 := bnd_rest H15
        refine d_val rfl rfl (r_indexF Tryd.underlying28 Tryd.sizeOf9 rfl rfl f1 h_t22) ?_
        refine d_read (fun w hF => run_loadG1 (f := e_string) (i := x13_2) (sz := 1) (j := 0) (v := str (val (gAt a1 x13_2))) Tryd.isAgg9 rfl rfl (f1.row (hw.now hF)) h_t22 rfl) rfl rfl ?_
        refine d_val rfl rfl (r_neqT rfl rfl) ?_
        refine d_nil ?_
        refine c_if (b := (decide ((val (gAt a0 x13_2)) ≠ (val (gAt a1 x13_2))))) rfl (fun hb => ?_) (fun hb => ?_)
        · have H17 := cnd_t hb H16; clear H16
          refine c_seq ?_
          refine c_region ?_
          refine l_val rfl rfl rfl (r_assign (v := .bool false) rfl) ?_
          refine l_nil ?_
          refine c_ret ?_
          obtain rfl := Option.some.inj H17
          refine ret1 (v := .bool false) rfl rfl (fin rfl)
        · have H18 := cnd_f hb H16; clear H16
          refine c_skip ?_
          refine c_region ?_
          obtain ⟨t25, h_t25, H19⟩ := bnd_some H18; clear H18
          refine l_val rfl rfl rfl (r_addG rfl rfl h_t25) ?_
          refine l_val rfl rfl rfl (r_move (v := .int .i64 t25) rfl) ?_
          refine l_nil ?_
          refine c_close t25 () m1 [] (by exact ⟨rfl, rfl, rfl, rfl, trivial⟩) (by decide) rfl (by exact ⟨(by subst hn1; exact H19), trivial⟩) (Nat.lt_succ_self _)
        ) (by kernel_rfl)
    · have H20 := cnd_f hb H13; clear H13
      refine c_exit ?_
      refine c_seq ?_
      refine c_region ?_
      refine l_val rfl rfl rfl (r_assign (v := .bool true) rfl) ?_
      refine l_nil ?_
      refine c_ret ?_
      obtain rfl := Option.some.inj H20
      refine ret1 (v := .bool true) rfl rfl (fin rfl)
theorem k19 {a0 : (List (List UInt8))} {v0 : Value} {a1 : Int} {a2 : (List (List UInt8))} {v2 : Value} {a3 : Int} {r : Bool} {w : World} {h : Heap} (hw : Know h w noS) (f0 : FrS h 1 v0 (a0.map e_string)) (f2 : FrS h 1 v2 (a2.map e_string)) (H : Law_listed_string a0 a1 a2 a3 = some r) : Does Tryd.prog 19 (List.toArray [v0, .int .i64 a1, v2, .int .i64 a3]) w (fun v w' => v = (.bool r) ∧ Grow w w') := by
  refine enter (n := 19) Tryd.func19 rfl rfl rfl noS [] (Sat.nil _ _) ?_
  refine c_seq ?_
  refine c_region ?_
  refine l_val rfl rfl rfl (r_assign (v := .bool false) rfl) ?_
  refine l_nil ?_
  refine c_meet (r := r) (σ := (List (List UInt8))) (τ := Value) (fun s => Law_listed_string_j1 a0 a1 a3 s) (fun s t => [(0, v0), (1, .int .i64 a1), (2, t), (3, .int .i64 a3)]) (fun s t => []) (fun s t => FrS h 1 t (s.map e_string)) ?_ ?_
  · refine c_seq ?_
    refine c_region ?_
    refine l_val rfl rfl rfl (r_move (v := .int .i64 a3) rfl) ?_
    refine l_val rfl rfl rfl (r_neq rfl rfl) ?_
    refine l_nil ?_
    refine c_if (b := (decide (a3 ≠ 0))) rfl (fun hb => ?_) (fun hb => ?_)
    · have H11 := cnd_t hb H; clear H
      refine c_region ?_
      refine l_val rfl rfl rfl (r_assign (v := .slice none 0 0) rfl) ?_
      refine l_nil ?_
      refine c_close ([] : (List (List UInt8))) (.slice none 0 0) 0 [] (by exact ⟨rfl, rfl, rfl, rfl, trivial⟩) (by decide) rfl (by exact ⟨H11, (FrS.nil _ _)⟩) (Nat.lt_succ_self _)
    · have H12 := cnd_f hb H; clear H
      refine c_skip ?_
      refine c_close a2 v2 0 [] (by exact ⟨rfl, rfl, rfl, rfl, trivial⟩) (by decide) rfl (by exact ⟨H12, f2⟩) (Nat.lt_succ_self _)
  · rintro x2 gv gg H7 gf
    replace H7 : Law_listed_string_j1 a0 a1 a3 x2 = some r := H7
    refine c_tidyF [(0, v0), (1, .int .i64 a1), (2, gv), (3, .int .i64 a3)] [] rfl rfl ?_
    refine c_seq ?_
    refine c_region ?_
    refine l_val rfl rfl rfl (r_move (v := v0) rfl) ?_
    refine l_val rfl rfl rfl (r_move (v := gv) rfl) ?_
    obtain ⟨t13, h_t13, H8⟩ := bnd_some H7; clear H7
    refine l_callG (fun w hF hS => k63 (know_all w) (f0.mono (hw.now hF)) (gf.mono (hw.now hF)) h_t13) Tryd.call63 rfl rfl rfl ?_
    refine l_val rfl rfl rfl (r_move (v := .bool t13) rfl) ?_
    refine split (fun hb => ?_) (fun hb => ?_)
    · have H9 := cnd_t hb H8; clear H8
      refine l_val rfl rfl rfl (r_move (v := .int .i64 a1) rfl) ?_
      refine l_val rfl rfl rfl (r_move (v := .int .i64 a3) rfl) ?_
      refine l_val rfl rfl rfl (r_eql rfl rfl) ?_
      refine l_val rfl rfl rfl (r_pickT (v := .bool (decide (a1 = a3))) rfl rfl) ?_
      refine l_val rfl rfl rfl (r_assign (v := .bool (decide (a1 = a3))) rfl) ?_
      refine l_nil ?_
      refine c_ret ?_
      obtain rfl := Option.some.inj H9
      refine ret1 (v := .bool (decide (a1 = a3))) rfl rfl (fin rfl)
    · have H10 := cnd_f hb H8; clear H8
      refine l_passed rfl rfl rfl ?_
      refine l_passed rfl rfl rfl ?_
      refine l_passed rfl rfl rfl ?_
      refine l_val rfl rfl rfl (r_pickF (v := .bool false) rfl rfl) ?_
      refine l_val rfl rfl rfl (r_assign (v := .bool false) rfl) ?_
      refine l_nil ?_
      refine c_ret ?_
      obtain rfl := Option.some.inj H10
      refine ret1 (v := .bool false) rfl rfl (fin rfl)
theorem k91 {a0 : (List UInt8)} {r : Bool} (H : where_IsName a0 = some r) : Ret Tryd.prog 91 [str a0] (.bool r) := by
  refine enterRet (n := 50) Tryd.func91 rfl rfl rfl (fun wd => ?_)
  refine c_seq ?_
  refine c_region ?_
  refine l_val rfl rfl rfl (r_assign (v := .bool false) rfl) ?_
  refine l_nil ?_
  refine c_seq ?_
  refine c_seq ?_
  refine c_region ?_
  refine l_val rfl rfl rfl (r_move (v := str a0) rfl) ?_
  refine l_val rfl rfl rfl (r_eqlT rfl rfl) ?_
  refine l_val rfl rfl rfl (r_move (v := .bool (decide (a0 = []))) rfl) ?_
  refine split (fun hb => ?_) (fun hb => ?_)
  · have H37 := cnd_t hb H; clear H
    refine l_passed rfl rfl rfl ?_
    refine l_passed rfl rfl rfl ?_
    refine l_passed rfl rfl rfl ?_
    refine l_val rfl rfl rfl (r_pickT (v := .bool true) rfl rfl) ?_
    refine l_val rfl rfl rfl (r_move (v := .bool true) rfl) ?_
    refine l_passed rfl rfl rfl ?_
    refine l_passed rfl rfl rfl ?_
    refine l_passed rfl rfl rfl ?_
    refine l_val rfl rfl rfl (r_pickT (v := .bool true) rfl rfl) ?_
    refine l_val rfl rfl rfl (r_move (v := .bool true) rfl) ?_
    refine l_passed rfl rfl rfl ?_
    refine l_passed rfl rfl rfl ?_
    refine l_passed rfl rfl rfl ?_
    refine l_val rfl rfl rfl (r_pickT (v := .bool true) rfl rfl) ?_
    refine l_nil ?_
    refine c_true rfl ?_
    refine c_seq ?_
    refine c_region ?_
    refine l_val rfl rfl rfl (r_assign (v := .bool false) rfl) ?_
    refine l_nil ?_
    refine c_ret ?_
    obtain rfl := Option.some.inj H37
    refine ret1 (v := .bool false) rfl rfl (fin rfl)
  · have H38 := cnd_f hb H; clear H
    refine l_val rfl rfl rfl (r_move (v := str a0) rfl) ?_
    refine l_val rfl rfl rfl (r_lenT Tryd.underlying9 rfl) ?_
    refine l_val rfl rfl rfl (r_gtr rfl rfl) ?_
    refine l_val rfl rfl rfl (r_pickF (v := .bool (decide (40 < (a0.length : Int)))) rfl rfl) ?_
    refine l_val rfl rfl rfl (r_move (v := .bool (decide (40 < (a0.length : Int)))) rfl) ?_
    refine split (fun hb => ?_) (fun hb => ?_)
    · have H39 := cnd_t hb H38; clear H38
      refine l_passed rfl rfl rfl ?_
      refine l_passed rfl rfl rfl ?_
      refine l_passed rfl rfl rfl ?_
      refine l_val rfl rfl rfl (r_pickT (v := .bool true) rfl rfl) ?_
      refine l_val rfl rfl rfl (r_move (v := .bool true) rfl) ?_
      refine l_passed rfl rfl rfl ?_
      refine l_passed rfl rfl rfl ?_
      refine l_passed rfl rfl rfl ?_
      refine l_val rfl rfl rfl (r_pickT (v := .bool true) rfl rfl) ?_
      refine l_nil ?_
      refine c_true rfl ?_
      refine c_seq ?_
      refine c_region ?_
      refine l_val rfl rfl rfl (r_assign (v := .bool false) rfl) ?_
      refine l_nil ?_
      refine c_ret ?_
      obtain rfl := Option.some.inj H39
      refine ret1 (v := .bool false) rfl rfl (fin rfl)
    · have H40 := cnd_f hb H38; clear H38
      refine l_val rfl rfl rfl (r_move (v := str a0) rfl) ?_
      obtain ⟨t14, h_t14, H41⟩ := bnd_some H40; clear H40
      refine l_val rfl rfl rfl (r_octG Tryd.underlying9 rfl rfl h_t14) ?_
      refine l_val rfl rfl rfl (r_lss rfl rfl) ?_
      refine l_val rfl rfl rfl (r_pickF (v := .bool (decide (t14 < 97))) rfl rfl) ?_
      refine l_val rfl rfl rfl (r_move (v := .bool (decide (t14 < 97))) rfl) ?_
      refine split (fun hb => ?_) (fun hb => ?_)
      · have H42 := cnd_t hb H41; clear H41
        refine l_passed rfl rfl rfl ?_
        refine l_passed rfl rfl rfl ?_
        refine l_passed rfl rfl rfl ?_
        refine l_val rfl rfl rfl (r_pickT (v := .bool true) rfl rfl) ?_
        refine l_nil ?_
        refine c_true rfl ?_
        refine c_seq ?_
        refine c_region ?_
        refine l_val rfl rfl rfl (r_assign (v := .bool false) rfl) ?_
        refine l_nil ?_
        refine c_ret ?_
        obtain rfl := Option.some.inj H42
        refine ret1 (v := .bool false) rfl rfl (fin rfl)
      · have H43 := cnd_f hb H41; clear H41
        refine l_val rfl rfl rfl (r_move (v := str a0) rfl) ?_
        obtain ⟨t19, h_t19, H44⟩ := bnd_some H43; clear H43
        refine l_val rfl rfl rfl (r_octG Tryd.underlying9 rfl rfl h_t19) ?_
        refine l_val rfl rfl rfl (r_gtr rfl rfl) ?_
        refine l_val rfl rfl rfl (r_pickF (v := .bool (decide (122 < t19))) rfl rfl) ?_
        refine l_nil ?_
        refine c_if (b := (decide (122 < t19))) rfl (fun hb => ?_) (fun hb => ?_)
        · have H45 := cnd_t hb H44; clear H44
          refine c_seq ?_
          refine c_region ?_
          refine l_val rfl rfl rfl (r_assign (v := .bool false) rfl) ?_
          refine l_nil ?_
          refine c_ret ?_
          obtain rfl := Option.some.inj H45
          refine ret1 (v := .bool false) rfl rfl (fin rfl)
        · have H46 := cnd_f hb H44; clear H44
          refine c_skip ?_
          refine c_seq ?_
          refine c_seq ?_
          refine c_region ?_
          refine l_val rfl rfl rfl (r_move (v := str a0) rfl) ?_
          refine l_val rfl rfl rfl (r_lenT Tryd.underlying9 rfl) ?_
          refine l_val rfl rfl rfl (r_move (v := .int .i64 0) rfl) ?_
          refine l_nil ?_
          refine c_block ?_
          refine c_fix (σ := Int) (τ := Unit) (fun next1 s => where_IsName_l1 a0 next1 s) (fun s t => [(0, str a0), (23, .int .i64 (a0.length : Int)), (24, .int .i64 s)]) (fun s t => []) (fun s t => True) 0 () [] H46 (by exact trivial) (by exact ⟨rfl, rfl, rfl, trivial⟩) (by decide) rfl ?_
          rintro x24_2 _ m1 gg H47 _
          clear H46
          replace H47 : where_IsName_l1 a0 (it (fun next1 s => where_IsName_l1 a0 next1 s) m1) x24_2 = some r := H47
          generalize hn1 : it (fun next1 s => where_IsName_l1 a0 next1 s) m1 = next1 at H47
          refine c_tidyF [(0, str a0), (23, .int .i64 (a0.length : Int)), (24, .int .i64 x24_2)] [] rfl rfl ?_
          refine c_seq ?_
          refine c_region ?_
          refine l_val rfl rfl rfl (r_lss rfl rfl) ?_
          refine l_nil ?_
          refine c_seq ?_
          refine c_if (b := (decide (x24_2 < (a0.length : Int)))) rfl (fun hb => ?_) (fun hb => ?_)
          · have H48 := cnd_t hb H47; clear H47
            refine c_skip ?_
            refine c_meet (r := r) (σ := Unit) (τ := Unit) (fun s => where_IsName_j2 x24_2 next1) (fun s t => [(0, str a0), (23, .int .i64 (a0.length : Int)), (24, .int .i64 x24_2)]) (fun s t => []) (fun s t => True) ?_ ?_
            · refine c_block ?_
              refine c_seq ?_
              refine c_region ?_
              refine l_val rfl rfl rfl (r_move (v := .int .i64 x24_2) rfl) ?_
              refine l_val rfl rfl rfl (r_assign (v := .int .i64 x24_2) rfl) ?_
              refine l_nil ?_
              refine c_seq ?_
              refine c_region ?_
              refine l_val rfl rfl rfl (r_move (v := str a0) rfl) ?_
              refine l_val rfl rfl rfl (r_move (v := .int .i64 x24_2) rfl) ?_
              obtain ⟨t29, h_t29, H51⟩ := bnd_some H48; clear H48
              refine l_val rfl rfl rfl (r_octG Tryd.underlying9 rfl rfl h_t29) ?_
              refine l_val rfl rfl rfl (r_assign (v := .int .u8 t29) rfl) ?_
              refine l_nil ?_
              refine c_seq ?_
              refine c_region ?_
              refine l_val rfl rfl rfl (r_move (v := .int .u8 t29) rfl) ?_
              refine l_val rfl rfl rfl (r_geq rfl rfl) ?_
              refine l_val rfl rfl rfl (r_move (v := .bool (decide (97 ≤ t29))) rfl) ?_
              refine split (fun hb => ?_) (fun hb => ?_)
              · have H52 := cnd_t hb H51; clear H51
                refine l_val rfl rfl rfl (r_move (v := .int .u8 t29) rfl) ?_
                refine l_val rfl rfl rfl (r_leq rfl rfl) ?_
                refine l_val rfl rfl rfl (r_pickT (v := .bool (decide (t29 ≤ 122))) rfl rfl) ?_
                refine l_val rfl rfl rfl (r_move (v := .bool (decide (t29 ≤ 122))) rfl) ?_
                refine split (fun hb => ?_) (fun hb => ?_)
                · have H53 := cnd_t hb H52; clear H52
                  refine l_passed rfl rfl rfl ?_
                  refine l_passed rfl rfl rfl ?_
                  refine l_passed rfl rfl rfl ?_
                  refine l_passed rfl rfl rfl ?_
                  refine l_passed rfl rfl rfl ?_
                  refine l_passed rfl rfl rfl ?_
                  refine l_val rfl rfl rfl (r_pickT (v := .bool true) rfl rfl) ?_
                  refine l_val rfl rfl rfl (r_move (v := .bool true) rfl) ?_
                  refine l_passed rfl rfl rfl ?_
                  refine l_passed rfl rfl rfl ?_
                  refine l_val rfl rfl rfl (r_pickT (v := .bool true) rfl rfl) ?_
                  refine l_val rfl rfl rfl (r_notT rfl) ?_
                  refine l_nil ?_
                  refine c_false rfl ?_
                  refine c_skip ?_
                  refine c_close () () 0 [] (by exact ⟨rfl, rfl, rfl, trivial⟩) (by decide) rfl (by exact ⟨H53, trivial⟩) (Nat.lt_succ_self _)
                · have H54 := cnd_f hb H52; clear H52
                  refine l_val rfl rfl rfl (r_move (v := .int .u8 t29) rfl) ?_
                  refine l_val rfl rfl rfl (r_geq rfl rfl) ?_
                  refine l_val rfl rfl rfl (r_move (v := .bool (decide (48 ≤ t29))) rfl) ?_
                  refine split (fun hb => ?_) (fun hb => ?_)
                  · have H55 := cnd_t hb H54; clear H54
                    refine l_val rfl rfl rfl (r_move (v := .int .u8 t29) rfl) ?_
                    refine l_val rfl rfl rfl (r_leq rfl rfl) ?_
                    refine l_val rfl rfl rfl (r_pickT (v := .bool (decide (t29 ≤ 57))) rfl rfl) ?_
                    refine l_val rfl rfl rfl (r_pickF (v := .bool (decide (t29 ≤ 57))) rfl rfl) ?_
                    refine l_val rfl rfl rfl (r_move (v := .bool (decide (t29 ≤ 57))) rfl) ?_
                    refine split (fun hb => ?_) (fun hb => ?_)
                    · have H56 := cnd_t hb H55; clear H55
                      refine l_passed rfl rfl rfl ?_
                      refine l_passed rfl rfl rfl ?_
                      refine l_val rfl rfl rfl (r_pickT (v := .bool true) rfl rfl) ?_
                      refine l_val rfl rfl rfl (r_notT rfl) ?_
                      refine l_nil ?_
                      refine c_false rfl ?_
                      refine c_skip ?_
                      refine c_close () () 0 [] (by exact ⟨rfl, rfl, rfl, trivial⟩) (by decide) rfl (by exact ⟨H56, trivial⟩) (Nat.lt_succ_self _)
                    · have H57 := cnd_f hb H55; clear H55
                      refine l_val rfl rfl rfl (r_move (v := .int .u8 t29) rfl) ?_
                      refine l_val rfl rfl rfl (r_eql rfl rfl) ?_
                      refine l_val rfl rfl rfl (r_pickF (v := .bool (decide (t29 = 45))) rfl rfl) ?_
                      refine l_val rfl rfl rfl (r_not rfl) ?_
                      refine l_nil ?_
                      refine c_if (b := (!(decide (t29 = 45)))) rfl (fun hb => ?_) (fun hb => ?_)
                      · have H58 := cnd_t hb H57; clear H57
                        refine c_seq ?_
                        refine c_region ?_
                        refine l_val rfl rfl rfl (r_assign (v := .bool false) rfl) ?_
                        refine l_nil ?_
                        refine c_ret ?_
                        obtain rfl := Option.some.inj H58
                        refine ret1 (v := .bool false) rfl rfl (fin rfl)
                      · have H59 := cnd_f hb H57; clear H57
                        refine c_skip ?_
                        refine c_close () () 0 [] (by exact ⟨rfl, rfl, rfl, trivial⟩) (by decide) rfl (by exact ⟨H59, trivial⟩) (Nat.lt_succ_self _)
                  · have H60 := cnd_f hb H54; clear H54
                    refine l_passed rfl rfl rfl ?_
                    refine l_passed rfl rfl rfl ?_
                    refine l_val rfl rfl rfl (r_pickF (v := .bool false) rfl rfl) ?_
                    refine l_val rfl rfl rfl (r_pickF (v := .bool false) rfl rfl) ?_
                    refine l_val rfl rfl rfl (r_move (v := .bool false) rfl) ?_
                    refine l_val rfl rfl rfl (r_move (v := .int .u8 t29) rfl) ?_
                    refine l_val rfl rfl rfl (r_eql rfl rfl) ?_
                    refine l_val rfl rfl rfl (r_pickF (v := .bool (decide (t29 = 45))) rfl rfl) ?_
                    refine l_val rfl rfl rfl (r_not rfl) ?_
                    refine l_nil ?_
                    refine c_if (b := (!(decide (t29 = 45)))) rfl (fun hb => ?_) (fun hb => ?_)
                    · have H61 := cnd_t hb H60; clear H60
                      refine c_seq ?_
                      refine c_region ?_
                      refine l_val rfl rfl rfl (r_assign (v := .bool false) rfl) ?_
                      refine l_nil ?_
                      refine c_ret ?_
                      obtain rfl := Option.some.inj H61
                      refine ret1 (v := .bool false) rfl rfl (fin rfl)
                    · have H62 := cnd_f hb H60; clear H60
                      refine c_skip ?_
                      refine c_close () () 0 [] (by exact ⟨rfl, rfl, rfl, trivial⟩) (by decide) rfl (by exact ⟨H62, trivial⟩) (Nat.lt_succ_self _)
              · have H63 := cnd_f hb H51; clear H51
                refine l_passed rfl rfl rfl ?_
                refine l_passed rfl rfl rfl ?_
                refine l_val rfl rfl rfl (r_pickF (v := .bool false) rfl rfl) ?_
                refine l_val rfl rfl rfl (r_move (v := .bool false) rfl) ?_
                refine l_val rfl rfl rfl (r_move (v := .int .u8 t29) rfl) ?_
                refine l_val rfl rfl rfl (r_geq rfl rfl) ?_
                refine l_val rfl rfl rfl (r_move (v := .bool (decide (48 ≤ t29))) rfl) ?_
                refine split (fun hb => ?_) (fun hb => ?_)
                · have H64 := cnd_t hb H63; clear H63
                  refine l_val rfl rfl rfl (r_move (v := .int .u8 t29) rfl) ?_
                  refine l_val rfl rfl rfl (r_leq rfl rfl) ?_
                  refine l_val rfl rfl rfl (r_pickT (v := .bool (decide (t29 ≤ 57))) rfl rfl) ?_
                  refine l_val rfl rfl rfl (r_pickF (v := .bool (decide (t29 ≤ 57))) rfl rfl) ?_
                  refine l_val rfl rfl rfl (r_move (v := .bool (decide (t29 ≤ 57))) rfl) ?_
                  refine split (fun hb => ?_) (fun hb => ?_)
                  · have H65 := cnd_t hb H64; clear H64
                    refine l_passed rfl rfl rfl ?_
                    refine l_passed rfl rfl rfl ?_
                    refine l_val rfl rfl rfl (r_pickT (v := .bool true) rfl rfl) ?_
                    refine l_val rfl rfl rfl (r_notT rfl) ?_
                    refine l_nil ?_
                    refine c_false rfl ?_
                    refine c_skip ?_
                    refine c_close () () 0 [] (by exact ⟨rfl, rfl, rfl, trivial⟩) (by decide) rfl (by exact ⟨H65, trivial⟩) (Nat.lt_succ_self _)
                  · have H66 := cnd_f hb H64; clear H64
                    refine l_val rfl rfl rfl (r_move (v := .int .u8 t29) rfl) ?_
                    refine l_val rfl rfl rfl (r_eql rfl rfl) ?_
                    refine l_val rfl rfl rfl (r_pickF (v := .bool (decide (t29 = 45))) rfl rfl) ?_
                    refine l_val rfl rfl rfl (r_not rfl) ?_
                    refine l_nil ?_
                    refine c_if (b := (!(decide (t29 = 45)))) rfl (fun hb => ?_) (fun hb => ?_)
                    · have H67 := cnd_t hb H66; clear H66
                      refine c_seq ?_
                      refine c_region ?_
                      refine l_val rfl rfl rfl (r_assign (v := .bool false) rfl) ?_
                      refine l_nil ?_
                      refine c_ret ?_
                      obtain rfl := Option.some.inj H67
                      refine ret1 (v := .bool false) rfl rfl (fin rfl)
                    · have H68 := cnd_f hb H66; clear H66
                      refine c_skip ?_
                      refine c_close () () 0 [] (by exact ⟨rfl, rfl, rfl, trivial⟩) (by decide) rfl (by exact ⟨H68, trivial⟩) (Nat.lt_succ_self _)
                · have H69 := cnd_f hb H63; clear H63
                  refine l_passed rfl rfl rfl ?_
                  refine l_passed rfl rfl rfl ?_
                  refine l_val rfl rfl rfl (r_pickF (v := .bool false) rfl rfl) ?_
                  refine l_val rfl rfl rfl (r_pickF (v := .bool false) rfl rfl) ?_
                  refine l_val rfl rfl rfl (r_move (v := .bool false) rfl) ?_
                  refine l_val rfl rfl rfl (r_move (v := .int .u8 t29) rfl) ?_
                  refine l_val rfl rfl rfl (r_eql rfl rfl) ?_
                  refine l_val rfl rfl rfl (r_pickF (v := .bool (decide (t29 = 45))) rfl rfl) ?_
                  refine l_val rfl rfl rfl (r_not rfl) ?_
                  refine l_nil ?_
                  refine c_if (b := (!(decide (t29 = 45)))) rfl (fun hb => ?_) (fun hb => ?_)
                  · have H70 := cnd_t hb H69; clear H69
                    refine c_seq ?_
                    refine c_region ?_
                    refine l_val rfl rfl rfl (r_assign (v := .bool false) rfl) ?_
                    refine l_nil ?_
                    refine c_ret ?_
                    obtain rfl := Option.some.inj H70
                    refine ret1 (v := .bool false) rfl rfl (fin rfl)
                  · have H71 := cnd_f hb H69; clear H69
                    refine c_skip ?_
                    refine c_close () () 0 [] (by exact ⟨rfl, rfl, rfl, trivial⟩) (by decide) rfl (by exact ⟨H71, trivial⟩) (Nat.lt_succ_self _)
            · rintro _ _ gg H49 _
              replace H49 : where_IsName_j2 x24_2 next1 = some r := H49
              refine c_tidyF [(0, str a0), (23, .int .i64 (a0.length : Int)), (24, .int .i64 x24_2)] [] rfl rfl ?_
              refine c_region ?_
              obtain ⟨t49, h_t49, H50⟩ := bnd_some H49; clear H49
              refine l_val rfl rfl rfl (r_addG rfl rfl h_t49) ?_
              refine l_val rfl rfl rfl (r_move (v := .int .i64 t49) rfl) ?_
              refine l_nil ?_
              refine c_close t49 () m1 [] (by exact ⟨rfl, rfl, rfl, trivial⟩) (by decide) rfl (by exact ⟨(by subst hn1; exact H50), trivial⟩) (Nat.lt_succ_self _)
          · have H72 := cnd_f hb H47; clear H47
            refine c_exit ?_
            refine c_seq ?_
            refine c_region ?_
            refine l_val rfl rfl rfl (r_assign (v := .bool true) rfl) ?_
            refine l_nil ?_
            refine c_ret ?_
            obtain rfl := Option.some.inj H72
            refine ret1 (v := .bool true) rfl rfl (fin rfl)
theorem k92 {a0 : Int} {a1 : Int} {a2 : Int} {r : Bool} (H : where_outside a0 a1 a2 = some r) : Ret Tryd.prog 92 [.int .i64 a0, .int .i64 a1, .int .i64 a2] (.bool r) := by
  refine enterRet (n := 15) Tryd.func92 rfl rfl rfl (fun wd => ?_)
  refine c_seq ?_
  refine c_region ?_
  refine l_val rfl rfl rfl (r_assign (v := .bool false) rfl) ?_
  refine l_nil ?_
  refine c_seq ?_
  refine c_region ?_
  refine l_val rfl rfl rfl (r_move (v := .int .i64 a0) rfl) ?_
  refine l_val rfl rfl rfl (r_move (v := .int .i64 a1) rfl) ?_
  refine l_val rfl rfl rfl (r_lss rfl rfl) ?_
  refine l_val rfl rfl rfl (r_move (v := .bool (decide (a0 < a1))) rfl) ?_
  refine split (fun hb => ?_) (fun hb => ?_)
  · have H3 := cnd_t hb H; clear H
    refine l_passed rfl rfl rfl ?_
    refine l_passed rfl rfl rfl ?_
    refine l_passed rfl rfl rfl ?_
    refine l_val rfl rfl rfl (r_pickT (v := .bool true) rfl rfl) ?_
    refine l_val rfl rfl rfl (r_assign (v := .bool true) rfl) ?_
    refine l_nil ?_
    refine c_ret ?_
    obtain rfl := Option.some.inj H3
    refine ret1 (v := .bool true) rfl rfl (fin rfl)
  · have H4 := cnd_f hb H; clear H
    refine l_val rfl rfl rfl (r_move (v := .int .i64 a0) rfl) ?_
    refine l_val rfl rfl rfl (r_move (v := .int .i64 a2) rfl) ?_
    refine l_val rfl rfl rfl (r_gtr rfl rfl) ?_
    refine l_val rfl rfl rfl (r_pickF (v := .bool (decide (a2 < a0))) rfl rfl) ?_
    refine l_val rfl rfl rfl (r_assign (v := .bool (decide (a2 < a0))) rfl) ?_
    refine l_nil ?_
    refine c_ret ?_
    obtain rfl := Option.some.inj H4
    refine ret1 (v := .bool (decide (a2 < a0))) rfl rfl (fin rfl)
theorem k133 {a0 : Int} {r : Bool} (H : where_isLat a0 = some r) : Ret Tryd.prog 133 [.int .i64 a0] (.bool r) := by
  refine enterRet (n := 6) Tryd.func133 rfl rfl rfl (fun wd => ?_)
  refine c_seq ?_
  refine c_region ?_
  refine l_val rfl rfl rfl (r_assign (v := .bool false) rfl) ?_
  refine l_nil ?_
  refine c_seq ?_
  refine c_region ?_
  refine l_val rfl rfl rfl (r_move (v := .int .i64 a0) rfl) ?_
  obtain ⟨t4, h_t4, H2⟩ := bnd_some H; clear H
  refine l_call (k92 h_t4) Tryd.call92 rfl rfl rfl ?_
  refine l_val rfl rfl rfl (r_not rfl) ?_
  refine l_val rfl rfl rfl (r_assign (v := .bool (!t4)) rfl) ?_
  refine l_nil ?_
  refine c_ret ?_
  obtain rfl := Option.some.inj H2
  refine ret1 (v := .bool (!t4)) rfl rfl (fin rfl)
theorem k134 {a0 : Int} {r : Bool} (H : where_isLon a0 = some r) : Ret Tryd.prog 134 [.int .i64 a0] (.bool r) := by
  refine enterRet (n := 6) Tryd.func134 rfl rfl rfl (fun wd => ?_)
  refine c_seq ?_
  refine c_region ?_
  refine l_val rfl rfl rfl (r_assign (v := .bool false) rfl) ?_
  refine l_nil ?_
  refine c_seq ?_
  refine c_region ?_
  refine l_val rfl rfl rfl (r_move (v := .int .i64 a0) rfl) ?_
  obtain ⟨t4, h_t4, H2⟩ := bnd_some H; clear H
  refine l_call (k92 h_t4) Tryd.call92 rfl rfl rfl ?_
  refine l_val rfl rfl rfl (r_not rfl) ?_
  refine l_val rfl rfl rfl (r_assign (v := .bool (!t4)) rfl) ?_
  refine l_nil ?_
  refine c_ret ?_
  obtain rfl := Option.some.inj H2
  refine ret1 (v := .bool (!t4)) rfl rfl (fin rfl)
theorem k87 {a0 : T_api_Place} {r : Int} (H : where_CheckPlace a0 = some r) : Ret Tryd.prog 87 [.agg #[.int .i64 a0.Lat, .int .i64 a0.Lon]] (.int .i64 r) := by
  refine enterRet (n := 13) Tryd.func87 rfl rfl rfl (fun wd => ?_)
  refine c_seq ?_
  refine c_region ?_
  refine l_box (cs := [.int .i64 a0.Lat, .int .i64 a0.Lon]) rfl rfl rfl rfl (fun b1 => ?_)
  refine l_val rfl rfl rfl (r_assign (v := .int .i64 0) rfl) ?_
  refine l_nil ?_
  refine c_seq ?_
  refine c_seq ?_
  refine c_region ?_
  refine l_val rfl rfl rfl (r_field Tryd.runUnderlying68 rfl Tryd.sizeOf3 rfl rfl) ?_
  refine l_load1 (i := 0) (v := .int .i64 a0.Lat) Tryd.isAgg3 rfl rfl rfl rfl rfl ?_
  obtain ⟨t5, h_t5, H7⟩ := bnd_some H; clear H
  refine l_call (k133 h_t5) Tryd.call133 rfl rfl rfl ?_
  refine l_val rfl rfl rfl (r_not rfl) ?_
  refine l_val rfl rfl rfl (r_move (v := .bool (!t5)) rfl) ?_
  refine split (fun hb => ?_) (fun hb => ?_)
  · have H8 := cnd_t hb H7; clear H7
    refine l_passed rfl rfl rfl ?_
    refine l_passed rfl rfl rfl ?_
    refine l_passed rfl rfl rfl ?_
    refine l_passed rfl rfl rfl ?_
    refine l_val rfl rfl rfl (r_pickT (v := .bool true) rfl rfl) ?_
    refine l_nil ?_
    refine c_true rfl ?_
    refine c_seq ?_
    refine c_region ?_
    refine l_val rfl rfl rfl (r_assign (v := .int .i64 2) rfl) ?_
    refine l_nil ?_
    refine c_ret ?_
    obtain rfl := Option.some.inj H8
    refine ret1 (v := .int .i64 2) rfl rfl (fin rfl)
  · have H9 := cnd_f hb H7; clear H7
    refine l_val rfl rfl rfl (r_field Tryd.runUnderlying68 rfl Tryd.sizeOf3 rfl rfl) ?_
    refine l_load1 (i := 0) (v := .int .i64 a0.Lon) Tryd.isAgg3 rfl rfl rfl rfl rfl ?_
    obtain ⟨t10, h_t10, H10⟩ := bnd_some H9; clear H9
    refine l_call (k134 h_t10) Tryd.call134 rfl rfl rfl ?_
    refine l_val rfl rfl rfl (r_not rfl) ?_
    refine l_val rfl rfl rfl (r_pickF (v := .bool (!t10)) rfl rfl) ?_
    refine l_nil ?_
    refine c_if (b := (!t10)) rfl (fun hb => ?_) (fun hb => ?_)
    · have H11 := cnd_t hb H10; clear H10
      refine c_seq ?_
      refine c_region ?_
      refine l_val rfl rfl rfl (r_assign (v := .int .i64 2) rfl) ?_
      refine l_nil ?_
      refine c_ret ?_
      obtain rfl := Option.some.inj H11
      refine ret1 (v := .int .i64 2) rfl rfl (fin rfl)
    · have H12 := cnd_f hb H10; clear H10
      refine c_skip ?_
      refine c_seq ?_
      refine c_region ?_
      refine l_val rfl rfl rfl (r_assign (v := .int .i64 0) rfl) ?_
      refine l_nil ?_
      refine c_ret ?_
      obtain rfl := Option.some.inj H12
      refine ret1 (v := .int .i64 0) rfl rfl (fin rfl)
theorem k93 {a0 : (List T_api_Place)} {v0 : Value} {r : Int} {w : World} {h : Heap} (hw : Know h w noS) (f0 : FrS h 2 v0 (a0.map e_api_Place)) (H : where_checkPlaces a0 = some r) : Does Tryd.prog 93 (List.toArray [v0]) w (fun v w' => v = (.int .i64 r) ∧ Grow w w') := by
  refine enter (n := 18) Tryd.func93 rfl rfl rfl noS [] (Sat.nil _ _) ?_
  refine c_seq ?_
  refine c_region ?_
  refine l_val rfl rfl rfl (r_assign (v := .int .i64 0) rfl) ?_
  refine l_nil ?_
  refine c_seq ?_
  refine c_seq ?_
  refine c_region ?_
  refine l_val rfl rfl rfl (r_move (v := v0) rfl) ?_
  refine l_val rfl rfl rfl (r_lenF Tryd.underlying58 rfl f0 rfl) ?_
  refine l_val rfl rfl rfl (r_move (v := .int .i64 0) rfl) ?_
  refine l_nil ?_
  refine c_block ?_
  refine c_fix (σ := Int) (τ := Unit) (fun next1 s => where_checkPlaces_l1 a0 next1 s) (fun s t => [(6, v0), (7, .int .i64 (a0.length : Int)), (8, .int .i64 s)]) (fun s t => []) (fun s t => True) 0 () [] H (by exact trivial) (by exact ⟨rfl, rfl, rfl, trivial⟩) (by decide) rfl ?_
  rintro x8_2 _ m1 gg H9 _
  clear H
  replace H9 : where_checkPlaces_l1 a0 (it (fun next1 s => where_checkPlaces_l1 a0 next1 s) m1) x8_2 = some r := H9
  generalize hn1 : it (fun next1 s => where_checkPlaces_l1 a0 next1 s) m1 = next1 at H9
  refine c_tidyF [(6, v0), (7, .int .i64 (a0.length : Int)), (8, .int .i64 x8_2)] [] rfl rfl ?_
  refine c_seq ?_
  refine c_region ?_
  refine l_val rfl rfl rfl (r_lss rfl rfl) ?_
  refine l_nil ?_
  refine c_seq ?_
  refine c_if (b := (decide (x8_2 < (a0.length : Int)))) rfl (fun hb => ?_) (fun hb => ?_)
  · have H10 := cnd_t hb H9; clear H9
    refine c_skip ?_
    refine c_seq ?_
    refine c_block ?_
    refine c_seq ?_
    refine c_region ?_
    obtain ⟨t10, h_t10, H11⟩ := bnd_some H10; clear H10
    refine l_val rfl rfl rfl (r_indexF Tryd.underlying58 Tryd.sizeOf68 rfl rfl f0 h_t10) ?_
    refine l_read (fun w hF hS => run_loadGN (f := e_api_Place) (i := x8_2) (sz := 2) (j := 0) (vs := [.int .i64 t10.Lat, .int .i64 t10.Lon]) Tryd.isAgg68 Tryd.sizeOf68 rfl rfl (f0.row (hw.now hF)) h_t10 rfl) rfl rfl rfl ?_
    refine l_alloc (cs := [.int .i64 0, .int .i64 0]) Tryd.zeroValue68 rfl rfl rfl (fun b1 => ?_)
    refine l_store (i := 0) (vs := [.int .i64 t10.Lat, .int .i64 t10.Lon]) (cs' := [.int .i64 t10.Lat, .int .i64 t10.Lon]) Tryd.sizeOf68 rfl rfl rfl rfl rfl rfl rfl rfl rfl ?_
    refine l_nil ?_
    refine c_seq ?_
    refine c_region ?_
    refine l_loadN (i := 0) (vs := [.int .i64 t10.Lat, .int .i64 t10.Lon]) Tryd.isAgg68 Tryd.sizeOf68 rfl rfl rfl rfl rfl ?_
    obtain ⟨t13, h_t13, H12⟩ := bnd_some H11; clear H11
    refine l_call (k87 h_t13) Tryd.call87 rfl rfl rfl ?_
    refine l_val rfl rfl rfl (r_assign (v := .int .i64 t13) rfl) ?_
    refine l_nil ?_
    refine c_seq ?_
    refine c_region ?_
    refine l_val rfl rfl rfl (r_move (v := .int .i64 t13) rfl) ?_
    refine l_val rfl rfl rfl (r_neq rfl rfl) ?_
    refine l_nil ?_
    refine c_if (b := (decide (t13 ≠ 0))) rfl (fun hb => ?_) (fun hb => ?_)
    · have H13 := cnd_t hb H12; clear H12
      refine c_seq ?_
      refine c_region ?_
      refine l_val rfl rfl rfl (r_move (v := .int .i64 t13) rfl) ?_
      refine l_val rfl rfl rfl (r_assign (v := .int .i64 t13) rfl) ?_
      refine l_nil ?_
      refine c_ret ?_
      obtain rfl := Option.some.inj H13
      refine ret1 (v := .int .i64 t13) rfl rfl (fin rfl)
    · have H14 := cnd_f hb H12; clear H12
      refine c_skip ?_
      refine c_region ?_
      obtain ⟨t17, h_t17, H15⟩ := bnd_some H14; clear H14
      refine l_val rfl rfl rfl (r_addG rfl rfl h_t17) ?_
      refine l_val rfl rfl rfl (r_move (v := .int .i64 t17) rfl) ?_
      refine l_nil ?_
      refine c_close t17 () m1 [] (by exact ⟨rfl, rfl, rfl, trivial⟩) (by decide) rfl (by exact ⟨(by subst hn1; exact H15), trivial⟩) (Nat.lt_succ_self _)
  · have H16 := cnd_f hb H9; clear H9
    refine c_exit ?_
    refine c_seq ?_
    refine c_region ?_
    refine l_val rfl rfl rfl (r_assign (v := .int .i64 0) rfl) ?_
    refine l_nil ?_
    refine c_ret ?_
    obtain rfl := Option.some.inj H16
    refine ret1 (v := .int .i64 0) rfl rfl (fin rfl)
theorem k39 {a0 : T_where_Area} {v0_1 : Value} {r : Int} {w : World} {h : Heap} (hw : Know h w noS) (f0_1 : FrS h 2 v0_1 (a0.Ring.map e_api_Place)) (H : where_CheckArea a0 = some r) : Does Tryd.prog 39 (List.toArray [.agg #[str a0.Name, v0_1]]) w (fun v w' => v = (.int .i64 r) ∧ Grow w w') := by
  refine enter (n := 14) Tryd.func39 rfl rfl rfl noS [] (Sat.nil _ _) ?_
  refine c_seq ?_
  refine c_region ?_
  refine l_box (cs := [str a0.Name, v0_1]) rfl rfl rfl rfl (fun b1 => ?_)
  refine l_val rfl rfl rfl (r_assign (v := .int .i64 0) rfl) ?_
  refine l_nil ?_
  refine c_seq ?_
  refine c_seq ?_
  refine c_region ?_
  refine l_val rfl rfl rfl (r_field Tryd.runUnderlying74 rfl Tryd.sizeOf9 rfl rfl) ?_
  refine l_load1 (i := 0) (v := str a0.Name) Tryd.isAgg9 rfl rfl rfl rfl rfl ?_
  obtain ⟨t5, h_t5, H8⟩ := bnd_some H; clear H
  refine l_call (k91 h_t5) Tryd.call91 rfl rfl rfl ?_
  refine l_val rfl rfl rfl (r_not rfl) ?_
  refine l_nil ?_
  refine c_if (b := (!t5)) rfl (fun hb => ?_) (fun hb => ?_)
  · have H9 := cnd_t hb H8; clear H8
    refine c_seq ?_
    refine c_region ?_
    refine l_val rfl rfl rfl (r_assign (v := .int .i64 3) rfl) ?_
    refine l_nil ?_
    refine c_ret ?_
    obtain rfl := Option.some.inj H9
    refine ret1 (v := .int .i64 3) rfl rfl (fin rfl)
  · have H10 := cnd_f hb H8; clear H8
    refine c_skip ?_
    refine c_seq ?_
    refine c_seq ?_
    refine c_region ?_
    refine l_val rfl rfl rfl (r_field Tryd.runUnderlying74 rfl Tryd.sizeOf58 rfl rfl) ?_
    refine l_load1 (i := 0) (v := v0_1) Tryd.isAgg58 rfl rfl rfl rfl rfl ?_
    refine l_val rfl rfl rfl (r_lenF Tryd.underlying58 rfl f0_1 rfl) ?_
    obtain ⟨t10, h_t10, H11⟩ := bnd_some H10; clear H10
    refine l_call (k92 h_t10) Tryd.call92 rfl rfl rfl ?_
    refine l_nil ?_
    refine c_if (b := t10) rfl (fun hb => ?_) (fun hb => ?_)
    · have H12 := cnd_t hb H11; clear H11
      refine c_seq ?_
      refine c_region ?_
      refine l_val rfl rfl rfl (r_assign (v := .int .i64 1) rfl) ?_
      refine l_nil ?_
      refine c_ret ?_
      obtain rfl := Option.some.inj H12
      refine ret1 (v := .int .i64 1) rfl rfl (fin rfl)
    · have H13 := cnd_f hb H11; clear H11
      refine c_skip ?_
      refine c_seq ?_
      refine c_region ?_
      refine l_val rfl rfl rfl (r_field Tryd.runUnderlying74 rfl Tryd.sizeOf58 rfl rfl) ?_
      refine l_load1 (i := 0) (v := v0_1) Tryd.isAgg58 rfl rfl rfl rfl rfl ?_
      obtain ⟨t13, h_t13, H14⟩ := bnd_some H13; clear H13
      refine l_callG (fun w hF hS => k93 (know_all w) (f0_1.mono (hw.now hF)) h_t13) Tryd.call93 rfl rfl rfl ?_
      refine l_val rfl rfl rfl (r_assign (v := .int .i64 t13) rfl) ?_
      refine l_nil ?_
      refine c_ret ?_
      obtain rfl := Option.some.inj H14
      refine ret1 (v := .int .i64 t13) rfl rfl (fin rfl)
theorem k43 {a0 : (List (List UInt8))} {p0 : Option Addr × Nat} {n0 : Nat} {r : (List (List UInt8))} {w : World} {h : Heap} {S : Nat → Prop} (hcs : (rowV 9 1 (.slice p0.1 n0 p0.2) n0 (a0.map e_string)).P S w) (hlt : ∀ b, S b → b < w.heap.size) (_ : Know h w S) (hn0 : n0 = a0.length) (H : gSortS a0 = some r) : Does Tryd.prog 43 (List.toArray [.slice p0.1 n0 p0.2]) w (fun v w' => ∃ x : Unit, v = (.tuple #[]) ∧ Turn w w' S (rowV 9 1 (.slice p0.1 n0 p0.2) n0 (r.map e_string))) :=
  sort_strs (ρ := Go.Proofs.Tryd.lays190_ren) Go.Proofs.Tryd.lays190 hcs hlt hn0 H

theorem k44 {a0 : List (List UInt8)} {p0 : Option Addr × Nat} {n0 : Nat} {r : List (List UInt8)} {w : World} {h : Heap} {S : Nat → Prop} (hcs : (rowV 9 1 (.slice p0.1 n0 p0.2) n0 (a0.map e_string)).P S w) (hlt : ∀ b, S b → b < w.heap.size) (_ : Know h w S) (hn0 : n0 = a0.length) (H : gCmpS a0 = some r) : Does Tryd.prog 44 (List.toArray [.slice p0.1 n0 p0.2]) w (fun v w' => ∃ x : (Option Addr × Nat), v = (.slice x.1 r.length x.2) ∧ Turn w w' S (rowV 9 1 (.slice x.1 r.length x.2) r.length (r.map e_string))) :=
  compact_strs (ρ := Go.Proofs.Tryd.lays194_ren) Go.Proofs.Tryd.lays194 hcs hlt hn0 H

theorem k58 {a : Option Addr} {n c : Nat} (hc : n ≤ c) : Ret Tryd.prog 58 [.slice a n c] (.slice (cutA a 0 n 1) n n) := by
  refine enterRet (n := 9) Tryd.func58 rfl rfl rfl (fun wd => ?_)
  refine c_seq ?_
  refine c_region ?_
  refine l_val rfl rfl rfl (r_assign (v := .slice none 0 0) rfl) ?_
  refine l_nil ?_
  refine c_seq ?_
  refine c_region ?_
  refine l_val rfl rfl rfl (r_move (v := .slice a n c) rfl) ?_
  refine l_val rfl rfl rfl (r_move (v := .slice a n c) rfl) ?_
  refine l_val rfl rfl rfl (r_len Tryd.underlying28 rfl) ?_
  refine l_val rfl rfl rfl (r_move (v := .slice a n c) rfl) ?_
  refine l_val rfl rfl rfl (r_len Tryd.underlying28 rfl) ?_
  refine l_val rfl rfl rfl (r_sliceHM (a := a) (m := n) (c := c) (h := (n : Int)) (q := (n : Int)) Tryd.underlying28 Tryd.sizeOf9 rfl rfl rfl (Int.natCast_nonneg n) (Int.le_refl _) (Int.ofNat_le.2 hc)) ?_
  refine l_val rfl rfl rfl (r_assign (v := .slice (cutA a 0 n 1) n n) rfl) ?_
  refine l_nil ?_
  refine c_ret ?_
  exact ret1 (v := .slice (cutA a 0 n 1) n n) rfl rfl (fin rfl)

theorem k175 {a0 : Int} {a1 : Int} {r : Int} (H : where_eastward a0 a1 = some r) : Ret Tryd.prog 175 [.int .i64 a0, .int .i64 a1] (.int .i64 r) := by
  refine enterRet (n := 11) Tryd.func175 rfl rfl rfl (fun wd => ?_)
  refine c_seq ?_
  refine c_region ?_
  refine l_val rfl rfl rfl (r_assign (v := .int .i64 0) rfl) ?_
  refine l_nil ?_
  refine c_seq ?_
  refine c_region ?_
  refine l_val rfl rfl rfl (r_move (v := .int .i64 a1) rfl) ?_
  refine l_val rfl rfl rfl (r_move (v := .int .i64 a0) rfl) ?_
  obtain ⟨t7, h_t7, H5⟩ := bnd_some H; clear H
  refine l_val rfl rfl rfl (r_subG rfl rfl h_t7) ?_
  obtain ⟨t8, h_t8, H6⟩ := bnd_some H5; clear H5
  refine l_val rfl rfl rfl (r_remG rfl rfl h_t8) ?_
  obtain ⟨t9, h_t9, H7⟩ := bnd_some H6; clear H6
  refine l_val rfl rfl rfl (r_addG rfl rfl h_t9) ?_
  obtain ⟨t10, h_t10, H8⟩ := bnd_some H7; clear H7
  refine l_val rfl rfl rfl (r_remG rfl rfl h_t10) ?_
  refine l_val rfl rfl rfl (r_assign (v := .int .i64 t10) rfl) ?_
  refine l_nil ?_
  refine c_ret ?_
  obtain rfl := Option.some.inj H8
  refine ret1 (v := .int .i64 t10) rfl rfl (fin rfl)
theorem k135 {a0 : Int} {a1 : Int} {r : Int} (H : where_short a0 a1 = some r) : Ret Tryd.prog 135 [.int .i64 a0, .int .i64 a1] (.int .i64 r) := by
  refine enterRet (n := 14) Tryd.func135 rfl rfl rfl (fun wd => ?_)
  refine c_seq ?_
  refine c_region ?_
  refine l_val rfl rfl rfl (r_assign (v := .int .i64 0) rfl) ?_
  refine l_nil ?_
  refine c_seq ?_
  refine c_region ?_
  refine l_val rfl rfl rfl (r_move (v := .int .i64 a0) rfl) ?_
  refine l_val rfl rfl rfl (r_move (v := .int .i64 a1) rfl) ?_
  obtain ⟨t8, h_t8, H5⟩ := bnd_some H; clear H
  refine l_call (k175 h_t8) Tryd.call175 rfl rfl rfl ?_
  refine l_val rfl rfl rfl (r_assign (v := .int .i64 t8) rfl) ?_
  refine l_nil ?_
  refine c_seq ?_
  refine c_seq ?_
  refine c_region ?_
  refine l_val rfl rfl rfl (r_move (v := .int .i64 t8) rfl) ?_
  refine l_val rfl rfl rfl (r_geq rfl rfl) ?_
  refine l_nil ?_
  refine c_if (b := (decide (180000000 ≤ t8))) rfl (fun hb => ?_) (fun hb => ?_)
  · have H6 := cnd_t hb H5; clear H5
    refine c_region ?_
    refine l_val rfl rfl rfl (r_move (v := .int .i64 t8) rfl) ?_
    obtain ⟨t12, h_t12, H7⟩ := bnd_some H6; clear H6
    refine l_val rfl rfl rfl (r_subG rfl rfl h_t12) ?_
    refine l_val rfl rfl rfl (r_assign (v := .int .i64 t12) rfl) ?_
    refine l_nil ?_
    refine c_seq ?_
    refine c_region ?_
    refine l_val rfl rfl rfl (r_move (v := .int .i64 t12) rfl) ?_
    refine l_val rfl rfl rfl (r_assign (v := .int .i64 t12) rfl) ?_
    refine l_nil ?_
    refine c_ret ?_
    obtain rfl := Option.some.inj H7
    refine ret1 (v := .int .i64 t12) rfl rfl (fin rfl)
  · have H8 := cnd_f hb H5; clear H5
    refine c_skip ?_
    refine c_seq ?_
    refine c_region ?_
    refine l_val rfl rfl rfl (r_move (v := .int .i64 t8) rfl) ?_
    refine l_val rfl rfl rfl (r_assign (v := .int .i64 t8) rfl) ?_
    refine l_nil ?_
    refine c_ret ?_
    obtain rfl := Option.some.inj H8
    refine ret1 (v := .int .i64 t8) rfl rfl (fin rfl)
theorem k88 {a0 : T_where_Area} {v0_1 : Value} {a1 : T_api_Place} {r : Bool} {w : World} {h : Heap} (hw : Know h w noS) (f0_1 : FrS h 2 v0_1 (a0.Ring.map e_api_Place)) (H : where_within a0 a1 = some r) : Does Tryd.prog 88 (List.toArray [.agg #[str a0.Name, v0_1], .agg #[.int .i64 a1.Lat, .int .i64 a1.Lon]]) w (fun v w' => v = (.bool r) ∧ Grow w w') := by
  refine enter (n := 109) Tryd.func88 rfl rfl rfl noS [] (Sat.nil _ _) ?_
  refine c_seq ?_
  refine c_region ?_
  refine l_box (cs := [str a0.Name, v0_1]) rfl rfl rfl rfl (fun b4 => ?_)
  refine l_box (cs := [.int .i64 a1.Lat, .int .i64 a1.Lon]) rfl rfl rfl rfl (fun b5 => ?_)
  refine l_val rfl rfl rfl (r_assign (v := .bool false) rfl) ?_
  refine l_nil ?_
  refine c_seq ?_
  refine c_region ?_
  refine l_val rfl rfl rfl (r_assign (v := .bool false) rfl) ?_
  refine l_nil ?_
  refine c_seq ?_
  refine c_region ?_
  refine l_val rfl rfl rfl (r_field Tryd.runUnderlying74 rfl Tryd.sizeOf58 rfl rfl) ?_
  refine l_load1 (i := 0) (v := v0_1) Tryd.isAgg58 rfl rfl rfl rfl rfl ?_
  obtain ⟨t17, h_t17, H35⟩ := bnd_some H; clear H
  refine l_val rfl rfl rfl (r_indexF Tryd.underlying58 Tryd.sizeOf68 rfl rfl f0_1 h_t17) ?_
  refine l_val rfl rfl rfl (r_fieldP Tryd.runUnderlying68 rfl Tryd.sizeOf3 rfl rfl (some_of_at f0_1 h_t17)) ?_
  refine l_read (fun w hF hS => run_loadG1 (f := e_api_Place) (i := 0) (sz := 2) (j := 1) (v := .int .i64 t17.Lon) Tryd.isAgg3 rfl rfl (f0_1.row (hw.now hF)) h_t17 rfl) rfl rfl rfl ?_
  refine l_val rfl rfl rfl (r_assign (v := .int .i64 t17.Lon) rfl) ?_
  refine l_nil ?_
  refine c_seq ?_
  refine c_region ?_
  refine l_val rfl rfl rfl (r_move (v := .int .i64 t17.Lon) rfl) ?_
  refine l_val rfl rfl rfl (r_field Tryd.runUnderlying68 rfl Tryd.sizeOf3 rfl rfl) ?_
  refine l_load1 (i := 1) (v := .int .i64 a1.Lon) Tryd.isAgg3 rfl rfl rfl rfl rfl ?_
  obtain ⟨t23, h_t23, H36⟩ := bnd_some H35; clear H35
  refine l_call (k135 h_t23) Tryd.call135 rfl rfl rfl ?_
  refine l_val rfl rfl rfl (r_assign (v := .int .i64 t23) rfl) ?_
  refine l_nil ?_
  refine c_seq ?_
  refine c_seq ?_
  refine c_region ?_
  refine l_val rfl rfl rfl (r_field Tryd.runUnderlying74 rfl Tryd.sizeOf58 rfl rfl) ?_
  refine l_load1 (i := 0) (v := v0_1) Tryd.isAgg58 rfl rfl rfl rfl rfl ?_
  refine l_val rfl rfl rfl (r_lenF Tryd.underlying58 rfl f0_1 rfl) ?_
  refine l_val rfl rfl rfl (r_move (v := .int .i64 0) rfl) ?_
  refine l_nil ?_
  refine c_block ?_
  refine c_fix (σ := Bool × Int) (τ := Unit) (fun next1 s => where_within_l1 a0 a1 t17 t23 next1 s.1 s.2) (fun s t => [(2, .pointer (some ⟨b4, 0, none⟩)), (3, .pointer (some ⟨b5, 0, none⟩)), (5, .bool s.1), (6, .int .i64 t17.Lon), (7, .int .i64 t23), (25, v0_1), (26, .int .i64 (a0.Ring.length : Int)), (27, .int .i64 s.2)]) (fun s t => [cellsC b4 [str a0.Name, v0_1] 74, cellsC b5 [.int .i64 a1.Lat, .int .i64 a1.Lon] 68]) (fun s t => True) (false, 0) () [0, 1] H36 (by exact trivial) (by exact ⟨rfl, rfl, rfl, rfl, rfl, rfl, rfl, rfl, trivial⟩) (by decide) rfl ?_
  rintro ⟨x5_2, x27_2⟩ _ m1 gg H37 _
  clear H36
  replace H37 : where_within_l1 a0 a1 t17 t23 (it (fun next1 s => where_within_l1 a0 a1 t17 t23 next1 s.1 s.2) m1) x5_2 x27_2 = some r := H37
  generalize hn1 : it (fun next1 s => where_within_l1 a0 a1 t17 t23 next1 s.1 s.2) m1 = next1 at H37
  refine c_tidyF [(2, .pointer (some ⟨b4, 0, none⟩)), (3, .pointer (some ⟨b5, 0, none⟩)), (5, .bool x5_2), (6, .int .i64 t17.Lon), (7, .int .i64 t23), (25, v0_1), (26, .int .i64 (a0.Ring.length : Int)), (27, .int .i64 x27_2)] [cellsC b4 [str a0.Name, v0_1] 74, cellsC b5 [.int .i64 a1.Lat, .int .i64 a1.Lon] 68] rfl rfl ?_
  refine c_seq ?_
  refine c_region ?_
  refine l_val rfl rfl rfl (r_lss rfl rfl) ?_
  refine l_nil ?_
  refine c_seq ?_
  refine c_if (b := (decide (x27_2 < (a0.Ring.length : Int)))) rfl (fun hb => ?_) (fun hb => ?_)
  · have H38 := cnd_t hb H37; clear H37
    refine c_skip ?_
    refine c_meet (r := r) (σ := Bool) (τ := Unit) (fun s => where_within_j2 x27_2 next1 s) (fun s t => [(2, .pointer (some ⟨b4, 0, none⟩)), (3, .pointer (some ⟨b5, 0, none⟩)), (5, .bool s), (6, .int .i64 t17.Lon), (7, .int .i64 t23), (25, v0_1), (26, .int .i64 (a0.Ring.length : Int)), (27, .int .i64 x27_2)]) (fun s t => [cellsC b4 [str a0.Name, v0_1] 74, cellsC b5 [.int .i64 a1.Lat, .int .i64 a1.Lon] 68]) (fun s t => True) ?_ ?_
    · refine c_block ?_
      refine c_seq ?_
      refine c_region ?_
      refine l_val rfl rfl rfl (r_move (v := .int .i64 x27_2) rfl) ?_
      obtain ⟨t30, h_t30, H41⟩ := bnd_some H38; clear H38
      refine l_val rfl rfl rfl (r_indexF Tryd.underlying58 Tryd.sizeOf68 rfl rfl f0_1 h_t30) ?_
      refine l_read (fun w hF hS => run_loadGN (f := e_api_Place) (i := x27_2) (sz := 2) (j := 0) (vs := [.int .i64 t30.Lat, .int .i64 t30.Lon]) Tryd.isAgg68 Tryd.sizeOf68 rfl rfl (f0_1.row (hw.now hF)) h_t30 rfl) rfl rfl rfl ?_
      refine l_alloc (cs := [.int .i64 0, .int .i64 0]) Tryd.zeroValue68 rfl rfl rfl (fun b6 => ?_)
      refine l_val rfl rfl rfl (r_assign (v := .int .i64 x27_2) rfl) ?_
      refine l_store (i := 2) (vs := [.int .i64 t30.Lat, .int .i64 t30.Lon]) (cs' := [.int .i64 t30.Lat, .int .i64 t30.Lon]) Tryd.sizeOf68 rfl rfl rfl rfl rfl rfl rfl rfl rfl ?_
      refine l_nil ?_
      refine c_seq ?_
      exact c_regionD (Kd.p :: Kd.d [0] _ :: Kd.p :: Kd.p :: Kd.d [0] _ :: Kd.p :: Kd.p :: Kd.p :: Kd.p :: Kd.d [0] _ :: Kd.p :: Kd.p :: Kd.p :: Kd.d [] _ :: Kd.nw 3 [_, _] 68 :: Kd.st 10 3 [_, _] 68 :: []) 1 mixed (by
        refine d_val rfl rfl (r_field Tryd.runUnderlying74 rfl Tryd.sizeOf58 rfl rfl) ?_
        refine d_load1 (i := 0) (v := v0_1) Tryd.isAgg58 rfl rfl rfl rfl ?_
        refine d_val rfl rfl (r_move (v := .int .i64 x27_2) rfl) ?_
        refine d_val rfl rfl (r_field Tryd.runUnderlying74 rfl Tryd.sizeOf58 rfl rfl) ?_
        refine d_load1 (i := 0) (v := v0_1) Tryd.isAgg58 rfl rfl rfl rfl ?_
        refine d_val rfl rfl (r_lenF Tryd.underlying58 rfl f0_1 rfl) ?_
        have h_t38 := bnd_val H41
        have H42 := bnd_rest H41
        refine d_val rfl rfl (r_addG rfl rfl h_t38) ?_
        have h_t39 := bnd_val H42
        have H43 := bnd_rest H42
        refine d_val rfl rfl (r_subG rfl rfl h_t39) ?_
        refine d_val rfl rfl (r_field Tryd.runUnderlying74 rfl Tryd.sizeOf58 rfl rfl) ?_
        refine d_load1 (i := 0) (v := v0_1) Tryd.isAgg58 rfl rfl rfl rfl ?_
        refine d_val rfl rfl (r_lenF Tryd.underlying58 rfl f0_1 rfl) ?_
        have h_t43 := bnd_val H43
        have H44 := bnd_rest H43
        refine d_val rfl rfl (r_remG rfl rfl h_t43) ?_
        have h_t44 := bnd_val H44
        have H45 := bnd_rest H44
        refine d_val rfl rfl (r_indexF Tryd.underlying58 Tryd.sizeOf68 rfl rfl f0_1 h_t44) ?_
        refine d_read (fun w hF => run_loadGN (f := e_api_Place) (i := (val (gRem (val (gI ((val (gI (x27_2 + (a0.Ring.length : Int)))) - 1))) (a0.Ring.length : Int)))) (sz := 2) (j := 0) (vs := [.int .i64 (val (gAt a0.Ring (val (gRem (val (gI ((val (gI (x27_2 + (a0.Ring.length : Int)))) - 1))) (a0.Ring.length : Int))))).Lat, .int .i64 (val (gAt a0.Ring (val (gRem (val (gI ((val (gI (x27_2 + (a0.Ring.length : Int)))) - 1))) (a0.Ring.length : Int))))).Lon]) Tryd.isAgg68 Tryd.sizeOf68 rfl rfl (f0_1.row (hw.now hF)) h_t44 rfl) rfl rfl ?_
        refine d_new rfl rfl (run_alloc (cs := [.int .i64 0, .int .i64 0]) Tryd.zeroValue68 rfl) rfl (fun b7 => ?_)
        refine d_store (i := 3) (vs := [.int .i64 (val (gAt a0.Ring (val (gRem (val (gI ((val (gI (x27_2 + (a0.Ring.length : Int)))) - 1))) (a0.Ring.length : Int))))).Lat, .int .i64 (val (gAt a0.Ring (val (gRem (val (gI ((val (gI (x27_2 + (a0.Ring.length : Int)))) - 1))) (a0.Ring.length : Int))))).Lon]) (cs' := [.int .i64 (val (gAt a0.Ring (val (gRem (val (gI ((val (gI (x27_2 + (a0.Ring.length : Int)))) - 1))) (a0.Ring.length : Int))))).Lat, .int .i64 (val (gAt a0.Ring (val (gRem (val (gI ((val (gI (x27_2 + (a0.Ring.length : Int)))) - 1))) (a0.Ring.length : Int))))).Lon]) Tryd.sizeOf68 rfl rfl rfl rfl rfl rfl rfl rfl rfl ?_
        refine d_nil ?_
        refine c_seq ?_
        refine c_seq ?_
        refine c_region ?_
        refine l_val rfl rfl rfl (r_field Tryd.runUnderlying68 rfl Tryd.sizeOf3 rfl rfl) ?_
        refine l_load1 (i := 3) (v := .int .i64 (val (gAt a0.Ring (val (gRem (val (gI ((val (gI (x27_2 + (a0.Ring.length : Int)))) - 1))) (a0.Ring.length : Int))))).Lat) Tryd.isAgg3 rfl rfl rfl rfl rfl ?_
        refine l_val rfl rfl rfl (r_field Tryd.runUnderlying68 rfl Tryd.sizeOf3 rfl rfl) ?_
        refine l_load1 (i := 1) (v := .int .i64 a1.Lat) Tryd.isAgg3 rfl rfl rfl rfl rfl ?_
        refine l_val rfl rfl rfl (r_gtr rfl rfl) ?_
        refine l_val rfl rfl rfl (r_field Tryd.runUnderlying68 rfl Tryd.sizeOf3 rfl rfl) ?_
        refine l_load1 (i := 2) (v := .int .i64 t30.Lat) Tryd.isAgg3 rfl rfl rfl rfl rfl ?_
        refine l_val rfl rfl rfl (r_field Tryd.runUnderlying68 rfl Tryd.sizeOf3 rfl rfl) ?_
        refine l_load1 (i := 1) (v := .int .i64 a1.Lat) Tryd.isAgg3 rfl rfl rfl rfl rfl ?_
        refine l_val rfl rfl rfl (r_gtr rfl rfl) ?_
        refine l_val rfl rfl rfl (r_eqlB Tryd.underlying4 rfl rfl) ?_
        refine l_nil ?_
        refine c_if (b := (decide ((decide (a1.Lat < (val (gAt a0.Ring (val (gRem (val (gI ((val (gI (x27_2 + (a0.Ring.length : Int)))) - 1))) (a0.Ring.length : Int))))).Lat)) = (decide (a1.Lat < t30.Lat))))) rfl (fun hb => ?_) (fun hb => ?_)
        · have H46 := cnd_t hb H45; clear H45
          refine c_exit ?_
          refine c_close x5_2 () 0 [0, 1] (by exact ⟨rfl, rfl, rfl, rfl, rfl, rfl, rfl, rfl, trivial⟩) (by decide) rfl (by exact ⟨H46, trivial⟩) (Nat.lt_succ_self _)
        · have H47 := cnd_f hb H45; clear H45
          refine c_skip ?_
          refine c_seq ?_
          exact c_regionD (Kd.p :: Kd.p :: Kd.d [3] _ :: Kd.d [] _ :: Kd.p :: Kd.p :: Kd.d [2] _ :: Kd.d [] _ :: Kd.p :: Kd.p :: []) 0 mixed (by
            refine d_val rfl rfl (r_move (v := .int .i64 t17.Lon) rfl) ?_
            refine d_val rfl rfl (r_field Tryd.runUnderlying68 rfl Tryd.sizeOf3 rfl rfl) ?_
            refine d_load1 (i := 3) (v := .int .i64 (val (gAt a0.Ring (val (gRem (val (gI ((val (gI (x27_2 + (a0.Ring.length : Int)))) - 1))) (a0.Ring.length : Int))))).Lon) Tryd.isAgg3 rfl rfl rfl rfl ?_
            have h_t60 := bnd_val H47
            have H48 := bnd_rest H47
            refine d_call (k135 h_t60) Tryd.call135 rfl rfl ?_
            refine d_val rfl rfl (r_move (v := .int .i64 t17.Lon) rfl) ?_
            refine d_val rfl rfl (r_field Tryd.runUnderlying68 rfl Tryd.sizeOf3 rfl rfl) ?_
            refine d_load1 (i := 2) (v := .int .i64 t30.Lon) Tryd.isAgg3 rfl rfl rfl rfl ?_
            have h_t64 := bnd_val H48
            have H49 := bnd_rest H48
            refine d_call (k135 h_t64) Tryd.call135 rfl rfl ?_
            refine d_val rfl rfl (r_assign (v := .int .i64 (val (where_short t17.Lon (val (gAt a0.Ring (val (gRem (val (gI ((val (gI (x27_2 + (a0.Ring.length : Int)))) - 1))) (a0.Ring.length : Int))))).Lon))) rfl) ?_
            refine d_val rfl rfl (r_assign (v := .int .i64 (val (where_short t17.Lon t30.Lon))) rfl) ?_
            refine d_nil ?_
            refine c_seq ?_
            exact c_regionD (Kd.p :: Kd.p :: Kd.p :: Kd.p :: Kd.d [2] _ :: Kd.p :: Kd.d [3] _ :: Kd.p :: Kd.p :: Kd.p :: Kd.p :: Kd.p :: Kd.p :: Kd.d [1] _ :: Kd.p :: Kd.d [3] _ :: Kd.p :: Kd.p :: Kd.p :: Kd.p :: []) 0 mixed (by
              refine d_val rfl rfl (r_move (v := .int .i64 t23) rfl) ?_
              refine d_val rfl rfl (r_move (v := .int .i64 (val (where_short t17.Lon (val (gAt a0.Ring (val (gRem (val (gI ((val (gI (x27_2 + (a0.Ring.length : Int)))) - 1))) (a0.Ring.length : Int))))).Lon))) rfl) ?_
              have h_t67 := bnd_val H49
              have H50 := bnd_rest H49
              refine d_val rfl rfl (r_subG rfl rfl h_t67) ?_
              refine d_val rfl rfl (r_field Tryd.runUnderlying68 rfl Tryd.sizeOf3 rfl rfl) ?_
              refine d_load1 (i := 2) (v := .int .i64 t30.Lat) Tryd.isAgg3 rfl rfl rfl rfl ?_
              refine d_val rfl rfl (r_field Tryd.runUnderlying68 rfl Tryd.sizeOf3 rfl rfl) ?_
              refine d_load1 (i := 3) (v := .int .i64 (val (gAt a0.Ring (val (gRem (val (gI ((val (gI (x27_2 + (a0.Ring.length : Int)))) - 1))) (a0.Ring.length : Int))))).Lat) Tryd.isAgg3 rfl rfl rfl rfl ?_
              have h_t72 := bnd_val H50
              have H51 := bnd_rest H50
              refine d_val rfl rfl (r_subG rfl rfl h_t72) ?_
              have h_t73 := bnd_val H51
              have H52 := bnd_rest H51
              refine d_val rfl rfl (r_mulG rfl rfl h_t73) ?_
              refine d_val rfl rfl (r_move (v := .int .i64 (val (where_short t17.Lon t30.Lon))) rfl) ?_
              refine d_val rfl rfl (r_move (v := .int .i64 (val (where_short t17.Lon (val (gAt a0.Ring (val (gRem (val (gI ((val (gI (x27_2 + (a0.Ring.length : Int)))) - 1))) (a0.Ring.length : Int))))).Lon))) rfl) ?_
              have h_t76 := bnd_val H52
              have H53 := bnd_rest H52
              refine d_val rfl rfl (r_subG rfl rfl h_t76) ?_
              refine d_val rfl rfl (r_field Tryd.runUnderlying68 rfl Tryd.sizeOf3 rfl rfl) ?_
              refine d_load1 (i := 1) (v := .int .i64 a1.Lat) Tryd.isAgg3 rfl rfl rfl rfl ?_
              refine d_val rfl rfl (r_field Tryd.runUnderlying68 rfl Tryd.sizeOf3 rfl rfl) ?_
              refine d_load1 (i := 3) (v := .int .i64 (val (gAt a0.Ring (val (gRem (val (gI ((val (gI (x27_2 + (a0.Ring.length : Int)))) - 1))) (a0.Ring.length : Int))))).Lat) Tryd.isAgg3 rfl rfl rfl rfl ?_
              have h_t81 := bnd_val H53
              have H54 := bnd_rest H53
              refine d_val rfl rfl (r_subG rfl rfl h_t81) ?_
              have h_t82 := bnd_val H54
              have H55 := bnd_rest H54
              refine d_val rfl rfl (r_mulG rfl rfl h_t82) ?_
              refine d_val rfl rfl (r_assign (v := .int .i64 (val (gI ((val (gI (t23 - (val (where_short t17.Lon (val (gAt a0.Ring (val (gRem (val (gI ((val (gI (x27_2 + (a0.Ring.length : Int)))) - 1))) (a0.Ring.length : Int))))).Lon))))) * (val (gI (t30.Lat - (val (gAt a0.Ring (val (gRem (val (gI ((val (gI (x27_2 + (a0.Ring.length : Int)))) - 1))) (a0.Ring.length : Int))))).Lat))))))) rfl) ?_
              refine d_val rfl rfl (r_assign (v := .int .i64 (val (gI ((val (gI ((val (where_short t17.Lon t30.Lon)) - (val (where_short t17.Lon (val (gAt a0.Ring (val (gRem (val (gI ((val (gI (x27_2 + (a0.Ring.length : Int)))) - 1))) (a0.Ring.length : Int))))).Lon))))) * (val (gI (a1.Lat - (val (gAt a0.Ring (val (gRem (val (gI ((val (gI (x27_2 + (a0.Ring.length : Int)))) - 1))) (a0.Ring.length : Int))))).Lat))))))) rfl) ?_
              refine d_nil ?_
              refine c_seq ?_
              refine c_region ?_
              refine l_val rfl rfl rfl (r_field Tryd.runUnderlying68 rfl Tryd.sizeOf3 rfl rfl) ?_
              refine l_load1 (i := 2) (v := .int .i64 t30.Lat) Tryd.isAgg3 rfl rfl rfl rfl rfl ?_
              refine l_val rfl rfl rfl (r_field Tryd.runUnderlying68 rfl Tryd.sizeOf3 rfl rfl) ?_
              refine l_load1 (i := 3) (v := .int .i64 (val (gAt a0.Ring (val (gRem (val (gI ((val (gI (x27_2 + (a0.Ring.length : Int)))) - 1))) (a0.Ring.length : Int))))).Lat) Tryd.isAgg3 rfl rfl rfl rfl rfl ?_
              refine l_val rfl rfl rfl (r_gtr rfl rfl) ?_
              refine l_val rfl rfl rfl (r_move (v := .bool (decide ((val (gAt a0.Ring (val (gRem (val (gI ((val (gI (x27_2 + (a0.Ring.length : Int)))) - 1))) (a0.Ring.length : Int))))).Lat < t30.Lat))) rfl) ?_
              refine split (fun hb => ?_) (fun hb => ?_)
              · have H56 := cnd_t hb H55; clear H55
                refine l_val rfl rfl rfl (r_move (v := .int .i64 (val (gI ((val (gI (t23 - (val (where_short t17.Lon (val (gAt a0.Ring (val (gRem (val (gI ((val (gI (x27_2 + (a0.Ring.length : Int)))) - 1))) (a0.Ring.length : Int))))).Lon))))) * (val (gI (t30.Lat - (val (gAt a0.Ring (val (gRem (val (gI ((val (gI (x27_2 + (a0.Ring.length : Int)))) - 1))) (a0.Ring.length : Int))))).Lat))))))) rfl) ?_
                refine l_val rfl rfl rfl (r_move (v := .int .i64 (val (gI ((val (gI ((val (where_short t17.Lon t30.Lon)) - (val (where_short t17.Lon (val (gAt a0.Ring (val (gRem (val (gI ((val (gI (x27_2 + (a0.Ring.length : Int)))) - 1))) (a0.Ring.length : Int))))).Lon))))) * (val (gI (a1.Lat - (val (gAt a0.Ring (val (gRem (val (gI ((val (gI (x27_2 + (a0.Ring.length : Int)))) - 1))) (a0.Ring.length : Int))))).Lat))))))) rfl) ?_
                refine l_val rfl rfl rfl (r_lss rfl rfl) ?_
                refine l_val rfl rfl rfl (r_pickT (v := .bool (decide ((val (gI ((val (gI (t23 - (val (where_short t17.Lon (val (gAt a0.Ring (val (gRem (val (gI ((val (gI (x27_2 + (a0.Ring.length : Int)))) - 1))) (a0.Ring.length : Int))))).Lon))))) * (val (gI (t30.Lat - (val (gAt a0.Ring (val (gRem (val (gI ((val (gI (x27_2 + (a0.Ring.length : Int)))) - 1))) (a0.Ring.length : Int))))).Lat)))))) < (val (gI ((val (gI ((val (where_short t17.Lon t30.Lon)) - (val (where_short t17.Lon (val (gAt a0.Ring (val (gRem (val (gI ((val (gI (x27_2 + (a0.Ring.length : Int)))) - 1))) (a0.Ring.length : Int))))).Lon))))) * (val (gI (a1.Lat - (val (gAt a0.Ring (val (gRem (val (gI ((val (gI (x27_2 + (a0.Ring.length : Int)))) - 1))) (a0.Ring.length : Int))))).Lat))))))))) rfl rfl) ?_
                refine l_val rfl rfl rfl (r_move (v := .bool (decide ((val (gI ((val (gI (t23 - (val (where_short t17.Lon (val (gAt a0.Ring (val (gRem (val (gI ((val (gI (x27_2 + (a0.Ring.length : Int)))) - 1))) (a0.Ring.length : Int))))).Lon))))) * (val (gI (t30.Lat - (val (gAt a0.Ring (val (gRem (val (gI ((val (gI (x27_2 + (a0.Ring.length : Int)))) - 1))) (a0.Ring.length : Int))))).Lat)))))) < (val (gI ((val (gI ((val (where_short t17.Lon t30.Lon)) - (val (where_short t17.Lon (val (gAt a0.Ring (val (gRem (val (gI ((val (gI (x27_2 + (a0.Ring.length : Int)))) - 1))) (a0.Ring.length : Int))))).Lon))))) * (val (gI (a1.Lat - (val (gAt a0.Ring (val (gRem (val (gI ((val (gI (x27_2 + (a0.Ring.length : Int)))) - 1))) (a0.Ring.length : Int))))).Lat))))))))) rfl) ?_
                refine split (fun hb => ?_) (fun hb => ?_)
                · have H57 := cnd_t hb H56; clear H56
                  refine l_passed rfl rfl rfl ?_
                  refine l_passed rfl rfl rfl ?_
                  refine l_passed rfl rfl rfl ?_
                  refine l_passed rfl rfl rfl ?_
                  refine l_passed rfl rfl rfl ?_
                  refine l_passed rfl rfl rfl ?_
                  refine l_passed rfl rfl rfl ?_
                  refine l_passed rfl rfl rfl ?_
                  refine l_passed rfl rfl rfl ?_
                  refine l_passed rfl rfl rfl ?_
                  refine l_val rfl rfl rfl (r_pickT (v := .bool true) rfl rfl) ?_
                  refine l_nil ?_
                  refine c_true rfl ?_
                  refine c_region ?_
                  refine l_val rfl rfl rfl (r_move (v := .bool x5_2) rfl) ?_
                  refine l_val rfl rfl rfl (r_not rfl) ?_
                  refine l_val rfl rfl rfl (r_assign (v := .bool (!x5_2)) rfl) ?_
                  refine l_nil ?_
                  refine c_close (!x5_2) () 0 [0, 1] (by exact ⟨rfl, rfl, rfl, rfl, rfl, rfl, rfl, rfl, trivial⟩) (by decide) rfl (by exact ⟨H57, trivial⟩) (Nat.lt_succ_self _)
                · have H58 := cnd_f hb H56; clear H56
                  refine l_val rfl rfl rfl (r_field Tryd.runUnderlying68 rfl Tryd.sizeOf3 rfl rfl) ?_
                  refine l_load1 (i := 2) (v := .int .i64 t30.Lat) Tryd.isAgg3 rfl rfl rfl rfl rfl ?_
                  refine l_val rfl rfl rfl (r_field Tryd.runUnderlying68 rfl Tryd.sizeOf3 rfl rfl) ?_
                  refine l_load1 (i := 3) (v := .int .i64 (val (gAt a0.Ring (val (gRem (val (gI ((val (gI (x27_2 + (a0.Ring.length : Int)))) - 1))) (a0.Ring.length : Int))))).Lat) Tryd.isAgg3 rfl rfl rfl rfl rfl ?_
                  refine l_val rfl rfl rfl (r_lss rfl rfl) ?_
                  refine l_val rfl rfl rfl (r_move (v := .bool (decide (t30.Lat < (val (gAt a0.Ring (val (gRem (val (gI ((val (gI (x27_2 + (a0.Ring.length : Int)))) - 1))) (a0.Ring.length : Int))))).Lat))) rfl) ?_
                  refine split (fun hb => ?_) (fun hb => ?_)
                  · have H59 := cnd_t hb H58; clear H58
                    refine l_val rfl rfl rfl (r_move (v := .int .i64 (val (gI ((val (gI (t23 - (val (where_short t17.Lon (val (gAt a0.Ring (val (gRem (val (gI ((val (gI (x27_2 + (a0.Ring.length : Int)))) - 1))) (a0.Ring.length : Int))))).Lon))))) * (val (gI (t30.Lat - (val (gAt a0.Ring (val (gRem (val (gI ((val (gI (x27_2 + (a0.Ring.length : Int)))) - 1))) (a0.Ring.length : Int))))).Lat))))))) rfl) ?_
                    refine l_val rfl rfl rfl (r_move (v := .int .i64 (val (gI ((val (gI ((val (where_short t17.Lon t30.Lon)) - (val (where_short t17.Lon (val (gAt a0.Ring (val (gRem (val (gI ((val (gI (x27_2 + (a0.Ring.length : Int)))) - 1))) (a0.Ring.length : Int))))).Lon))))) * (val (gI (a1.Lat - (val (gAt a0.Ring (val (gRem (val (gI ((val (gI (x27_2 + (a0.Ring.length : Int)))) - 1))) (a0.Ring.length : Int))))).Lat))))))) rfl) ?_
                    refine l_val rfl rfl rfl (r_gtr rfl rfl) ?_
                    refine l_val rfl rfl rfl (r_pickT (v := .bool (decide ((val (gI ((val (gI ((val (where_short t17.Lon t30.Lon)) - (val (where_short t17.Lon (val (gAt a0.Ring (val (gRem (val (gI ((val (gI (x27_2 + (a0.Ring.length : Int)))) - 1))) (a0.Ring.length : Int))))).Lon))))) * (val (gI (a1.Lat - (val (gAt a0.Ring (val (gRem (val (gI ((val (gI (x27_2 + (a0.Ring.length : Int)))) - 1))) (a0.Ring.length : Int))))).Lat)))))) < (val (gI ((val (gI (t23 - (val (where_short t17.Lon (val (gAt a0.Ring (val (gRem (val (gI ((val (gI (x27_2 + (a0.Ring.length : Int)))) - 1))) (a0.Ring.length : Int))))).Lon))))) * (val (gI (t30.Lat - (val (gAt a0.Ring (val (gRem (val (gI ((val (gI (x27_2 + (a0.Ring.length : Int)))) - 1))) (a0.Ring.length : Int))))).Lat))))))))) rfl rfl) ?_
                    refine l_val rfl rfl rfl (r_pickF (v := .bool (decide ((val (gI ((val (gI ((val (where_short t17.Lon t30.Lon)) - (val (where_short t17.Lon (val (gAt a0.Ring (val (gRem (val (gI ((val (gI (x27_2 + (a0.Ring.length : Int)))) - 1))) (a0.Ring.length : Int))))).Lon))))) * (val (gI (a1.Lat - (val (gAt a0.Ring (val (gRem (val (gI ((val (gI (x27_2 + (a0.Ring.length : Int)))) - 1))) (a0.Ring.length : Int))))).Lat)))))) < (val (gI ((val (gI (t23 - (val (where_short t17.Lon (val (gAt a0.Ring (val (gRem (val (gI ((val (gI (x27_2 + (a0.Ring.length : Int)))) - 1))) (a0.Ring.length : Int))))).Lon))))) * (val (gI (t30.Lat - (val (gAt a0.Ring (val (gRem (val (gI ((val (gI (x27_2 + (a0.Ring.length : Int)))) - 1))) (a0.Ring.length : Int))))).Lat))))))))) rfl rfl) ?_
                    refine l_nil ?_
                    refine c_if (b := (decide ((val (gI ((val (gI ((val (where_short t17.Lon t30.Lon)) - (val (where_short t17.Lon (val (gAt a0.Ring (val (gRem (val (gI ((val (gI (x27_2 + (a0.Ring.length : Int)))) - 1))) (a0.Ring.length : Int))))).Lon))))) * (val (gI (a1.Lat - (val (gAt a0.Ring (val (gRem (val (gI ((val (gI (x27_2 + (a0.Ring.length : Int)))) - 1))) (a0.Ring.length : Int))))).Lat)))))) < (val (gI ((val (gI (t23 - (val (where_short t17.Lon (val (gAt a0.Ring (val (gRem (val (gI ((val (gI (x27_2 + (a0.Ring.length : Int)))) - 1))) (a0.Ring.length : Int))))).Lon))))) * (val (gI (t30.Lat - (val (gAt a0.Ring (val (gRem (val (gI ((val (gI (x27_2 + (a0.Ring.length : Int)))) - 1))) (a0.Ring.length : Int))))).Lat))))))))) rfl (fun hb => ?_) (fun hb => ?_)
                    · have H60 := cnd_t hb H59; clear H59
                      refine c_region ?_
                      refine l_val rfl rfl rfl (r_move (v := .bool x5_2) rfl) ?_
                      refine l_val rfl rfl rfl (r_not rfl) ?_
                      refine l_val rfl rfl rfl (r_assign (v := .bool (!x5_2)) rfl) ?_
                      refine l_nil ?_
                      refine c_close (!x5_2) () 0 [0, 1] (by exact ⟨rfl, rfl, rfl, rfl, rfl, rfl, rfl, rfl, trivial⟩) (by decide) rfl (by exact ⟨H60, trivial⟩) (Nat.lt_succ_self _)
                    · have H61 := cnd_f hb H59; clear H59
                      refine c_skip ?_
                      refine c_close x5_2 () 0 [0, 1] (by exact ⟨rfl, rfl, rfl, rfl, rfl, rfl, rfl, rfl, trivial⟩) (by decide) rfl (by exact ⟨H61, trivial⟩) (Nat.lt_succ_self _)
                  · have H62 := cnd_f hb H58; clear H58
                    refine l_passed rfl rfl rfl ?_
                    refine l_passed rfl rfl rfl ?_
                    refine l_passed rfl rfl rfl ?_
                    refine l_val rfl rfl rfl (r_pickF (v := .bool false) rfl rfl) ?_
                    refine l_val rfl rfl rfl (r_pickF (v := .bool false) rfl rfl) ?_
                    refine l_nil ?_
                    refine c_false rfl ?_
                    refine c_skip ?_
                    refine c_close x5_2 () 0 [0, 1] (by exact ⟨rfl, rfl, rfl, rfl, rfl, rfl, rfl, rfl, trivial⟩) (by decide) rfl (by exact ⟨H62, trivial⟩) (Nat.lt_succ_self _)
              · have H63 := cnd_f hb H55; clear H55
                refine l_passed rfl rfl rfl ?_
                refine l_passed rfl rfl rfl ?_
                refine l_passed rfl rfl rfl ?_
                refine l_val rfl rfl rfl (r_pickF (v := .bool false) rfl rfl) ?_
                refine l_val rfl rfl rfl (r_move (v := .bool false) rfl) ?_
                refine l_val rfl rfl rfl (r_field Tryd.runUnderlying68 rfl Tryd.sizeOf3 rfl rfl) ?_
                refine l_load1 (i := 2) (v := .int .i64 t30.Lat) Tryd.isAgg3 rfl rfl rfl rfl rfl ?_
                refine l_val rfl rfl rfl (r_field Tryd.runUnderlying68 rfl Tryd.sizeOf3 rfl rfl) ?_
                refine l_load1 (i := 3) (v := .int .i64 (val (gAt a0.Ring (val (gRem (val (gI ((val (gI (x27_2 + (a0.Ring.length : Int)))) - 1))) (a0.Ring.length : Int))))).Lat) Tryd.isAgg3 rfl rfl rfl rfl rfl ?_
                refine l_val rfl rfl rfl (r_lss rfl rfl) ?_
                refine l_val rfl rfl rfl (r_move (v := .bool (decide (t30.Lat < (val (gAt a0.Ring (val (gRem (val (gI ((val (gI (x27_2 + (a0.Ring.length : Int)))) - 1))) (a0.Ring.length : Int))))).Lat))) rfl) ?_
                refine split (fun hb => ?_) (fun hb => ?_)
                · have H64 := cnd_t hb H63; clear H63
                  refine l_val rfl rfl rfl (r_move (v := .int .i64 (val (gI ((val (gI (t23 - (val (where_short t17.Lon (val (gAt a0.Ring (val (gRem (val (gI ((val (gI (x27_2 + (a0.Ring.length : Int)))) - 1))) (a0.Ring.length : Int))))).Lon))))) * (val (gI (t30.Lat - (val (gAt a0.Ring (val (gRem (val (gI ((val (gI (x27_2 + (a0.Ring.length : Int)))) - 1))) (a0.Ring.length : Int))))).Lat))))))) rfl) ?_
                  refine l_val rfl rfl rfl (r_move (v := .int .i64 (val (gI ((val (gI ((val (where_short t17.Lon t30.Lon)) - (val (where_short t17.Lon (val (gAt a0.Ring (val (gRem (val (gI ((val (gI (x27_2 + (a0.Ring.length : Int)))) - 1))) (a0.Ring.length : Int))))).Lon))))) * (val (gI (a1.Lat - (val (gAt a0.Ring (val (gRem (val (gI ((val (gI (x27_2 + (a0.Ring.length : Int)))) - 1))) (a0.Ring.length : Int))))).Lat))))))) rfl) ?_
                  refine l_val rfl rfl rfl (r_gtr rfl rfl) ?_
                  refine l_val rfl rfl rfl (r_pickT (v := .bool (decide ((val (gI ((val (gI ((val (where_short t17.Lon t30.Lon)) - (val (where_short t17.Lon (val (gAt a0.Ring (val (gRem (val (gI ((val (gI (x27_2 + (a0.Ring.length : Int)))) - 1))) (a0.Ring.length : Int))))).Lon))))) * (val (gI (a1.Lat - (val (gAt a0.Ring (val (gRem (val (gI ((val (gI (x27_2 + (a0.Ring.length : Int)))) - 1))) (a0.Ring.length : Int))))).Lat)))))) < (val (gI ((val (gI (t23 - (val (where_short t17.Lon (val (gAt a0.Ring (val (gRem (val (gI ((val (gI (x27_2 + (a0.Ring.length : Int)))) - 1))) (a0.Ring.length : Int))))).Lon))))) * (val (gI (t30.Lat - (val (gAt a0.Ring (val (gRem (val (gI ((val (gI (x27_2 + (a0.Ring.length : Int)))) - 1))) (a0.Ring.length : Int))))).Lat))))))))) rfl rfl) ?_
                  refine l_val rfl rfl rfl (r_pickF (v := .bool (decide ((val (gI ((val (gI ((val (where_short t17.Lon t30.Lon)) - (val (where_short t17.Lon (val (gAt a0.Ring (val (gRem (val (gI ((val (gI (x27_2 + (a0.Ring.length : Int)))) - 1))) (a0.Ring.length : Int))))).Lon))))) * (val (gI (a1.Lat - (val (gAt a0.Ring (val (gRem (val (gI ((val (gI (x27_2 + (a0.Ring.length : Int)))) - 1))) (a0.Ring.length : Int))))).Lat)))))) < (val (gI ((val (gI (t23 - (val (where_short t17.Lon (val (gAt a0.Ring (val (gRem (val (gI ((val (gI (x27_2 + (a0.Ring.length : Int)))) - 1))) (a0.Ring.length : Int))))).Lon))))) * (val (gI (t30.Lat - (val (gAt a0.Ring (val (gRem (val (gI ((val (gI (x27_2 + (a0.Ring.length : Int)))) - 1))) (a0.Ring.length : Int))))).Lat))))))))) rfl rfl) ?_
                  refine l_nil ?_
                  refine c_if (b := (decide ((val (gI ((val (gI ((val (where_short t17.Lon t30.Lon)) - (val (where_short t17.Lon (val (gAt a0.Ring (val (gRem (val (gI ((val (gI (x27_2 + (a0.Ring.length : Int)))) - 1))) (a0.Ring.length : Int))))).Lon))))) * (val (gI (a1.Lat - (val (gAt a0.Ring (val (gRem (val (gI ((val (gI (x27_2 + (a0.Ring.length : Int)))) - 1))) (a0.Ring.length : Int))))).Lat)))))) < (val (gI ((val (gI (t23 - (val (where_short t17.Lon (val (gAt a0.Ring (val (gRem (val (gI ((val (gI (x27_2 + (a0.Ring.length : Int)))) - 1))) (a0.Ring.length : Int))))).Lon))))) * (val (gI (t30.Lat - (val (gAt a0.Ring (val (gRem (val (gI ((val (gI (x27_2 + (a0.Ring.length : Int)))) - 1))) (a0.Ring.length : Int))))).Lat))))))))) rfl (fun hb => ?_) (fun hb => ?_)
                  · have H65 := cnd_t hb H64; clear H64
                    refine c_region ?_
                    refine l_val rfl rfl rfl (r_move (v := .bool x5_2) rfl) ?_
                    refine l_val rfl rfl rfl (r_not rfl) ?_
                    refine l_val rfl rfl rfl (r_assign (v := .bool (!x5_2)) rfl) ?_
                    refine l_nil ?_
                    refine c_close (!x5_2) () 0 [0, 1] (by exact ⟨rfl, rfl, rfl, rfl, rfl, rfl, rfl, rfl, trivial⟩) (by decide) rfl (by exact ⟨H65, trivial⟩) (Nat.lt_succ_self _)
                  · have H66 := cnd_f hb H64; clear H64
                    refine c_skip ?_
                    refine c_close x5_2 () 0 [0, 1] (by exact ⟨rfl, rfl, rfl, rfl, rfl, rfl, rfl, rfl, trivial⟩) (by decide) rfl (by exact ⟨H66, trivial⟩) (Nat.lt_succ_self _)
                · have H67 := cnd_f hb H63; clear H63
                  refine l_passed rfl rfl rfl ?_
                  refine l_passed rfl rfl rfl ?_
                  refine l_passed rfl rfl rfl ?_
                  refine l_val rfl rfl rfl (r_pickF (v := .bool false) rfl rfl) ?_
                  refine l_val rfl rfl rfl (r_pickF (v := .bool false) rfl rfl) ?_
                  refine l_nil ?_
                  refine c_false rfl ?_
                  refine c_skip ?_
                  refine c_close x5_2 () 0 [0, 1] (by exact ⟨rfl, rfl, rfl, rfl, rfl, rfl, rfl, rfl, trivial⟩) (by decide) rfl (by exact ⟨H67, trivial⟩) (Nat.lt_succ_self _)
              ) (by kernel_rfl)
            ) (by kernel_rfl)
        ) (by kernel_rfl)
    · rintro x5_3 _ gg H39 _
      replace H39 : where_within_j2 x27_2 next1 x5_3 = some r := H39
      refine c_tidyF [(2, .pointer (some ⟨b4, 0, none⟩)), (3, .pointer (some ⟨b5, 0, none⟩)), (5, .bool x5_3), (6, .int .i64 t17.Lon), (7, .int .i64 t23), (25, v0_1), (26, .int .i64 (a0.Ring.length : Int)), (27, .int .i64 x27_2)] [cellsC b4 [str a0.Name, v0_1] 74, cellsC b5 [.int .i64 a1.Lat, .int .i64 a1.Lon] 68] rfl rfl ?_
      refine c_region ?_
      obtain ⟨t107, h_t107, H40⟩ := bnd_some H39; clear H39
      refine l_val rfl rfl rfl (r_addG rfl rfl h_t107) ?_
      refine l_val rfl rfl rfl (r_move (v := .int .i64 t107) rfl) ?_
      refine l_nil ?_
      refine c_close (x5_3, t107) () m1 [0, 1] (by exact ⟨rfl, rfl, rfl, rfl, rfl, rfl, rfl, rfl, trivial⟩) (by decide) rfl (by exact ⟨(by subst hn1; exact H40), trivial⟩) (Nat.lt_succ_self _)
  · have H68 := cnd_f hb H37; clear H37
    refine c_exit ?_
    refine c_seq ?_
    refine c_region ?_
    refine l_val rfl rfl rfl (r_move (v := .bool x5_2) rfl) ?_
    refine l_val rfl rfl rfl (r_assign (v := .bool x5_2) rfl) ?_
    refine l_nil ?_
    refine c_ret ?_
    obtain rfl := Option.some.inj H68
    refine ret1 (v := .bool x5_2) rfl rfl (fin rfl)
theorem k36 {a0 : (List T_where_Area)} {v0 : Value} {a1 : T_api_Place} {r : (List (List UInt8)) × Int} {w : World} {h : Heap} (hw : Know h w noS) (f0 : FrN h 2 v0 g_where_Area a0) (H : where_Names a0 a1 = some r) : Does Tryd.prog 36 (List.toArray [v0, .agg #[.int .i64 a1.Lat, .int .i64 a1.Lon]]) w (fun v w' => ∃ x : (Option Addr × Nat), v = (.tuple #[.slice x.1 r.1.length x.2, .int .i64 r.2]) ∧ Turn w w' noS (roV 1 (.slice x.1 r.1.length x.2) r.1.length (r.1.map e_string))) := by
  refine enter (n := 44) Tryd.func36 rfl rfl rfl noS [] (Sat.nil _ _) ?_
  refine c_seq ?_
  refine c_region ?_
  refine l_box (cs := [.int .i64 a1.Lat, .int .i64 a1.Lon]) rfl rfl rfl rfl (fun b6 => ?_)
  refine l_val rfl rfl rfl (r_assign (v := .slice none 0 0) rfl) ?_
  refine l_val rfl rfl rfl (r_assign (v := .int .i64 0) rfl) ?_
  refine l_nil ?_
  refine c_seq ?_
  refine c_seq ?_
  refine c_region ?_
  refine l_loadN (i := 0) (vs := [.int .i64 a1.Lat, .int .i64 a1.Lon]) Tryd.isAgg68 Tryd.sizeOf68 rfl rfl rfl rfl rfl ?_
  obtain ⟨t12, h_t12, H43⟩ := bnd_some H; clear H
  refine l_call (k87 h_t12) Tryd.call87 rfl rfl rfl ?_
  refine l_val rfl rfl rfl (r_assign (v := .int .i64 t12) rfl) ?_
  refine l_nil ?_
  refine c_seq ?_
  refine c_region ?_
  refine l_val rfl rfl rfl (r_move (v := .int .i64 t12) rfl) ?_
  refine l_val rfl rfl rfl (r_neq rfl rfl) ?_
  refine l_nil ?_
  refine c_if (b := (decide (t12 ≠ 0))) rfl (fun hb => ?_) (fun hb => ?_)
  · have H44 := cnd_t hb H43; clear H43
    refine c_seq ?_
    refine c_region ?_
    refine l_val rfl rfl rfl (r_move (v := .int .i64 t12) rfl) ?_
    refine l_val rfl rfl rfl (r_assign (v := .slice none 0 0) rfl) ?_
    refine l_val rfl rfl rfl (r_assign (v := .int .i64 t12) rfl) ?_
    refine l_nil ?_
    refine c_ret ?_
    refine c_nilRow 9 1 ?_
    obtain rfl := Option.some.inj H44
    refine c_imp 1 rfl (row_ro _ _ _ _ _) ?_
    refine ret2 (v1 := .slice ((none, 0) : Option Addr × Nat).1 ([] : List (List UInt8)).length ((none, 0) : Option Addr × Nat).2) (v2 := .int .i64 t12) rfl rfl rfl (finX ((none, 0) : Option Addr × Nat) (i := 1) rfl rfl (Imp.refl _))
  · have H45 := cnd_f hb H43; clear H43
    refine c_skip ?_
    refine c_seq ?_
    refine c_seq ?_
    refine c_region ?_
    refine l_val rfl rfl rfl (r_move (v := v0) rfl) ?_
    refine l_val rfl rfl rfl (r_lenFN Tryd.underlying70 rfl f0) ?_
    refine l_val rfl rfl rfl (r_gtr rfl rfl) ?_
    refine l_nil ?_
    refine c_if (b := (decide (100 < (a0.length : Int)))) rfl (fun hb => ?_) (fun hb => ?_)
    · have H46 := cnd_t hb H45; clear H45
      refine c_seq ?_
      refine c_region ?_
      refine l_val rfl rfl rfl (r_assign (v := .slice none 0 0) rfl) ?_
      refine l_val rfl rfl rfl (r_assign (v := .int .i64 4) rfl) ?_
      refine l_nil ?_
      refine c_ret ?_
      refine c_nilRow 9 1 ?_
      obtain rfl := Option.some.inj H46
      refine c_imp 1 rfl (row_ro _ _ _ _ _) ?_
      refine ret2 (v1 := .slice ((none, 0) : Option Addr × Nat).1 ([] : List (List UInt8)).length ((none, 0) : Option Addr × Nat).2) (v2 := .int .i64 4) rfl rfl rfl (finX ((none, 0) : Option Addr × Nat) (i := 1) rfl rfl (Imp.refl _))
    · have H47 := cnd_f hb H45; clear H45
      refine c_skip ?_
      refine c_seq ?_
      refine c_region ?_
      refine l_val rfl rfl rfl (r_assign (v := .slice none 0 0) rfl) ?_
      refine l_nil ?_
      refine c_meet (r := r) (σ := (List (List UInt8))) (τ := (Option Addr × Nat)) (fun s => where_Names_j1 s) (fun s t => [(7, .slice t.1 s.length t.2)]) (fun s t => [rowV 9 1 (.slice t.1 s.length t.2) s.length (s.map e_string)]) (fun s t => True) ?_ ?_
      · refine c_seq ?_
        refine c_region ?_
        refine l_val rfl rfl rfl (r_move (v := v0) rfl) ?_
        refine l_val rfl rfl rfl (r_lenFN Tryd.underlying70 rfl f0) ?_
        refine l_val rfl rfl rfl (r_move (v := .int .i64 0) rfl) ?_
        refine l_nil ?_
        refine c_block ?_
        refine c_nilRow 9 1 ?_
        refine c_fix (σ := Int × (List (List UInt8))) (τ := (Option Addr × Nat)) (fun next2 s => where_Names_l2 a0 a1 next2 s.1 s.2) (fun s t => [(3, .pointer (some ⟨b6, 0, none⟩)), (7, .slice t.1 s.2.length t.2), (19, v0), (20, .int .i64 (a0.length : Int)), (21, .int .i64 s.1)]) (fun s t => [cellsC b6 [.int .i64 a1.Lat, .int .i64 a1.Lon] 68, rowV 9 1 (.slice t.1 s.2.length t.2) s.2.length (s.2.map e_string)]) (fun s t => True) (0, ([] : List (List UInt8))) ((none, 0) : Option Addr × Nat) [0, 1] H47 (by exact trivial) (by exact ⟨rfl, rfl, rfl, rfl, rfl, trivial⟩) (by decide) rfl ?_
        rintro ⟨x21_2, l_3⟩ p_3 m2 gg H51 _
        clear H47
        replace H51 : where_Names_l2 a0 a1 (it (fun next2 s => where_Names_l2 a0 a1 next2 s.1 s.2) m2) x21_2 l_3 = some r := H51
        generalize hn2 : it (fun next2 s => where_Names_l2 a0 a1 next2 s.1 s.2) m2 = next2 at H51
        refine c_tidyF [(3, .pointer (some ⟨b6, 0, none⟩)), (7, .slice p_3.1 l_3.length p_3.2), (19, v0), (20, .int .i64 (a0.length : Int)), (21, .int .i64 x21_2)] [cellsC b6 [.int .i64 a1.Lat, .int .i64 a1.Lon] 68, rowV 9 1 (.slice p_3.1 l_3.length p_3.2) l_3.length (l_3.map e_string)] rfl rfl ?_
        refine c_seq ?_
        refine c_region ?_
        refine l_val rfl rfl rfl (r_lss rfl rfl) ?_
        refine l_nil ?_
        refine c_seq ?_
        refine c_if (b := (decide (x21_2 < (a0.length : Int)))) rfl (fun hb => ?_) (fun hb => ?_)
        · have H52 := cnd_t hb H51; clear H51
          refine c_skip ?_
          refine c_meet (r := r) (σ := (List (List UInt8))) (τ := (Option Addr × Nat)) (fun s => where_Names_j3 x21_2 next2 s) (fun s t => [(3, .pointer (some ⟨b6, 0, none⟩)), (7, .slice t.1 s.length t.2), (19, v0), (20, .int .i64 (a0.length : Int)), (21, .int .i64 x21_2)]) (fun s t => [cellsC b6 [.int .i64 a1.Lat, .int .i64 a1.Lon] 68, rowV 9 1 (.slice t.1 s.length t.2) s.length (s.map e_string)]) (fun s t => True) ?_ ?_
          · refine c_block ?_
            refine c_seq ?_
            refine c_region ?_
            obtain ⟨t23, h_t23, H55⟩ := bnd_some H52; clear H52
            refine l_val rfl rfl rfl (r_indexF Tryd.underlying70 Tryd.sizeOf74 rfl rfl f0.frs (f0.ix h_t23)) ?_
            refine l_read (fun w hF hS => run_loadGN (f := (elC h v0 2)) (i := x21_2) (sz := 2) (j := 0) (vs := [str t23.Name, (elH h v0 2 (Int.toNat x21_2) 1)]) Tryd.isAgg74 Tryd.sizeOf74 rfl rfl (f0.frs.row (hw.now hF)) (f0.ix h_t23) (rd_of (cg_where_Area (f0.at h_t23)) rfl)) rfl rfl rfl ?_
            refine l_alloc (cs := [str [], .slice none 0 0]) Tryd.zeroValue74 rfl rfl rfl (fun b7 => ?_)
            refine l_store (i := 2) (vs := [str t23.Name, (elH h v0 2 (Int.toNat x21_2) 1)]) (cs' := [str t23.Name, (elH h v0 2 (Int.toNat x21_2) 1)]) Tryd.sizeOf74 rfl rfl rfl rfl rfl rfl (by simp only [List.all_cons, List.all_nil, (show FrS h 2 (elH h v0 2 (Int.toNat x21_2) 1) (t23.Ring.map e_api_Place) from (g_where_Area_p1 (f0.at h_t23))).one] <;> rfl) rfl rfl ?_
            refine l_nil ?_
            refine c_seq ?_
            refine c_seq ?_
            refine c_region ?_
            refine l_loadN (i := 2) (vs := [str t23.Name, (elH h v0 2 (Int.toNat x21_2) 1)]) Tryd.isAgg74 Tryd.sizeOf74 rfl rfl rfl rfl rfl ?_
            obtain ⟨t26, h_t26, H56⟩ := bnd_some H55; clear H55
            refine l_callG (fun w hF hS => k39 (know_all w) ((show FrS h 2 (elH h v0 2 (Int.toNat x21_2) 1) (t23.Ring.map e_api_Place) from (g_where_Area_p1 (f0.at h_t23))).mono (hw.now hF)) h_t26) Tryd.call39 rfl rfl rfl ?_
            refine l_val rfl rfl rfl (r_assign (v := .int .i64 t26) rfl) ?_
            refine l_nil ?_
            refine c_seq ?_
            refine c_region ?_
            refine l_val rfl rfl rfl (r_move (v := .int .i64 t26) rfl) ?_
            refine l_val rfl rfl rfl (r_neq rfl rfl) ?_
            refine l_nil ?_
            refine c_if (b := (decide (t26 ≠ 0))) rfl (fun hb => ?_) (fun hb => ?_)
            · have H57 := cnd_t hb H56; clear H56
              refine c_seq ?_
              refine c_region ?_
              refine l_val rfl rfl rfl (r_move (v := .int .i64 t26) rfl) ?_
              refine l_val rfl rfl rfl (r_assign (v := .slice none 0 0) rfl) ?_
              refine l_val rfl rfl rfl (r_assign (v := .int .i64 t26) rfl) ?_
              refine l_nil ?_
              refine c_ret ?_
              refine c_nilRow 9 1 ?_
              obtain rfl := Option.some.inj H57
              refine c_imp 3 rfl (row_ro _ _ _ _ _) ?_
              refine ret2 (v1 := .slice ((none, 0) : Option Addr × Nat).1 ([] : List (List UInt8)).length ((none, 0) : Option Addr × Nat).2) (v2 := .int .i64 t26) rfl rfl rfl (finX ((none, 0) : Option Addr × Nat) (i := 3) rfl rfl (Imp.refl _))
            · have H58 := cnd_f hb H56; clear H56
              refine c_skip ?_
              refine c_seq ?_
              refine c_region ?_
              refine l_loadN (i := 2) (vs := [str t23.Name, (elH h v0 2 (Int.toNat x21_2) 1)]) Tryd.isAgg74 Tryd.sizeOf74 rfl rfl rfl rfl rfl ?_
              refine l_loadN (i := 0) (vs := [.int .i64 a1.Lat, .int .i64 a1.Lon]) Tryd.isAgg68 Tryd.sizeOf68 rfl rfl rfl rfl rfl ?_
              obtain ⟨t32, h_t32, H59⟩ := bnd_some H58; clear H58
              refine l_callG (fun w hF hS => k88 (know_all w) ((show FrS h 2 (elH h v0 2 (Int.toNat x21_2) 1) (t23.Ring.map e_api_Place) from (g_where_Area_p1 (f0.at h_t23))).mono (hw.now hF)) h_t32) Tryd.call88 rfl rfl rfl ?_
              refine l_nil ?_
              refine c_if (b := t32) rfl (fun hb => ?_) (fun hb => ?_)
              · have H60 := cnd_t hb H59; clear H59
                refine c_region ?_
                refine l_val rfl rfl rfl (r_move (v := .slice p_3.1 l_3.length p_3.2) rfl) ?_
                refine l_val rfl rfl rfl (r_field Tryd.runUnderlying74 rfl Tryd.sizeOf9 rfl rfl) ?_
                refine l_load1 (i := 2) (v := str t23.Name) Tryd.isAgg9 rfl rfl rfl rfl rfl ?_
                refine l_buildSlice (vs := [str t23.Name]) (cs := [str t23.Name]) Tryd.underlying28 Tryd.sizeOf9 Tryd.zeroValue9 rfl rfl rfl rfl rfl rfl rfl (fun b8 => ?_)
                obtain ⟨l37, h_l37, H61⟩ := bnd_some H60; clear H60
                refine l_turn (turns_appG (i := 1) (hn := rfl) (rds := [3]) (p := p_3) (sz := 1) (by_ := 16) (f := e_string) (ys := l_3) (ls := ([t23.Name] : List (List UInt8))) (V := .slice (some ⟨b8, 0, none⟩) 1 1) Tryd.underlying28 (info_of Tryd.typeInfo9) rfl rfl rfl rfl rfl rfl rfl rfl rfl rfl (fun w L' hF hS hi => row_box (i := 3) hS ((hi 3 (by simp)).trans rfl) rfl rfl) (fun _ => rfl) (fun _ => rfl) h_l37) rfl rfl rfl (fun p_5 => ?_)
                refine l_val rfl rfl rfl (r_assign (v := .slice p_5.1 l37.length p_5.2) rfl) ?_
                refine l_nil ?_
                refine c_close l37 p_5 0 [0, 1] (by exact ⟨rfl, rfl, rfl, rfl, rfl, trivial⟩) (by decide) rfl (by exact ⟨H61, trivial⟩) (Nat.lt_succ_self _)
              · have H62 := cnd_f hb H59; clear H59
                refine c_skip ?_
                refine c_close l_3 p_3 0 [0, 1] (by exact ⟨rfl, rfl, rfl, rfl, rfl, trivial⟩) (by decide) rfl (by exact ⟨H62, trivial⟩) (Nat.lt_succ_self _)
          · rintro l_4 p_4 gg H53 _
            replace H53 : where_Names_j3 x21_2 next2 l_4 = some r := H53
            refine c_tidyF [(3, .pointer (some ⟨b6, 0, none⟩)), (7, .slice p_4.1 l_4.length p_4.2), (19, v0), (20, .int .i64 (a0.length : Int)), (21, .int .i64 x21_2)] [cellsC b6 [.int .i64 a1.Lat, .int .i64 a1.Lon] 68, rowV 9 1 (.slice p_4.1 l_4.length p_4.2) l_4.length (l_4.map e_string)] rfl rfl ?_
            refine c_region ?_
            obtain ⟨t38, h_t38, H54⟩ := bnd_some H53; clear H53
            refine l_val rfl rfl rfl (r_addG rfl rfl h_t38) ?_
            refine l_val rfl rfl rfl (r_move (v := .int .i64 t38) rfl) ?_
            refine l_nil ?_
            refine c_close (t38, l_4) p_4 m2 [0, 1] (by exact ⟨rfl, rfl, rfl, rfl, rfl, trivial⟩) (by decide) rfl (by exact ⟨(by subst hn2; exact H54), trivial⟩) (Nat.lt_succ_self _)
        · have H63 := cnd_f hb H51; clear H51
          refine c_exit ?_
          refine c_close l_3 p_3 0 [1] (by exact ⟨rfl, trivial⟩) (by decide) rfl (by exact ⟨H63, trivial⟩) (Nat.lt_succ_self _)
      · rintro l p gg H48 _
        replace H48 : where_Names_j1 l = some r := H48
        refine c_tidyF [(7, .slice p.1 l.length p.2)] [rowV 9 1 (.slice p.1 l.length p.2) l.length (l.map e_string)] rfl rfl ?_
        refine c_seq ?_
        refine c_region ?_
        refine l_val rfl rfl rfl (r_move (v := .slice p.1 l.length p.2) rfl) ?_
        obtain ⟨t40, h_t40, H49⟩ := bnd_some H48; clear H48
        refine l_turn (turns_callB (i := 0) (rds := []) (G := fun x : Unit => .tuple #[]) (C := fun x : Unit => rowV 9 1 (.slice p.1 l.length p.2) l.length (t40.map e_string)) rfl (fun w L' S hF hS hi hp hlt ho hA => k43 hp hlt (know_but w S) rfl h_t40) Tryd.call43 rfl) rfl rfl rfl (fun _ => ?_)
        refine c_know (fun w hF hS => lenOf (i := 0) hS rfl) (fun hl_ => ?_)
        have hl : l.length = t40.length := by simpa using hl_.symm
        refine l_nil ?_
        refine c_seq ?_
        refine c_region ?_
        refine l_val rfl rfl rfl (r_move (v := .slice p.1 l.length p.2) rfl) ?_
        obtain ⟨t42, h_t42, H50⟩ := bnd_some H49; clear H49
        refine l_turn (turns_callB (i := 0) (rds := []) (G := fun x : (Option Addr × Nat) => .slice x.1 t42.length x.2) (C := fun x : (Option Addr × Nat) => rowV 9 1 (.slice x.1 t42.length x.2) t42.length (t42.map e_string)) rfl (fun w L' S hF hS hi hp hlt ho hA => k44 hp hlt (know_but w S) hl h_t42) Tryd.call44 rfl) rfl rfl rfl (fun p_2 => ?_)
        refine l_callG (fun w hF hS => k58 (capOf (i := 0) hS rfl) w) Tryd.call58 rfl rfl rfl ?_
        refine l_val rfl rfl rfl (r_assign (v := .slice (cutA p_2.1 0 t42.length 1) t42.length t42.length) rfl) ?_
        refine l_val rfl rfl rfl (r_assign (v := .int .i64 0) rfl) ?_
        refine l_nil ?_
        refine c_ret ?_
        obtain rfl := Option.some.inj H50
        refine c_imp 0 rfl (imp_clipO _ _ _ _ _ _) ?_
        refine ret2 (v1 := .slice (cutA p_2.1 0 t42.length 1) t42.length t42.length) (v2 := .int .i64 0) rfl rfl rfl (finX (cutA p_2.1 0 t42.length 1, t42.length) (i := 0) rfl rfl (Imp.refl _))
theorem k37 {a0 : T_api_Place} {r : Int} (H : R_PlaceFault a0 = some r) : Ret Tryd.prog 37 [.agg #[.int .i64 a0.Lat, .int .i64 a0.Lon]] (.int .i64 r) := by
  refine enterRet (n := 21) Tryd.func37 rfl rfl rfl (fun wd => ?_)
  refine c_seq ?_
  refine c_region ?_
  refine l_box (cs := [.int .i64 a0.Lat, .int .i64 a0.Lon]) rfl rfl rfl rfl (fun b1 => ?_)
  refine l_val rfl rfl rfl (r_assign (v := .int .i64 0) rfl) ?_
  refine l_nil ?_
  refine c_seq ?_
  refine c_seq ?_
  refine c_region ?_
  refine l_val rfl rfl rfl (r_field Tryd.runUnderlying68 rfl Tryd.sizeOf3 rfl rfl) ?_
  refine l_load1 (i := 0) (v := .int .i64 a0.Lat) Tryd.isAgg3 rfl rfl rfl rfl rfl ?_
  refine l_val rfl rfl rfl (r_lss rfl rfl) ?_
  refine l_val rfl rfl rfl (r_move (v := .bool (decide (a0.Lat < (-90000000)))) rfl) ?_
  refine split (fun hb => ?_) (fun hb => ?_)
  · have H9 := cnd_t hb H; clear H
    refine l_passed rfl rfl rfl ?_
    refine l_passed rfl rfl rfl ?_
    refine l_passed rfl rfl rfl ?_
    refine l_val rfl rfl rfl (r_pickT (v := .bool true) rfl rfl) ?_
    refine l_val rfl rfl rfl (r_move (v := .bool true) rfl) ?_
    refine l_passed rfl rfl rfl ?_
    refine l_passed rfl rfl rfl ?_
    refine l_passed rfl rfl rfl ?_
    refine l_val rfl rfl rfl (r_pickT (v := .bool true) rfl rfl) ?_
    refine l_val rfl rfl rfl (r_move (v := .bool true) rfl) ?_
    refine l_passed rfl rfl rfl ?_
    refine l_passed rfl rfl rfl ?_
    refine l_passed rfl rfl rfl ?_
    refine l_val rfl rfl rfl (r_pickT (v := .bool true) rfl rfl) ?_
    refine l_nil ?_
    refine c_true rfl ?_
    refine c_seq ?_
    refine c_region ?_
    refine l_val rfl rfl rfl (r_assign (v := .int .i64 2) rfl) ?_
    refine l_nil ?_
    refine c_ret ?_
    obtain rfl := Option.some.inj H9
    refine ret1 (v := .int .i64 2) rfl rfl (fin rfl)
  · have H10 := cnd_f hb H; clear H
    refine l_val rfl rfl rfl (r_field Tryd.runUnderlying68 rfl Tryd.sizeOf3 rfl rfl) ?_
    refine l_load1 (i := 0) (v := .int .i64 a0.Lat) Tryd.isAgg3 rfl rfl rfl rfl rfl ?_
    refine l_val rfl rfl rfl (r_gtr rfl rfl) ?_
    refine l_val rfl rfl rfl (r_pickF (v := .bool (decide (90000000 < a0.Lat))) rfl rfl) ?_
    refine l_val rfl rfl rfl (r_move (v := .bool (decide (90000000 < a0.Lat))) rfl) ?_
    refine split (fun hb => ?_) (fun hb => ?_)
    · have H11 := cnd_t hb H10; clear H10
      refine l_passed rfl rfl rfl ?_
      refine l_passed rfl rfl rfl ?_
      refine l_passed rfl rfl rfl ?_
      refine l_val rfl rfl rfl (r_pickT (v := .bool true) rfl rfl) ?_
      refine l_val rfl rfl rfl (r_move (v := .bool true) rfl) ?_
      refine l_passed rfl rfl rfl ?_
      refine l_passed rfl rfl rfl ?_
      refine l_passed rfl rfl rfl ?_
      refine l_val rfl rfl rfl (r_pickT (v := .bool true) rfl rfl) ?_
      refine l_nil ?_
      refine c_true rfl ?_
      refine c_seq ?_
      refine c_region ?_
      refine l_val rfl rfl rfl (r_assign (v := .int .i64 2) rfl) ?_
      refine l_nil ?_
      refine c_ret ?_
      obtain rfl := Option.some.inj H11
      refine ret1 (v := .int .i64 2) rfl rfl (fin rfl)
    · have H12 := cnd_f hb H10; clear H10
      refine l_val rfl rfl rfl (r_field Tryd.runUnderlying68 rfl Tryd.sizeOf3 rfl rfl) ?_
      refine l_load1 (i := 0) (v := .int .i64 a0.Lon) Tryd.isAgg3 rfl rfl rfl rfl rfl ?_
      refine l_val rfl rfl rfl (r_lss rfl rfl) ?_
      refine l_val rfl rfl rfl (r_pickF (v := .bool (decide (a0.Lon < (-180000000)))) rfl rfl) ?_
      refine l_val rfl rfl rfl (r_move (v := .bool (decide (a0.Lon < (-180000000)))) rfl) ?_
      refine split (fun hb => ?_) (fun hb => ?_)
      · have H13 := cnd_t hb H12; clear H12
        refine l_passed rfl rfl rfl ?_
        refine l_passed rfl rfl rfl ?_
        refine l_passed rfl rfl rfl ?_
        refine l_val rfl rfl rfl (r_pickT (v := .bool true) rfl rfl) ?_
        refine l_nil ?_
        refine c_true rfl ?_
        refine c_seq ?_
        refine c_region ?_
        refine l_val rfl rfl rfl (r_assign (v := .int .i64 2) rfl) ?_
        refine l_nil ?_
        refine c_ret ?_
        obtain rfl := Option.some.inj H13
        refine ret1 (v := .int .i64 2) rfl rfl (fin rfl)
      · have H14 := cnd_f hb H12; clear H12
        refine l_val rfl rfl rfl (r_field Tryd.runUnderlying68 rfl Tryd.sizeOf3 rfl rfl) ?_
        refine l_load1 (i := 0) (v := .int .i64 a0.Lon) Tryd.isAgg3 rfl rfl rfl rfl rfl ?_
        refine l_val rfl rfl rfl (r_gtr rfl rfl) ?_
        refine l_val rfl rfl rfl (r_pickF (v := .bool (decide (179999999 < a0.Lon))) rfl rfl) ?_
        refine l_nil ?_
        refine c_if (b := (decide (179999999 < a0.Lon))) rfl (fun hb => ?_) (fun hb => ?_)
        · have H15 := cnd_t hb H14; clear H14
          refine c_seq ?_
          refine c_region ?_
          refine l_val rfl rfl rfl (r_assign (v := .int .i64 2) rfl) ?_
          refine l_nil ?_
          refine c_ret ?_
          obtain rfl := Option.some.inj H15
          refine ret1 (v := .int .i64 2) rfl rfl (fin rfl)
        · have H16 := cnd_f hb H14; clear H14
          refine c_skip ?_
          refine c_seq ?_
          refine c_region ?_
          refine l_val rfl rfl rfl (r_assign (v := .int .i64 0) rfl) ?_
          refine l_nil ?_
          refine c_ret ?_
          obtain rfl := Option.some.inj H16
          refine ret1 (v := .int .i64 0) rfl rfl (fin rfl)
theorem k151 {a0 : (List UInt8)} {a1 : Int} {r : (List UInt8)} (H : strings_trimLeftByte a0 a1 = some r) : Ret Tryd.prog 151 [str a0, .int .u8 a1] (str r) := by
  refine enterRet (n := 17) Tryd.func151 rfl rfl rfl (fun wd => ?_)
  refine c_seq ?_
  refine c_region ?_
  refine l_val rfl rfl rfl (r_assign (v := str []) rfl) ?_
  refine l_nil ?_
  refine c_seq ?_
  refine c_block ?_
  refine c_fix (σ := (List UInt8)) (τ := Unit) (fun next1 s => strings_trimLeftByte_l1 a1 next1 s) (fun s t => [(0, str s), (1, .int .u8 a1)]) (fun s t => []) (fun s t => True) a0 () [] H (by exact trivial) (by exact ⟨rfl, rfl, trivial⟩) (by decide) rfl ?_
  rintro x0_2 _ m1 gg H8 _
  clear H
  replace H8 : strings_trimLeftByte_l1 a1 (it (fun next1 s => strings_trimLeftByte_l1 a1 next1 s) m1) x0_2 = some r := H8
  generalize hn1 : it (fun next1 s => strings_trimLeftByte_l1 a1 next1 s) m1 = next1 at H8
  refine c_tidyF [(0, str x0_2), (1, .int .u8 a1)] [] rfl rfl ?_
  refine c_seq ?_
  refine c_seq ?_
  refine c_region ?_
  refine l_val rfl rfl rfl (r_move (v := str x0_2) rfl) ?_
  refine l_val rfl rfl rfl (r_lenT Tryd.underlying9 rfl) ?_
  refine l_val rfl rfl rfl (r_gtr rfl rfl) ?_
  refine l_val rfl rfl rfl (r_move (v := .bool (decide (0 < (x0_2.length : Int)))) rfl) ?_
  refine split (fun hb => ?_) (fun hb => ?_)
  · have H9 := cnd_t hb H8; clear H8
    refine l_val rfl rfl rfl (r_move (v := str x0_2) rfl) ?_
    obtain ⟨t10, h_t10, H10⟩ := bnd_some H9; clear H9
    refine l_val rfl rfl rfl (r_octG Tryd.underlying9 rfl rfl h_t10) ?_
    refine l_val rfl rfl rfl (r_move (v := .int .u8 a1) rfl) ?_
    refine l_val rfl rfl rfl (r_eql rfl rfl) ?_
    refine l_val rfl rfl rfl (r_pickT (v := .bool (decide (t10 = a1))) rfl rfl) ?_
    refine l_nil ?_
    refine c_if (b := (decide (t10 = a1))) rfl (fun hb => ?_) (fun hb => ?_)
    · have H11 := cnd_t hb H10; clear H10
      refine c_skip ?_
      refine c_block ?_
      refine c_region ?_
      refine l_val rfl rfl rfl (r_move (v := str x0_2) rfl) ?_
      obtain ⟨t15, h_t15, H12⟩ := bnd_some H11; clear H11
      refine l_val rfl rfl rfl (r_cutFromG Tryd.underlying9 rfl rfl h_t15) ?_
      refine l_val rfl rfl rfl (r_assign (v := str t15) rfl) ?_
      refine l_nil ?_
      refine c_close t15 () m1 [] (by exact ⟨rfl, rfl, trivial⟩) (by decide) rfl (by exact ⟨(by subst hn1; exact H12), trivial⟩) (Nat.lt_succ_self _)
    · have H13 := cnd_f hb H10; clear H10
      refine c_exit ?_
      refine c_seq ?_
      refine c_region ?_
      refine l_val rfl rfl rfl (r_move (v := str x0_2) rfl) ?_
      refine l_val rfl rfl rfl (r_assign (v := str x0_2) rfl) ?_
      refine l_nil ?_
      refine c_ret ?_
      obtain rfl := Option.some.inj H13
      refine ret1 (v := str x0_2) rfl rfl (fin rfl)
  · have H14 := cnd_f hb H8; clear H8
    refine l_passed rfl rfl rfl ?_
    refine l_passed rfl rfl rfl ?_
    refine l_passed rfl rfl rfl ?_
    refine l_passed rfl rfl rfl ?_
    refine l_val rfl rfl rfl (r_pickF (v := .bool false) rfl rfl) ?_
    refine l_nil ?_
    refine c_false rfl ?_
    refine c_exit ?_
    refine c_seq ?_
    refine c_region ?_
    refine l_val rfl rfl rfl (r_move (v := str x0_2) rfl) ?_
    refine l_val rfl rfl rfl (r_assign (v := str x0_2) rfl) ?_
    refine l_nil ?_
    refine c_ret ?_
    obtain rfl := Option.some.inj H14
    refine ret1 (v := str x0_2) rfl rfl (fin rfl)
theorem k152 {a0 : (List UInt8)} {a1 : Int} {r : (List UInt8)} (H : strings_trimRightByte a0 a1 = some r) : Ret Tryd.prog 152 [str a0, .int .u8 a1] (str r) := by
  refine enterRet (n := 23) Tryd.func152 rfl rfl rfl (fun wd => ?_)
  refine c_seq ?_
  refine c_region ?_
  refine l_val rfl rfl rfl (r_assign (v := str []) rfl) ?_
  refine l_nil ?_
  refine c_seq ?_
  refine c_block ?_
  refine c_fix (σ := (List UInt8)) (τ := Unit) (fun next1 s => strings_trimRightByte_l1 a1 next1 s) (fun s t => [(0, str s), (1, .int .u8 a1)]) (fun s t => []) (fun s t => True) a0 () [] H (by exact trivial) (by exact ⟨rfl, rfl, trivial⟩) (by decide) rfl ?_
  rintro x0_2 _ m1 gg H10 _
  clear H
  replace H10 : strings_trimRightByte_l1 a1 (it (fun next1 s => strings_trimRightByte_l1 a1 next1 s) m1) x0_2 = some r := H10
  generalize hn1 : it (fun next1 s => strings_trimRightByte_l1 a1 next1 s) m1 = next1 at H10
  refine c_tidyF [(0, str x0_2), (1, .int .u8 a1)] [] rfl rfl ?_
  refine c_seq ?_
  refine c_seq ?_
  refine c_region ?_
  refine l_val rfl rfl rfl (r_move (v := str x0_2) rfl) ?_
  refine l_val rfl rfl rfl (r_lenT Tryd.underlying9 rfl) ?_
  refine l_val rfl rfl rfl (r_gtr rfl rfl) ?_
  refine l_val rfl rfl rfl (r_move (v := .bool (decide (0 < (x0_2.length : Int)))) rfl) ?_
  refine split (fun hb => ?_) (fun hb => ?_)
  · have H11 := cnd_t hb H10; clear H10
    refine l_val rfl rfl rfl (r_move (v := str x0_2) rfl) ?_
    refine l_val rfl rfl rfl (r_move (v := str x0_2) rfl) ?_
    refine l_val rfl rfl rfl (r_lenT Tryd.underlying9 rfl) ?_
    obtain ⟨t12, h_t12, H12⟩ := bnd_some H11; clear H11
    refine l_val rfl rfl rfl (r_subG rfl rfl h_t12) ?_
    obtain ⟨t13, h_t13, H13⟩ := bnd_some H12; clear H12
    refine l_val rfl rfl rfl (r_octG Tryd.underlying9 rfl rfl h_t13) ?_
    refine l_val rfl rfl rfl (r_move (v := .int .u8 a1) rfl) ?_
    refine l_val rfl rfl rfl (r_eql rfl rfl) ?_
    refine l_val rfl rfl rfl (r_pickT (v := .bool (decide (t13 = a1))) rfl rfl) ?_
    refine l_nil ?_
    refine c_if (b := (decide (t13 = a1))) rfl (fun hb => ?_) (fun hb => ?_)
    · have H14 := cnd_t hb H13; clear H13
      refine c_skip ?_
      refine c_block ?_
      refine c_region ?_
      refine l_val rfl rfl rfl (r_move (v := str x0_2) rfl) ?_
      refine l_val rfl rfl rfl (r_move (v := str x0_2) rfl) ?_
      refine l_val rfl rfl rfl (r_lenT Tryd.underlying9 rfl) ?_
      obtain ⟨t20, h_t20, H15⟩ := bnd_some H14; clear H14
      refine l_val rfl rfl rfl (r_subG rfl rfl h_t20) ?_
      obtain ⟨t21, h_t21, H16⟩ := bnd_some H15; clear H15
      refine l_val rfl rfl rfl (r_cutToG Tryd.underlying9 rfl rfl h_t21) ?_
      refine l_val rfl rfl rfl (r_assign (v := str t21) rfl) ?_
      refine l_nil ?_
      refine c_close t21 () m1 [] (by exact ⟨rfl, rfl, trivial⟩) (by decide) rfl (by exact ⟨(by subst hn1; exact H16), trivial⟩) (Nat.lt_succ_self _)
    · have H17 := cnd_f hb H13; clear H13
      refine c_exit ?_
      refine c_seq ?_
      refine c_region ?_
      refine l_val rfl rfl rfl (r_move (v := str x0_2) rfl) ?_
      refine l_val rfl rfl rfl (r_assign (v := str x0_2) rfl) ?_
      refine l_nil ?_
      refine c_ret ?_
      obtain rfl := Option.some.inj H17
      refine ret1 (v := str x0_2) rfl rfl (fin rfl)
  · have H18 := cnd_f hb H10; clear H10
    refine l_passed rfl rfl rfl ?_
    refine l_passed rfl rfl rfl ?_
    refine l_passed rfl rfl rfl ?_
    refine l_passed rfl rfl rfl ?_
    refine l_passed rfl rfl rfl ?_
    refine l_passed rfl rfl rfl ?_
    refine l_passed rfl rfl rfl ?_
    refine l_val rfl rfl rfl (r_pickF (v := .bool false) rfl rfl) ?_
    refine l_nil ?_
    refine c_false rfl ?_
    refine c_exit ?_
    refine c_seq ?_
    refine c_region ?_
    refine l_val rfl rfl rfl (r_move (v := str x0_2) rfl) ?_
    refine l_val rfl rfl rfl (r_assign (v := str x0_2) rfl) ?_
    refine l_nil ?_
    refine c_ret ?_
    obtain rfl := Option.some.inj H18
    refine ret1 (v := str x0_2) rfl rfl (fin rfl)
theorem k153 {a0 : (List UInt8)} {r : (Nat → Bool) × Bool} (H : strings_makeASCIISet a0 = some r) : Ret Tryd.prog 153 [str a0] (.tuple #[.agg (List.toArray (arrC 256 (fun j_ => [.bool (r.1 j_)]))), .bool r.2]) := by
  refine enterRet (n := 21) Tryd.func153 rfl rfl rfl (fun wd => ?_)
  refine c_seq ?_
  refine c_region ?_
  refine l_alloc (cs := (arrC 256 (fun j_ => [.bool ((fun _ => false) j_)]))) Tryd.zeroValue194 (by kernel_rfl) rfl rfl (fun b1 => ?_)
  refine l_val rfl rfl rfl (r_assign (v := .bool false) rfl) ?_
  refine l_nil ?_
  refine c_meet (r := r) (σ := (Nat → Bool)) (τ := Unit) (fun s => strings_makeASCIISet_j1 s) (fun s t => [(2, .pointer (some ⟨b1, 0, none⟩))]) (fun s t => [cellsC b1 (arrC 256 (fun j_ => [.bool (s j_)])) 194]) (fun s t => True) ?_ ?_
  · refine c_seq ?_
    refine c_region ?_
    refine l_val rfl rfl rfl (r_assign (v := .int .i64 0) rfl) ?_
    refine l_nil ?_
    refine c_block ?_
    refine c_fix (σ := Int × (Nat → Bool)) (τ := Unit) (fun next2 s => strings_makeASCIISet_l2 a0 next2 s.1 s.2) (fun s t => [(0, str a0), (2, .pointer (some ⟨b1, 0, none⟩)), (4, .int .i64 s.1)]) (fun s t => [cellsC b1 (arrC 256 (fun j_ => [.bool (s.2 j_)])) 194]) (fun s t => True) (0, (fun _ => false)) () [0] H (by exact trivial) (by exact ⟨rfl, rfl, rfl, trivial⟩) (by decide) rfl ?_
    rintro ⟨x4_2, m_3⟩ _ m2 gg H11 _
    clear H
    replace H11 : strings_makeASCIISet_l2 a0 (it (fun next2 s => strings_makeASCIISet_l2 a0 next2 s.1 s.2) m2) x4_2 m_3 = some r := H11
    generalize hn2 : it (fun next2 s => strings_makeASCIISet_l2 a0 next2 s.1 s.2) m2 = next2 at H11
    refine c_tidyF [(0, str a0), (2, .pointer (some ⟨b1, 0, none⟩)), (4, .int .i64 x4_2)] [cellsC b1 (arrC 256 (fun j_ => [.bool (m_3 j_)])) 194] rfl rfl ?_
    refine c_seq ?_
    refine c_seq ?_
    refine c_region ?_
    refine l_val rfl rfl rfl (r_move (v := .int .i64 x4_2) rfl) ?_
    refine l_val rfl rfl rfl (r_move (v := str a0) rfl) ?_
    refine l_val rfl rfl rfl (r_lenT Tryd.underlying9 rfl) ?_
    refine l_val rfl rfl rfl (r_lss rfl rfl) ?_
    refine l_nil ?_
    refine c_if (b := (decide (x4_2 < (a0.length : Int)))) rfl (fun hb => ?_) (fun hb => ?_)
    · have H12 := cnd_t hb H11; clear H11
      refine c_skip ?_
      refine c_seq ?_
      refine c_block ?_
      refine c_seq ?_
      refine c_region ?_
      refine l_val rfl rfl rfl (r_move (v := str a0) rfl) ?_
      refine l_val rfl rfl rfl (r_move (v := .int .i64 x4_2) rfl) ?_
      obtain ⟨t14, h_t14, H13⟩ := bnd_some H12; clear H12
      refine l_val rfl rfl rfl (r_octG Tryd.underlying9 rfl rfl h_t14) ?_
      refine l_val rfl rfl rfl (r_assign (v := .int .u8 t14) rfl) ?_
      refine l_nil ?_
      refine c_seq ?_
      refine c_seq ?_
      refine c_region ?_
      refine l_val rfl rfl rfl (r_move (v := .int .u8 t14) rfl) ?_
      refine l_val rfl rfl rfl (r_geq rfl rfl) ?_
      refine l_nil ?_
      refine c_if (b := (decide (128 ≤ t14))) rfl (fun hb => ?_) (fun hb => ?_)
      · have H14 := cnd_t hb H13; clear H13
        refine c_seq ?_
        refine c_region ?_
        refine l_loadN (i := 0) (vs := (arrC 256 (fun j_ => [.bool (m_3 j_)]))) Tryd.isAgg194 Tryd.sizeOf194 rfl rfl rfl rfl (rd_whole (arrC_len (fun _ => rfl))) ?_
        refine l_store (i := 0) (vs := (arrC 256 (fun j_ => [.bool (m_3 j_)]))) (cs' := (arrC 256 (fun j_ => [.bool (m_3 j_)]))) Tryd.sizeOf194 rfl rfl rfl rfl (arrC_len (fun _ => rfl)) rfl (arrC_one (fun _ => rfl)) rfl (wr_whole ((arrC_len (fun _ => rfl)).trans (arrC_len (fun _ => rfl)).symm)) ?_
        refine l_val rfl rfl rfl (r_assign (v := .bool false) rfl) ?_
        refine l_nil ?_
        refine c_ret ?_
        obtain rfl := Option.some.inj H14
        refine retCt (i := 0) (vs := (arrC 256 (fun j_ => [.bool (m_3 j_)]))) (v2 := .bool false) Tryd.isAgg194 Tryd.sizeOf194 rfl rfl rfl (rd_whole (arrC_len (fun _ => rfl))) rfl (fin rfl)
      · have H15 := cnd_f hb H13; clear H13
        refine c_skip ?_
        refine c_region ?_
        refine l_val rfl rfl rfl (r_move (v := .int .u8 t14) rfl) ?_
        obtain ⟨k19, h_k19, H16⟩ := bnd_some H15; clear H15
        refine l_val rfl rfl rfl (r_indexPG Tryd.runUnderlying194 Tryd.sizeOf4 rfl rfl h_k19) ?_
        refine l_store (i := 0) (vs := [.bool true]) (cs' := (arrC 256 (fun j_ => [.bool ((setA m_3 k19 true) j_)]))) Tryd.sizeOf4 rfl rfl rfl rfl rfl rfl rfl rfl (wr_arr (pre := []) (post := []) (f := fun (j_ : Bool) => [.bool j_]) (n := 256) (sz := 1) (a := m_3) (x := true) (arr_whole _ _) rfl (fun _ => rfl) (gIx_lt h_k19) rfl (arr_whole _ _)) ?_
        refine l_nil ?_
        refine c_region ?_
        refine l_val rfl rfl rfl (r_move (v := .int .i64 x4_2) rfl) ?_
        obtain ⟨t11, h_t11, H17⟩ := bnd_some H16; clear H16
        refine l_val rfl rfl rfl (r_addG rfl rfl h_t11) ?_
        refine l_val rfl rfl rfl (r_assign (v := .int .i64 t11) rfl) ?_
        refine l_nil ?_
        refine c_close (t11, (setA m_3 k19 true)) () m2 [0] (by exact ⟨rfl, rfl, rfl, trivial⟩) (by decide) rfl (by exact ⟨(by subst hn2; exact H17), trivial⟩) (Nat.lt_succ_self _)
    · have H18 := cnd_f hb H11; clear H11
      refine c_exit ?_
      refine c_close m_3 () 0 [0] (by exact ⟨rfl, trivial⟩) (by decide) rfl (by exact ⟨H18, trivial⟩) (Nat.lt_succ_self _)
  · rintro m _ gg H10 _
    replace H10 : strings_makeASCIISet_j1 m = some r := H10
    refine c_tidyF [(2, .pointer (some ⟨b1, 0, none⟩))] [cellsC b1 (arrC 256 (fun j_ => [.bool (m j_)])) 194] rfl rfl ?_
    refine c_seq ?_
    refine c_region ?_
    refine l_loadN (i := 0) (vs := (arrC 256 (fun j_ => [.bool (m j_)]))) Tryd.isAgg194 Tryd.sizeOf194 rfl rfl rfl rfl (rd_whole (arrC_len (fun _ => rfl))) ?_
    refine l_store (i := 0) (vs := (arrC 256 (fun j_ => [.bool (m j_)]))) (cs' := (arrC 256 (fun j_ => [.bool (m j_)]))) Tryd.sizeOf194 rfl rfl rfl rfl (arrC_len (fun _ => rfl)) rfl (arrC_one (fun _ => rfl)) rfl (wr_whole ((arrC_len (fun _ => rfl)).trans (arrC_len (fun _ => rfl)).symm)) ?_
    refine l_val rfl rfl rfl (r_assign (v := .bool true) rfl) ?_
    refine l_nil ?_
    refine c_ret ?_
    obtain rfl := Option.some.inj H10
    refine retCt (i := 0) (vs := (arrC 256 (fun j_ => [.bool (m j_)]))) (v2 := .bool true) Tryd.isAgg194 Tryd.sizeOf194 rfl rfl rfl (rd_whole (arrC_len (fun _ => rfl))) rfl (fin rfl)
theorem k184 {a0 : (Nat → Bool)} {pb0 : Nat} {a1 : Int} {r : Bool × (Nat → Bool)} {w : World} {h : Heap} {S : Nat → Prop} (hcs : (cellsC pb0 (arrC 256 (fun j_ => [.bool (a0 j_)])) 194).P S w) (hlt : ∀ b, S b → b < w.heap.size) (hw : Know h w S) (H : strings_asciiSet_contains a0 a1 = some r) : Does Tryd.prog 184 (List.toArray [.pointer (some ⟨pb0, 0, none⟩), .int .u8 a1]) w (fun v w' => ∃ x : Unit, v = (.bool r.1) ∧ Turn w w' S (cellsC pb0 (arrC 256 (fun j_ => [.bool (r.2 j_)])) 194)) := by
  refine enter (n := 10) Tryd.func184 rfl rfl rfl S [cellsC pb0 (arrC 256 (fun j_ => [.bool (a0 j_)])) 194] (Sat.one hcs hlt) ?_
  refine c_seq ?_
  refine c_region ?_
  refine l_val rfl rfl rfl (r_assign (v := .bool false) rfl) ?_
  refine l_nil ?_
  refine c_seq ?_
  refine c_region ?_
  refine l_val rfl rfl rfl (r_move (v := .pointer (some ⟨pb0, 0, none⟩)) rfl) ?_
  refine l_val rfl rfl rfl (r_move (v := .int .u8 a1) rfl) ?_
  refine l_val rfl rfl rfl (r_nilCheck rfl) ?_
  obtain ⟨k8, h_k8, H2⟩ := bnd_some H; clear H
  refine l_val rfl rfl rfl (r_indexPG Tryd.runUnderlying194 Tryd.sizeOf4 rfl rfl h_k8) ?_
  refine l_load1 (i := 0) (v := .bool (a0 k8)) Tryd.isAgg4 rfl rfl rfl rfl (rg_arr (pre := []) (post := []) (f := fun j_ => [.bool (a0 j_)]) (n := 256) (sz := 1) (q := 0) (arr_whole _ _) rfl (fun _ => rfl) (gIx_lt h_k8) rfl) ?_
  refine l_val rfl rfl rfl (r_assign (v := .bool (a0 k8)) rfl) ?_
  refine l_nil ?_
  refine c_ret ?_
  obtain rfl := Option.some.inj H2
  refine ret1 (v := .bool (a0 k8)) rfl rfl (finX () (i := 0) rfl rfl (Imp.refl _))
theorem k154 {a0 : (List UInt8)} {a1 : (Nat → Bool)} {pb1 : Nat} {r : (List UInt8) × (Nat → Bool)} {w : World} {h : Heap} {S : Nat → Prop} (hcs : (cellsC pb1 (arrC 256 (fun j_ => [.bool (a1 j_)])) 194).P S w) (hlt : ∀ b, S b → b < w.heap.size) (hw : Know h w S) (H : strings_trimLeftASCII a0 a1 = some r) : Does Tryd.prog 154 (List.toArray [str a0, .pointer (some ⟨pb1, 0, none⟩)]) w (fun v w' => ∃ x : Unit, v = (str r.1) ∧ Turn w w' S (cellsC pb1 (arrC 256 (fun j_ => [.bool (r.2 j_)])) 194)) := by
  refine enter (n := 16) Tryd.func154 rfl rfl rfl S [cellsC pb1 (arrC 256 (fun j_ => [.bool (a1 j_)])) 194] (Sat.one hcs hlt) ?_
  refine c_seq ?_
  refine c_region ?_
  refine l_val rfl rfl rfl (r_assign (v := str []) rfl) ?_
  refine l_nil ?_
  refine c_seq ?_
  refine c_block ?_
  refine c_fix (σ := (List UInt8) × (Nat → Bool)) (τ := Unit) (fun next1 s => strings_trimLeftASCII_l1 next1 s.1 s.2) (fun s t => [(0, str s.1), (1, .pointer (some ⟨pb1, 0, none⟩))]) (fun s t => [cellsC pb1 (arrC 256 (fun j_ => [.bool (s.2 j_)])) 194]) (fun s t => True) (a0, a1) () [0] H (by exact trivial) (by exact ⟨rfl, rfl, trivial⟩) (by decide) rfl ?_
  rintro ⟨x0_2, m_2⟩ _ m1 gg H9 _
  clear H
  replace H9 : strings_trimLeftASCII_l1 (it (fun next1 s => strings_trimLeftASCII_l1 next1 s.1 s.2) m1) x0_2 m_2 = some r := H9
  generalize hn1 : it (fun next1 s => strings_trimLeftASCII_l1 next1 s.1 s.2) m1 = next1 at H9
  refine c_tidyF [(0, str x0_2), (1, .pointer (some ⟨pb1, 0, none⟩))] [cellsC pb1 (arrC 256 (fun j_ => [.bool (m_2 j_)])) 194] rfl rfl ?_
  refine c_seq ?_
  refine c_seq ?_
  refine c_region ?_
  refine l_val rfl rfl rfl (r_move (v := str x0_2) rfl) ?_
  refine l_val rfl rfl rfl (r_lenT Tryd.underlying9 rfl) ?_
  refine l_val rfl rfl rfl (r_gtr rfl rfl) ?_
  refine l_nil ?_
  refine c_if (b := (decide (0 < (x0_2.length : Int)))) rfl (fun hb => ?_) (fun hb => ?_)
  · have H10 := cnd_t hb H9; clear H9
    refine c_skip ?_
    refine c_block ?_
    refine c_seq ?_
    refine c_seq ?_
    refine c_region ?_
    refine l_val rfl rfl rfl (r_move (v := .pointer (some ⟨pb1, 0, none⟩)) rfl) ?_
    refine l_val rfl rfl rfl (r_move (v := str x0_2) rfl) ?_
    obtain ⟨t10, h_t10, H11⟩ := bnd_some H10; clear H10
    refine l_val rfl rfl rfl (r_octG Tryd.underlying9 rfl rfl h_t10) ?_
    obtain ⟨t11, h_t11, H12⟩ := bnd_some H11; clear H11
    refine l_turn (turns_callB (i := 0) (rds := []) (G := fun x : Unit => .bool t11.1) (C := fun x : Unit => cellsC pb1 (arrC 256 (fun j_ => [.bool (t11.2 j_)])) 194) rfl (fun w L' S hF hS hi hp hlt ho hA => k184 hp hlt (know_but w S)  h_t11) Tryd.call184 rfl) rfl rfl rfl (fun _ => ?_)
    refine l_val rfl rfl rfl (r_not rfl) ?_
    refine l_nil ?_
    refine c_if (b := (!t11.1)) rfl (fun hb => ?_) (fun hb => ?_)
    · have H13 := cnd_t hb H12; clear H12
      refine c_exit ?_
      refine c_seq ?_
      refine c_region ?_
      refine l_val rfl rfl rfl (r_move (v := str x0_2) rfl) ?_
      refine l_val rfl rfl rfl (r_assign (v := str x0_2) rfl) ?_
      refine l_nil ?_
      refine c_ret ?_
      obtain rfl := Option.some.inj H13
      refine ret1 (v := str x0_2) rfl rfl (finX () (i := 0) rfl rfl (Imp.refl _))
    · have H14 := cnd_f hb H12; clear H12
      refine c_skip ?_
      refine c_region ?_
      refine l_val rfl rfl rfl (r_move (v := str x0_2) rfl) ?_
      obtain ⟨t14, h_t14, H15⟩ := bnd_some H14; clear H14
      refine l_val rfl rfl rfl (r_cutFromG Tryd.underlying9 rfl rfl h_t14) ?_
      refine l_val rfl rfl rfl (r_assign (v := str t14) rfl) ?_
      refine l_nil ?_
      refine c_close (t14, t11.2) () m1 [0] (by exact ⟨rfl, rfl, trivial⟩) (by decide) rfl (by exact ⟨(by subst hn1; exact H15), trivial⟩) (Nat.lt_succ_self _)
  · have H16 := cnd_f hb H9; clear H9
    refine c_exit ?_
    refine c_seq ?_
    refine c_region ?_
    refine l_val rfl rfl rfl (r_move (v := str x0_2) rfl) ?_
    refine l_val rfl rfl rfl (r_assign (v := str x0_2) rfl) ?_
    refine l_nil ?_
    refine c_ret ?_
    obtain rfl := Option.some.inj H16
    refine ret1 (v := str x0_2) rfl rfl (finX () (i := 0) rfl rfl (Imp.refl _))
theorem k155 {a0 : (List UInt8)} {a1 : (Nat → Bool)} {pb1 : Nat} {r : (List UInt8) × (Nat → Bool)} {w : World} {h : Heap} {S : Nat → Prop} (hcs : (cellsC pb1 (arrC 256 (fun j_ => [.bool (a1 j_)])) 194).P S w) (hlt : ∀ b, S b → b < w.heap.size) (hw : Know h w S) (H : strings_trimRightASCII a0 a1 = some r) : Does Tryd.prog 155 (List.toArray [str a0, .pointer (some ⟨pb1, 0, none⟩)]) w (fun v w' => ∃ x : Unit, v = (str r.1) ∧ Turn w w' S (cellsC pb1 (arrC 256 (fun j_ => [.bool (r.2 j_)])) 194)) := by
  refine enter (n := 22) Tryd.func155 rfl rfl rfl S [cellsC pb1 (arrC 256 (fun j_ => [.bool (a1 j_)])) 194] (Sat.one hcs hlt) ?_
  refine c_seq ?_
  refine c_region ?_
  refine l_val rfl rfl rfl (r_assign (v := str []) rfl) ?_
  refine l_nil ?_
  refine c_seq ?_
  refine c_block ?_
  refine c_fix (σ := (List UInt8) × (Nat → Bool)) (τ := Unit) (fun next1 s => strings_trimRightASCII_l1 next1 s.1 s.2) (fun s t => [(0, str s.1), (1, .pointer (some ⟨pb1, 0, none⟩))]) (fun s t => [cellsC pb1 (arrC 256 (fun j_ => [.bool (s.2 j_)])) 194]) (fun s t => True) (a0, a1) () [0] H (by exact trivial) (by exact ⟨rfl, rfl, trivial⟩) (by decide) rfl ?_
  rintro ⟨x0_2, m_2⟩ _ m1 gg H11 _
  clear H
  replace H11 : strings_trimRightASCII_l1 (it (fun next1 s => strings_trimRightASCII_l1 next1 s.1 s.2) m1) x0_2 m_2 = some r := H11
  generalize hn1 : it (fun next1 s => strings_trimRightASCII_l1 next1 s.1 s.2) m1 = next1 at H11
  refine c_tidyF [(0, str x0_2), (1, .pointer (some ⟨pb1, 0, none⟩))] [cellsC pb1 (arrC 256 (fun j_ => [.bool (m_2 j_)])) 194] rfl rfl ?_
  refine c_seq ?_
  refine c_seq ?_
  refine c_region ?_
  refine l_val rfl rfl rfl (r_move (v := str x0_2) rfl) ?_
  refine l_val rfl rfl rfl (r_lenT Tryd.underlying9 rfl) ?_
  refine l_val rfl rfl rfl (r_gtr rfl rfl) ?_
  refine l_nil ?_
  refine c_if (b := (decide (0 < (x0_2.length : Int)))) rfl (fun hb => ?_) (fun hb => ?_)
  · have H12 := cnd_t hb H11; clear H11
    refine c_skip ?_
    refine c_block ?_
    refine c_seq ?_
    refine c_seq ?_
    refine c_region ?_
    refine l_val rfl rfl rfl (r_move (v := .pointer (some ⟨pb1, 0, none⟩)) rfl) ?_
    refine l_val rfl rfl rfl (r_move (v := str x0_2) rfl) ?_
    refine l_val rfl rfl rfl (r_move (v := str x0_2) rfl) ?_
    refine l_val rfl rfl rfl (r_lenT Tryd.underlying9 rfl) ?_
    obtain ⟨t12, h_t12, H13⟩ := bnd_some H12; clear H12
    refine l_val rfl rfl rfl (r_subG rfl rfl h_t12) ?_
    obtain ⟨t13, h_t13, H14⟩ := bnd_some H13; clear H13
    refine l_val rfl rfl rfl (r_octG Tryd.underlying9 rfl rfl h_t13) ?_
    obtain ⟨t14, h_t14, H15⟩ := bnd_some H14; clear H14
    refine l_turn (turns_callB (i := 0) (rds := []) (G := fun x : Unit => .bool t14.1) (C := fun x : Unit => cellsC pb1 (arrC 256 (fun j_ => [.bool (t14.2 j_)])) 194) rfl (fun w L' S hF hS hi hp hlt ho hA => k184 hp hlt (know_but w S)  h_t14) Tryd.call184 rfl) rfl rfl rfl (fun _ => ?_)
    refine l_val rfl rfl rfl (r_not rfl) ?_
    refine l_nil ?_
    refine c_if (b := (!t14.1)) rfl (fun hb => ?_) (fun hb => ?_)
    · have H16 := cnd_t hb H15; clear H15
      refine c_exit ?_
      refine c_seq ?_
      refine c_region ?_
      refine l_val rfl rfl rfl (r_move (v := str x0_2) rfl) ?_
      refine l_val rfl rfl rfl (r_assign (v := str x0_2) rfl) ?_
      refine l_nil ?_
      refine c_ret ?_
      obtain rfl := Option.some.inj H16
      refine ret1 (v := str x0_2) rfl rfl (finX () (i := 0) rfl rfl (Imp.refl _))
    · have H17 := cnd_f hb H15; clear H15
      refine c_skip ?_
      refine c_region ?_
      refine l_val rfl rfl rfl (r_move (v := str x0_2) rfl) ?_
      refine l_val rfl rfl rfl (r_move (v := str x0_2) rfl) ?_
      refine l_val rfl rfl rfl (r_lenT Tryd.underlying9 rfl) ?_
      obtain ⟨t19, h_t19, H18⟩ := bnd_some H17; clear H17
      refine l_val rfl rfl rfl (r_subG rfl rfl h_t19) ?_
      obtain ⟨t20, h_t20, H19⟩ := bnd_some H18; clear H18
      refine l_val rfl rfl rfl (r_cutToG Tryd.underlying9 rfl rfl h_t20) ?_
      refine l_val rfl rfl rfl (r_assign (v := str t20) rfl) ?_
      refine l_nil ?_
      refine c_close (t20, t14.2) () m1 [0] (by exact ⟨rfl, rfl, trivial⟩) (by decide) rfl (by exact ⟨(by subst hn1; exact H19), trivial⟩) (Nat.lt_succ_self _)
  · have H20 := cnd_f hb H11; clear H11
    refine c_exit ?_
    refine c_seq ?_
    refine c_region ?_
    refine l_val rfl rfl rfl (r_move (v := str x0_2) rfl) ?_
    refine l_val rfl rfl rfl (r_assign (v := str x0_2) rfl) ?_
    refine l_nil ?_
    refine c_ret ?_
    obtain rfl := Option.some.inj H20
    refine ret1 (v := str x0_2) rfl rfl (finX () (i := 0) rfl rfl (Imp.refl _))
theorem k209 {a0 : (List UInt8)} {r : Int × Int} (H : unicode_utf8_decodeRuneInStringSlow a0 = some r) : Ret Tryd.prog 209 [str a0] (.tuple #[.int .i32 r.1, .int .i64 r.2]) := by
  refine enterRet (n := 117) Tryd.func209 rfl rfl rfl (fun wd => ?_)
  refine c_seq ?_
  refine c_region ?_
  refine l_val rfl rfl rfl (r_assign (v := .int .i32 0) rfl) ?_
  refine l_val rfl rfl rfl (r_assign (v := .int .i64 0) rfl) ?_
  refine l_nil ?_
  refine c_seq ?_
  refine c_region ?_
  refine l_val rfl rfl rfl (r_move (v := str a0) rfl) ?_
  refine l_val rfl rfl rfl (r_lenT Tryd.underlying9 rfl) ?_
  refine l_val rfl rfl rfl (r_assign (v := .int .i64 (a0.length : Int)) rfl) ?_
  refine l_nil ?_
  refine c_seq ?_
  refine c_seq ?_
  refine c_region ?_
  refine l_val rfl rfl rfl (r_move (v := .int .i64 (a0.length : Int)) rfl) ?_
  refine l_val rfl rfl rfl (r_lss rfl rfl) ?_
  refine l_nil ?_
  refine c_if (b := (decide ((a0.length : Int) < 1))) rfl (fun hb => ?_) (fun hb => ?_)
  · have H3 := cnd_t hb H; clear H
    refine c_seq ?_
    refine c_region ?_
    refine l_val rfl rfl rfl (r_assign (v := .int .i32 65533) rfl) ?_
    refine l_val rfl rfl rfl (r_assign (v := .int .i64 0) rfl) ?_
    refine l_nil ?_
    refine c_ret ?_
    obtain rfl := Option.some.inj H3
    refine ret2 (v1 := .int .i32 65533) (v2 := .int .i64 0) rfl rfl rfl (fin rfl)
  · have H4 := cnd_f hb H; clear H
    exact absurd (show (none : Option (Int × Int)) = some r from H4) (fun h => by cases h)
theorem k185 {a0 : (List UInt8)} {r : Int × Int} (H : unicode_utf8_DecodeRuneInString a0 = some r) : Ret Tryd.prog 185 [str a0] (.tuple #[.int .i32 r.1, .int .i64 r.2]) := by
  refine enterRet (n := 19) Tryd.func185 rfl rfl rfl (fun wd => ?_)
  refine c_seq ?_
  refine c_region ?_
  refine l_val rfl rfl rfl (r_assign (v := .int .i32 0) rfl) ?_
  refine l_val rfl rfl rfl (r_assign (v := .int .i64 0) rfl) ?_
  refine l_nil ?_
  refine c_seq ?_
  refine c_meet (r := r) (σ := Bool) (τ := Unit) (fun s => unicode_utf8_DecodeRuneInString_j1 a0 s) (fun s t => [(0, str a0), (10, .bool s)]) (fun s t => []) (fun s t => True) ?_ ?_
  · refine c_region ?_
    refine l_val rfl rfl rfl (r_move (v := str a0) rfl) ?_
    refine l_val rfl rfl rfl (r_neqT rfl rfl) ?_
    refine l_val rfl rfl rfl (r_move (v := .bool (decide (a0 ≠ []))) rfl) ?_
    refine split (fun hb => ?_) (fun hb => ?_)
    · have H16 := cnd_t hb H; clear H
      refine l_val rfl rfl rfl (r_move (v := str a0) rfl) ?_
      obtain ⟨t8, h_t8, H17⟩ := bnd_some H16; clear H16
      refine l_val rfl rfl rfl (r_octG Tryd.underlying9 rfl rfl h_t8) ?_
      refine l_val rfl rfl rfl (r_lss rfl rfl) ?_
      refine l_val rfl rfl rfl (r_pickT (v := .bool (decide (t8 < 128))) rfl rfl) ?_
      refine l_nil ?_
      refine c_close (decide (t8 < 128)) () 0 [] (by exact ⟨rfl, rfl, trivial⟩) (by decide) rfl (by exact ⟨H17, trivial⟩) (Nat.lt_succ_self _)
    · have H18 := cnd_f hb H; clear H
      refine l_passed rfl rfl rfl ?_
      refine l_passed rfl rfl rfl ?_
      refine l_passed rfl rfl rfl ?_
      refine l_val rfl rfl rfl (r_pickF (v := .bool false) rfl rfl) ?_
      refine l_nil ?_
      refine c_close false () 0 [] (by exact ⟨rfl, rfl, trivial⟩) (by decide) rfl (by exact ⟨H18, trivial⟩) (Nat.lt_succ_self _)
  · rintro x10 _ gg H10 _
    replace H10 : unicode_utf8_DecodeRuneInString_j1 a0 x10 = some r := H10
    refine c_tidyF [(0, str a0), (10, .bool x10)] [] rfl rfl ?_
    refine c_if (b := x10) rfl (fun hb => ?_) (fun hb => ?_)
    · have H11 := cnd_t hb H10; clear H10
      refine c_seq ?_
      refine c_region ?_
      refine l_val rfl rfl rfl (r_move (v := str a0) rfl) ?_
      obtain ⟨t12, h_t12, H12⟩ := bnd_some H11; clear H11
      refine l_val rfl rfl rfl (r_octG Tryd.underlying9 rfl rfl h_t12) ?_
      obtain ⟨t13, h_t13, H13⟩ := bnd_some H12; clear H12
      refine l_val rfl rfl rfl (r_convG Tryd.runUnderlying5 Tryd.runUnderlying21 rfl (gK_i32 h_t13)) ?_
      refine l_val rfl rfl rfl (r_assign (v := .int .i32 t13) rfl) ?_
      refine l_val rfl rfl rfl (r_assign (v := .int .i64 1) rfl) ?_
      refine l_nil ?_
      refine c_ret ?_
      obtain rfl := Option.some.inj H13
      refine ret2 (v1 := .int .i32 t13) (v2 := .int .i64 1) rfl rfl rfl (fin rfl)
    · have H14 := cnd_f hb H10; clear H10
      refine c_region ?_
      refine l_val rfl rfl rfl (r_move (v := str a0) rfl) ?_
      obtain ⟨t16, h_t16, H15⟩ := bnd_some H14; clear H14
      refine l_call (k209 h_t16) Tryd.call209 rfl rfl rfl ?_
      refine l_val rfl rfl rfl (r_move (v := .tuple #[.int .i32 t16.1, .int .i64 t16.2]) rfl) ?_
      refine l_val rfl rfl rfl (r_extract (v := .int .i32 t16.1) rfl rfl) ?_
      refine l_val rfl rfl rfl (r_extract (v := .int .i64 t16.2) rfl rfl) ?_
      refine l_val rfl rfl rfl (r_assign (v := .int .i32 t16.1) rfl) ?_
      refine l_val rfl rfl rfl (r_assign (v := .int .i64 t16.2) rfl) ?_
      refine l_nil ?_
      refine c_ret ?_
      obtain rfl := Option.some.inj H15
      refine ret2 (v1 := .int .i32 t16.1) (v2 := .int .i64 t16.2) rfl rfl rfl (fin rfl)
theorem ext232 (s : List UInt8) (c r : Int) (h : gIxB s c = some r) (w : World) : (callFunc 232 (List.toArray [str s, .int .u8 c])).run Tryd.prog w = .ok (.value (.int .i64 r)) w := by
  have h0 : (callFunc 232 #[str s, .int .u8 c]).run Tryd.prog w = (do pure (.value (← Extern.BytealgIndexByte.indexByte #[str s, .int .u8 c])) : Sem Next).run Tryd.prog w := by kernel_rfl
  rw [h0]
  simp only [Sem.run_bind, Go.Lx.run_ixB h, Result.andThen_ok, Sem.run_pure]

theorem k229 {a0 : (List UInt8)} {a1 : Int} {r : Int} (H : internal_stringslite_IndexByte a0 a1 = some r) : Ret Tryd.prog 229 [str a0, .int .u8 a1] (.int .i64 r) := by
  refine enterRet (n := 8) Tryd.func229 rfl rfl rfl (fun wd => ?_)
  refine c_seq ?_
  refine c_region ?_
  refine l_val rfl rfl rfl (r_assign (v := .int .i64 0) rfl) ?_
  refine l_nil ?_
  refine c_seq ?_
  refine c_region ?_
  refine l_val rfl rfl rfl (r_move (v := str a0) rfl) ?_
  refine l_val rfl rfl rfl (r_move (v := .int .u8 a1) rfl) ?_
  obtain ⟨t7, h_t7, H2⟩ := bnd_some H; clear H
  refine l_val rfl rfl rfl (r_ext (args := [str a0, .int .u8 a1]) (ext232 _ _ _ h_t7) rfl) ?_
  refine l_val rfl rfl rfl (r_assign (v := .int .i64 t7) rfl) ?_
  refine l_nil ?_
  refine c_ret ?_
  obtain rfl := Option.some.inj H2
  refine ret1 (v := .int .i64 t7) rfl rfl (fin rfl)
theorem k221 {a0 : (List UInt8)} {a1 : Int} {r : Int} (H : strings_IndexByte a0 a1 = some r) : Ret Tryd.prog 221 [str a0, .int .u8 a1] (.int .i64 r) := by
  refine enterRet (n := 8) Tryd.func221 rfl rfl rfl (fun wd => ?_)
  refine c_seq ?_
  refine c_region ?_
  refine l_val rfl rfl rfl (r_assign (v := .int .i64 0) rfl) ?_
  refine l_nil ?_
  refine c_seq ?_
  refine c_region ?_
  refine l_val rfl rfl rfl (r_move (v := str a0) rfl) ?_
  refine l_val rfl rfl rfl (r_move (v := .int .u8 a1) rfl) ?_
  obtain ⟨t7, h_t7, H2⟩ := bnd_some H; clear H
  refine l_call (k229 h_t7) Tryd.call229 rfl rfl rfl ?_
  refine l_val rfl rfl rfl (r_assign (v := .int .i64 t7) rfl) ?_
  refine l_nil ?_
  refine c_ret ?_
  obtain rfl := Option.some.inj H2
  refine ret1 (v := .int .i64 t7) rfl rfl (fin rfl)
theorem k222 {a0 : Int} {r : Bool} (H : unicode_utf8_ValidRune a0 = some r) : Ret Tryd.prog 222 [.int .i32 a0] (.bool r) := by
  refine enterRet (n := 17) Tryd.func222 rfl rfl rfl (fun wd => ?_)
  refine c_seq ?_
  refine c_region ?_
  refine l_val rfl rfl rfl (r_assign (v := .bool false) rfl) ?_
  refine l_nil ?_
  refine c_seq ?_
  refine c_block ?_
  refine c_meet (r := r) (σ := Bool) (τ := Unit) (fun s => unicode_utf8_ValidRune_j1 a0 s) (fun s t => [(0, .int .i32 a0), (3, .bool s)]) (fun s t => []) (fun s t => True) ?_ ?_
  · refine c_region ?_
    refine l_val rfl rfl rfl (r_move (v := .int .i32 a0) rfl) ?_
    refine l_val rfl rfl rfl (r_leq rfl rfl) ?_
    refine l_val rfl rfl rfl (r_move (v := .bool (decide (0 ≤ a0))) rfl) ?_
    refine split (fun hb => ?_) (fun hb => ?_)
    · have H17 := cnd_t hb H; clear H
      refine l_val rfl rfl rfl (r_move (v := .int .i32 a0) rfl) ?_
      refine l_val rfl rfl rfl (r_lss rfl rfl) ?_
      refine l_val rfl rfl rfl (r_pickT (v := .bool (decide (a0 < 55296))) rfl rfl) ?_
      refine l_val rfl rfl rfl (r_assign (v := .bool (decide (a0 < 55296))) rfl) ?_
      refine l_nil ?_
      refine c_close (decide (a0 < 55296)) () 0 [] (by exact ⟨rfl, rfl, trivial⟩) (by decide) rfl (by exact ⟨H17, trivial⟩) (Nat.lt_succ_self _)
    · have H18 := cnd_f hb H; clear H
      refine l_passed rfl rfl rfl ?_
      refine l_passed rfl rfl rfl ?_
      refine l_val rfl rfl rfl (r_pickF (v := .bool false) rfl rfl) ?_
      refine l_val rfl rfl rfl (r_assign (v := .bool false) rfl) ?_
      refine l_nil ?_
      refine c_close false () 0 [] (by exact ⟨rfl, rfl, trivial⟩) (by decide) rfl (by exact ⟨H18, trivial⟩) (Nat.lt_succ_self _)
  · rintro x3 _ gg H10 _
    replace H10 : unicode_utf8_ValidRune_j1 a0 x3 = some r := H10
    refine c_tidyF [(0, .int .i32 a0), (3, .bool x3)] [] rfl rfl ?_
    refine c_if (b := x3) rfl (fun hb => ?_) (fun hb => ?_)
    · have H11 := cnd_t hb H10; clear H10
      refine c_seq ?_
      refine c_region ?_
      refine l_val rfl rfl rfl (r_assign (v := .bool true) rfl) ?_
      refine l_nil ?_
      refine c_ret ?_
      obtain rfl := Option.some.inj H11
      refine ret1 (v := .bool true) rfl rfl (fin rfl)
    · have H12 := cnd_f hb H10; clear H10
      refine c_seq ?_
      refine c_region ?_
      refine l_val rfl rfl rfl (r_move (v := .int .i32 a0) rfl) ?_
      refine l_val rfl rfl rfl (r_lss rfl rfl) ?_
      refine l_val rfl rfl rfl (r_move (v := .bool (decide (57343 < a0))) rfl) ?_
      refine split (fun hb => ?_) (fun hb => ?_)
      · have H13 := cnd_t hb H12; clear H12
        refine l_val rfl rfl rfl (r_move (v := .int .i32 a0) rfl) ?_
        refine l_val rfl rfl rfl (r_leq rfl rfl) ?_
        refine l_val rfl rfl rfl (r_pickT (v := .bool (decide (a0 ≤ 1114111))) rfl rfl) ?_
        refine l_val rfl rfl rfl (r_assign (v := .bool (decide (a0 ≤ 1114111))) rfl) ?_
        refine l_nil ?_
        refine c_if (b := (decide (a0 ≤ 1114111))) rfl (fun hb => ?_) (fun hb => ?_)
        · have H14 := cnd_t hb H13; clear H13
          refine c_seq ?_
          refine c_region ?_
          refine l_val rfl rfl rfl (r_assign (v := .bool true) rfl) ?_
          refine l_nil ?_
          refine c_ret ?_
          obtain rfl := Option.some.inj H14
          refine ret1 (v := .bool true) rfl rfl (fin rfl)
        · have H15 := cnd_f hb H13; clear H13
          refine c_skip ?_
          refine c_seq ?_
          refine c_region ?_
          refine l_val rfl rfl rfl (r_assign (v := .bool false) rfl) ?_
          refine l_nil ?_
          refine c_ret ?_
          obtain rfl := Option.some.inj H15
          refine ret1 (v := .bool false) rfl rfl (fin rfl)
      · have H16 := cnd_f hb H12; clear H12
        refine l_passed rfl rfl rfl ?_
        refine l_passed rfl rfl rfl ?_
        refine l_val rfl rfl rfl (r_pickF (v := .bool false) rfl rfl) ?_
        refine l_val rfl rfl rfl (r_assign (v := .bool false) rfl) ?_
        refine l_nil ?_
        refine c_false rfl ?_
        refine c_skip ?_
        refine c_seq ?_
        refine c_region ?_
        refine l_val rfl rfl rfl (r_assign (v := .bool false) rfl) ?_
        refine l_nil ?_
        refine c_ret ?_
        obtain rfl := Option.some.inj H16
        refine ret1 (v := .bool false) rfl rfl (fin rfl)
theorem k223 {a0 : Int} {r : Int} (H : internal_bytealg_Cutover a0 = some r) : Ret Tryd.prog 223 [.int .i64 a0] (.int .i64 r) := by
  refine enterRet (n := 6) Tryd.func223 rfl rfl rfl (fun wd => ?_)
  refine c_seq ?_
  refine c_region ?_
  refine l_val rfl rfl rfl (r_assign (v := .int .i64 0) rfl) ?_
  refine l_nil ?_
  refine c_seq ?_
  refine c_region ?_
  refine l_val rfl rfl rfl (r_move (v := .int .i64 a0) rfl) ?_
  obtain ⟨t4, h_t4, H3⟩ := bnd_some H; clear H
  refine l_val rfl rfl rfl (r_addG rfl rfl h_t4) ?_
  obtain ⟨t5, h_t5, H4⟩ := bnd_some H3; clear H3
  refine l_val rfl rfl rfl (r_quoG rfl rfl h_t5) ?_
  refine l_val rfl rfl rfl (r_assign (v := .int .i64 t5) rfl) ?_
  refine l_nil ?_
  refine c_ret ?_
  obtain rfl := Option.some.inj H4
  refine ret1 (v := .int .i64 t5) rfl rfl (fin rfl)
theorem k210 {a0 : (List UInt8)} {a1 : Int} {r : Int} (H : strings_IndexRune a0 a1 = some r) : Ret Tryd.prog 210 [str a0, .int .i32 a1] (.int .i64 r) := by
  refine enterRet (n := 187) Tryd.func210 rfl rfl rfl (fun wd => ?_)
  refine c_seq ?_
  refine c_region ?_
  refine l_val rfl rfl rfl (r_assign (v := .int .i64 0) rfl) ?_
  refine l_nil ?_
  refine c_block ?_
  refine c_meet (r := r) (σ := Bool) (τ := Unit) (fun s => strings_IndexRune_j1 a0 a1 s) (fun s t => [(0, str a0), (1, .int .i32 a1), (160, .bool s)]) (fun s t => []) (fun s t => True) ?_ ?_
  · refine c_region ?_
    refine l_val rfl rfl rfl (r_move (v := .int .i32 a1) rfl) ?_
    refine l_val rfl rfl rfl (r_leq rfl rfl) ?_
    refine l_val rfl rfl rfl (r_move (v := .bool (decide (0 ≤ a1))) rfl) ?_
    refine split (fun hb => ?_) (fun hb => ?_)
    · have H33 := cnd_t hb H; clear H
      refine l_val rfl rfl rfl (r_move (v := .int .i32 a1) rfl) ?_
      refine l_val rfl rfl rfl (r_lss rfl rfl) ?_
      refine l_val rfl rfl rfl (r_pickT (v := .bool (decide (a1 < 128))) rfl rfl) ?_
      refine l_val rfl rfl rfl (r_assign (v := .bool (decide (a1 < 128))) rfl) ?_
      refine l_nil ?_
      refine c_close (decide (a1 < 128)) () 0 [] (by exact ⟨rfl, rfl, rfl, trivial⟩) (by decide) rfl (by exact ⟨H33, trivial⟩) (Nat.lt_succ_self _)
    · have H34 := cnd_f hb H; clear H
      refine l_passed rfl rfl rfl ?_
      refine l_passed rfl rfl rfl ?_
      refine l_val rfl rfl rfl (r_pickF (v := .bool false) rfl rfl) ?_
      refine l_val rfl rfl rfl (r_assign (v := .bool false) rfl) ?_
      refine l_nil ?_
      refine c_close false () 0 [] (by exact ⟨rfl, rfl, rfl, trivial⟩) (by decide) rfl (by exact ⟨H34, trivial⟩) (Nat.lt_succ_self _)
  · rintro x160 _ gg H18 _
    replace H18 : strings_IndexRune_j1 a0 a1 x160 = some r := H18
    refine c_tidyF [(0, str a0), (1, .int .i32 a1), (160, .bool x160)] [] rfl rfl ?_
    refine c_if (b := x160) rfl (fun hb => ?_) (fun hb => ?_)
    · have H19 := cnd_t hb H18; clear H18
      refine c_seq ?_
      refine c_region ?_
      refine l_val rfl rfl rfl (r_move (v := str a0) rfl) ?_
      refine l_val rfl rfl rfl (r_move (v := .int .i32 a1) rfl) ?_
      refine l_val rfl rfl rfl (r_convG Tryd.runUnderlying21 Tryd.runUnderlying5 rfl (wr_u8 _)) ?_
      obtain ⟨t170, h_t170, H20⟩ := bnd_some H19; clear H19
      refine l_call (k221 h_t170) Tryd.call221 rfl rfl rfl ?_
      refine l_val rfl rfl rfl (r_assign (v := .int .i64 t170) rfl) ?_
      refine l_nil ?_
      refine c_ret ?_
      obtain rfl := Option.some.inj H20
      refine ret1 (v := .int .i64 t170) rfl rfl (fin rfl)
    · have H21 := cnd_f hb H18; clear H18
      refine c_seq ?_
      refine c_region ?_
      refine l_val rfl rfl rfl (r_move (v := .int .i32 a1) rfl) ?_
      refine l_val rfl rfl rfl (r_eql rfl rfl) ?_
      refine l_val rfl rfl rfl (r_assign (v := .bool (decide (a1 = 65533))) rfl) ?_
      refine l_nil ?_
      refine c_if (b := (decide (a1 = 65533))) rfl (fun hb => ?_) (fun hb => ?_)
      · have H22 := cnd_t hb H21; clear H21
        refine c_seq ?_
        refine c_seq ?_
        refine c_region ?_
        refine l_val rfl rfl rfl (r_move (v := str a0) rfl) ?_
        refine l_make (rds := []) (makes_range (s := a0) Tryd.underlying9 rfl) rfl rfl rfl (fun b1 => ?_)
        refine l_nil ?_
        refine c_block ?_
        refine c_fix (σ := Nat) (τ := Unit) (fun next2 s => strings_IndexRune_l2 a0 next2 s) (fun s t => [(175, .pointer (some ⟨b1, 0, none⟩))]) (fun s t => [iterC b1 a0 s]) (fun s t => True) 0 () [0] H22 (by exact trivial) (by exact ⟨rfl, trivial⟩) (by decide) rfl ?_
        rintro k_2 _ m2 gg H23 _
        clear H22
        replace H23 : strings_IndexRune_l2 a0 (it (fun next2 s => strings_IndexRune_l2 a0 next2 s) m2) k_2 = some r := H23
        generalize hn2 : it (fun next2 s => strings_IndexRune_l2 a0 next2 s) m2 = next2 at H23
        refine c_tidyF [(175, .pointer (some ⟨b1, 0, none⟩))] [iterC b1 a0 k_2] rfl rfl ?_
        refine c_seq ?_
        refine c_region ?_
        refine caseB (decide (k_2 < a0.length)) (fun hb => ?_) (fun hb => ?_)
        · have H24 := cnd_t hb H23; clear H23
          obtain ⟨t176, h_t176, H25⟩ := bnd_some H24; clear H24
          refine l_turn (turns_next (i := 0) (rds := []) rfl rfl h_t176) rfl rfl rfl (fun _ => ?_)
          refine l_val rfl rfl rfl (r_extract (v := .bool true) rfl rfl) ?_
          refine l_nil ?_
          refine c_seq ?_
          refine c_true rfl ?_
          refine c_skip ?_
          refine c_block ?_
          refine c_seq ?_
          refine c_region ?_
          refine l_val rfl rfl rfl (r_extract (v := .int .i64 ((k_2 : Nat) : Int)) rfl rfl) ?_
          refine l_val rfl rfl rfl (r_extract (v := .int .i32 t176) rfl rfl) ?_
          refine l_val rfl rfl rfl (r_assign (v := .int .i64 ((k_2 : Nat) : Int)) rfl) ?_
          refine l_val rfl rfl rfl (r_assign (v := .int .i32 t176) rfl) ?_
          refine l_nil ?_
          refine c_seq ?_
          refine c_region ?_
          refine l_val rfl rfl rfl (r_move (v := .int .i32 t176) rfl) ?_
          refine l_val rfl rfl rfl (r_eql rfl rfl) ?_
          refine l_nil ?_
          refine c_if (b := (decide (t176 = 65533))) rfl (fun hb => ?_) (fun hb => ?_)
          · have H26 := cnd_t hb H25; clear H25
            refine c_seq ?_
            refine c_region ?_
            refine l_val rfl rfl rfl (r_move (v := .int .i64 ((k_2 : Nat) : Int)) rfl) ?_
            refine l_val rfl rfl rfl (r_assign (v := .int .i64 ((k_2 : Nat) : Int)) rfl) ?_
            refine l_nil ?_
            refine c_ret ?_
            obtain rfl := Option.some.inj H26
            refine ret1 (v := .int .i64 ((k_2 : Nat) : Int)) rfl rfl (fin rfl)
          · have H27 := cnd_f hb H25; clear H25
            refine c_skip ?_
            refine c_close (k_2 + 1) () m2 [0] (by exact ⟨rfl, trivial⟩) (by decide) rfl (by exact ⟨(by subst hn2; exact H27), trivial⟩) (Nat.lt_succ_self _)
        · have H28 := cnd_f hb H23; clear H23
          refine l_read (fun w hF hS => r_nextOver (i := 0) hS rfl rfl hb) rfl rfl rfl ?_
          refine l_val rfl rfl rfl (r_extract (v := .bool false) rfl rfl) ?_
          refine l_nil ?_
          refine c_seq ?_
          refine c_false rfl ?_
          refine c_exit ?_
          refine c_seq ?_
          refine c_region ?_
          refine l_val rfl rfl rfl (r_assign (v := .int .i64 (-1)) rfl) ?_
          refine l_nil ?_
          refine c_ret ?_
          obtain rfl := Option.some.inj H28
          refine ret1 (v := .int .i64 (-1)) rfl rfl (fin rfl)
      · have H29 := cnd_f hb H21; clear H21
        refine c_seq ?_
        refine c_region ?_
        refine l_val rfl rfl rfl (r_move (v := .int .i32 a1) rfl) ?_
        obtain ⟨t185, h_t185, H30⟩ := bnd_some H29; clear H29
        refine l_call (k222 h_t185) Tryd.call222 rfl rfl rfl ?_
        refine l_val rfl rfl rfl (r_not rfl) ?_
        refine l_val rfl rfl rfl (r_assign (v := .bool (!t185)) rfl) ?_
        refine l_nil ?_
        refine c_if (b := (!t185)) rfl (fun hb => ?_) (fun hb => ?_)
        · have H31 := cnd_t hb H30; clear H30
          refine c_seq ?_
          refine c_region ?_
          refine l_val rfl rfl rfl (r_assign (v := .int .i64 (-1)) rfl) ?_
          refine l_nil ?_
          refine c_ret ?_
          obtain rfl := Option.some.inj H31
          refine ret1 (v := .int .i64 (-1)) rfl rfl (fin rfl)
        · have H32 := cnd_f hb H30; clear H30
          exact absurd (show (none : Option (Int)) = some r from H32) (fun h => by cases h)
theorem k186 {a0 : (List UInt8)} {a1 : Int} {r : Bool} (H : strings_ContainsRune a0 a1 = some r) : Ret Tryd.prog 186 [str a0, .int .i32 a1] (.bool r) := by
  refine enterRet (n := 9) Tryd.func186 rfl rfl rfl (fun wd => ?_)
  refine c_seq ?_
  refine c_region ?_
  refine l_val rfl rfl rfl (r_assign (v := .bool false) rfl) ?_
  refine l_nil ?_
  refine c_seq ?_
  refine c_region ?_
  refine l_val rfl rfl rfl (r_move (v := str a0) rfl) ?_
  refine l_val rfl rfl rfl (r_move (v := .int .i32 a1) rfl) ?_
  obtain ⟨t7, h_t7, H2⟩ := bnd_some H; clear H
  refine l_call (k210 h_t7) Tryd.call210 rfl rfl rfl ?_
  refine l_val rfl rfl rfl (r_geq rfl rfl) ?_
  refine l_val rfl rfl rfl (r_assign (v := .bool (decide (0 ≤ t7))) rfl) ?_
  refine l_nil ?_
  refine c_ret ?_
  obtain rfl := Option.some.inj H2
  refine ret1 (v := .bool (decide (0 ≤ t7))) rfl rfl (fin rfl)
theorem k156 {a0 : (List UInt8)} {a1 : (List UInt8)} {r : (List UInt8)} (H : strings_trimLeftUnicode a0 a1 = some r) : Ret Tryd.prog 156 [str a0, str a1] (str r) := by
  refine enterRet (n := 23) Tryd.func156 rfl rfl rfl (fun wd => ?_)
  refine c_seq ?_
  refine c_region ?_
  refine l_val rfl rfl rfl (r_assign (v := str []) rfl) ?_
  refine l_nil ?_
  refine c_seq ?_
  refine c_block ?_
  refine c_fix (σ := (List UInt8)) (τ := Unit) (fun next1 s => strings_trimLeftUnicode_l1 a1 next1 s) (fun s t => [(0, str s), (1, str a1)]) (fun s t => []) (fun s t => True) a0 () [] H (by exact trivial) (by exact ⟨rfl, rfl, trivial⟩) (by decide) rfl ?_
  rintro x0_2 _ m1 gg H9 _
  clear H
  replace H9 : strings_trimLeftUnicode_l1 a1 (it (fun next1 s => strings_trimLeftUnicode_l1 a1 next1 s) m1) x0_2 = some r := H9
  generalize hn1 : it (fun next1 s => strings_trimLeftUnicode_l1 a1 next1 s) m1 = next1 at H9
  refine c_tidyF [(0, str x0_2), (1, str a1)] [] rfl rfl ?_
  refine c_seq ?_
  refine c_seq ?_
  refine c_region ?_
  refine l_val rfl rfl rfl (r_move (v := str x0_2) rfl) ?_
  refine l_val rfl rfl rfl (r_lenT Tryd.underlying9 rfl) ?_
  refine l_val rfl rfl rfl (r_gtr rfl rfl) ?_
  refine l_nil ?_
  refine c_if (b := (decide (0 < (x0_2.length : Int)))) rfl (fun hb => ?_) (fun hb => ?_)
  · have H10 := cnd_t hb H9; clear H9
    refine c_skip ?_
    refine c_block ?_
    refine c_seq ?_
    refine c_region ?_
    refine l_val rfl rfl rfl (r_move (v := str x0_2) rfl) ?_
    obtain ⟨t12, h_t12, H11⟩ := bnd_some H10; clear H10
    refine l_call (k185 h_t12) Tryd.call185 rfl rfl rfl ?_
    refine l_val rfl rfl rfl (r_move (v := .tuple #[.int .i32 t12.1, .int .i64 t12.2]) rfl) ?_
    refine l_val rfl rfl rfl (r_extract (v := .int .i32 t12.1) rfl rfl) ?_
    refine l_val rfl rfl rfl (r_extract (v := .int .i64 t12.2) rfl rfl) ?_
    refine l_val rfl rfl rfl (r_assign (v := .int .i32 t12.1) rfl) ?_
    refine l_val rfl rfl rfl (r_assign (v := .int .i64 t12.2) rfl) ?_
    refine l_nil ?_
    refine c_seq ?_
    refine c_seq ?_
    refine c_region ?_
    refine l_val rfl rfl rfl (r_move (v := str a1) rfl) ?_
    refine l_val rfl rfl rfl (r_move (v := .int .i32 t12.1) rfl) ?_
    obtain ⟨t17, h_t17, H12⟩ := bnd_some H11; clear H11
    refine l_call (k186 h_t17) Tryd.call186 rfl rfl rfl ?_
    refine l_val rfl rfl rfl (r_not rfl) ?_
    refine l_nil ?_
    refine c_if (b := (!t17)) rfl (fun hb => ?_) (fun hb => ?_)
    · have H13 := cnd_t hb H12; clear H12
      refine c_exit ?_
      refine c_seq ?_
      refine c_region ?_
      refine l_val rfl rfl rfl (r_move (v := str x0_2) rfl) ?_
      refine l_val rfl rfl rfl (r_assign (v := str x0_2) rfl) ?_
      refine l_nil ?_
      refine c_ret ?_
      obtain rfl := Option.some.inj H13
      refine ret1 (v := str x0_2) rfl rfl (fin rfl)
    · have H14 := cnd_f hb H12; clear H12
      refine c_skip ?_
      refine c_region ?_
      refine l_val rfl rfl rfl (r_move (v := str x0_2) rfl) ?_
      refine l_val rfl rfl rfl (r_move (v := .int .i64 t12.2) rfl) ?_
      obtain ⟨t21, h_t21, H15⟩ := bnd_some H14; clear H14
      refine l_val rfl rfl rfl (r_cutFromG Tryd.underlying9 rfl rfl h_t21) ?_
      refine l_val rfl rfl rfl (r_assign (v := str t21) rfl) ?_
      refine l_nil ?_
      refine c_close t21 () m1 [] (by exact ⟨rfl, rfl, trivial⟩) (by decide) rfl (by exact ⟨(by subst hn1; exact H15), trivial⟩) (Nat.lt_succ_self _)
  · have H16 := cnd_f hb H9; clear H9
    refine c_exit ?_
    refine c_seq ?_
    refine c_region ?_
    refine l_val rfl rfl rfl (r_move (v := str x0_2) rfl) ?_
    refine l_val rfl rfl rfl (r_assign (v := str x0_2) rfl) ?_
    refine l_nil ?_
    refine c_ret ?_
    obtain rfl := Option.some.inj H16
    refine ret1 (v := str x0_2) rfl rfl (fin rfl)
theorem k211 {a0 : Int} {r : Bool} (H : unicode_utf8_RuneStart a0 = some r) : Ret Tryd.prog 211 [.int .u8 a0] (.bool r) := by
  refine enterRet (n := 6) Tryd.func211 rfl rfl rfl (fun wd => ?_)
  refine c_seq ?_
  refine c_region ?_
  refine l_val rfl rfl rfl (r_assign (v := .bool false) rfl) ?_
  refine l_nil ?_
  refine c_seq ?_
  refine c_region ?_
  refine l_val rfl rfl rfl (r_move (v := .int .u8 a0) rfl) ?_
  refine l_val rfl rfl rfl (r_bitsAnd (bits := 8) rfl rfl rfl (wr_u8 _)) ?_
  refine l_val rfl rfl rfl (r_neq rfl rfl) ?_
  refine l_val rfl rfl rfl (r_assign (v := .bool (decide ((wU8 (bAnd 8 a0 192)) ≠ 128))) rfl) ?_
  refine l_nil ?_
  refine c_ret ?_
  obtain rfl := Option.some.inj H
  refine ret1 (v := .bool (decide ((wU8 (bAnd 8 a0 192)) ≠ 128))) rfl rfl (fin rfl)
theorem k187 {a0 : (List UInt8)} {r : Int × Int} (H : unicode_utf8_DecodeLastRuneInString a0 = some r) : Ret Tryd.prog 187 [str a0] (.tuple #[.int .i32 r.1, .int .i64 r.2]) := by
  refine enterRet (n := 51) Tryd.func187 rfl rfl rfl (fun wd => ?_)
  refine c_seq ?_
  refine c_region ?_
  refine l_val rfl rfl rfl (r_assign (v := .int .i32 0) rfl) ?_
  refine l_val rfl rfl rfl (r_assign (v := .int .i64 0) rfl) ?_
  refine l_nil ?_
  refine c_seq ?_
  refine c_region ?_
  refine l_val rfl rfl rfl (r_move (v := str a0) rfl) ?_
  refine l_val rfl rfl rfl (r_lenT Tryd.underlying9 rfl) ?_
  refine l_val rfl rfl rfl (r_assign (v := .int .i64 (a0.length : Int)) rfl) ?_
  refine l_nil ?_
  refine c_seq ?_
  refine c_seq ?_
  refine c_region ?_
  refine l_val rfl rfl rfl (r_move (v := .int .i64 (a0.length : Int)) rfl) ?_
  refine l_val rfl rfl rfl (r_eql rfl rfl) ?_
  refine l_nil ?_
  refine c_if (b := (decide ((a0.length : Int) = 0))) rfl (fun hb => ?_) (fun hb => ?_)
  · have H27 := cnd_t hb H; clear H
    refine c_seq ?_
    refine c_region ?_
    refine l_val rfl rfl rfl (r_assign (v := .int .i32 65533) rfl) ?_
    refine l_val rfl rfl rfl (r_assign (v := .int .i64 0) rfl) ?_
    refine l_nil ?_
    refine c_ret ?_
    obtain rfl := Option.some.inj H27
    refine ret2 (v1 := .int .i32 65533) (v2 := .int .i64 0) rfl rfl rfl (fin rfl)
  · have H28 := cnd_f hb H; clear H
    refine c_skip ?_
    refine c_seq ?_
    refine c_region ?_
    refine l_val rfl rfl rfl (r_move (v := .int .i64 (a0.length : Int)) rfl) ?_
    obtain ⟨t12, h_t12, H29⟩ := bnd_some H28; clear H28
    refine l_val rfl rfl rfl (r_subG rfl rfl h_t12) ?_
    refine l_val rfl rfl rfl (r_assign (v := .int .i64 t12) rfl) ?_
    refine l_nil ?_
    refine c_seq ?_
    refine c_region ?_
    refine l_val rfl rfl rfl (r_move (v := str a0) rfl) ?_
    refine l_val rfl rfl rfl (r_move (v := .int .i64 t12) rfl) ?_
    obtain ⟨t15, h_t15, H30⟩ := bnd_some H29; clear H29
    refine l_val rfl rfl rfl (r_octG Tryd.underlying9 rfl rfl h_t15) ?_
    obtain ⟨t16, h_t16, H31⟩ := bnd_some H30; clear H30
    refine l_val rfl rfl rfl (r_convG Tryd.runUnderlying5 Tryd.runUnderlying21 rfl (gK_i32 h_t16)) ?_
    refine l_val rfl rfl rfl (r_assign (v := .int .i32 t16) rfl) ?_
    refine l_nil ?_
    refine c_seq ?_
    refine c_seq ?_
    refine c_region ?_
    refine l_val rfl rfl rfl (r_move (v := .int .i32 t16) rfl) ?_
    refine l_val rfl rfl rfl (r_lss rfl rfl) ?_
    refine l_nil ?_
    refine c_if (b := (decide (t16 < 128))) rfl (fun hb => ?_) (fun hb => ?_)
    · have H32 := cnd_t hb H31; clear H31
      refine c_seq ?_
      refine c_region ?_
      refine l_val rfl rfl rfl (r_move (v := .int .i32 t16) rfl) ?_
      refine l_val rfl rfl rfl (r_assign (v := .int .i32 t16) rfl) ?_
      refine l_val rfl rfl rfl (r_assign (v := .int .i64 1) rfl) ?_
      refine l_nil ?_
      refine c_ret ?_
      obtain rfl := Option.some.inj H32
      refine ret2 (v1 := .int .i32 t16) (v2 := .int .i64 1) rfl rfl rfl (fin rfl)
    · have H33 := cnd_f hb H31; clear H31
      refine c_skip ?_
      refine c_seq ?_
      refine c_region ?_
      refine l_val rfl rfl rfl (r_move (v := .int .i64 (a0.length : Int)) rfl) ?_
      obtain ⟨t21, h_t21, H34⟩ := bnd_some H33; clear H33
      refine l_val rfl rfl rfl (r_subG rfl rfl h_t21) ?_
      refine l_val rfl rfl rfl (r_max rfl rfl) ?_
      refine l_val rfl rfl rfl (r_assign (v := .int .i64 (max t21 0)) rfl) ?_
      refine l_nil ?_
      refine c_meet (r := r) (σ := Int) (τ := Unit) (fun s => unicode_utf8_DecodeLastRuneInString_j1 a0 s) (fun s t => [(0, str a0), (4, .int .i64 (a0.length : Int)), (5, .int .i64 s)]) (fun s t => []) (fun s t => True) ?_ ?_
      · refine c_seq ?_
        refine c_region ?_
        refine l_val rfl rfl rfl (r_move (v := .int .i64 t12) rfl) ?_
        obtain ⟨t24, h_t24, H44⟩ := bnd_some H34; clear H34
        refine l_val rfl rfl rfl (r_subG rfl rfl h_t24) ?_
        refine l_val rfl rfl rfl (r_assign (v := .int .i64 t24) rfl) ?_
        refine l_nil ?_
        refine c_block ?_
        refine c_fix (σ := Int) (τ := Unit) (fun next3 s => unicode_utf8_DecodeLastRuneInString_l3 a0 t21 next3 s) (fun s t => [(0, str a0), (4, .int .i64 (a0.length : Int)), (5, .int .i64 s), (6, .int .i64 (max t21 0))]) (fun s t => []) (fun s t => True) t24 () [] H44 (by exact trivial) (by exact ⟨rfl, rfl, rfl, rfl, trivial⟩) (by decide) rfl ?_
        rintro x5_4 _ m3 gg H45 _
        clear H44
        replace H45 : unicode_utf8_DecodeLastRuneInString_l3 a0 t21 (it (fun next3 s => unicode_utf8_DecodeLastRuneInString_l3 a0 t21 next3 s) m3) x5_4 = some r := H45
        generalize hn3 : it (fun next3 s => unicode_utf8_DecodeLastRuneInString_l3 a0 t21 next3 s) m3 = next3 at H45
        refine c_tidyF [(0, str a0), (4, .int .i64 (a0.length : Int)), (5, .int .i64 x5_4), (6, .int .i64 (max t21 0))] [] rfl rfl ?_
        refine c_seq ?_
        refine c_seq ?_
        refine c_region ?_
        refine l_val rfl rfl rfl (r_move (v := .int .i64 x5_4) rfl) ?_
        refine l_val rfl rfl rfl (r_move (v := .int .i64 (max t21 0)) rfl) ?_
        refine l_val rfl rfl rfl (r_geq rfl rfl) ?_
        refine l_nil ?_
        refine c_if (b := (decide ((max t21 0) ≤ x5_4))) rfl (fun hb => ?_) (fun hb => ?_)
        · have H46 := cnd_t hb H45; clear H45
          refine c_skip ?_
          refine c_seq ?_
          refine c_block ?_
          refine c_seq ?_
          refine c_region ?_
          refine l_val rfl rfl rfl (r_move (v := str a0) rfl) ?_
          refine l_val rfl rfl rfl (r_move (v := .int .i64 x5_4) rfl) ?_
          obtain ⟨t32, h_t32, H47⟩ := bnd_some H46; clear H46
          refine l_val rfl rfl rfl (r_octG Tryd.underlying9 rfl rfl h_t32) ?_
          obtain ⟨t33, h_t33, H48⟩ := bnd_some H47; clear H47
          refine l_call (k211 h_t33) Tryd.call211 rfl rfl rfl ?_
          refine l_nil ?_
          refine c_if (b := t33) rfl (fun hb => ?_) (fun hb => ?_)
          · have H49 := cnd_t hb H48; clear H48
            refine c_exit ?_
            refine c_close x5_4 () 0 [] (by exact ⟨rfl, rfl, rfl, trivial⟩) (by decide) rfl (by exact ⟨H49, trivial⟩) (Nat.lt_succ_self _)
          · have H50 := cnd_f hb H48; clear H48
            refine c_skip ?_
            refine c_region ?_
            refine l_val rfl rfl rfl (r_move (v := .int .i64 x5_4) rfl) ?_
            obtain ⟨t29, h_t29, H51⟩ := bnd_some H50; clear H50
            refine l_val rfl rfl rfl (r_subG rfl rfl h_t29) ?_
            refine l_val rfl rfl rfl (r_assign (v := .int .i64 t29) rfl) ?_
            refine l_nil ?_
            refine c_close t29 () m3 [] (by exact ⟨rfl, rfl, rfl, rfl, trivial⟩) (by decide) rfl (by exact ⟨(by subst hn3; exact H51), trivial⟩) (Nat.lt_succ_self _)
        · have H52 := cnd_f hb H45; clear H45
          refine c_exit ?_
          refine c_close x5_4 () 0 [] (by exact ⟨rfl, rfl, rfl, trivial⟩) (by decide) rfl (by exact ⟨H52, trivial⟩) (Nat.lt_succ_self _)
      · rintro x5 _ gg H35 _
        replace H35 : unicode_utf8_DecodeLastRuneInString_j1 a0 x5 = some r := H35
        refine c_tidyF [(0, str a0), (4, .int .i64 (a0.length : Int)), (5, .int .i64 x5)] [] rfl rfl ?_
        refine c_meet (r := r) (σ := Int) (τ := Unit) (fun s => unicode_utf8_DecodeLastRuneInString_j2 a0 s) (fun s t => [(0, str a0), (4, .int .i64 (a0.length : Int)), (5, .int .i64 s)]) (fun s t => []) (fun s t => True) ?_ ?_
        · refine c_seq ?_
          refine c_region ?_
          refine l_val rfl rfl rfl (r_move (v := .int .i64 x5) rfl) ?_
          refine l_val rfl rfl rfl (r_lss rfl rfl) ?_
          refine l_nil ?_
          refine c_if (b := (decide (x5 < 0))) rfl (fun hb => ?_) (fun hb => ?_)
          · have H42 := cnd_t hb H35; clear H35
            refine c_region ?_
            refine l_val rfl rfl rfl (r_assign (v := .int .i64 0) rfl) ?_
            refine l_nil ?_
            refine c_close 0 () 0 [] (by exact ⟨rfl, rfl, rfl, trivial⟩) (by decide) rfl (by exact ⟨H42, trivial⟩) (Nat.lt_succ_self _)
          · have H43 := cnd_f hb H35; clear H35
            refine c_skip ?_
            refine c_close x5 () 0 [] (by exact ⟨rfl, rfl, rfl, trivial⟩) (by decide) rfl (by exact ⟨H43, trivial⟩) (Nat.lt_succ_self _)
        · rintro x5_2 _ gg H36 _
          replace H36 : unicode_utf8_DecodeLastRuneInString_j2 a0 x5_2 = some r := H36
          refine c_tidyF [(0, str a0), (4, .int .i64 (a0.length : Int)), (5, .int .i64 x5_2)] [] rfl rfl ?_
          refine c_seq ?_
          refine c_region ?_
          refine l_val rfl rfl rfl (r_move (v := str a0) rfl) ?_
          refine l_val rfl rfl rfl (r_move (v := .int .i64 x5_2) rfl) ?_
          refine l_val rfl rfl rfl (r_move (v := .int .i64 (a0.length : Int)) rfl) ?_
          obtain ⟨t40, h_t40, H37⟩ := bnd_some H36; clear H36
          refine l_val rfl rfl rfl (r_cutTG Tryd.underlying9 rfl rfl rfl h_t40) ?_
          obtain ⟨t41, h_t41, H38⟩ := bnd_some H37; clear H37
          refine l_call (k185 h_t41) Tryd.call185 rfl rfl rfl ?_
          refine l_val rfl rfl rfl (r_move (v := .tuple #[.int .i32 t41.1, .int .i64 t41.2]) rfl) ?_
          refine l_val rfl rfl rfl (r_extract (v := .int .i32 t41.1) rfl rfl) ?_
          refine l_val rfl rfl rfl (r_extract (v := .int .i64 t41.2) rfl rfl) ?_
          refine l_val rfl rfl rfl (r_assign (v := .int .i32 t41.1) rfl) ?_
          refine l_val rfl rfl rfl (r_assign (v := .int .i64 t41.2) rfl) ?_
          refine l_nil ?_
          refine c_seq ?_
          refine c_seq ?_
          refine c_region ?_
          refine l_val rfl rfl rfl (r_move (v := .int .i64 x5_2) rfl) ?_
          refine l_val rfl rfl rfl (r_move (v := .int .i64 t41.2) rfl) ?_
          obtain ⟨t46, h_t46, H39⟩ := bnd_some H38; clear H38
          refine l_val rfl rfl rfl (r_addG rfl rfl h_t46) ?_
          refine l_val rfl rfl rfl (r_move (v := .int .i64 (a0.length : Int)) rfl) ?_
          refine l_val rfl rfl rfl (r_neq rfl rfl) ?_
          refine l_nil ?_
          refine c_if (b := (decide (t46 ≠ (a0.length : Int)))) rfl (fun hb => ?_) (fun hb => ?_)
          · have H40 := cnd_t hb H39; clear H39
            refine c_seq ?_
            refine c_region ?_
            refine l_val rfl rfl rfl (r_assign (v := .int .i32 65533) rfl) ?_
            refine l_val rfl rfl rfl (r_assign (v := .int .i64 1) rfl) ?_
            refine l_nil ?_
            refine c_ret ?_
            obtain rfl := Option.some.inj H40
            refine ret2 (v1 := .int .i32 65533) (v2 := .int .i64 1) rfl rfl rfl (fin rfl)
          · have H41 := cnd_f hb H39; clear H39
            refine c_skip ?_
            refine c_seq ?_
            refine c_region ?_
            refine l_val rfl rfl rfl (r_move (v := .int .i32 t41.1) rfl) ?_
            refine l_val rfl rfl rfl (r_move (v := .int .i64 t41.2) rfl) ?_
            refine l_val rfl rfl rfl (r_assign (v := .int .i32 t41.1) rfl) ?_
            refine l_val rfl rfl rfl (r_assign (v := .int .i64 t41.2) rfl) ?_
            refine l_nil ?_
            refine c_ret ?_
            obtain rfl := Option.some.inj H41
            refine ret2 (v1 := .int .i32 t41.1) (v2 := .int .i64 t41.2) rfl rfl rfl (fin rfl)
theorem k157 {a0 : (List UInt8)} {a1 : (List UInt8)} {r : (List UInt8)} (H : strings_trimRightUnicode a0 a1 = some r) : Ret Tryd.prog 157 [str a0, str a1] (str r) := by
  refine enterRet (n := 34) Tryd.func157 rfl rfl rfl (fun wd => ?_)
  refine c_seq ?_
  refine c_region ?_
  refine l_val rfl rfl rfl (r_assign (v := str []) rfl) ?_
  refine l_nil ?_
  refine c_seq ?_
  refine c_block ?_
  refine c_fix (σ := (List UInt8)) (τ := Unit) (fun next1 s => strings_trimRightUnicode_l1 a1 next1 s) (fun s t => [(0, str s), (1, str a1)]) (fun s t => []) (fun s t => True) a0 () [] H (by exact trivial) (by exact ⟨rfl, rfl, trivial⟩) (by decide) rfl ?_
  rintro x0_2 _ m1 gg H16 _
  clear H
  replace H16 : strings_trimRightUnicode_l1 a1 (it (fun next1 s => strings_trimRightUnicode_l1 a1 next1 s) m1) x0_2 = some r := H16
  generalize hn1 : it (fun next1 s => strings_trimRightUnicode_l1 a1 next1 s) m1 = next1 at H16
  refine c_tidyF [(0, str x0_2), (1, str a1)] [] rfl rfl ?_
  refine c_seq ?_
  refine c_seq ?_
  refine c_region ?_
  refine l_val rfl rfl rfl (r_move (v := str x0_2) rfl) ?_
  refine l_val rfl rfl rfl (r_lenT Tryd.underlying9 rfl) ?_
  refine l_val rfl rfl rfl (r_gtr rfl rfl) ?_
  refine l_nil ?_
  refine c_if (b := (decide (0 < (x0_2.length : Int)))) rfl (fun hb => ?_) (fun hb => ?_)
  · have H17 := cnd_t hb H16; clear H16
    refine c_skip ?_
    refine c_block ?_
    refine c_seq ?_
    refine c_region ?_
    refine l_val rfl rfl rfl (r_move (v := str x0_2) rfl) ?_
    refine l_val rfl rfl rfl (r_move (v := str x0_2) rfl) ?_
    refine l_val rfl rfl rfl (r_lenT Tryd.underlying9 rfl) ?_
    obtain ⟨t13, h_t13, H18⟩ := bnd_some H17; clear H17
    refine l_val rfl rfl rfl (r_subG rfl rfl h_t13) ?_
    obtain ⟨t14, h_t14, H19⟩ := bnd_some H18; clear H18
    refine l_val rfl rfl rfl (r_octG Tryd.underlying9 rfl rfl h_t14) ?_
    obtain ⟨t15, h_t15, H20⟩ := bnd_some H19; clear H19
    refine l_val rfl rfl rfl (r_convG Tryd.runUnderlying5 Tryd.runUnderlying21 rfl (gK_i32 h_t15)) ?_
    refine l_val rfl rfl rfl (r_assign (v := .int .i32 t15) rfl) ?_
    refine l_val rfl rfl rfl (r_assign (v := .int .i64 1) rfl) ?_
    refine l_nil ?_
    refine c_meet (r := r) (σ := Int × Int) (τ := Unit) (fun s => strings_trimRightUnicode_j2 a1 x0_2 next1 s.1 s.2) (fun s t => [(0, str x0_2), (1, str a1), (5, .int .i32 s.1), (6, .int .i64 s.2)]) (fun s t => []) (fun s t => True) ?_ ?_
    · refine c_seq ?_
      refine c_region ?_
      refine l_val rfl rfl rfl (r_move (v := .int .i32 t15) rfl) ?_
      refine l_val rfl rfl rfl (r_geq rfl rfl) ?_
      refine l_nil ?_
      refine c_if (b := (decide (128 ≤ t15))) rfl (fun hb => ?_) (fun hb => ?_)
      · have H27 := cnd_t hb H20; clear H20
        refine c_region ?_
        refine l_val rfl rfl rfl (r_move (v := str x0_2) rfl) ?_
        obtain ⟨t20, h_t20, H28⟩ := bnd_some H27; clear H27
        refine l_call (k187 h_t20) Tryd.call187 rfl rfl rfl ?_
        refine l_val rfl rfl rfl (r_move (v := .tuple #[.int .i32 t20.1, .int .i64 t20.2]) rfl) ?_
        refine l_val rfl rfl rfl (r_extract (v := .int .i32 t20.1) rfl rfl) ?_
        refine l_val rfl rfl rfl (r_extract (v := .int .i64 t20.2) rfl rfl) ?_
        refine l_val rfl rfl rfl (r_assign (v := .int .i32 t20.1) rfl) ?_
        refine l_val rfl rfl rfl (r_assign (v := .int .i64 t20.2) rfl) ?_
        refine l_nil ?_
        refine c_close (t20.1, t20.2) () 0 [] (by exact ⟨rfl, rfl, rfl, rfl, trivial⟩) (by decide) rfl (by exact ⟨H28, trivial⟩) (Nat.lt_succ_self _)
      · have H29 := cnd_f hb H20; clear H20
        refine c_skip ?_
        refine c_close (t15, 1) () 0 [] (by exact ⟨rfl, rfl, rfl, rfl, trivial⟩) (by decide) rfl (by exact ⟨H29, trivial⟩) (Nat.lt_succ_self _)
    · rintro ⟨x5, x6⟩ _ gg H21 _
      replace H21 : strings_trimRightUnicode_j2 a1 x0_2 next1 x5 x6 = some r := H21
      refine c_tidyF [(0, str x0_2), (1, str a1), (5, .int .i32 x5), (6, .int .i64 x6)] [] rfl rfl ?_
      refine c_seq ?_
      refine c_seq ?_
      refine c_region ?_
      refine l_val rfl rfl rfl (r_move (v := str a1) rfl) ?_
      refine l_val rfl rfl rfl (r_move (v := .int .i32 x5) rfl) ?_
      obtain ⟨t25, h_t25, H22⟩ := bnd_some H21; clear H21
      refine l_call (k186 h_t25) Tryd.call186 rfl rfl rfl ?_
      refine l_val rfl rfl rfl (r_not rfl) ?_
      refine l_nil ?_
      refine c_if (b := (!t25)) rfl (fun hb => ?_) (fun hb => ?_)
      · have H23 := cnd_t hb H22; clear H22
        refine c_exit ?_
        refine c_seq ?_
        refine c_region ?_
        refine l_val rfl rfl rfl (r_move (v := str x0_2) rfl) ?_
        refine l_val rfl rfl rfl (r_assign (v := str x0_2) rfl) ?_
        refine l_nil ?_
        refine c_ret ?_
        obtain rfl := Option.some.inj H23
        refine ret1 (v := str x0_2) rfl rfl (fin rfl)
      · have H24 := cnd_f hb H22; clear H22
        refine c_skip ?_
        refine c_region ?_
        refine l_val rfl rfl rfl (r_move (v := str x0_2) rfl) ?_
        refine l_val rfl rfl rfl (r_move (v := str x0_2) rfl) ?_
        refine l_val rfl rfl rfl (r_lenT Tryd.underlying9 rfl) ?_
        refine l_val rfl rfl rfl (r_move (v := .int .i64 x6) rfl) ?_
        obtain ⟨t31, h_t31, H25⟩ := bnd_some H24; clear H24
        refine l_val rfl rfl rfl (r_subG rfl rfl h_t31) ?_
        obtain ⟨t32, h_t32, H26⟩ := bnd_some H25; clear H25
        refine l_val rfl rfl rfl (r_cutToG Tryd.underlying9 rfl rfl h_t32) ?_
        refine l_val rfl rfl rfl (r_assign (v := str t32) rfl) ?_
        refine l_nil ?_
        refine c_close t32 () m1 [] (by exact ⟨rfl, rfl, trivial⟩) (by decide) rfl (by exact ⟨(by subst hn1; exact H26), trivial⟩) (Nat.lt_succ_self _)
  · have H30 := cnd_f hb H16; clear H16
    refine c_exit ?_
    refine c_seq ?_
    refine c_region ?_
    refine l_val rfl rfl rfl (r_move (v := str x0_2) rfl) ?_
    refine l_val rfl rfl rfl (r_assign (v := str x0_2) rfl) ?_
    refine l_nil ?_
    refine c_ret ?_
    obtain rfl := Option.some.inj H30
    refine ret1 (v := str x0_2) rfl rfl (fin rfl)
theorem k103 {a0 : (List UInt8)} {a1 : (List UInt8)} {r : (List UInt8)} (H : strings_Trim a0 a1 = some r) : Ret Tryd.prog 103 [str a0, str a1] (str r) := by
  refine enterRet (n := 43) Tryd.func103 rfl rfl rfl (fun wd => ?_)
  refine c_seq ?_
  refine c_region ?_
  refine l_val rfl rfl rfl (r_assign (v := str []) rfl) ?_
  refine l_nil ?_
  refine c_seq ?_
  refine c_seq ?_
  refine c_region ?_
  refine l_val rfl rfl rfl (r_move (v := str a0) rfl) ?_
  refine l_val rfl rfl rfl (r_eqlT rfl rfl) ?_
  refine l_val rfl rfl rfl (r_move (v := .bool (decide (a0 = []))) rfl) ?_
  refine split (fun hb => ?_) (fun hb => ?_)
  · have H22 := cnd_t hb H; clear H
    refine l_passed rfl rfl rfl ?_
    refine l_passed rfl rfl rfl ?_
    refine l_val rfl rfl rfl (r_pickT (v := .bool true) rfl rfl) ?_
    refine l_nil ?_
    refine c_true rfl ?_
    refine c_seq ?_
    refine c_region ?_
    refine l_val rfl rfl rfl (r_move (v := str a0) rfl) ?_
    refine l_val rfl rfl rfl (r_assign (v := str a0) rfl) ?_
    refine l_nil ?_
    refine c_ret ?_
    obtain rfl := Option.some.inj H22
    refine ret1 (v := str a0) rfl rfl (fin rfl)
  · have H23 := cnd_f hb H; clear H
    refine l_val rfl rfl rfl (r_move (v := str a1) rfl) ?_
    refine l_val rfl rfl rfl (r_eqlT rfl rfl) ?_
    refine l_val rfl rfl rfl (r_pickF (v := .bool (decide (a1 = []))) rfl rfl) ?_
    refine l_nil ?_
    refine c_if (b := (decide (a1 = []))) rfl (fun hb => ?_) (fun hb => ?_)
    · have H24 := cnd_t hb H23; clear H23
      refine c_seq ?_
      refine c_region ?_
      refine l_val rfl rfl rfl (r_move (v := str a0) rfl) ?_
      refine l_val rfl rfl rfl (r_assign (v := str a0) rfl) ?_
      refine l_nil ?_
      refine c_ret ?_
      obtain rfl := Option.some.inj H24
      refine ret1 (v := str a0) rfl rfl (fin rfl)
    · have H25 := cnd_f hb H23; clear H23
      refine c_skip ?_
      refine c_meet (r := r) (σ := Unit) (τ := Unit) (fun s => strings_Trim_j1 a0 a1) (fun s t => [(0, str a0), (1, str a1)]) (fun s t => []) (fun s t => True) ?_ ?_
      · refine c_seq ?_
        refine c_region ?_
        refine l_val rfl rfl rfl (r_move (v := str a1) rfl) ?_
        refine l_val rfl rfl rfl (r_lenT Tryd.underlying9 rfl) ?_
        refine l_val rfl rfl rfl (r_eql rfl rfl) ?_
        refine l_val rfl rfl rfl (r_move (v := .bool (decide ((a1.length : Int) = 1))) rfl) ?_
        refine split (fun hb => ?_) (fun hb => ?_)
        · have H34 := cnd_t hb H25; clear H25
          refine l_val rfl rfl rfl (r_move (v := str a1) rfl) ?_
          obtain ⟨t19, h_t19, H35⟩ := bnd_some H34; clear H34
          refine l_val rfl rfl rfl (r_octG Tryd.underlying9 rfl rfl h_t19) ?_
          refine l_val rfl rfl rfl (r_lss rfl rfl) ?_
          refine l_val rfl rfl rfl (r_pickT (v := .bool (decide (t19 < 128))) rfl rfl) ?_
          refine l_nil ?_
          refine c_if (b := (decide (t19 < 128))) rfl (fun hb => ?_) (fun hb => ?_)
          · have H36 := cnd_t hb H35; clear H35
            refine c_seq ?_
            exact c_regionD (Kd.p :: Kd.p :: Kd.p :: Kd.d [] _ :: Kd.p :: Kd.p :: Kd.d [] _ :: Kd.p :: []) 0 mixed (by
              refine d_val rfl rfl (r_move (v := str a0) rfl) ?_
              refine d_val rfl rfl (r_move (v := str a1) rfl) ?_
              have h_t24 := bnd_val H36
              have H37 := bnd_rest H36
              refine d_val rfl rfl (r_octG Tryd.underlying9 rfl rfl h_t24) ?_
              have h_t25 := bnd_val H37
              have H38 := bnd_rest H37
              refine d_call (k152 h_t25) Tryd.call152 rfl rfl ?_
              refine d_val rfl rfl (r_move (v := str a1) rfl) ?_
              have h_t27 := bnd_val H38
              have H39 := bnd_rest H38
              refine d_val rfl rfl (r_octG Tryd.underlying9 rfl rfl h_t27) ?_
              have h_t28 := bnd_val H39
              have H40 := bnd_rest H39
              refine d_call (k151 h_t28) Tryd.call151 rfl rfl ?_
              refine d_val rfl rfl (r_assign (v := str (val (strings_trimLeftByte (val (strings_trimRightByte a0 (val (gOct a1 0)))) (val (gOct a1 0))))) rfl) ?_
              refine d_nil ?_
              refine c_ret ?_
              obtain rfl := Option.some.inj H40
              refine ret1 (v := str (val (strings_trimLeftByte (val (strings_trimRightByte a0 (val (gOct a1 0)))) (val (gOct a1 0))))) rfl rfl (fin rfl)
              ) (by kernel_rfl)
          · have H41 := cnd_f hb H35; clear H35
            refine c_skip ?_
            refine c_close () () 0 [] (by exact ⟨rfl, rfl, trivial⟩) (by decide) rfl (by exact ⟨H41, trivial⟩) (Nat.lt_succ_self _)
        · have H42 := cnd_f hb H25; clear H25
          refine l_passed rfl rfl rfl ?_
          refine l_passed rfl rfl rfl ?_
          refine l_passed rfl rfl rfl ?_
          refine l_val rfl rfl rfl (r_pickF (v := .bool false) rfl rfl) ?_
          refine l_nil ?_
          refine c_false rfl ?_
          refine c_skip ?_
          refine c_close () () 0 [] (by exact ⟨rfl, rfl, trivial⟩) (by decide) rfl (by exact ⟨H42, trivial⟩) (Nat.lt_succ_self _)
      · rintro _ _ gg H26 _
        replace H26 : strings_Trim_j1 a0 a1 = some r := H26
        refine c_tidyF [(0, str a0), (1, str a1)] [] rfl rfl ?_
        refine c_seq ?_
        refine c_seq ?_
        refine c_region ?_
        refine l_val rfl rfl rfl (r_move (v := str a1) rfl) ?_
        obtain ⟨t31, h_t31, H27⟩ := bnd_some H26; clear H26
        refine l_call (k153 h_t31) Tryd.call153 rfl rfl rfl ?_
        refine l_val rfl rfl rfl (r_move (v := .tuple #[.agg (List.toArray (arrC 256 (fun j_ => [.bool (t31.1 j_)]))), .bool t31.2]) rfl) ?_
        refine l_val rfl rfl rfl (r_extract (v := .agg (List.toArray (arrC 256 (fun j_ => [.bool (t31.1 j_)])))) rfl rfl) ?_
        refine l_val rfl rfl rfl (r_extract (v := .bool t31.2) rfl rfl) ?_
        refine l_alloc (cs := (arrC 256 (fun j_ => [.bool ((fun _ => false) j_)]))) Tryd.zeroValue194 (by kernel_rfl) rfl rfl (fun b1 => ?_)
        refine l_store (i := 0) (vs := (arrC 256 (fun j_ => [.bool (t31.1 j_)]))) (cs' := (arrC 256 (fun j_ => [.bool (t31.1 j_)]))) Tryd.sizeOf194 rfl rfl rfl rfl (arrC_len (fun _ => rfl)) rfl (arrC_one (fun _ => rfl)) rfl (wr_whole ((arrC_len (fun _ => rfl)).trans (arrC_len (fun _ => rfl)).symm)) ?_
        refine l_val rfl rfl rfl (r_assign (v := .bool t31.2) rfl) ?_
        refine l_nil ?_
        refine c_seq ?_
        refine c_region ?_
        refine l_val rfl rfl rfl (r_move (v := .bool t31.2) rfl) ?_
        refine l_nil ?_
        refine c_if (b := t31.2) rfl (fun hb => ?_) (fun hb => ?_)
        · have H28 := cnd_t hb H27; clear H27
          refine c_seq ?_
          refine c_region ?_
          refine l_val rfl rfl rfl (r_move (v := str a0) rfl) ?_
          obtain ⟨t36, h_t36, H29⟩ := bnd_some H28; clear H28
          refine l_turn (turns_callB (i := 0) (rds := []) (G := fun x : Unit => str t36.1) (C := fun x : Unit => cellsC b1 (arrC 256 (fun j_ => [.bool (t36.2 j_)])) 194) rfl (fun w L' S hF hS hi hp hlt ho hA => k155 hp hlt (know_but w S)  h_t36) Tryd.call155 rfl) rfl rfl rfl (fun _ => ?_)
          obtain ⟨t37, h_t37, H30⟩ := bnd_some H29; clear H29
          refine l_turn (turns_callB (i := 0) (rds := []) (G := fun x : Unit => str t37.1) (C := fun x : Unit => cellsC b1 (arrC 256 (fun j_ => [.bool (t37.2 j_)])) 194) rfl (fun w L' S hF hS hi hp hlt ho hA => k154 hp hlt (know_but w S)  h_t37) Tryd.call154 rfl) rfl rfl rfl (fun _ => ?_)
          refine l_val rfl rfl rfl (r_assign (v := str t37.1) rfl) ?_
          refine l_nil ?_
          refine c_ret ?_
          obtain rfl := Option.some.inj H30
          refine ret1 (v := str t37.1) rfl rfl (fin rfl)
        · have H31 := cnd_f hb H27; clear H27
          refine c_skip ?_
          refine c_seq ?_
          refine c_region ?_
          refine l_val rfl rfl rfl (r_move (v := str a0) rfl) ?_
          refine l_val rfl rfl rfl (r_move (v := str a1) rfl) ?_
          obtain ⟨t40, h_t40, H32⟩ := bnd_some H31; clear H31
          refine l_call (k157 h_t40) Tryd.call157 rfl rfl rfl ?_
          refine l_val rfl rfl rfl (r_move (v := str a1) rfl) ?_
          obtain ⟨t42, h_t42, H33⟩ := bnd_some H32; clear H32
          refine l_call (k156 h_t42) Tryd.call156 rfl rfl rfl ?_
          refine l_val rfl rfl rfl (r_assign (v := str t42) rfl) ?_
          refine l_nil ?_
          refine c_ret ?_
          obtain rfl := Option.some.inj H33
          refine ret1 (v := str t42) rfl rfl (fin rfl)
theorem k89 {a0 : (List UInt8)} {r : Bool} (H : R_NameOk a0 = some r) : Ret Tryd.prog 89 [str a0] (.bool r) := by
  refine enterRet (n := 25) Tryd.func89 rfl rfl rfl (fun wd => ?_)
  refine c_seq ?_
  refine c_region ?_
  refine l_val rfl rfl rfl (r_assign (v := .bool false) rfl) ?_
  refine l_nil ?_
  refine c_seq ?_
  refine c_region ?_
  refine l_val rfl rfl rfl (r_move (v := str a0) rfl) ?_
  refine l_val rfl rfl rfl (r_neqT rfl rfl) ?_
  refine l_val rfl rfl rfl (r_move (v := .bool (decide (a0 ≠ []))) rfl) ?_
  refine split (fun hb => ?_) (fun hb => ?_)
  · have H12 := cnd_t hb H; clear H
    refine l_val rfl rfl rfl (r_move (v := str a0) rfl) ?_
    refine l_val rfl rfl rfl (r_lenT Tryd.underlying9 rfl) ?_
    refine l_val rfl rfl rfl (r_leq rfl rfl) ?_
    refine l_val rfl rfl rfl (r_pickT (v := .bool (decide ((a0.length : Int) ≤ 40))) rfl rfl) ?_
    refine l_val rfl rfl rfl (r_move (v := .bool (decide ((a0.length : Int) ≤ 40))) rfl) ?_
    refine split (fun hb => ?_) (fun hb => ?_)
    · have H13 := cnd_t hb H12; clear H12
      refine l_val rfl rfl rfl (r_move (v := str a0) rfl) ?_
      obtain ⟨t12, h_t12, H14⟩ := bnd_some H13; clear H13
      refine l_val rfl rfl rfl (r_octG Tryd.underlying9 rfl rfl h_t12) ?_
      refine l_val rfl rfl rfl (r_geq rfl rfl) ?_
      refine l_val rfl rfl rfl (r_pickT (v := .bool (decide (97 ≤ t12))) rfl rfl) ?_
      refine l_val rfl rfl rfl (r_move (v := .bool (decide (97 ≤ t12))) rfl) ?_
      refine split (fun hb => ?_) (fun hb => ?_)
      · have H15 := cnd_t hb H14; clear H14
        refine l_val rfl rfl rfl (r_move (v := str a0) rfl) ?_
        obtain ⟨t17, h_t17, H16⟩ := bnd_some H15; clear H15
        refine l_val rfl rfl rfl (r_octG Tryd.underlying9 rfl rfl h_t17) ?_
        refine l_val rfl rfl rfl (r_leq rfl rfl) ?_
        refine l_val rfl rfl rfl (r_pickT (v := .bool (decide (t17 ≤ 122))) rfl rfl) ?_
        refine l_val rfl rfl rfl (r_move (v := .bool (decide (t17 ≤ 122))) rfl) ?_
        refine split (fun hb => ?_) (fun hb => ?_)
        · have H17 := cnd_t hb H16; clear H16
          refine l_val rfl rfl rfl (r_move (v := str a0) rfl) ?_
          obtain ⟨t22, h_t22, H18⟩ := bnd_some H17; clear H17
          refine l_call (k103 h_t22) Tryd.call103 rfl rfl rfl ?_
          refine l_val rfl rfl rfl (r_eqlT rfl rfl) ?_
          refine l_val rfl rfl rfl (r_pickT (v := .bool (decide (t22 = []))) rfl rfl) ?_
          refine l_val rfl rfl rfl (r_assign (v := .bool (decide (t22 = []))) rfl) ?_
          refine l_nil ?_
          refine c_ret ?_
          obtain rfl := Option.some.inj H18
          refine ret1 (v := .bool (decide (t22 = []))) rfl rfl (fin rfl)
        · have H19 := cnd_f hb H16; clear H16
          refine l_passed rfl rfl rfl ?_
          refine l_passed rfl rfl rfl ?_
          refine l_passed rfl rfl rfl ?_
          refine l_val rfl rfl rfl (r_pickF (v := .bool false) rfl rfl) ?_
          refine l_val rfl rfl rfl (r_assign (v := .bool false) rfl) ?_
          refine l_nil ?_
          refine c_ret ?_
          obtain rfl := Option.some.inj H19
          refine ret1 (v := .bool false) rfl rfl (fin rfl)
      · have H20 := cnd_f hb H14; clear H14
        refine l_passed rfl rfl rfl ?_
        refine l_passed rfl rfl rfl ?_
        refine l_passed rfl rfl rfl ?_
        refine l_val rfl rfl rfl (r_pickF (v := .bool false) rfl rfl) ?_
        refine l_val rfl rfl rfl (r_move (v := .bool false) rfl) ?_
        refine l_passed rfl rfl rfl ?_
        refine l_passed rfl rfl rfl ?_
        refine l_passed rfl rfl rfl ?_
        refine l_val rfl rfl rfl (r_pickF (v := .bool false) rfl rfl) ?_
        refine l_val rfl rfl rfl (r_assign (v := .bool false) rfl) ?_
        refine l_nil ?_
        refine c_ret ?_
        obtain rfl := Option.some.inj H20
        refine ret1 (v := .bool false) rfl rfl (fin rfl)
    · have H21 := cnd_f hb H12; clear H12
      refine l_passed rfl rfl rfl ?_
      refine l_passed rfl rfl rfl ?_
      refine l_passed rfl rfl rfl ?_
      refine l_val rfl rfl rfl (r_pickF (v := .bool false) rfl rfl) ?_
      refine l_val rfl rfl rfl (r_move (v := .bool false) rfl) ?_
      refine l_passed rfl rfl rfl ?_
      refine l_passed rfl rfl rfl ?_
      refine l_passed rfl rfl rfl ?_
      refine l_val rfl rfl rfl (r_pickF (v := .bool false) rfl rfl) ?_
      refine l_val rfl rfl rfl (r_move (v := .bool false) rfl) ?_
      refine l_passed rfl rfl rfl ?_
      refine l_passed rfl rfl rfl ?_
      refine l_passed rfl rfl rfl ?_
      refine l_val rfl rfl rfl (r_pickF (v := .bool false) rfl rfl) ?_
      refine l_val rfl rfl rfl (r_assign (v := .bool false) rfl) ?_
      refine l_nil ?_
      refine c_ret ?_
      obtain rfl := Option.some.inj H21
      refine ret1 (v := .bool false) rfl rfl (fin rfl)
  · have H22 := cnd_f hb H; clear H
    refine l_passed rfl rfl rfl ?_
    refine l_passed rfl rfl rfl ?_
    refine l_passed rfl rfl rfl ?_
    refine l_val rfl rfl rfl (r_pickF (v := .bool false) rfl rfl) ?_
    refine l_val rfl rfl rfl (r_move (v := .bool false) rfl) ?_
    refine l_passed rfl rfl rfl ?_
    refine l_passed rfl rfl rfl ?_
    refine l_passed rfl rfl rfl ?_
    refine l_val rfl rfl rfl (r_pickF (v := .bool false) rfl rfl) ?_
    refine l_val rfl rfl rfl (r_move (v := .bool false) rfl) ?_
    refine l_passed rfl rfl rfl ?_
    refine l_passed rfl rfl rfl ?_
    refine l_passed rfl rfl rfl ?_
    refine l_val rfl rfl rfl (r_pickF (v := .bool false) rfl rfl) ?_
    refine l_val rfl rfl rfl (r_move (v := .bool false) rfl) ?_
    refine l_passed rfl rfl rfl ?_
    refine l_passed rfl rfl rfl ?_
    refine l_passed rfl rfl rfl ?_
    refine l_val rfl rfl rfl (r_pickF (v := .bool false) rfl rfl) ?_
    refine l_val rfl rfl rfl (r_assign (v := .bool false) rfl) ?_
    refine l_nil ?_
    refine c_ret ?_
    obtain rfl := Option.some.inj H22
    refine ret1 (v := .bool false) rfl rfl (fin rfl)
theorem k90 {a0 : (List T_api_Place)} {v0 : Value} {r : Int} {w : World} {h : Heap} (hw : Know h w noS) (f0 : FrS h 2 v0 (a0.map e_api_Place)) (H : R_placesFault a0 = some r) : Does Tryd.prog 90 (List.toArray [v0]) w (fun v w' => v = (.int .i64 r) ∧ Grow w w') := by
  refine enter (n := 18) Tryd.func90 rfl rfl rfl noS [] (Sat.nil _ _) ?_
  refine c_seq ?_
  refine c_region ?_
  refine l_val rfl rfl rfl (r_assign (v := .int .i64 0) rfl) ?_
  refine l_nil ?_
  refine c_seq ?_
  refine c_seq ?_
  refine c_region ?_
  refine l_val rfl rfl rfl (r_move (v := v0) rfl) ?_
  refine l_val rfl rfl rfl (r_lenF Tryd.underlying58 rfl f0 rfl) ?_
  refine l_val rfl rfl rfl (r_move (v := .int .i64 0) rfl) ?_
  refine l_nil ?_
  refine c_block ?_
  refine c_fix (σ := Int) (τ := Unit) (fun next1 s => R_placesFault_l1 a0 next1 s) (fun s t => [(6, v0), (7, .int .i64 (a0.length : Int)), (8, .int .i64 s)]) (fun s t => []) (fun s t => True) 0 () [] H (by exact trivial) (by exact ⟨rfl, rfl, rfl, trivial⟩) (by decide) rfl ?_
  rintro x8_2 _ m1 gg H9 _
  clear H
  replace H9 : R_placesFault_l1 a0 (it (fun next1 s => R_placesFault_l1 a0 next1 s) m1) x8_2 = some r := H9
  generalize hn1 : it (fun next1 s => R_placesFault_l1 a0 next1 s) m1 = next1 at H9
  refine c_tidyF [(6, v0), (7, .int .i64 (a0.length : Int)), (8, .int .i64 x8_2)] [] rfl rfl ?_
  refine c_seq ?_
  refine c_region ?_
  refine l_val rfl rfl rfl (r_lss rfl rfl) ?_
  refine l_nil ?_
  refine c_seq ?_
  refine c_if (b := (decide (x8_2 < (a0.length : Int)))) rfl (fun hb => ?_) (fun hb => ?_)
  · have H10 := cnd_t hb H9; clear H9
    refine c_skip ?_
    refine c_seq ?_
    refine c_block ?_
    refine c_seq ?_
    refine c_region ?_
    obtain ⟨t10, h_t10, H11⟩ := bnd_some H10; clear H10
    refine l_val rfl rfl rfl (r_indexF Tryd.underlying58 Tryd.sizeOf68 rfl rfl f0 h_t10) ?_
    refine l_read (fun w hF hS => run_loadGN (f := e_api_Place) (i := x8_2) (sz := 2) (j := 0) (vs := [.int .i64 t10.Lat, .int .i64 t10.Lon]) Tryd.isAgg68 Tryd.sizeOf68 rfl rfl (f0.row (hw.now hF)) h_t10 rfl) rfl rfl rfl ?_
    refine l_alloc (cs := [.int .i64 0, .int .i64 0]) Tryd.zeroValue68 rfl rfl rfl (fun b1 => ?_)
    refine l_store (i := 0) (vs := [.int .i64 t10.Lat, .int .i64 t10.Lon]) (cs' := [.int .i64 t10.Lat, .int .i64 t10.Lon]) Tryd.sizeOf68 rfl rfl rfl rfl rfl rfl rfl rfl rfl ?_
    refine l_nil ?_
    refine c_seq ?_
    refine c_region ?_
    refine l_loadN (i := 0) (vs := [.int .i64 t10.Lat, .int .i64 t10.Lon]) Tryd.isAgg68 Tryd.sizeOf68 rfl rfl rfl rfl rfl ?_
    obtain ⟨t13, h_t13, H12⟩ := bnd_some H11; clear H11
    refine l_call (k37 h_t13) Tryd.call37 rfl rfl rfl ?_
    refine l_val rfl rfl rfl (r_assign (v := .int .i64 t13) rfl) ?_
    refine l_nil ?_
    refine c_seq ?_
    refine c_region ?_
    refine l_val rfl rfl rfl (r_move (v := .int .i64 t13) rfl) ?_
    refine l_val rfl rfl rfl (r_neq rfl rfl) ?_
    refine l_nil ?_
    refine c_if (b := (decide (t13 ≠ 0))) rfl (fun hb => ?_) (fun hb => ?_)
    · have H13 := cnd_t hb H12; clear H12
      refine c_seq ?_
      refine c_region ?_
      refine l_val rfl rfl rfl (r_move (v := .int .i64 t13) rfl) ?_
      refine l_val rfl rfl rfl (r_assign (v := .int .i64 t13) rfl) ?_
      refine l_nil ?_
      refine c_ret ?_
      obtain rfl := Option.some.inj H13
      refine ret1 (v := .int .i64 t13) rfl rfl (fin rfl)
    · have H14 := cnd_f hb H12; clear H12
      refine c_skip ?_
      refine c_region ?_
      obtain ⟨t17, h_t17, H15⟩ := bnd_some H14; clear H14
      refine l_val rfl rfl rfl (r_addG rfl rfl h_t17) ?_
      refine l_val rfl rfl rfl (r_move (v := .int .i64 t17) rfl) ?_
      refine l_nil ?_
      refine c_close t17 () m1 [] (by exact ⟨rfl, rfl, rfl, trivial⟩) (by decide) rfl (by exact ⟨(by subst hn1; exact H15), trivial⟩) (Nat.lt_succ_self _)
  · have H16 := cnd_f hb H9; clear H9
    refine c_exit ?_
    refine c_seq ?_
    refine c_region ?_
    refine l_val rfl rfl rfl (r_assign (v := .int .i64 0) rfl) ?_
    refine l_nil ?_
    refine c_ret ?_
    obtain rfl := Option.some.inj H16
    refine ret1 (v := .int .i64 0) rfl rfl (fin rfl)
theorem k38 {a0 : T_where_Area} {v0_1 : Value} {r : Int} {w : World} {h : Heap} (hw : Know h w noS) (f0_1 : FrS h 2 v0_1 (a0.Ring.map e_api_Place)) (H : R_AreaFault a0 = some r) : Does Tryd.prog 38 (List.toArray [.agg #[str a0.Name, v0_1]]) w (fun v w' => v = (.int .i64 r) ∧ Grow w w') := by
  refine enter (n := 22) Tryd.func38 rfl rfl rfl noS [] (Sat.nil _ _) ?_
  refine c_seq ?_
  refine c_region ?_
  refine l_box (cs := [str a0.Name, v0_1]) rfl rfl rfl rfl (fun b1 => ?_)
  refine l_val rfl rfl rfl (r_assign (v := .int .i64 0) rfl) ?_
  refine l_nil ?_
  refine c_seq ?_
  refine c_block ?_
  refine c_seq ?_
  refine c_region ?_
  refine l_val rfl rfl rfl (r_field Tryd.runUnderlying74 rfl Tryd.sizeOf9 rfl rfl) ?_
  refine l_load1 (i := 0) (v := str a0.Name) Tryd.isAgg9 rfl rfl rfl rfl rfl ?_
  obtain ⟨t6, h_t6, H9⟩ := bnd_some H; clear H
  refine l_call (k89 h_t6) Tryd.call89 rfl rfl rfl ?_
  refine l_val rfl rfl rfl (r_not rfl) ?_
  refine l_val rfl rfl rfl (r_assign (v := .bool (!t6)) rfl) ?_
  refine l_nil ?_
  refine c_if (b := (!t6)) rfl (fun hb => ?_) (fun hb => ?_)
  · have H10 := cnd_t hb H9; clear H9
    refine c_seq ?_
    refine c_region ?_
    refine l_val rfl rfl rfl (r_assign (v := .int .i64 3) rfl) ?_
    refine l_nil ?_
    refine c_ret ?_
    obtain rfl := Option.some.inj H10
    refine ret1 (v := .int .i64 3) rfl rfl (fin rfl)
  · have H11 := cnd_f hb H9; clear H9
    refine c_seq ?_
    refine c_region ?_
    refine l_val rfl rfl rfl (r_field Tryd.runUnderlying74 rfl Tryd.sizeOf58 rfl rfl) ?_
    refine l_load1 (i := 0) (v := v0_1) Tryd.isAgg58 rfl rfl rfl rfl rfl ?_
    refine l_val rfl rfl rfl (r_lenF Tryd.underlying58 rfl f0_1 rfl) ?_
    refine l_val rfl rfl rfl (r_lss rfl rfl) ?_
    refine l_val rfl rfl rfl (r_move (v := .bool (decide ((a0.Ring.length : Int) < 3))) rfl) ?_
    refine split (fun hb => ?_) (fun hb => ?_)
    · have H12 := cnd_t hb H11; clear H11
      refine l_passed rfl rfl rfl ?_
      refine l_passed rfl rfl rfl ?_
      refine l_passed rfl rfl rfl ?_
      refine l_passed rfl rfl rfl ?_
      refine l_val rfl rfl rfl (r_pickT (v := .bool true) rfl rfl) ?_
      refine l_val rfl rfl rfl (r_assign (v := .bool true) rfl) ?_
      refine l_nil ?_
      refine c_true rfl ?_
      refine c_seq ?_
      refine c_region ?_
      refine l_val rfl rfl rfl (r_assign (v := .int .i64 1) rfl) ?_
      refine l_nil ?_
      refine c_ret ?_
      obtain rfl := Option.some.inj H12
      refine ret1 (v := .int .i64 1) rfl rfl (fin rfl)
    · have H13 := cnd_f hb H11; clear H11
      refine l_val rfl rfl rfl (r_field Tryd.runUnderlying74 rfl Tryd.sizeOf58 rfl rfl) ?_
      refine l_load1 (i := 0) (v := v0_1) Tryd.isAgg58 rfl rfl rfl rfl rfl ?_
      refine l_val rfl rfl rfl (r_lenF Tryd.underlying58 rfl f0_1 rfl) ?_
      refine l_val rfl rfl rfl (r_gtr rfl rfl) ?_
      refine l_val rfl rfl rfl (r_pickF (v := .bool (decide (100 < (a0.Ring.length : Int)))) rfl rfl) ?_
      refine l_val rfl rfl rfl (r_assign (v := .bool (decide (100 < (a0.Ring.length : Int)))) rfl) ?_
      refine l_nil ?_
      refine c_if (b := (decide (100 < (a0.Ring.length : Int)))) rfl (fun hb => ?_) (fun hb => ?_)
      · have H14 := cnd_t hb H13; clear H13
        refine c_seq ?_
        refine c_region ?_
        refine l_val rfl rfl rfl (r_assign (v := .int .i64 1) rfl) ?_
        refine l_nil ?_
        refine c_ret ?_
        obtain rfl := Option.some.inj H14
        refine ret1 (v := .int .i64 1) rfl rfl (fin rfl)
      · have H15 := cnd_f hb H13; clear H13
        refine c_skip ?_
        refine c_seq ?_
        refine c_region ?_
        refine l_val rfl rfl rfl (r_field Tryd.runUnderlying74 rfl Tryd.sizeOf58 rfl rfl) ?_
        refine l_load1 (i := 0) (v := v0_1) Tryd.isAgg58 rfl rfl rfl rfl rfl ?_
        obtain ⟨t21, h_t21, H16⟩ := bnd_some H15; clear H15
        refine l_callG (fun w hF hS => k90 (know_all w) (f0_1.mono (hw.now hF)) h_t21) Tryd.call90 rfl rfl rfl ?_
        refine l_val rfl rfl rfl (r_assign (v := .int .i64 t21) rfl) ?_
        refine l_nil ?_
        refine c_ret ?_
        obtain rfl := Option.some.inj H16
        refine ret1 (v := .int .i64 t21) rfl rfl (fin rfl)
theorem k40 {a0 : T_where_Area} {v0_1 : Value} {a1 : T_api_Place} {r : Bool × Int} {w : World} {h : Heap} (hw : Know h w noS) (f0_1 : FrS h 2 v0_1 (a0.Ring.map e_api_Place)) (H : where_Within a0 a1 = some r) : Does Tryd.prog 40 (List.toArray [.agg #[str a0.Name, v0_1], .agg #[.int .i64 a1.Lat, .int .i64 a1.Lon]]) w (fun v w' => v = (.tuple #[.bool r.1, .int .i64 r.2]) ∧ Grow w w') := by
  refine enter (n := 21) Tryd.func40 rfl rfl rfl noS [] (Sat.nil _ _) ?_
  refine c_seq ?_
  refine c_region ?_
  refine l_box (cs := [str a0.Name, v0_1]) rfl rfl rfl rfl (fun b2 => ?_)
  refine l_box (cs := [.int .i64 a1.Lat, .int .i64 a1.Lon]) rfl rfl rfl rfl (fun b3 => ?_)
  refine l_val rfl rfl rfl (r_assign (v := .bool false) rfl) ?_
  refine l_val rfl rfl rfl (r_assign (v := .int .i64 0) rfl) ?_
  refine l_nil ?_
  refine c_seq ?_
  refine c_seq ?_
  refine c_region ?_
  refine l_loadN (i := 0) (vs := [str a0.Name, v0_1]) Tryd.isAgg74 Tryd.sizeOf74 rfl rfl rfl rfl rfl ?_
  obtain ⟨t9, h_t9, H8⟩ := bnd_some H; clear H
  refine l_callG (fun w hF hS => k39 (know_all w) (f0_1.mono (hw.now hF)) h_t9) Tryd.call39 rfl rfl rfl ?_
  refine l_val rfl rfl rfl (r_assign (v := .int .i64 t9) rfl) ?_
  refine l_nil ?_
  refine c_seq ?_
  refine c_region ?_
  refine l_val rfl rfl rfl (r_move (v := .int .i64 t9) rfl) ?_
  refine l_val rfl rfl rfl (r_neq rfl rfl) ?_
  refine l_nil ?_
  refine c_if (b := (decide (t9 ≠ 0))) rfl (fun hb => ?_) (fun hb => ?_)
  · have H9 := cnd_t hb H8; clear H8
    refine c_seq ?_
    refine c_region ?_
    refine l_val rfl rfl rfl (r_move (v := .int .i64 t9) rfl) ?_
    refine l_val rfl rfl rfl (r_assign (v := .bool false) rfl) ?_
    refine l_val rfl rfl rfl (r_assign (v := .int .i64 t9) rfl) ?_
    refine l_nil ?_
    refine c_ret ?_
    obtain rfl := Option.some.inj H9
    refine ret2 (v1 := .bool false) (v2 := .int .i64 t9) rfl rfl rfl (fin rfl)
  · have H10 := cnd_f hb H8; clear H8
    refine c_skip ?_
    refine c_seq ?_
    refine c_seq ?_
    refine c_region ?_
    refine l_loadN (i := 1) (vs := [.int .i64 a1.Lat, .int .i64 a1.Lon]) Tryd.isAgg68 Tryd.sizeOf68 rfl rfl rfl rfl rfl ?_
    obtain ⟨t14, h_t14, H11⟩ := bnd_some H10; clear H10
    refine l_call (k87 h_t14) Tryd.call87 rfl rfl rfl ?_
    refine l_val rfl rfl rfl (r_assign (v := .int .i64 t14) rfl) ?_
    refine l_nil ?_
    refine c_seq ?_
    refine c_region ?_
    refine l_val rfl rfl rfl (r_move (v := .int .i64 t14) rfl) ?_
    refine l_val rfl rfl rfl (r_neq rfl rfl) ?_
    refine l_nil ?_
    refine c_if (b := (decide (t14 ≠ 0))) rfl (fun hb => ?_) (fun hb => ?_)
    · have H12 := cnd_t hb H11; clear H11
      refine c_seq ?_
      refine c_region ?_
      refine l_val rfl rfl rfl (r_move (v := .int .i64 t14) rfl) ?_
      refine l_val rfl rfl rfl (r_assign (v := .bool false) rfl) ?_
      refine l_val rfl rfl rfl (r_assign (v := .int .i64 t14) rfl) ?_
      refine l_nil ?_
      refine c_ret ?_
      obtain rfl := Option.some.inj H12
      refine ret2 (v1 := .bool false) (v2 := .int .i64 t14) rfl rfl rfl (fin rfl)
    · have H13 := cnd_f hb H11; clear H11
      refine c_skip ?_
      refine c_seq ?_
      refine c_region ?_
      refine l_loadN (i := 0) (vs := [str a0.Name, v0_1]) Tryd.isAgg74 Tryd.sizeOf74 rfl rfl rfl rfl rfl ?_
      refine l_loadN (i := 1) (vs := [.int .i64 a1.Lat, .int .i64 a1.Lon]) Tryd.isAgg68 Tryd.sizeOf68 rfl rfl rfl rfl rfl ?_
      obtain ⟨t20, h_t20, H14⟩ := bnd_some H13; clear H13
      refine l_callG (fun w hF hS => k88 (know_all w) (f0_1.mono (hw.now hF)) h_t20) Tryd.call88 rfl rfl rfl ?_
      refine l_val rfl rfl rfl (r_assign (v := .bool t20) rfl) ?_
      refine l_val rfl rfl rfl (r_assign (v := .int .i64 0) rfl) ?_
      refine l_nil ?_
      refine c_ret ?_
      obtain rfl := Option.some.inj H14
      refine ret2 (v1 := .bool t20) (v2 := .int .i64 0) rfl rfl rfl (fin rfl)
theorem k136 {a0 : Int} {a1 : Int} {r : Int} (H : R_eastward a0 a1 = some r) : Ret Tryd.prog 136 [.int .i64 a0, .int .i64 a1] (.int .i64 r) := by
  refine enterRet (n := 14) Tryd.func136 rfl rfl rfl (fun wd => ?_)
  refine c_seq ?_
  refine c_region ?_
  refine l_val rfl rfl rfl (r_assign (v := .int .i64 0) rfl) ?_
  refine l_nil ?_
  refine c_seq ?_
  refine c_region ?_
  refine l_val rfl rfl rfl (r_move (v := .int .i64 a1) rfl) ?_
  refine l_val rfl rfl rfl (r_move (v := .int .i64 a0) rfl) ?_
  obtain ⟨t8, h_t8, H5⟩ := bnd_some H; clear H
  refine l_val rfl rfl rfl (r_subG rfl rfl h_t8) ?_
  refine l_val rfl rfl rfl (r_assign (v := .int .i64 t8) rfl) ?_
  refine l_nil ?_
  refine c_seq ?_
  refine c_seq ?_
  refine c_region ?_
  refine l_val rfl rfl rfl (r_move (v := .int .i64 t8) rfl) ?_
  refine l_val rfl rfl rfl (r_lss rfl rfl) ?_
  refine l_nil ?_
  refine c_if (b := (decide (t8 < 0))) rfl (fun hb => ?_) (fun hb => ?_)
  · have H6 := cnd_t hb H5; clear H5
    refine c_region ?_
    refine l_val rfl rfl rfl (r_move (v := .int .i64 t8) rfl) ?_
    obtain ⟨t12, h_t12, H7⟩ := bnd_some H6; clear H6
    refine l_val rfl rfl rfl (r_addG rfl rfl h_t12) ?_
    refine l_val rfl rfl rfl (r_assign (v := .int .i64 t12) rfl) ?_
    refine l_nil ?_
    refine c_seq ?_
    refine c_region ?_
    refine l_val rfl rfl rfl (r_move (v := .int .i64 t12) rfl) ?_
    refine l_val rfl rfl rfl (r_assign (v := .int .i64 t12) rfl) ?_
    refine l_nil ?_
    refine c_ret ?_
    obtain rfl := Option.some.inj H7
    refine ret1 (v := .int .i64 t12) rfl rfl (fin rfl)
  · have H8 := cnd_f hb H5; clear H5
    refine c_skip ?_
    refine c_seq ?_
    refine c_region ?_
    refine l_val rfl rfl rfl (r_move (v := .int .i64 t8) rfl) ?_
    refine l_val rfl rfl rfl (r_assign (v := .int .i64 t8) rfl) ?_
    refine l_nil ?_
    refine c_ret ?_
    obtain rfl := Option.some.inj H8
    refine ret1 (v := .int .i64 t8) rfl rfl (fin rfl)
theorem k95 {a0 : Int} {a1 : Int} {r : Int} (H : R_short a0 a1 = some r) : Ret Tryd.prog 95 [.int .i64 a0, .int .i64 a1] (.int .i64 r) := by
  refine enterRet (n := 14) Tryd.func95 rfl rfl rfl (fun wd => ?_)
  refine c_seq ?_
  refine c_region ?_
  refine l_val rfl rfl rfl (r_assign (v := .int .i64 0) rfl) ?_
  refine l_nil ?_
  refine c_seq ?_
  refine c_region ?_
  refine l_val rfl rfl rfl (r_move (v := .int .i64 a0) rfl) ?_
  refine l_val rfl rfl rfl (r_move (v := .int .i64 a1) rfl) ?_
  obtain ⟨t8, h_t8, H5⟩ := bnd_some H; clear H
  refine l_call (k136 h_t8) Tryd.call136 rfl rfl rfl ?_
  refine l_val rfl rfl rfl (r_assign (v := .int .i64 t8) rfl) ?_
  refine l_nil ?_
  refine c_seq ?_
  refine c_seq ?_
  refine c_region ?_
  refine l_val rfl rfl rfl (r_move (v := .int .i64 t8) rfl) ?_
  refine l_val rfl rfl rfl (r_geq rfl rfl) ?_
  refine l_nil ?_
  refine c_if (b := (decide (180000000 ≤ t8))) rfl (fun hb => ?_) (fun hb => ?_)
  · have H6 := cnd_t hb H5; clear H5
    refine c_region ?_
    refine l_val rfl rfl rfl (r_move (v := .int .i64 t8) rfl) ?_
    obtain ⟨t12, h_t12, H7⟩ := bnd_some H6; clear H6
    refine l_val rfl rfl rfl (r_subG rfl rfl h_t12) ?_
    refine l_val rfl rfl rfl (r_assign (v := .int .i64 t12) rfl) ?_
    refine l_nil ?_
    refine c_seq ?_
    refine c_region ?_
    refine l_val rfl rfl rfl (r_move (v := .int .i64 t12) rfl) ?_
    refine l_val rfl rfl rfl (r_assign (v := .int .i64 t12) rfl) ?_
    refine l_nil ?_
    refine c_ret ?_
    obtain rfl := Option.some.inj H7
    refine ret1 (v := .int .i64 t12) rfl rfl (fin rfl)
  · have H8 := cnd_f hb H5; clear H5
    refine c_skip ?_
    refine c_seq ?_
    refine c_region ?_
    refine l_val rfl rfl rfl (r_move (v := .int .i64 t8) rfl) ?_
    refine l_val rfl rfl rfl (r_assign (v := .int .i64 t8) rfl) ?_
    refine l_nil ?_
    refine c_ret ?_
    obtain rfl := Option.some.inj H8
    refine ret1 (v := .int .i64 t8) rfl rfl (fin rfl)
theorem k94 {q0 : T_where_Area} {vq0_1 : Value} {c0 : Nat} {a0 : T_api_Place} {r : Int} {w : World} {h : Heap} (hw : Know h w noS) (fq0_1 : FrS h 2 vq0_1 (q0.Ring.map e_api_Place)) (hc0 : h c0 = some (.cells (List.toArray [str q0.Name, vq0_1]) 74 (0, 0))) (H : R_WithinOf_1 q0 a0 = some r) : Does Tryd.prog 94 (List.toArray [.agg #[.int .i64 a0.Lat, .int .i64 a0.Lon], .pointer (some ⟨c0, 0, none⟩)]) w (fun v w' => v = (.int .i64 r) ∧ Grow w w') := by
  refine enter (n := 12) Tryd.func94 rfl rfl rfl noS [] (Sat.nil _ _) ?_
  refine c_seq ?_
  refine c_region ?_
  refine l_box (cs := [.int .i64 a0.Lat, .int .i64 a0.Lon]) rfl rfl rfl rfl (fun b1 => ?_)
  refine l_val rfl rfl rfl (r_assign (v := .int .i64 0) rfl) ?_
  refine l_nil ?_
  refine c_seq ?_
  exact c_regionD (Kd.p :: Kd.d [] _ :: Kd.p :: Kd.p :: Kd.d [] _ :: Kd.p :: Kd.d [0] _ :: Kd.d [] _ :: Kd.p :: []) 0 mixed (by
    refine d_val rfl rfl (r_field Tryd.runUnderlying74 rfl Tryd.sizeOf58 rfl rfl) ?_
    refine d_read (fun w hF => run_loadK1 (v := vq0_1) Tryd.isAgg58 rfl (hw.now hF _ _ hc0) rfl) rfl rfl ?_
    have h_t6 := bnd_val H
    have H3 := bnd_rest H
    refine d_val rfl rfl (r_indexF Tryd.underlying58 Tryd.sizeOf68 rfl rfl fq0_1 h_t6) ?_
    refine d_val rfl rfl (r_fieldP Tryd.runUnderlying68 rfl Tryd.sizeOf3 rfl rfl (some_of_at fq0_1 h_t6)) ?_
    refine d_read (fun w hF => run_loadG1 (f := e_api_Place) (i := 0) (sz := 2) (j := 1) (v := .int .i64 (val (gAt q0.Ring 0)).Lon) Tryd.isAgg3 rfl rfl (fq0_1.row (hw.now hF)) h_t6 rfl) rfl rfl ?_
    refine d_val rfl rfl (r_field Tryd.runUnderlying68 rfl Tryd.sizeOf3 rfl rfl) ?_
    refine d_load1 (i := 0) (v := .int .i64 a0.Lon) Tryd.isAgg3 rfl rfl rfl rfl ?_
    have h_t11 := bnd_val H3
    have H4 := bnd_rest H3
    refine d_call (k95 h_t11) Tryd.call95 rfl rfl ?_
    refine d_val rfl rfl (r_assign (v := .int .i64 (val (R_short (val (gAt q0.Ring 0)).Lon a0.Lon))) rfl) ?_
    refine d_nil ?_
    refine c_ret ?_
    obtain rfl := Option.some.inj H4
    refine ret1 (v := .int .i64 (val (R_short (val (gAt q0.Ring 0)).Lon a0.Lon))) rfl rfl (fin rfl)
    ) (by kernel_rfl)
theorem k41 {a0 : T_where_Area} {v0_1 : Value} {a1 : T_api_Place} {r : Bool} {w : World} {h : Heap} (hw : Know h w noS) (f0_1 : FrS h 2 v0_1 (a0.Ring.map e_api_Place)) (H : R_WithinOf a0 a1 = some r) : Does Tryd.prog 41 (List.toArray [.agg #[str a0.Name, v0_1], .agg #[.int .i64 a1.Lat, .int .i64 a1.Lon]]) w (fun v w' => v = (.bool r) ∧ Grow w w') := by
  refine enter (n := 96) Tryd.func41 rfl rfl rfl noS [] (Sat.nil _ _) ?_
  refine c_seq ?_
  refine c_region ?_
  refine l_box (cs := [str a0.Name, v0_1]) rfl rfl rfl rfl (fun b4 => ?_)
  refine l_box (cs := [.int .i64 a1.Lat, .int .i64 a1.Lon]) rfl rfl rfl rfl (fun b5 => ?_)
  refine l_val rfl rfl rfl (r_assign (v := .bool false) rfl) ?_
  refine l_nil ?_
  refine c_seq ?_
  refine c_region ?_
  refine l_val rfl rfl rfl (r_makeFn (caps := #[.pointer (some ⟨b4, 0, none⟩)]) rfl) ?_
  refine l_val rfl rfl rfl (r_assign (v := .func (.func 94) #[] #[.pointer (some ⟨b4, 0, none⟩)]) rfl) ?_
  refine l_nil ?_
  refine c_seq ?_
  refine c_region ?_
  refine l_val rfl rfl rfl (r_assign (v := .int .i64 0) rfl) ?_
  refine l_nil ?_
  refine c_meet (r := r) (σ := Int) (τ := Unit) (fun s => R_WithinOf_j1 s) (fun s t => [(6, .int .i64 s)]) (fun s t => []) (fun s t => True) ?_ ?_
  · refine c_seq ?_
    refine c_region ?_
    refine l_val rfl rfl rfl (r_field Tryd.runUnderlying74 rfl Tryd.sizeOf58 rfl rfl) ?_
    refine l_load1 (i := 0) (v := v0_1) Tryd.isAgg58 rfl rfl rfl rfl rfl ?_
    refine l_val rfl rfl rfl (r_lenF Tryd.underlying58 rfl f0_1 rfl) ?_
    refine l_val rfl rfl rfl (r_move (v := .int .i64 0) rfl) ?_
    refine l_nil ?_
    refine c_block ?_
    refine c_fix (σ := Int × Int) (τ := Unit) (fun next2 s => R_WithinOf_l2 a0 a1 next2 s.1 s.2) (fun s t => [(2, .pointer (some ⟨b4, 0, none⟩)), (3, .pointer (some ⟨b5, 0, none⟩)), (5, .func (.func 94) #[] #[.pointer (some ⟨b4, 0, none⟩)]), (6, .int .i64 s.1), (14, v0_1), (15, .int .i64 (a0.Ring.length : Int)), (16, .int .i64 s.2)]) (fun s t => [cellsC b4 [str a0.Name, v0_1] 74, cellsC b5 [.int .i64 a1.Lat, .int .i64 a1.Lon] 68]) (fun s t => True) (0, 0) () [0, 1] H (by exact trivial) (by exact ⟨rfl, rfl, rfl, rfl, rfl, rfl, rfl, trivial⟩) (by decide) rfl ?_
    rintro ⟨x6_3, x16_2⟩ _ m2 gg H41 _
    clear H
    replace H41 : R_WithinOf_l2 a0 a1 (it (fun next2 s => R_WithinOf_l2 a0 a1 next2 s.1 s.2) m2) x6_3 x16_2 = some r := H41
    generalize hn2 : it (fun next2 s => R_WithinOf_l2 a0 a1 next2 s.1 s.2) m2 = next2 at H41
    refine c_tidyF [(2, .pointer (some ⟨b4, 0, none⟩)), (3, .pointer (some ⟨b5, 0, none⟩)), (5, .func (.func 94) #[] #[.pointer (some ⟨b4, 0, none⟩)]), (6, .int .i64 x6_3), (14, v0_1), (15, .int .i64 (a0.Ring.length : Int)), (16, .int .i64 x16_2)] [cellsC b4 [str a0.Name, v0_1] 74, cellsC b5 [.int .i64 a1.Lat, .int .i64 a1.Lon] 68] rfl rfl ?_
    refine c_seq ?_
    refine c_region ?_
    refine l_val rfl rfl rfl (r_lss rfl rfl) ?_
    refine l_nil ?_
    refine c_seq ?_
    refine c_if (b := (decide (x16_2 < (a0.Ring.length : Int)))) rfl (fun hb => ?_) (fun hb => ?_)
    · have H42 := cnd_t hb H41; clear H41
      refine c_skip ?_
      refine c_meet (r := r) (σ := Int) (τ := Unit) (fun s => R_WithinOf_j3 x16_2 next2 s) (fun s t => [(2, .pointer (some ⟨b4, 0, none⟩)), (3, .pointer (some ⟨b5, 0, none⟩)), (5, .func (.func 94) #[] #[.pointer (some ⟨b4, 0, none⟩)]), (6, .int .i64 s), (14, v0_1), (15, .int .i64 (a0.Ring.length : Int)), (16, .int .i64 x16_2)]) (fun s t => [cellsC b4 [str a0.Name, v0_1] 74, cellsC b5 [.int .i64 a1.Lat, .int .i64 a1.Lon] 68]) (fun s t => True) ?_ ?_
      · refine c_block ?_
        refine c_seq ?_
        refine c_region ?_
        refine l_val rfl rfl rfl (r_move (v := .int .i64 x16_2) rfl) ?_
        obtain ⟨t19, h_t19, H45⟩ := bnd_some H42; clear H42
        refine l_val rfl rfl rfl (r_indexF Tryd.underlying58 Tryd.sizeOf68 rfl rfl f0_1 h_t19) ?_
        refine l_read (fun w hF hS => run_loadGN (f := e_api_Place) (i := x16_2) (sz := 2) (j := 0) (vs := [.int .i64 t19.Lat, .int .i64 t19.Lon]) Tryd.isAgg68 Tryd.sizeOf68 rfl rfl (f0_1.row (hw.now hF)) h_t19 rfl) rfl rfl rfl ?_
        refine l_alloc (cs := [.int .i64 0, .int .i64 0]) Tryd.zeroValue68 rfl rfl rfl (fun b6 => ?_)
        refine l_val rfl rfl rfl (r_assign (v := .int .i64 x16_2) rfl) ?_
        refine l_store (i := 2) (vs := [.int .i64 t19.Lat, .int .i64 t19.Lon]) (cs' := [.int .i64 t19.Lat, .int .i64 t19.Lon]) Tryd.sizeOf68 rfl rfl rfl rfl rfl rfl rfl rfl rfl ?_
        refine l_nil ?_
        refine c_seq ?_
        exact c_regionD (Kd.p :: Kd.d [0] _ :: Kd.p :: Kd.p :: Kd.p :: Kd.d [0] _ :: Kd.p :: Kd.p :: Kd.p :: Kd.d [] _ :: Kd.nw 3 [_, _] 68 :: Kd.st 9 3 [_, _] 68 :: []) 1 mixed (by
          refine d_val rfl rfl (r_field Tryd.runUnderlying74 rfl Tryd.sizeOf58 rfl rfl) ?_
          refine d_load1 (i := 0) (v := v0_1) Tryd.isAgg58 rfl rfl rfl rfl ?_
          refine d_val rfl rfl (r_move (v := .int .i64 x16_2) rfl) ?_
          have h_t24 := bnd_val H45
          have H46 := bnd_rest H45
          refine d_val rfl rfl (r_addG rfl rfl h_t24) ?_
          refine d_val rfl rfl (r_field Tryd.runUnderlying74 rfl Tryd.sizeOf58 rfl rfl) ?_
          refine d_load1 (i := 0) (v := v0_1) Tryd.isAgg58 rfl rfl rfl rfl ?_
          refine d_val rfl rfl (r_lenF Tryd.underlying58 rfl f0_1 rfl) ?_
          have h_t28 := bnd_val H46
          have H47 := bnd_rest H46
          refine d_val rfl rfl (r_remG rfl rfl h_t28) ?_
          have h_t29 := bnd_val H47
          have H48 := bnd_rest H47
          refine d_val rfl rfl (r_indexF Tryd.underlying58 Tryd.sizeOf68 rfl rfl f0_1 h_t29) ?_
          refine d_read (fun w hF => run_loadGN (f := e_api_Place) (i := (val (gRem (val (gI (x16_2 + 1))) (a0.Ring.length : Int)))) (sz := 2) (j := 0) (vs := [.int .i64 (val (gAt a0.Ring (val (gRem (val (gI (x16_2 + 1))) (a0.Ring.length : Int))))).Lat, .int .i64 (val (gAt a0.Ring (val (gRem (val (gI (x16_2 + 1))) (a0.Ring.length : Int))))).Lon]) Tryd.isAgg68 Tryd.sizeOf68 rfl rfl (f0_1.row (hw.now hF)) h_t29 rfl) rfl rfl ?_
          refine d_new rfl rfl (run_alloc (cs := [.int .i64 0, .int .i64 0]) Tryd.zeroValue68 rfl) rfl (fun b7 => ?_)
          refine d_store (i := 3) (vs := [.int .i64 (val (gAt a0.Ring (val (gRem (val (gI (x16_2 + 1))) (a0.Ring.length : Int))))).Lat, .int .i64 (val (gAt a0.Ring (val (gRem (val (gI (x16_2 + 1))) (a0.Ring.length : Int))))).Lon]) (cs' := [.int .i64 (val (gAt a0.Ring (val (gRem (val (gI (x16_2 + 1))) (a0.Ring.length : Int))))).Lat, .int .i64 (val (gAt a0.Ring (val (gRem (val (gI (x16_2 + 1))) (a0.Ring.length : Int))))).Lon]) Tryd.sizeOf68 rfl rfl rfl rfl rfl rfl rfl rfl rfl ?_
          refine d_nil ?_
          refine c_seq ?_
          refine c_seq ?_
          refine c_region ?_
          refine l_val rfl rfl rfl (r_field Tryd.runUnderlying68 rfl Tryd.sizeOf3 rfl rfl) ?_
          refine l_load1 (i := 2) (v := .int .i64 t19.Lat) Tryd.isAgg3 rfl rfl rfl rfl rfl ?_
          refine l_val rfl rfl rfl (r_field Tryd.runUnderlying68 rfl Tryd.sizeOf3 rfl rfl) ?_
          refine l_load1 (i := 1) (v := .int .i64 a1.Lat) Tryd.isAgg3 rfl rfl rfl rfl rfl ?_
          refine l_val rfl rfl rfl (r_gtr rfl rfl) ?_
          refine l_val rfl rfl rfl (r_field Tryd.runUnderlying68 rfl Tryd.sizeOf3 rfl rfl) ?_
          refine l_load1 (i := 3) (v := .int .i64 (val (gAt a0.Ring (val (gRem (val (gI (x16_2 + 1))) (a0.Ring.length : Int))))).Lat) Tryd.isAgg3 rfl rfl rfl rfl rfl ?_
          refine l_val rfl rfl rfl (r_field Tryd.runUnderlying68 rfl Tryd.sizeOf3 rfl rfl) ?_
          refine l_load1 (i := 1) (v := .int .i64 a1.Lat) Tryd.isAgg3 rfl rfl rfl rfl rfl ?_
          refine l_val rfl rfl rfl (r_gtr rfl rfl) ?_
          refine l_val rfl rfl rfl (r_eqlB Tryd.underlying4 rfl rfl) ?_
          refine l_nil ?_
          refine c_if (b := (decide ((decide (a1.Lat < t19.Lat)) = (decide (a1.Lat < (val (gAt a0.Ring (val (gRem (val (gI (x16_2 + 1))) (a0.Ring.length : Int))))).Lat))))) rfl (fun hb => ?_) (fun hb => ?_)
          · have H49 := cnd_t hb H48; clear H48
            refine c_exit ?_
            refine c_close x6_3 () 0 [0, 1] (by exact ⟨rfl, rfl, rfl, rfl, rfl, rfl, rfl, trivial⟩) (by decide) rfl (by exact ⟨H49, trivial⟩) (Nat.lt_succ_self _)
          · have H50 := cnd_f hb H48; clear H48
            refine c_skip ?_
            refine c_seq ?_
            exact c_regionD (Kd.p :: Kd.d [1] _ :: Kd.d [0] _ :: Kd.p :: Kd.d [2] _ :: Kd.d [0] _ :: Kd.p :: Kd.p :: Kd.d [3] _ :: Kd.p :: Kd.d [2] _ :: Kd.p :: Kd.p :: Kd.p :: Kd.d [3] _ :: Kd.d [0] _ :: Kd.p :: Kd.d [2] _ :: Kd.d [0] _ :: Kd.p :: Kd.p :: Kd.d [1] _ :: Kd.p :: Kd.d [2] _ :: Kd.p :: Kd.p :: Kd.p :: Kd.p :: []) 0 mixed (by
              refine d_val rfl rfl (r_move (v := .func (.func 94) #[] #[.pointer (some ⟨b4, 0, none⟩)]) rfl) ?_
              refine d_loadN (i := 1) (vs := [.int .i64 a1.Lat, .int .i64 a1.Lon]) Tryd.isAgg68 Tryd.sizeOf68 rfl rfl rfl rfl ?_
              have h_t44 := bnd_val H50
              have H51 := bnd_rest H50
              refine d_callV (R := fnR_func_api_Place_int (R_WithinOf_1 a0)) (r := .int .i64 (val ((R_WithinOf_1 a0) a1))) (v := .func (.func 94) #[] #[.pointer (some ⟨b4, 0, none⟩)]) (fun w L' hF hS hi => ⟨(FnH.mk ⟨94, #[], #[.pointer (some ⟨b4, 0, none⟩)], rfl, Tryd.call94, fun args2 post2 w2 hk2 hR2 => by obtain ⟨a0_, r_, rfl, H_, rfl⟩ := hR2; exact k94 (know_all w2) ((f0_1.mono (hw.now hF)).mono hk2.up) (hk2.up _ _ (sat_cell (i := 0) hS ((hi 0 (by simp)).trans rfl))) H_⟩), ⟨a1, _, rfl, h_t44, rfl⟩⟩) rfl rfl rfl ?_
              refine d_val rfl rfl (r_move (v := .func (.func 94) #[] #[.pointer (some ⟨b4, 0, none⟩)]) rfl) ?_
              refine d_loadN (i := 2) (vs := [.int .i64 t19.Lat, .int .i64 t19.Lon]) Tryd.isAgg68 Tryd.sizeOf68 rfl rfl rfl rfl ?_
              have h_t47 := bnd_val H51
              have H52 := bnd_rest H51
              refine d_callV (R := fnR_func_api_Place_int (R_WithinOf_1 a0)) (r := .int .i64 (val ((R_WithinOf_1 a0) t19))) (v := .func (.func 94) #[] #[.pointer (some ⟨b4, 0, none⟩)]) (fun w L' hF hS hi => ⟨(FnH.mk ⟨94, #[], #[.pointer (some ⟨b4, 0, none⟩)], rfl, Tryd.call94, fun args2 post2 w2 hk2 hR2 => by obtain ⟨a0_, r_, rfl, H_, rfl⟩ := hR2; exact k94 (know_all w2) ((f0_1.mono (hw.now hF)).mono hk2.up) (hk2.up _ _ (sat_cell (i := 0) hS ((hi 0 (by simp)).trans rfl))) H_⟩), ⟨t19, _, rfl, h_t47, rfl⟩⟩) rfl rfl rfl ?_
              have h_t48 := bnd_val H52
              have H53 := bnd_rest H52
              refine d_val rfl rfl (r_subG rfl rfl h_t48) ?_
              refine d_val rfl rfl (r_field Tryd.runUnderlying68 rfl Tryd.sizeOf3 rfl rfl) ?_
              refine d_load1 (i := 3) (v := .int .i64 (val (gAt a0.Ring (val (gRem (val (gI (x16_2 + 1))) (a0.Ring.length : Int))))).Lat) Tryd.isAgg3 rfl rfl rfl rfl ?_
              refine d_val rfl rfl (r_field Tryd.runUnderlying68 rfl Tryd.sizeOf3 rfl rfl) ?_
              refine d_load1 (i := 2) (v := .int .i64 t19.Lat) Tryd.isAgg3 rfl rfl rfl rfl ?_
              have h_t53 := bnd_val H53
              have H54 := bnd_rest H53
              refine d_val rfl rfl (r_subG rfl rfl h_t53) ?_
              have h_t54 := bnd_val H54
              have H55 := bnd_rest H54
              refine d_val rfl rfl (r_mulG rfl rfl h_t54) ?_
              refine d_val rfl rfl (r_move (v := .func (.func 94) #[] #[.pointer (some ⟨b4, 0, none⟩)]) rfl) ?_
              refine d_loadN (i := 3) (vs := [.int .i64 (val (gAt a0.Ring (val (gRem (val (gI (x16_2 + 1))) (a0.Ring.length : Int))))).Lat, .int .i64 (val (gAt a0.Ring (val (gRem (val (gI (x16_2 + 1))) (a0.Ring.length : Int))))).Lon]) Tryd.isAgg68 Tryd.sizeOf68 rfl rfl rfl rfl ?_
              have h_t57 := bnd_val H55
              have H56 := bnd_rest H55
              refine d_callV (R := fnR_func_api_Place_int (R_WithinOf_1 a0)) (r := .int .i64 (val ((R_WithinOf_1 a0) (val (gAt a0.Ring (val (gRem (val (gI (x16_2 + 1))) (a0.Ring.length : Int)))))))) (v := .func (.func 94) #[] #[.pointer (some ⟨b4, 0, none⟩)]) (fun w L' hF hS hi => ⟨(FnH.mk ⟨94, #[], #[.pointer (some ⟨b4, 0, none⟩)], rfl, Tryd.call94, fun args2 post2 w2 hk2 hR2 => by obtain ⟨a0_, r_, rfl, H_, rfl⟩ := hR2; exact k94 (know_all w2) ((f0_1.mono (hw.now hF)).mono hk2.up) (hk2.up _ _ (sat_cell (i := 0) hS ((hi 0 (by simp)).trans rfl))) H_⟩), ⟨(val (gAt a0.Ring (val (gRem (val (gI (x16_2 + 1))) (a0.Ring.length : Int))))), _, rfl, h_t57, rfl⟩⟩) rfl rfl rfl ?_
              refine d_val rfl rfl (r_move (v := .func (.func 94) #[] #[.pointer (some ⟨b4, 0, none⟩)]) rfl) ?_
              refine d_loadN (i := 2) (vs := [.int .i64 t19.Lat, .int .i64 t19.Lon]) Tryd.isAgg68 Tryd.sizeOf68 rfl rfl rfl rfl ?_
              have h_t60 := bnd_val H56
              have H57 := bnd_rest H56
              refine d_callV (R := fnR_func_api_Place_int (R_WithinOf_1 a0)) (r := .int .i64 (val ((R_WithinOf_1 a0) t19))) (v := .func (.func 94) #[] #[.pointer (some ⟨b4, 0, none⟩)]) (fun w L' hF hS hi => ⟨(FnH.mk ⟨94, #[], #[.pointer (some ⟨b4, 0, none⟩)], rfl, Tryd.call94, fun args2 post2 w2 hk2 hR2 => by obtain ⟨a0_, r_, rfl, H_, rfl⟩ := hR2; exact k94 (know_all w2) ((f0_1.mono (hw.now hF)).mono hk2.up) (hk2.up _ _ (sat_cell (i := 0) hS ((hi 0 (by simp)).trans rfl))) H_⟩), ⟨t19, _, rfl, h_t60, rfl⟩⟩) rfl rfl rfl ?_
              have h_t61 := bnd_val H57
              have H58 := bnd_rest H57
              refine d_val rfl rfl (r_subG rfl rfl h_t61) ?_
              refine d_val rfl rfl (r_field Tryd.runUnderlying68 rfl Tryd.sizeOf3 rfl rfl) ?_
              refine d_load1 (i := 1) (v := .int .i64 a1.Lat) Tryd.isAgg3 rfl rfl rfl rfl ?_
              refine d_val rfl rfl (r_field Tryd.runUnderlying68 rfl Tryd.sizeOf3 rfl rfl) ?_
              refine d_load1 (i := 2) (v := .int .i64 t19.Lat) Tryd.isAgg3 rfl rfl rfl rfl ?_
              have h_t66 := bnd_val H58
              have H59 := bnd_rest H58
              refine d_val rfl rfl (r_subG rfl rfl h_t66) ?_
              have h_t67 := bnd_val H59
              have H60 := bnd_rest H59
              refine d_val rfl rfl (r_mulG rfl rfl h_t67) ?_
              refine d_val rfl rfl (r_assign (v := .int .i64 (val (gI ((val (gI ((val ((R_WithinOf_1 a0) a1)) - (val ((R_WithinOf_1 a0) t19))))) * (val (gI ((val (gAt a0.Ring (val (gRem (val (gI (x16_2 + 1))) (a0.Ring.length : Int))))).Lat - t19.Lat))))))) rfl) ?_
              refine d_val rfl rfl (r_assign (v := .int .i64 (val (gI ((val (gI ((val ((R_WithinOf_1 a0) (val (gAt a0.Ring (val (gRem (val (gI (x16_2 + 1))) (a0.Ring.length : Int))))))) - (val ((R_WithinOf_1 a0) t19))))) * (val (gI (a1.Lat - t19.Lat))))))) rfl) ?_
              refine d_nil ?_
              refine c_seq ?_
              refine c_region ?_
              refine l_val rfl rfl rfl (r_field Tryd.runUnderlying68 rfl Tryd.sizeOf3 rfl rfl) ?_
              refine l_load1 (i := 3) (v := .int .i64 (val (gAt a0.Ring (val (gRem (val (gI (x16_2 + 1))) (a0.Ring.length : Int))))).Lat) Tryd.isAgg3 rfl rfl rfl rfl rfl ?_
              refine l_val rfl rfl rfl (r_field Tryd.runUnderlying68 rfl Tryd.sizeOf3 rfl rfl) ?_
              refine l_load1 (i := 2) (v := .int .i64 t19.Lat) Tryd.isAgg3 rfl rfl rfl rfl rfl ?_
              refine l_val rfl rfl rfl (r_gtr rfl rfl) ?_
              refine l_val rfl rfl rfl (r_move (v := .bool (decide (t19.Lat < (val (gAt a0.Ring (val (gRem (val (gI (x16_2 + 1))) (a0.Ring.length : Int))))).Lat))) rfl) ?_
              refine split (fun hb => ?_) (fun hb => ?_)
              · have H61 := cnd_t hb H60; clear H60
                refine l_val rfl rfl rfl (r_move (v := .int .i64 (val (gI ((val (gI ((val ((R_WithinOf_1 a0) a1)) - (val ((R_WithinOf_1 a0) t19))))) * (val (gI ((val (gAt a0.Ring (val (gRem (val (gI (x16_2 + 1))) (a0.Ring.length : Int))))).Lat - t19.Lat))))))) rfl) ?_
                refine l_val rfl rfl rfl (r_move (v := .int .i64 (val (gI ((val (gI ((val ((R_WithinOf_1 a0) (val (gAt a0.Ring (val (gRem (val (gI (x16_2 + 1))) (a0.Ring.length : Int))))))) - (val ((R_WithinOf_1 a0) t19))))) * (val (gI (a1.Lat - t19.Lat))))))) rfl) ?_
                refine l_val rfl rfl rfl (r_lss rfl rfl) ?_
                refine l_val rfl rfl rfl (r_pickT (v := .bool (decide ((val (gI ((val (gI ((val ((R_WithinOf_1 a0) a1)) - (val ((R_WithinOf_1 a0) t19))))) * (val (gI ((val (gAt a0.Ring (val (gRem (val (gI (x16_2 + 1))) (a0.Ring.length : Int))))).Lat - t19.Lat)))))) < (val (gI ((val (gI ((val ((R_WithinOf_1 a0) (val (gAt a0.Ring (val (gRem (val (gI (x16_2 + 1))) (a0.Ring.length : Int))))))) - (val ((R_WithinOf_1 a0) t19))))) * (val (gI (a1.Lat - t19.Lat))))))))) rfl rfl) ?_
                refine l_val rfl rfl rfl (r_move (v := .bool (decide ((val (gI ((val (gI ((val ((R_WithinOf_1 a0) a1)) - (val ((R_WithinOf_1 a0) t19))))) * (val (gI ((val (gAt a0.Ring (val (gRem (val (gI (x16_2 + 1))) (a0.Ring.length : Int))))).Lat - t19.Lat)))))) < (val (gI ((val (gI ((val ((R_WithinOf_1 a0) (val (gAt a0.Ring (val (gRem (val (gI (x16_2 + 1))) (a0.Ring.length : Int))))))) - (val ((R_WithinOf_1 a0) t19))))) * (val (gI (a1.Lat - t19.Lat))))))))) rfl) ?_
                refine split (fun hb => ?_) (fun hb => ?_)
                · have H62 := cnd_t hb H61; clear H61
                  refine l_passed rfl rfl rfl ?_
                  refine l_passed rfl rfl rfl ?_
                  refine l_passed rfl rfl rfl ?_
                  refine l_passed rfl rfl rfl ?_
                  refine l_passed rfl rfl rfl ?_
                  refine l_passed rfl rfl rfl ?_
                  refine l_passed rfl rfl rfl ?_
                  refine l_passed rfl rfl rfl ?_
                  refine l_passed rfl rfl rfl ?_
                  refine l_passed rfl rfl rfl ?_
                  refine l_val rfl rfl rfl (r_pickT (v := .bool true) rfl rfl) ?_
                  refine l_nil ?_
                  refine c_true rfl ?_
                  refine c_region ?_
                  refine l_val rfl rfl rfl (r_move (v := .int .i64 x6_3) rfl) ?_
                  obtain ⟨t91, h_t91, H63⟩ := bnd_some H62; clear H62
                  refine l_val rfl rfl rfl (r_addG rfl rfl h_t91) ?_
                  refine l_val rfl rfl rfl (r_assign (v := .int .i64 t91) rfl) ?_
                  refine l_nil ?_
                  refine c_close t91 () 0 [0, 1] (by exact ⟨rfl, rfl, rfl, rfl, rfl, rfl, rfl, trivial⟩) (by decide) rfl (by exact ⟨H63, trivial⟩) (Nat.lt_succ_self _)
                · have H64 := cnd_f hb H61; clear H61
                  refine l_val rfl rfl rfl (r_field Tryd.runUnderlying68 rfl Tryd.sizeOf3 rfl rfl) ?_
                  refine l_load1 (i := 3) (v := .int .i64 (val (gAt a0.Ring (val (gRem (val (gI (x16_2 + 1))) (a0.Ring.length : Int))))).Lat) Tryd.isAgg3 rfl rfl rfl rfl rfl ?_
                  refine l_val rfl rfl rfl (r_field Tryd.runUnderlying68 rfl Tryd.sizeOf3 rfl rfl) ?_
                  refine l_load1 (i := 2) (v := .int .i64 t19.Lat) Tryd.isAgg3 rfl rfl rfl rfl rfl ?_
                  refine l_val rfl rfl rfl (r_lss rfl rfl) ?_
                  refine l_val rfl rfl rfl (r_move (v := .bool (decide ((val (gAt a0.Ring (val (gRem (val (gI (x16_2 + 1))) (a0.Ring.length : Int))))).Lat < t19.Lat))) rfl) ?_
                  refine split (fun hb => ?_) (fun hb => ?_)
                  · have H65 := cnd_t hb H64; clear H64
                    refine l_val rfl rfl rfl (r_move (v := .int .i64 (val (gI ((val (gI ((val ((R_WithinOf_1 a0) a1)) - (val ((R_WithinOf_1 a0) t19))))) * (val (gI ((val (gAt a0.Ring (val (gRem (val (gI (x16_2 + 1))) (a0.Ring.length : Int))))).Lat - t19.Lat))))))) rfl) ?_
                    refine l_val rfl rfl rfl (r_move (v := .int .i64 (val (gI ((val (gI ((val ((R_WithinOf_1 a0) (val (gAt a0.Ring (val (gRem (val (gI (x16_2 + 1))) (a0.Ring.length : Int))))))) - (val ((R_WithinOf_1 a0) t19))))) * (val (gI (a1.Lat - t19.Lat))))))) rfl) ?_
                    refine l_val rfl rfl rfl (r_gtr rfl rfl) ?_
                    refine l_val rfl rfl rfl (r_pickT (v := .bool (decide ((val (gI ((val (gI ((val ((R_WithinOf_1 a0) (val (gAt a0.Ring (val (gRem (val (gI (x16_2 + 1))) (a0.Ring.length : Int))))))) - (val ((R_WithinOf_1 a0) t19))))) * (val (gI (a1.Lat - t19.Lat)))))) < (val (gI ((val (gI ((val ((R_WithinOf_1 a0) a1)) - (val ((R_WithinOf_1 a0) t19))))) * (val (gI ((val (gAt a0.Ring (val (gRem (val (gI (x16_2 + 1))) (a0.Ring.length : Int))))).Lat - t19.Lat))))))))) rfl rfl) ?_
                    refine l_val rfl rfl rfl (r_pickF (v := .bool (decide ((val (gI ((val (gI ((val ((R_WithinOf_1 a0) (val (gAt a0.Ring (val (gRem (val (gI (x16_2 + 1))) (a0.Ring.length : Int))))))) - (val ((R_WithinOf_1 a0) t19))))) * (val (gI (a1.Lat - t19.Lat)))))) < (val (gI ((val (gI ((val ((R_WithinOf_1 a0) a1)) - (val ((R_WithinOf_1 a0) t19))))) * (val (gI ((val (gAt a0.Ring (val (gRem (val (gI (x16_2 + 1))) (a0.Ring.length : Int))))).Lat - t19.Lat))))))))) rfl rfl) ?_
                    refine l_nil ?_
                    refine c_if (b := (decide ((val (gI ((val (gI ((val ((R_WithinOf_1 a0) (val (gAt a0.Ring (val (gRem (val (gI (x16_2 + 1))) (a0.Ring.length : Int))))))) - (val ((R_WithinOf_1 a0) t19))))) * (val (gI (a1.Lat - t19.Lat)))))) < (val (gI ((val (gI ((val ((R_WithinOf_1 a0) a1)) - (val ((R_WithinOf_1 a0) t19))))) * (val (gI ((val (gAt a0.Ring (val (gRem (val (gI (x16_2 + 1))) (a0.Ring.length : Int))))).Lat - t19.Lat))))))))) rfl (fun hb => ?_) (fun hb => ?_)
                    · have H66 := cnd_t hb H65; clear H65
                      refine c_region ?_
                      refine l_val rfl rfl rfl (r_move (v := .int .i64 x6_3) rfl) ?_
                      obtain ⟨t91_2, h_t91_2, H67⟩ := bnd_some H66; clear H66
                      refine l_val rfl rfl rfl (r_addG rfl rfl h_t91_2) ?_
                      refine l_val rfl rfl rfl (r_assign (v := .int .i64 t91_2) rfl) ?_
                      refine l_nil ?_
                      refine c_close t91_2 () 0 [0, 1] (by exact ⟨rfl, rfl, rfl, rfl, rfl, rfl, rfl, trivial⟩) (by decide) rfl (by exact ⟨H67, trivial⟩) (Nat.lt_succ_self _)
                    · have H68 := cnd_f hb H65; clear H65
                      refine c_skip ?_
                      refine c_close x6_3 () 0 [0, 1] (by exact ⟨rfl, rfl, rfl, rfl, rfl, rfl, rfl, trivial⟩) (by decide) rfl (by exact ⟨H68, trivial⟩) (Nat.lt_succ_self _)
                  · have H69 := cnd_f hb H64; clear H64
                    refine l_passed rfl rfl rfl ?_
                    refine l_passed rfl rfl rfl ?_
                    refine l_passed rfl rfl rfl ?_
                    refine l_val rfl rfl rfl (r_pickF (v := .bool false) rfl rfl) ?_
                    refine l_val rfl rfl rfl (r_pickF (v := .bool false) rfl rfl) ?_
                    refine l_nil ?_
                    refine c_false rfl ?_
                    refine c_skip ?_
                    refine c_close x6_3 () 0 [0, 1] (by exact ⟨rfl, rfl, rfl, rfl, rfl, rfl, rfl, trivial⟩) (by decide) rfl (by exact ⟨H69, trivial⟩) (Nat.lt_succ_self _)
              · have H70 := cnd_f hb H60; clear H60
                refine l_passed rfl rfl rfl ?_
                refine l_passed rfl rfl rfl ?_
                refine l_passed rfl rfl rfl ?_
                refine l_val rfl rfl rfl (r_pickF (v := .bool false) rfl rfl) ?_
                refine l_val rfl rfl rfl (r_move (v := .bool false) rfl) ?_
                refine l_val rfl rfl rfl (r_field Tryd.runUnderlying68 rfl Tryd.sizeOf3 rfl rfl) ?_
                refine l_load1 (i := 3) (v := .int .i64 (val (gAt a0.Ring (val (gRem (val (gI (x16_2 + 1))) (a0.Ring.length : Int))))).Lat) Tryd.isAgg3 rfl rfl rfl rfl rfl ?_
                refine l_val rfl rfl rfl (r_field Tryd.runUnderlying68 rfl Tryd.sizeOf3 rfl rfl) ?_
                refine l_load1 (i := 2) (v := .int .i64 t19.Lat) Tryd.isAgg3 rfl rfl rfl rfl rfl ?_
                refine l_val rfl rfl rfl (r_lss rfl rfl) ?_
                refine l_val rfl rfl rfl (r_move (v := .bool (decide ((val (gAt a0.Ring (val (gRem (val (gI (x16_2 + 1))) (a0.Ring.length : Int))))).Lat < t19.Lat))) rfl) ?_
                refine split (fun hb => ?_) (fun hb => ?_)
                · have H71 := cnd_t hb H70; clear H70
                  refine l_val rfl rfl rfl (r_move (v := .int .i64 (val (gI ((val (gI ((val ((R_WithinOf_1 a0) a1)) - (val ((R_WithinOf_1 a0) t19))))) * (val (gI ((val (gAt a0.Ring (val (gRem (val (gI (x16_2 + 1))) (a0.Ring.length : Int))))).Lat - t19.Lat))))))) rfl) ?_
                  refine l_val rfl rfl rfl (r_move (v := .int .i64 (val (gI ((val (gI ((val ((R_WithinOf_1 a0) (val (gAt a0.Ring (val (gRem (val (gI (x16_2 + 1))) (a0.Ring.length : Int))))))) - (val ((R_WithinOf_1 a0) t19))))) * (val (gI (a1.Lat - t19.Lat))))))) rfl) ?_
                  refine l_val rfl rfl rfl (r_gtr rfl rfl) ?_
                  refine l_val rfl rfl rfl (r_pickT (v := .bool (decide ((val (gI ((val (gI ((val ((R_WithinOf_1 a0) (val (gAt a0.Ring (val (gRem (val (gI (x16_2 + 1))) (a0.Ring.length : Int))))))) - (val ((R_WithinOf_1 a0) t19))))) * (val (gI (a1.Lat - t19.Lat)))))) < (val (gI ((val (gI ((val ((R_WithinOf_1 a0) a1)) - (val ((R_WithinOf_1 a0) t19))))) * (val (gI ((val (gAt a0.Ring (val (gRem (val (gI (x16_2 + 1))) (a0.Ring.length : Int))))).Lat - t19.Lat))))))))) rfl rfl) ?_
                  refine l_val rfl rfl rfl (r_pickF (v := .bool (decide ((val (gI ((val (gI ((val ((R_WithinOf_1 a0) (val (gAt a0.Ring (val (gRem (val (gI (x16_2 + 1))) (a0.Ring.length : Int))))))) - (val ((R_WithinOf_1 a0) t19))))) * (val (gI (a1.Lat - t19.Lat)))))) < (val (gI ((val (gI ((val ((R_WithinOf_1 a0) a1)) - (val ((R_WithinOf_1 a0) t19))))) * (val (gI ((val (gAt a0.Ring (val (gRem (val (gI (x16_2 + 1))) (a0.Ring.length : Int))))).Lat - t19.Lat))))))))) rfl rfl) ?_
                  refine l_nil ?_
                  refine c_if (b := (decide ((val (gI ((val (gI ((val ((R_WithinOf_1 a0) (val (gAt a0.Ring (val (gRem (val (gI (x16_2 + 1))) (a0.Ring.length : Int))))))) - (val ((R_WithinOf_1 a0) t19))))) * (val (gI (a1.Lat - t19.Lat)))))) < (val (gI ((val (gI ((val ((R_WithinOf_1 a0) a1)) - (val ((R_WithinOf_1 a0) t19))))) * (val (gI ((val (gAt a0.Ring (val (gRem (val (gI (x16_2 + 1))) (a0.Ring.length : Int))))).Lat - t19.Lat))))))))) rfl (fun hb => ?_) (fun hb => ?_)
                  · have H72 := cnd_t hb H71; clear H71
                    refine c_region ?_
                    refine l_val rfl rfl rfl (r_move (v := .int .i64 x6_3) rfl) ?_
                    obtain ⟨t91_3, h_t91_3, H73⟩ := bnd_some H72; clear H72
                    refine l_val rfl rfl rfl (r_addG rfl rfl h_t91_3) ?_
                    refine l_val rfl rfl rfl (r_assign (v := .int .i64 t91_3) rfl) ?_
                    refine l_nil ?_
                    refine c_close t91_3 () 0 [0, 1] (by exact ⟨rfl, rfl, rfl, rfl, rfl, rfl, rfl, trivial⟩) (by decide) rfl (by exact ⟨H73, trivial⟩) (Nat.lt_succ_self _)
                  · have H74 := cnd_f hb H71; clear H71
                    refine c_skip ?_
                    refine c_close x6_3 () 0 [0, 1] (by exact ⟨rfl, rfl, rfl, rfl, rfl, rfl, rfl, trivial⟩) (by decide) rfl (by exact ⟨H74, trivial⟩) (Nat.lt_succ_self _)
                · have H75 := cnd_f hb H70; clear H70
                  refine l_passed rfl rfl rfl ?_
                  refine l_passed rfl rfl rfl ?_
                  refine l_passed rfl rfl rfl ?_
                  refine l_val rfl rfl rfl (r_pickF (v := .bool false) rfl rfl) ?_
                  refine l_val rfl rfl rfl (r_pickF (v := .bool false) rfl rfl) ?_
                  refine l_nil ?_
                  refine c_false rfl ?_
                  refine c_skip ?_
                  refine c_close x6_3 () 0 [0, 1] (by exact ⟨rfl, rfl, rfl, rfl, rfl, rfl, rfl, trivial⟩) (by decide) rfl (by exact ⟨H75, trivial⟩) (Nat.lt_succ_self _)
              ) (by kernel_rfl)
          ) (by kernel_rfl)
      · rintro x6_4 _ gg H43 _
        replace H43 : R_WithinOf_j3 x16_2 next2 x6_4 = some r := H43
        refine c_tidyF [(2, .pointer (some ⟨b4, 0, none⟩)), (3, .pointer (some ⟨b5, 0, none⟩)), (5, .func (.func 94) #[] #[.pointer (some ⟨b4, 0, none⟩)]), (6, .int .i64 x6_4), (14, v0_1), (15, .int .i64 (a0.Ring.length : Int)), (16, .int .i64 x16_2)] [cellsC b4 [str a0.Name, v0_1] 74, cellsC b5 [.int .i64 a1.Lat, .int .i64 a1.Lon] 68] rfl rfl ?_
        refine c_region ?_
        obtain ⟨t92, h_t92, H44⟩ := bnd_some H43; clear H43
        refine l_val rfl rfl rfl (r_addG rfl rfl h_t92) ?_
        refine l_val rfl rfl rfl (r_move (v := .int .i64 t92) rfl) ?_
        refine l_nil ?_
        refine c_close (x6_4, t92) () m2 [0, 1] (by exact ⟨rfl, rfl, rfl, rfl, rfl, rfl, rfl, trivial⟩) (by decide) rfl (by exact ⟨(by subst hn2; exact H44), trivial⟩) (Nat.lt_succ_self _)
    · have H76 := cnd_f hb H41; clear H41
      refine c_exit ?_
      refine c_close x6_3 () 0 [] (by exact ⟨rfl, trivial⟩) (by decide) rfl (by exact ⟨H76, trivial⟩) (Nat.lt_succ_self _)
  · rintro x6 _ gg H39 _
    replace H39 : R_WithinOf_j1 x6 = some r := H39
    refine c_tidyF [(6, .int .i64 x6)] [] rfl rfl ?_
    refine c_seq ?_
    refine c_region ?_
    refine l_val rfl rfl rfl (r_move (v := .int .i64 x6) rfl) ?_
    obtain ⟨t94, h_t94, H40⟩ := bnd_some H39; clear H39
    refine l_val rfl rfl rfl (r_remG rfl rfl h_t94) ?_
    refine l_val rfl rfl rfl (r_eql rfl rfl) ?_
    refine l_val rfl rfl rfl (r_assign (v := .bool (decide (t94 = 1))) rfl) ?_
    refine l_nil ?_
    refine c_ret ?_
    obtain rfl := Option.some.inj H40
    refine ret1 (v := .bool (decide (t94 = 1))) rfl rfl (fin rfl)
theorem k42 {a0 : Bool} {a1 : Int} {a2 : Bool} {a3 : Int} {r : Bool} (H : Law_told_bool a0 a1 a2 a3 = some r) : Ret Tryd.prog 42 [.bool a0, .int .i64 a1, .bool a2, .int .i64 a3] (.bool r) := by
  refine enterRet (n := 21) Tryd.func42 rfl rfl rfl (fun wd => ?_)
  refine c_seq ?_
  refine c_region ?_
  refine l_val rfl rfl rfl (r_assign (v := .bool false) rfl) ?_
  refine l_nil ?_
  refine c_seq ?_
  refine c_region ?_
  refine l_val rfl rfl rfl (r_assign (v := .bool false) rfl) ?_
  refine l_nil ?_
  refine c_meet (r := r) (σ := Bool) (τ := Unit) (fun s => Law_told_bool_j1 a0 a1 a3 s) (fun s t => [(0, .bool a0), (1, .int .i64 a1), (2, .bool s), (3, .int .i64 a3)]) (fun s t => []) (fun s t => True) ?_ ?_
  · refine c_seq ?_
    refine c_region ?_
    refine l_val rfl rfl rfl (r_move (v := .int .i64 a3) rfl) ?_
    refine l_val rfl rfl rfl (r_neq rfl rfl) ?_
    refine l_nil ?_
    refine c_if (b := (decide (a3 ≠ 0))) rfl (fun hb => ?_) (fun hb => ?_)
    · have H9 := cnd_t hb H; clear H
      refine c_region ?_
      refine l_val rfl rfl rfl (r_move (v := .bool false) rfl) ?_
      refine l_val rfl rfl rfl (r_assign (v := .bool false) rfl) ?_
      refine l_nil ?_
      refine c_close false () 0 [] (by exact ⟨rfl, rfl, rfl, rfl, trivial⟩) (by decide) rfl (by exact ⟨H9, trivial⟩) (Nat.lt_succ_self _)
    · have H10 := cnd_f hb H; clear H
      refine c_skip ?_
      refine c_close a2 () 0 [] (by exact ⟨rfl, rfl, rfl, rfl, trivial⟩) (by decide) rfl (by exact ⟨H10, trivial⟩) (Nat.lt_succ_self _)
  · rintro x2 _ gg H6 _
    replace H6 : Law_told_bool_j1 a0 a1 a3 x2 = some r := H6
    refine c_tidyF [(0, .bool a0), (1, .int .i64 a1), (2, .bool x2), (3, .int .i64 a3)] [] rfl rfl ?_
    refine c_seq ?_
    refine c_region ?_
    refine l_val rfl rfl rfl (r_move (v := .bool a0) rfl) ?_
    refine l_val rfl rfl rfl (r_move (v := .bool x2) rfl) ?_
    refine l_val rfl rfl rfl (r_eqlB Tryd.underlying4 rfl rfl) ?_
    refine l_val rfl rfl rfl (r_move (v := .bool (decide (a0 = x2))) rfl) ?_
    refine split (fun hb => ?_) (fun hb => ?_)
    · have H7 := cnd_t hb H6; clear H6
      refine l_val rfl rfl rfl (r_move (v := .int .i64 a1) rfl) ?_
      refine l_val rfl rfl rfl (r_move (v := .int .i64 a3) rfl) ?_
      refine l_val rfl rfl rfl (r_eql rfl rfl) ?_
      refine l_val rfl rfl rfl (r_pickT (v := .bool (decide (a1 = a3))) rfl rfl) ?_
      refine l_val rfl rfl rfl (r_assign (v := .bool (decide (a1 = a3))) rfl) ?_
      refine l_nil ?_
      refine c_ret ?_
      obtain rfl := Option.some.inj H7
      refine ret1 (v := .bool (decide (a1 = a3))) rfl rfl (fin rfl)
    · have H8 := cnd_f hb H6; clear H6
      refine l_passed rfl rfl rfl ?_
      refine l_passed rfl rfl rfl ?_
      refine l_passed rfl rfl rfl ?_
      refine l_val rfl rfl rfl (r_pickF (v := .bool false) rfl rfl) ?_
      refine l_val rfl rfl rfl (r_assign (v := .bool false) rfl) ?_
      refine l_nil ?_
      refine c_ret ?_
      obtain rfl := Option.some.inj H8
      refine ret1 (v := .bool false) rfl rfl (fin rfl)
theorem k6 {a0 : (List T_where_Area)} {v0 : Value} {a1 : T_api_Place} {r : Bool} {w : World} {h : Heap} (hw : Know h w noS) (f0 : FrN h 2 v0 g_where_Area a0) (H : Law_WhereAreas a0 a1 = some r) : Does Tryd.prog 6 (List.toArray [v0, .agg #[.int .i64 a1.Lat, .int .i64 a1.Lon]]) w (fun v w' => v = (.bool r) ∧ Grow w w') := by
  refine enter (n := 85) Tryd.func6 rfl rfl rfl noS [] (Sat.nil _ _) ?_
  refine c_seq ?_
  refine c_region ?_
  refine l_box (cs := [.int .i64 a1.Lat, .int .i64 a1.Lon]) rfl rfl rfl rfl (fun b6 => ?_)
  refine l_val rfl rfl rfl (r_assign (v := .bool false) rfl) ?_
  refine l_nil ?_
  refine c_seq ?_
  refine c_region ?_
  refine l_val rfl rfl rfl (r_move (v := v0) rfl) ?_
  refine l_loadN (i := 0) (vs := [.int .i64 a1.Lat, .int .i64 a1.Lon]) Tryd.isAgg68 Tryd.sizeOf68 rfl rfl rfl rfl rfl ?_
  obtain ⟨t19, h_t19, H33⟩ := bnd_some H; clear H
  refine l_make (makes_call (rds := []) (G := fun x : (Option Addr × Nat) => .tuple #[.slice x.1 t19.1.length x.2, .int .i64 t19.2]) (C := fun x : (Option Addr × Nat) => roV 1 (.slice x.1 t19.1.length x.2) t19.1.length (t19.1.map e_string)) (fun w L' hF hS hi => k36 (know_all w) (f0.mono (hw.now hF)) h_t19) Tryd.call36 rfl) rfl rfl rfl (fun p => ?_)
  refine l_val rfl rfl rfl (r_move (v := .tuple #[.slice p.1 t19.1.length p.2, .int .i64 t19.2]) rfl) ?_
  refine l_val rfl rfl rfl (r_extract (v := .slice p.1 t19.1.length p.2) rfl rfl) ?_
  refine l_val rfl rfl rfl (r_extract (v := .int .i64 t19.2) rfl rfl) ?_
  refine l_val rfl rfl rfl (r_assign (v := .slice p.1 t19.1.length p.2) rfl) ?_
  refine l_val rfl rfl rfl (r_assign (v := .int .i64 t19.2) rfl) ?_
  refine l_nil ?_
  refine c_seq ?_
  refine c_region ?_
  refine l_loadN (i := 0) (vs := [.int .i64 a1.Lat, .int .i64 a1.Lon]) Tryd.isAgg68 Tryd.sizeOf68 rfl rfl rfl rfl rfl ?_
  obtain ⟨t23, h_t23, H34⟩ := bnd_some H33; clear H33
  refine l_call (k37 h_t23) Tryd.call37 rfl rfl rfl ?_
  refine l_val rfl rfl rfl (r_move (v := v0) rfl) ?_
  refine l_val rfl rfl rfl (r_lenFN Tryd.underlying70 rfl f0) ?_
  refine l_val rfl rfl rfl (r_leq rfl rfl) ?_
  obtain ⟨t27, h_t27, H35⟩ := bnd_some H34; clear H34
  refine l_call (k14 h_t27) Tryd.call14 rfl rfl rfl ?_
  refine l_buildSlice (vs := [.int .i64 t23, .int .i64 t27]) (cs := [.int .i64 t23, .int .i64 t27]) Tryd.underlying99 Tryd.sizeOf23 Tryd.zeroValue23 rfl rfl rfl rfl rfl rfl rfl (fun b7 => ?_)
  obtain ⟨t29, h_t29, H36⟩ := bnd_some H35; clear H35
  refine l_callG (fun w hF hS => k8 (know_all w) (frs_box (i := 2) (xs := ([t23, t27] : List Int)) (f := e_i64) hS rfl rfl rfl rfl rfl) h_t29) Tryd.call8 rfl rfl rfl ?_
  refine l_val rfl rfl rfl (r_assign (v := .int .i64 t29) rfl) ?_
  refine l_nil ?_
  refine c_seq ?_
  refine c_region ?_
  refine l_val rfl rfl rfl (r_assign (v := .slice none 0 0) rfl) ?_
  refine l_nil ?_
  refine c_meet (r := r) (σ := Int × (List (List UInt8))) (τ := (Option Addr × Nat)) (fun s => Law_WhereAreas_j1 t19 s.1 s.2) (fun s t => [(5, .slice p.1 t19.1.length p.2), (6, .int .i64 t19.2), (7, .int .i64 s.1), (8, .slice t.1 s.2.length t.2)]) (fun s t => [roV 1 (.slice p.1 t19.1.length p.2) t19.1.length (t19.1.map e_string), rowV 9 1 (.slice t.1 s.2.length t.2) s.2.length (s.2.map e_string)]) (fun s t => True) ?_ ?_
  · refine c_seq ?_
    refine c_region ?_
    refine l_val rfl rfl rfl (r_move (v := v0) rfl) ?_
    refine l_val rfl rfl rfl (r_lenFN Tryd.underlying70 rfl f0) ?_
    refine l_val rfl rfl rfl (r_move (v := .int .i64 0) rfl) ?_
    refine l_nil ?_
    refine c_block ?_
    refine c_sel [0, 1] [cellsC b6 [.int .i64 a1.Lat, .int .i64 a1.Lon] 68, roV 1 (.slice p.1 t19.1.length p.2) t19.1.length (t19.1.map e_string)] rfl (by decide) ?_
    refine c_nilRow 9 1 ?_
    refine c_fix (σ := Int × Int × (List (List UInt8))) (τ := (Option Addr × Nat)) (fun next2 s => Law_WhereAreas_l2 a0 a1 t19 next2 s.1 s.2.1 s.2.2) (fun s t => [(3, .pointer (some ⟨b6, 0, none⟩)), (5, .slice p.1 t19.1.length p.2), (6, .int .i64 t19.2), (7, .int .i64 s.1), (8, .slice t.1 s.2.2.length t.2), (30, v0), (31, .int .i64 (a0.length : Int)), (32, .int .i64 s.2.1)]) (fun s t => [cellsC b6 [.int .i64 a1.Lat, .int .i64 a1.Lon] 68, roV 1 (.slice p.1 t19.1.length p.2) t19.1.length (t19.1.map e_string), rowV 9 1 (.slice t.1 s.2.2.length t.2) s.2.2.length (s.2.2.map e_string)]) (fun s t => True) (t29, 0, ([] : List (List UInt8))) ((none, 0) : Option Addr × Nat) [0, 1, 2] H36 (by exact trivial) (by exact ⟨rfl, rfl, rfl, rfl, rfl, rfl, rfl, rfl, trivial⟩) (by decide) rfl ?_
    rintro ⟨x7_3, x32_2, l_3⟩ p_4 m2 gg H41 _
    clear H36
    replace H41 : Law_WhereAreas_l2 a0 a1 t19 (it (fun next2 s => Law_WhereAreas_l2 a0 a1 t19 next2 s.1 s.2.1 s.2.2) m2) x7_3 x32_2 l_3 = some r := H41
    generalize hn2 : it (fun next2 s => Law_WhereAreas_l2 a0 a1 t19 next2 s.1 s.2.1 s.2.2) m2 = next2 at H41
    refine c_tidyF [(3, .pointer (some ⟨b6, 0, none⟩)), (5, .slice p.1 t19.1.length p.2), (6, .int .i64 t19.2), (7, .int .i64 x7_3), (8, .slice p_4.1 l_3.length p_4.2), (30, v0), (31, .int .i64 (a0.length : Int)), (32, .int .i64 x32_2)] [cellsC b6 [.int .i64 a1.Lat, .int .i64 a1.Lon] 68, roV 1 (.slice p.1 t19.1.length p.2) t19.1.length (t19.1.map e_string), rowV 9 1 (.slice p_4.1 l_3.length p_4.2) l_3.length (l_3.map e_string)] rfl rfl ?_
    refine c_seq ?_
    refine c_region ?_
    refine l_val rfl rfl rfl (r_lss rfl rfl) ?_
    refine l_nil ?_
    refine c_seq ?_
    refine c_if (b := (decide (x32_2 < (a0.length : Int)))) rfl (fun hb => ?_) (fun hb => ?_)
    · have H42 := cnd_t hb H41; clear H41
      refine c_skip ?_
      refine c_meet (r := r) (σ := Int × (List (List UInt8))) (τ := (Option Addr × Nat)) (fun s => Law_WhereAreas_j3 x32_2 next2 s.1 s.2) (fun s t => [(3, .pointer (some ⟨b6, 0, none⟩)), (5, .slice p.1 t19.1.length p.2), (6, .int .i64 t19.2), (7, .int .i64 s.1), (8, .slice t.1 s.2.length t.2), (30, v0), (31, .int .i64 (a0.length : Int)), (32, .int .i64 x32_2)]) (fun s t => [cellsC b6 [.int .i64 a1.Lat, .int .i64 a1.Lon] 68, roV 1 (.slice p.1 t19.1.length p.2) t19.1.length (t19.1.map e_string), rowV 9 1 (.slice t.1 s.2.length t.2) s.2.length (s.2.map e_string)]) (fun s t => True) ?_ ?_
      · refine c_block ?_
        refine c_seq ?_
        refine c_region ?_
        obtain ⟨t34, h_t34, H45⟩ := bnd_some H42; clear H42
        refine l_val rfl rfl rfl (r_indexF Tryd.underlying70 Tryd.sizeOf74 rfl rfl f0.frs (f0.ix h_t34)) ?_
        refine l_read (fun w hF hS => run_loadGN (f := (elC h v0 2)) (i := x32_2) (sz := 2) (j := 0) (vs := [str t34.Name, (elH h v0 2 (Int.toNat x32_2) 1)]) Tryd.isAgg74 Tryd.sizeOf74 rfl rfl (f0.frs.row (hw.now hF)) (f0.ix h_t34) (rd_of (cg_where_Area (f0.at h_t34)) rfl)) rfl rfl rfl ?_
        refine l_alloc (cs := [str [], .slice none 0 0]) Tryd.zeroValue74 rfl rfl rfl (fun b8 => ?_)
        refine l_store (i := 3) (vs := [str t34.Name, (elH h v0 2 (Int.toNat x32_2) 1)]) (cs' := [str t34.Name, (elH h v0 2 (Int.toNat x32_2) 1)]) Tryd.sizeOf74 rfl rfl rfl rfl rfl rfl (by simp only [List.all_cons, List.all_nil, (show FrS h 2 (elH h v0 2 (Int.toNat x32_2) 1) (t34.Ring.map e_api_Place) from (g_where_Area_p1 (f0.at h_t34))).one] <;> rfl) rfl rfl ?_
        refine l_nil ?_
        refine c_seq ?_
        refine c_region ?_
        refine l_loadN (i := 3) (vs := [str t34.Name, (elH h v0 2 (Int.toNat x32_2) 1)]) Tryd.isAgg74 Tryd.sizeOf74 rfl rfl rfl rfl rfl ?_
        obtain ⟨t37, h_t37, H46⟩ := bnd_some H45; clear H45
        refine l_callG (fun w hF hS => k38 (know_all w) ((show FrS h 2 (elH h v0 2 (Int.toNat x32_2) 1) (t34.Ring.map e_api_Place) from (g_where_Area_p1 (f0.at h_t34))).mono (hw.now hF)) h_t37) Tryd.call38 rfl rfl rfl ?_
        refine l_val rfl rfl rfl (r_assign (v := .int .i64 t37) rfl) ?_
        refine l_nil ?_
        refine c_seq ?_
        refine c_region ?_
        refine l_val rfl rfl rfl (r_move (v := .int .i64 x7_3) rfl) ?_
        refine l_val rfl rfl rfl (r_move (v := .int .i64 t37) rfl) ?_
        refine l_buildSlice (vs := [.int .i64 x7_3, .int .i64 t37]) (cs := [.int .i64 x7_3, .int .i64 t37]) Tryd.underlying99 Tryd.sizeOf23 Tryd.zeroValue23 rfl rfl rfl rfl rfl rfl rfl (fun b9 => ?_)
        obtain ⟨t41, h_t41, H47⟩ := bnd_some H46; clear H46
        refine l_callG (fun w hF hS => k8 (know_all w) (frs_box (i := 4) (xs := ([x7_3, t37] : List Int)) (f := e_i64) hS rfl rfl rfl rfl rfl) h_t41) Tryd.call8 rfl rfl rfl ?_
        refine l_val rfl rfl rfl (r_assign (v := .int .i64 t41) rfl) ?_
        refine l_nil ?_
        refine c_seq ?_
        refine c_seq ?_
        refine c_region ?_
        refine l_loadN (i := 3) (vs := [str t34.Name, (elH h v0 2 (Int.toNat x32_2) 1)]) Tryd.isAgg74 Tryd.sizeOf74 rfl rfl rfl rfl rfl ?_
        obtain ⟨t43, h_t43, H48⟩ := bnd_some H47; clear H47
        refine l_callG (fun w hF hS => k39 (know_all w) ((show FrS h 2 (elH h v0 2 (Int.toNat x32_2) 1) (t34.Ring.map e_api_Place) from (g_where_Area_p1 (f0.at h_t34))).mono (hw.now hF)) h_t43) Tryd.call39 rfl rfl rfl ?_
        refine l_val rfl rfl rfl (r_move (v := .int .i64 t37) rfl) ?_
        refine l_val rfl rfl rfl (r_neq rfl rfl) ?_
        refine l_nil ?_
        refine c_if (b := (decide (t43 ≠ t37))) rfl (fun hb => ?_) (fun hb => ?_)
        · have H49 := cnd_t hb H48; clear H48
          refine c_seq ?_
          refine c_region ?_
          refine l_val rfl rfl rfl (r_assign (v := .bool false) rfl) ?_
          refine l_nil ?_
          refine c_ret ?_
          obtain rfl := Option.some.inj H49
          refine ret1 (v := .bool false) rfl rfl (fin rfl)
        · have H50 := cnd_f hb H48; clear H48
          refine c_skip ?_
          refine c_seq ?_
          refine c_region ?_
          refine l_loadN (i := 3) (vs := [str t34.Name, (elH h v0 2 (Int.toNat x32_2) 1)]) Tryd.isAgg74 Tryd.sizeOf74 rfl rfl rfl rfl rfl ?_
          refine l_loadN (i := 0) (vs := [.int .i64 a1.Lat, .int .i64 a1.Lon]) Tryd.isAgg68 Tryd.sizeOf68 rfl rfl rfl rfl rfl ?_
          obtain ⟨t49, h_t49, H51⟩ := bnd_some H50; clear H50
          refine l_callG (fun w hF hS => k40 (know_all w) ((show FrS h 2 (elH h v0 2 (Int.toNat x32_2) 1) (t34.Ring.map e_api_Place) from (g_where_Area_p1 (f0.at h_t34))).mono (hw.now hF)) h_t49) Tryd.call40 rfl rfl rfl ?_
          refine l_val rfl rfl rfl (r_move (v := .tuple #[.bool t49.1, .int .i64 t49.2]) rfl) ?_
          refine l_val rfl rfl rfl (r_extract (v := .bool t49.1) rfl rfl) ?_
          refine l_val rfl rfl rfl (r_extract (v := .int .i64 t49.2) rfl rfl) ?_
          refine l_val rfl rfl rfl (r_assign (v := .bool t49.1) rfl) ?_
          refine l_val rfl rfl rfl (r_assign (v := .int .i64 t49.2) rfl) ?_
          refine l_nil ?_
          refine c_seq ?_
          refine c_region ?_
          refine l_val rfl rfl rfl (r_move (v := .int .i64 t37) rfl) ?_
          refine l_loadN (i := 0) (vs := [.int .i64 a1.Lat, .int .i64 a1.Lon]) Tryd.isAgg68 Tryd.sizeOf68 rfl rfl rfl rfl rfl ?_
          obtain ⟨t54, h_t54, H52⟩ := bnd_some H51; clear H51
          refine l_call (k37 h_t54) Tryd.call37 rfl rfl rfl ?_
          refine l_buildSlice (vs := [.int .i64 t37, .int .i64 t54]) (cs := [.int .i64 t37, .int .i64 t54]) Tryd.underlying99 Tryd.sizeOf23 Tryd.zeroValue23 rfl rfl rfl rfl rfl rfl rfl (fun b10 => ?_)
          obtain ⟨t56, h_t56, H53⟩ := bnd_some H52; clear H52
          refine l_callG (fun w hF hS => k8 (know_all w) (frs_box (i := 5) (xs := ([t37, t54] : List Int)) (f := e_i64) hS rfl rfl rfl rfl rfl) h_t56) Tryd.call8 rfl rfl rfl ?_
          refine l_val rfl rfl rfl (r_assign (v := .int .i64 t56) rfl) ?_
          refine l_nil ?_
          refine c_meet (r := r) (σ := Bool) (τ := Unit) (fun s => Law_WhereAreas_j4 x32_2 l_3 next2 t34 t41 t49 t56 s) (fun s t => [(3, .pointer (some ⟨b6, 0, none⟩)), (5, .slice p.1 t19.1.length p.2), (6, .int .i64 t19.2), (7, .int .i64 t41), (8, .slice p_4.1 l_3.length p_4.2), (10, .pointer (some ⟨b8, 0, none⟩)), (12, .bool t49.1), (13, .int .i64 t49.2), (14, .int .i64 t56), (15, .bool s), (30, v0), (31, .int .i64 (a0.length : Int)), (32, .int .i64 x32_2)]) (fun s t => [cellsC b6 [.int .i64 a1.Lat, .int .i64 a1.Lon] 68, roV 1 (.slice p.1 t19.1.length p.2) t19.1.length (t19.1.map e_string), rowV 9 1 (.slice p_4.1 l_3.length p_4.2) l_3.length (l_3.map e_string), cellsC b8 [str t34.Name, (elH h v0 2 (Int.toNat x32_2) 1)] 74]) (fun s t => True) ?_ ?_
          · refine c_region ?_
            refine l_val rfl rfl rfl (r_move (v := .int .i64 t56) rfl) ?_
            refine l_val rfl rfl rfl (r_eql rfl rfl) ?_
            refine l_val rfl rfl rfl (r_move (v := .bool (decide (t56 = 0))) rfl) ?_
            refine split (fun hb => ?_) (fun hb => ?_)
            · have H61 := cnd_t hb H53; clear H53
              refine l_loadN (i := 3) (vs := [str t34.Name, (elH h v0 2 (Int.toNat x32_2) 1)]) Tryd.isAgg74 Tryd.sizeOf74 rfl rfl rfl rfl rfl ?_
              refine l_loadN (i := 0) (vs := [.int .i64 a1.Lat, .int .i64 a1.Lon]) Tryd.isAgg68 Tryd.sizeOf68 rfl rfl rfl rfl rfl ?_
              obtain ⟨t62, h_t62, H62⟩ := bnd_some H61; clear H61
              refine l_callG (fun w hF hS => k41 (know_all w) ((show FrS h 2 (elH h v0 2 (Int.toNat x32_2) 1) (t34.Ring.map e_api_Place) from (g_where_Area_p1 (f0.at h_t34))).mono (hw.now hF)) h_t62) Tryd.call41 rfl rfl rfl ?_
              refine l_val rfl rfl rfl (r_pickT (v := .bool t62) rfl rfl) ?_
              refine l_val rfl rfl rfl (r_assign (v := .bool t62) rfl) ?_
              refine l_nil ?_
              refine c_close t62 () 0 [0, 1, 2, 3] (by exact ⟨rfl, rfl, rfl, rfl, rfl, rfl, rfl, rfl, rfl, rfl, rfl, rfl, rfl, trivial⟩) (by decide) rfl (by exact ⟨H62, trivial⟩) (Nat.lt_succ_self _)
            · have H63 := cnd_f hb H53; clear H53
              refine l_passed rfl rfl rfl ?_
              refine l_passed rfl rfl rfl ?_
              refine l_passed rfl rfl rfl ?_
              refine l_val rfl rfl rfl (r_pickF (v := .bool false) rfl rfl) ?_
              refine l_val rfl rfl rfl (r_assign (v := .bool false) rfl) ?_
              refine l_nil ?_
              refine c_close false () 0 [0, 1, 2, 3] (by exact ⟨rfl, rfl, rfl, rfl, rfl, rfl, rfl, rfl, rfl, rfl, rfl, rfl, rfl, trivial⟩) (by decide) rfl (by exact ⟨H63, trivial⟩) (Nat.lt_succ_self _)
          · rintro x15 _ gg H54 _
            replace H54 : Law_WhereAreas_j4 x32_2 l_3 next2 t34 t41 t49 t56 x15 = some r := H54
            refine c_tidyF [(3, .pointer (some ⟨b6, 0, none⟩)), (5, .slice p.1 t19.1.length p.2), (6, .int .i64 t19.2), (7, .int .i64 t41), (8, .slice p_4.1 l_3.length p_4.2), (10, .pointer (some ⟨b8, 0, none⟩)), (12, .bool t49.1), (13, .int .i64 t49.2), (14, .int .i64 t56), (15, .bool x15), (30, v0), (31, .int .i64 (a0.length : Int)), (32, .int .i64 x32_2)] [cellsC b6 [.int .i64 a1.Lat, .int .i64 a1.Lon] 68, roV 1 (.slice p.1 t19.1.length p.2) t19.1.length (t19.1.map e_string), rowV 9 1 (.slice p_4.1 l_3.length p_4.2) l_3.length (l_3.map e_string), cellsC b8 [str t34.Name, (elH h v0 2 (Int.toNat x32_2) 1)] 74] rfl rfl ?_
            refine c_seq ?_
            refine c_seq ?_
            refine c_region ?_
            refine l_val rfl rfl rfl (r_move (v := .bool t49.1) rfl) ?_
            refine l_val rfl rfl rfl (r_move (v := .int .i64 t49.2) rfl) ?_
            refine l_val rfl rfl rfl (r_move (v := .bool x15) rfl) ?_
            refine l_val rfl rfl rfl (r_move (v := .int .i64 t56) rfl) ?_
            obtain ⟨t68, h_t68, H55⟩ := bnd_some H54; clear H54
            refine l_call (k42 h_t68) Tryd.call42 rfl rfl rfl ?_
            refine l_val rfl rfl rfl (r_not rfl) ?_
            refine l_nil ?_
            refine c_if (b := (!t68)) rfl (fun hb => ?_) (fun hb => ?_)
            · have H56 := cnd_t hb H55; clear H55
              refine c_seq ?_
              refine c_region ?_
              refine l_val rfl rfl rfl (r_assign (v := .bool false) rfl) ?_
              refine l_nil ?_
              refine c_ret ?_
              obtain rfl := Option.some.inj H56
              refine ret1 (v := .bool false) rfl rfl (fin rfl)
            · have H57 := cnd_f hb H55; clear H55
              refine c_skip ?_
              refine c_seq ?_
              refine c_region ?_
              refine l_val rfl rfl rfl (r_move (v := .bool x15) rfl) ?_
              refine l_nil ?_
              refine c_if (b := x15) rfl (fun hb => ?_) (fun hb => ?_)
              · have H58 := cnd_t hb H57; clear H57
                refine c_region ?_
                refine l_val rfl rfl rfl (r_move (v := .slice p_4.1 l_3.length p_4.2) rfl) ?_
                refine l_val rfl rfl rfl (r_field Tryd.runUnderlying74 rfl Tryd.sizeOf9 rfl rfl) ?_
                refine l_load1 (i := 3) (v := str t34.Name) Tryd.isAgg9 rfl rfl rfl rfl rfl ?_
                refine l_buildSlice (vs := [str t34.Name]) (cs := [str t34.Name]) Tryd.underlying28 Tryd.sizeOf9 Tryd.zeroValue9 rfl rfl rfl rfl rfl rfl rfl (fun b11 => ?_)
                obtain ⟨l75, h_l75, H59⟩ := bnd_some H58; clear H58
                refine l_turn (turns_appG (i := 2) (hn := rfl) (rds := [4]) (p := p_4) (sz := 1) (by_ := 16) (f := e_string) (ys := l_3) (ls := ([t34.Name] : List (List UInt8))) (V := .slice (some ⟨b11, 0, none⟩) 1 1) Tryd.underlying28 (info_of Tryd.typeInfo9) rfl rfl rfl rfl rfl rfl rfl rfl rfl rfl (fun w L' hF hS hi => row_box (i := 4) hS ((hi 4 (by simp)).trans rfl) rfl rfl) (fun _ => rfl) (fun _ => rfl) h_l75) rfl rfl rfl (fun p_6 => ?_)
                refine l_val rfl rfl rfl (r_assign (v := .slice p_6.1 l75.length p_6.2) rfl) ?_
                refine l_nil ?_
                refine c_close (t41, l75) p_6 0 [0, 1, 2] (by exact ⟨rfl, rfl, rfl, rfl, rfl, rfl, rfl, rfl, trivial⟩) (by decide) rfl (by exact ⟨H59, trivial⟩) (Nat.lt_succ_self _)
              · have H60 := cnd_f hb H57; clear H57
                refine c_skip ?_
                refine c_close (t41, l_3) p_4 0 [0, 1, 2] (by exact ⟨rfl, rfl, rfl, rfl, rfl, rfl, rfl, rfl, trivial⟩) (by decide) rfl (by exact ⟨H60, trivial⟩) (Nat.lt_succ_self _)
      · rintro ⟨x7_4, l_4⟩ p_5 gg H43 _
        replace H43 : Law_WhereAreas_j3 x32_2 next2 x7_4 l_4 = some r := H43
        refine c_tidyF [(3, .pointer (some ⟨b6, 0, none⟩)), (5, .slice p.1 t19.1.length p.2), (6, .int .i64 t19.2), (7, .int .i64 x7_4), (8, .slice p_5.1 l_4.length p_5.2), (30, v0), (31, .int .i64 (a0.length : Int)), (32, .int .i64 x32_2)] [cellsC b6 [.int .i64 a1.Lat, .int .i64 a1.Lon] 68, roV 1 (.slice p.1 t19.1.length p.2) t19.1.length (t19.1.map e_string), rowV 9 1 (.slice p_5.1 l_4.length p_5.2) l_4.length (l_4.map e_string)] rfl rfl ?_
        refine c_region ?_
        obtain ⟨t76, h_t76, H44⟩ := bnd_some H43; clear H43
        refine l_val rfl rfl rfl (r_addG rfl rfl h_t76) ?_
        refine l_val rfl rfl rfl (r_move (v := .int .i64 t76) rfl) ?_
        refine l_nil ?_
        refine c_close (x7_4, t76, l_4) p_5 m2 [0, 1, 2] (by exact ⟨rfl, rfl, rfl, rfl, rfl, rfl, rfl, rfl, trivial⟩) (by decide) rfl (by exact ⟨(by subst hn2; exact H44), trivial⟩) (Nat.lt_succ_self _)
    · have H64 := cnd_f hb H41; clear H41
      refine c_exit ?_
      refine c_close (x7_3, l_3) p_4 0 [1, 2] (by exact ⟨rfl, rfl, rfl, rfl, trivial⟩) (by decide) rfl (by exact ⟨H64, trivial⟩) (Nat.lt_succ_self _)
  · rintro ⟨x7, l⟩ p_2 gg H37 _
    replace H37 : Law_WhereAreas_j1 t19 x7 l = some r := H37
    refine c_tidyF [(5, .slice p.1 t19.1.length p.2), (6, .int .i64 t19.2), (7, .int .i64 x7), (8, .slice p_2.1 l.length p_2.2)] [roV 1 (.slice p.1 t19.1.length p.2) t19.1.length (t19.1.map e_string), rowV 9 1 (.slice p_2.1 l.length p_2.2) l.length (l.map e_string)] rfl rfl ?_
    refine c_seq ?_
    refine c_region ?_
    refine l_val rfl rfl rfl (r_move (v := .slice p_2.1 l.length p_2.2) rfl) ?_
    obtain ⟨t78, h_t78, H38⟩ := bnd_some H37; clear H37
    refine l_turn (turns_callB (i := 1) (rds := []) (G := fun x : Unit => .tuple #[]) (C := fun x : Unit => rowV 9 1 (.slice p_2.1 l.length p_2.2) l.length (t78.map e_string)) rfl (fun w L' S hF hS hi hp hlt ho hA => k43 hp hlt (know_but w S) rfl h_t78) Tryd.call43 rfl) rfl rfl rfl (fun _ => ?_)
    refine c_know (fun w hF hS => lenOf (i := 1) hS rfl) (fun hl_ => ?_)
    have hl : l.length = t78.length := by simpa using hl_.symm
    refine l_nil ?_
    refine c_seq ?_
    refine c_region ?_
    refine l_val rfl rfl rfl (r_move (v := .slice p.1 t19.1.length p.2) rfl) ?_
    refine l_val rfl rfl rfl (r_move (v := .int .i64 t19.2) rfl) ?_
    refine l_val rfl rfl rfl (r_move (v := .slice p_2.1 l.length p_2.2) rfl) ?_
    obtain ⟨t82, h_t82, H39⟩ := bnd_some H38; clear H38
    refine l_turn (turns_callB (i := 1) (rds := []) (G := fun x : (Option Addr × Nat) => .slice x.1 t82.length x.2) (C := fun x : (Option Addr × Nat) => rowV 9 1 (.slice x.1 t82.length x.2) t82.length (t82.map e_string)) rfl (fun w L' S hF hS hi hp hlt ho hA => k44 hp hlt (know_but w S) hl h_t82) Tryd.call44 rfl) rfl rfl rfl (fun p_3 => ?_)
    refine l_val rfl rfl rfl (r_move (v := .int .i64 x7) rfl) ?_
    obtain ⟨t84, h_t84, H40⟩ := bnd_some H39; clear H39
    refine l_callG (fun w hF hS => k19 (know_all w) (frs_rd (i := 0) hS rfl) (frs_own (i := 1) rfl hS rfl) h_t84) Tryd.call19 rfl rfl rfl ?_
    refine l_val rfl rfl rfl (r_assign (v := .bool t84) rfl) ?_
    refine l_nil ?_
    refine c_ret ?_
    obtain rfl := Option.some.inj H40
    refine ret1 (v := .bool t84) rfl rfl (fin rfl)
end Go.Proofs.YtilhbkglchppjaaDoor
