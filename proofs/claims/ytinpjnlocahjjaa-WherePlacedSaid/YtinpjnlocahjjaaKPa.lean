/- Placed: the walks, printed by our generator; each follows its model. Conditions: the model yields a value. -/
import Derived.Test.YtinpjnlocahjjaaMW
import Derived.Test.YtinpjnlocahjjaaProg
import Derived.Test.YtinpjnlocahjjaaLx15
namespace Go.Proofs.Ytinpjnlocahjjaa
open Go Go.Vc Go.Md Go.M Go.Lx
set_option maxRecDepth 100000
set_option maxHeartbeats 4000000
set_option linter.unusedVariables false

theorem mixed : Try.prog.follows .mixedOrders = true := by kernel_rfl

abbrev e_i64 (x : Int) : List Value := [.int .i64 x]
abbrev e_where_Fix (x : T_where_Fix) : List Value := [.int .i64 x.Moment, .int .i64 x.Place.Lat, .int .i64 x.Place.Lon]
abbrev e_api_Place (x : T_api_Place) : List Value := [.int .i64 x.Lat, .int .i64 x.Lon]
abbrev e_string (x : (List UInt8)) : List Value := [str x]
def fnR_func_int_bool (m : (Int → Option (Bool))) (w : World) (args : List Value) (post : Value → World → Prop) : Prop :=
  ∃ (a0 : Int) (r : Bool), args = [.int .i64 a0] ∧ m a0 = some r ∧ post = fun v' w' => v' = (.bool r) ∧ Grow w w'

def gs_api_Place (h : Heap) (c : Nat → Value) (x : (List T_api_Place)) : Prop := FrS h 2 (c 0) (x.map e_api_Place)
instance : Mon gs_api_Place := ⟨fun k _ _ f => FrS.mono f k⟩
theorem cgs_api_Place {h : Heap} {c : Nat → Value} {x : (List T_api_Place)} (_ : gs_api_Place h c x) : (List.range 1).map c = [c 0] := rfl
def gs_string (h : Heap) (c : Nat → Value) (x : (List (List UInt8))) : Prop := FrS h 1 (c 0) (x.map e_string)
instance : Mon gs_string := ⟨fun k _ _ f => FrS.mono f k⟩
theorem cgs_string {h : Heap} {c : Nat → Value} {x : (List (List UInt8))} (_ : gs_string h c x) : (List.range 1).map c = [c 0] := rfl
def gs_int (h : Heap) (c : Nat → Value) (x : (List Int)) : Prop := FrS h 1 (c 0) (x.map e_i64)
instance : Mon gs_int := ⟨fun k _ _ f => FrS.mono f k⟩
theorem cgs_int {h : Heap} {c : Nat → Value} {x : (List Int)} (_ : gs_int h c x) : (List.range 1).map c = [c 0] := rfl
def g_api_Photo (h : Heap) (c : Nat → Value) (x : T_api_Photo) : Prop := c 0 = .int .i64 x.Id ∧ c 1 = str x.File ∧ c 2 = .int .i64 x.Moment ∧ c 3 = .int .i64 x.Zone ∧ gs_api_Place h (fun j => c (4 + j)) x.Where ∧ c 5 = .int .i64 x.W ∧ c 6 = .int .i64 x.H ∧ c 7 = .int .i64 x.Turn ∧ c 8 = .int .i64 x.Stars ∧ gs_string h (fun j => c (9 + j)) x.Tags ∧ c 10 = str x.Caption ∧ gs_int h (fun j => c (11 + j)) x.People ∧ c 12 = .bool x.Hidden
instance : Mon g_api_Photo := ⟨fun k _ _ f => by obtain ⟨h0, h1, h2, h3, h4, h5, h6, h7, h8, h9, h10, h11, h12⟩ := f; exact ⟨h0, h1, h2, h3, Mon.mono k _ _ h4, h5, h6, h7, h8, Mon.mono k _ _ h9, h10, Mon.mono k _ _ h11, h12⟩⟩
theorem cg_api_Photo {h : Heap} {c : Nat → Value} {x : T_api_Photo} (f : g_api_Photo h c x) : (List.range 13).map c = [.int .i64 x.Id, str x.File, .int .i64 x.Moment, .int .i64 x.Zone, c 4, .int .i64 x.W, .int .i64 x.H, .int .i64 x.Turn, .int .i64 x.Stars, c 9, str x.Caption, c 11, .bool x.Hidden] := by
  obtain ⟨h0, h1, h2, h3, h4, h5, h6, h7, h8, h9, h10, h11, h12⟩ := f
  show [c 0, c 1, c 2, c 3, c 4, c 5, c 6, c 7, c 8, c 9, c 10, c 11, c 12] = _
  simp only [h0, h1, h2, h3, h5, h6, h7, h8, h10, h12]
theorem g_api_Photo_p4 {h : Heap} {c : Nat → Value} {x : T_api_Photo} (f : g_api_Photo h c x) : gs_api_Place h (fun j => c (4 + j)) x.Where := by
  obtain ⟨h0, h1, h2, h3, h4, h5, h6, h7, h8, h9, h10, h11, h12⟩ := f; exact h4
theorem g_api_Photo_p9 {h : Heap} {c : Nat → Value} {x : T_api_Photo} (f : g_api_Photo h c x) : gs_string h (fun j => c (9 + j)) x.Tags := by
  obtain ⟨h0, h1, h2, h3, h4, h5, h6, h7, h8, h9, h10, h11, h12⟩ := f; exact h9
theorem g_api_Photo_p11 {h : Heap} {c : Nat → Value} {x : T_api_Photo} (f : g_api_Photo h c x) : gs_int h (fun j => c (11 + j)) x.People := by
  obtain ⟨h0, h1, h2, h3, h4, h5, h6, h7, h8, h9, h10, h11, h12⟩ := f; exact h11


theorem run_eqT71 (d : Nat) (w : World) (a0 b0 : Int) (a1 b1 : Int) : (Op.equalIn (d + 2) 71 (.agg #[.int .i64 a0, .int .i64 a1]) (.agg #[.int .i64 b0, .int .i64 b1])).run Try.prog w = .ok (decide (a0 = b0 ∧ a1 = b1)) w := by
  rw [run_equalIn_struct w (d + 1) 71 _ _ (by simp only [Program.fieldsOf, Try.underlying71]) Try.stoodInHeld71]
  simp only [Program.fieldsOf, Try.underlying71, Op.eqFields]
  simp [part, run_equalIn_int, run_equalIn_strL, run_equalIn_bool', Try.underlying3]
  repeat' split
  all_goals simp_all

theorem run_eq_api_Place (w : World) (x y : T_api_Place) : (Op.equalIn Op.maxDepth 71 (.agg #[.int .i64 x.Lat, .int .i64 x.Lon]) (.agg #[.int .i64 y.Lat, .int .i64 y.Lon])).run Try.prog w = .ok (eq_api_Place x y) w :=
  run_eqT71 9998 w _ _ _ _

theorem k70 {a0 : Int} {a1 : Int} {a2 : Int} {r : Bool} (H : where_outside a0 a1 a2 = some r) : Ret Try.prog 70 [.int .i64 a0, .int .i64 a1, .int .i64 a2] (.bool r) := by
  refine enterRet (n := 15) Try.func70 rfl rfl rfl (fun wd => ?_)
  refine c_seq ?_
  refine c_region ?_
  refine l_val rfl rfl rfl (r_assign (v := .bool false) rfl) ?_
  refine l_nil ?_
  refine c_seq ?_
  refine c_region ?_
  refine l_val rfl rfl rfl (r_move (v := .int .i64 a0) rfl) ?_
  refine l_val rfl rfl rfl (r_move (v := .int .i64 a1) rfl) ?_
  refine l_val rfl rfl rfl (r_lss rfl rfl) ?_
  refine l_val rfl rfl rfl (r_move (v := .bool (decide (a0 < a1))) rfl) ?_
  refine split (fun hb => ?_) (fun hb => ?_)
  · have H3 := cnd_t hb H; clear H
    refine l_passed rfl rfl rfl ?_
    refine l_passed rfl rfl rfl ?_
    refine l_passed rfl rfl rfl ?_
    refine l_val rfl rfl rfl (r_pickT (v := .bool true) rfl rfl) ?_
    refine l_val rfl rfl rfl (r_assign (v := .bool true) rfl) ?_
    refine l_nil ?_
    refine c_ret ?_
    obtain rfl := Option.some.inj H3
    refine ret1 (v := .bool true) rfl rfl (fin rfl)
  · have H4 := cnd_f hb H; clear H
    refine l_val rfl rfl rfl (r_move (v := .int .i64 a0) rfl) ?_
    refine l_val rfl rfl rfl (r_move (v := .int .i64 a2) rfl) ?_
    refine l_val rfl rfl rfl (r_gtr rfl rfl) ?_
    refine l_val rfl rfl rfl (r_pickF (v := .bool (decide (a2 < a0))) rfl rfl) ?_
    refine l_val rfl rfl rfl (r_assign (v := .bool (decide (a2 < a0))) rfl) ?_
    refine l_nil ?_
    refine c_ret ?_
    obtain rfl := Option.some.inj H4
    refine ret1 (v := .bool (decide (a2 < a0))) rfl rfl (fin rfl)
theorem k64 {a0 : Int} {r : Bool} (H : where_isMoment a0 = some r) : Ret Try.prog 64 [.int .i64 a0] (.bool r) := by
  refine enterRet (n := 6) Try.func64 rfl rfl rfl (fun wd => ?_)
  refine c_seq ?_
  refine c_region ?_
  refine l_val rfl rfl rfl (r_assign (v := .bool false) rfl) ?_
  refine l_nil ?_
  refine c_seq ?_
  refine c_region ?_
  refine l_val rfl rfl rfl (r_move (v := .int .i64 a0) rfl) ?_
  obtain ⟨t4, h_t4, H2⟩ := bnd_some H; clear H
  refine l_call (k70 h_t4) Try.call70 rfl rfl rfl ?_
  refine l_val rfl rfl rfl (r_not rfl) ?_
  refine l_val rfl rfl rfl (r_assign (v := .bool (!t4)) rfl) ?_
  refine l_nil ?_
  refine c_ret ?_
  obtain rfl := Option.some.inj H2
  refine ret1 (v := .bool (!t4)) rfl rfl (fin rfl)
theorem k128 {a0 : Int} {r : Bool} (H : where_isLat a0 = some r) : Ret Try.prog 128 [.int .i64 a0] (.bool r) := by
  refine enterRet (n := 6) Try.func128 rfl rfl rfl (fun wd => ?_)
  refine c_seq ?_
  refine c_region ?_
  refine l_val rfl rfl rfl (r_assign (v := .bool false) rfl) ?_
  refine l_nil ?_
  refine c_seq ?_
  refine c_region ?_
  refine l_val rfl rfl rfl (r_move (v := .int .i64 a0) rfl) ?_
  obtain ⟨t4, h_t4, H2⟩ := bnd_some H; clear H
  refine l_call (k70 h_t4) Try.call70 rfl rfl rfl ?_
  refine l_val rfl rfl rfl (r_not rfl) ?_
  refine l_val rfl rfl rfl (r_assign (v := .bool (!t4)) rfl) ?_
  refine l_nil ?_
  refine c_ret ?_
  obtain rfl := Option.some.inj H2
  refine ret1 (v := .bool (!t4)) rfl rfl (fin rfl)
theorem k129 {a0 : Int} {r : Bool} (H : where_isLon a0 = some r) : Ret Try.prog 129 [.int .i64 a0] (.bool r) := by
  refine enterRet (n := 6) Try.func129 rfl rfl rfl (fun wd => ?_)
  refine c_seq ?_
  refine c_region ?_
  refine l_val rfl rfl rfl (r_assign (v := .bool false) rfl) ?_
  refine l_nil ?_
  refine c_seq ?_
  refine c_region ?_
  refine l_val rfl rfl rfl (r_move (v := .int .i64 a0) rfl) ?_
  obtain ⟨t4, h_t4, H2⟩ := bnd_some H; clear H
  refine l_call (k70 h_t4) Try.call70 rfl rfl rfl ?_
  refine l_val rfl rfl rfl (r_not rfl) ?_
  refine l_val rfl rfl rfl (r_assign (v := .bool (!t4)) rfl) ?_
  refine l_nil ?_
  refine c_ret ?_
  obtain rfl := Option.some.inj H2
  refine ret1 (v := .bool (!t4)) rfl rfl (fin rfl)
theorem k99 {a0 : T_api_Place} {r : Int} (H : where_CheckPlace a0 = some r) : Ret Try.prog 99 [.agg #[.int .i64 a0.Lat, .int .i64 a0.Lon]] (.int .i64 r) := by
  refine enterRet (n := 13) Try.func99 rfl rfl rfl (fun wd => ?_)
  refine c_seq ?_
  refine c_region ?_
  refine l_box (cs := [.int .i64 a0.Lat, .int .i64 a0.Lon]) rfl rfl rfl rfl (fun b1 => ?_)
  refine l_val rfl rfl rfl (r_assign (v := .int .i64 0) rfl) ?_
  refine l_nil ?_
  refine c_seq ?_
  refine c_seq ?_
  refine c_region ?_
  refine l_val rfl rfl rfl (r_field Try.runUnderlying71 rfl Try.sizeOf3 rfl rfl) ?_
  refine l_load1 (i := 0) (v := .int .i64 a0.Lat) Try.isAgg3 rfl rfl rfl rfl rfl ?_
  obtain ⟨t5, h_t5, H7⟩ := bnd_some H; clear H
  refine l_call (k128 h_t5) Try.call128 rfl rfl rfl ?_
  refine l_val rfl rfl rfl (r_not rfl) ?_
  refine l_val rfl rfl rfl (r_move (v := .bool (!t5)) rfl) ?_
  refine split (fun hb => ?_) (fun hb => ?_)
  · have H8 := cnd_t hb H7; clear H7
    refine l_passed rfl rfl rfl ?_
    refine l_passed rfl rfl rfl ?_
    refine l_passed rfl rfl rfl ?_
    refine l_passed rfl rfl rfl ?_
    refine l_val rfl rfl rfl (r_pickT (v := .bool true) rfl rfl) ?_
    refine l_nil ?_
    refine c_true rfl ?_
    refine c_seq ?_
    refine c_region ?_
    refine l_val rfl rfl rfl (r_assign (v := .int .i64 2) rfl) ?_
    refine l_nil ?_
    refine c_ret ?_
    obtain rfl := Option.some.inj H8
    refine ret1 (v := .int .i64 2) rfl rfl (fin rfl)
  · have H9 := cnd_f hb H7; clear H7
    refine l_val rfl rfl rfl (r_field Try.runUnderlying71 rfl Try.sizeOf3 rfl rfl) ?_
    refine l_load1 (i := 0) (v := .int .i64 a0.Lon) Try.isAgg3 rfl rfl rfl rfl rfl ?_
    obtain ⟨t10, h_t10, H10⟩ := bnd_some H9; clear H9
    refine l_call (k129 h_t10) Try.call129 rfl rfl rfl ?_
    refine l_val rfl rfl rfl (r_not rfl) ?_
    refine l_val rfl rfl rfl (r_pickF (v := .bool (!t10)) rfl rfl) ?_
    refine l_nil ?_
    refine c_if (b := (!t10)) rfl (fun hb => ?_) (fun hb => ?_)
    · have H11 := cnd_t hb H10; clear H10
      refine c_seq ?_
      refine c_region ?_
      refine l_val rfl rfl rfl (r_assign (v := .int .i64 2) rfl) ?_
      refine l_nil ?_
      refine c_ret ?_
      obtain rfl := Option.some.inj H11
      refine ret1 (v := .int .i64 2) rfl rfl (fin rfl)
    · have H12 := cnd_f hb H10; clear H10
      refine c_skip ?_
      refine c_seq ?_
      refine c_region ?_
      refine l_val rfl rfl rfl (r_assign (v := .int .i64 0) rfl) ?_
      refine l_nil ?_
      refine c_ret ?_
      obtain rfl := Option.some.inj H12
      refine ret1 (v := .int .i64 0) rfl rfl (fin rfl)
theorem k62 {a0 : (List T_where_Fix)} {v0 : Value} {r : Int} {w : World} {h : Heap} (hw : Know h w noS) (f0 : FrS h 3 v0 (a0.map e_where_Fix)) (H : where_CheckTrack a0 = some r) : Does Try.prog 62 (List.toArray [v0]) w (fun v w' => v = (.int .i64 r) ∧ Grow w w') := by
  refine enter (n := 40) Try.func62 rfl rfl rfl noS [] (Sat.nil _ _) ?_
  refine c_seq ?_
  refine c_region ?_
  refine l_val rfl rfl rfl (r_assign (v := .int .i64 0) rfl) ?_
  refine l_nil ?_
  refine c_seq ?_
  refine c_seq ?_
  refine c_region ?_
  refine l_val rfl rfl rfl (r_move (v := v0) rfl) ?_
  refine l_val rfl rfl rfl (r_lenF Try.underlying60 rfl f0 rfl) ?_
  refine l_val rfl rfl rfl (r_gtr rfl rfl) ?_
  refine l_nil ?_
  refine c_if (b := (decide (2000 < (a0.length : Int)))) rfl (fun hb => ?_) (fun hb => ?_)
  · have H21 := cnd_t hb H; clear H
    refine c_seq ?_
    refine c_region ?_
    refine l_val rfl rfl rfl (r_assign (v := .int .i64 4) rfl) ?_
    refine l_nil ?_
    refine c_ret ?_
    obtain rfl := Option.some.inj H21
    refine ret1 (v := .int .i64 4) rfl rfl (fin rfl)
  · have H22 := cnd_f hb H; clear H
    refine c_skip ?_
    refine c_seq ?_
    refine c_seq ?_
    refine c_region ?_
    refine l_val rfl rfl rfl (r_move (v := v0) rfl) ?_
    refine l_val rfl rfl rfl (r_lenF Try.underlying60 rfl f0 rfl) ?_
    refine l_val rfl rfl rfl (r_move (v := .int .i64 0) rfl) ?_
    refine l_nil ?_
    refine c_block ?_
    refine c_fix (σ := Int) (τ := Unit) (fun next1 s => where_CheckTrack_l1 a0 next1 s) (fun s t => [(0, v0), (9, v0), (10, .int .i64 (a0.length : Int)), (11, .int .i64 s)]) (fun s t => []) (fun s t => True) 0 () [] H22 (by exact trivial) (by exact ⟨rfl, rfl, rfl, rfl, trivial⟩) (by decide) rfl ?_
    rintro x11_2 _ m1 gg H23 _
    clear H22
    replace H23 : where_CheckTrack_l1 a0 (it (fun next1 s => where_CheckTrack_l1 a0 next1 s) m1) x11_2 = some r := H23
    generalize hn1 : it (fun next1 s => where_CheckTrack_l1 a0 next1 s) m1 = next1 at H23
    refine c_tidyF [(0, v0), (9, v0), (10, .int .i64 (a0.length : Int)), (11, .int .i64 x11_2)] [] rfl rfl ?_
    refine c_seq ?_
    refine c_region ?_
    refine l_val rfl rfl rfl (r_lss rfl rfl) ?_
    refine l_nil ?_
    refine c_seq ?_
    refine c_if (b := (decide (x11_2 < (a0.length : Int)))) rfl (fun hb => ?_) (fun hb => ?_)
    · have H24 := cnd_t hb H23; clear H23
      refine c_skip ?_
      refine c_meet (r := r) (σ := Unit) (τ := Unit) (fun s => where_CheckTrack_j2 x11_2 next1) (fun s t => [(0, v0), (9, v0), (10, .int .i64 (a0.length : Int)), (11, .int .i64 x11_2)]) (fun s t => []) (fun s t => True) ?_ ?_
      · refine c_block ?_
        refine c_seq ?_
        refine c_region ?_
        refine l_val rfl rfl rfl (r_move (v := .int .i64 x11_2) rfl) ?_
        obtain ⟨t14, h_t14, H27⟩ := bnd_some H24; clear H24
        refine l_val rfl rfl rfl (r_indexF Try.underlying60 Try.sizeOf108 rfl rfl f0 h_t14) ?_
        refine l_read (fun w hF hS => run_loadGN (f := e_where_Fix) (i := x11_2) (sz := 3) (j := 0) (vs := [.int .i64 t14.Moment, .int .i64 t14.Place.Lat, .int .i64 t14.Place.Lon]) Try.isAgg108 Try.sizeOf108 rfl rfl (f0.row (hw.now hF)) h_t14 rfl) rfl rfl rfl ?_
        refine l_alloc (cs := [.int .i64 0, .int .i64 0, .int .i64 0]) Try.zeroValue108 rfl rfl rfl (fun b1 => ?_)
        refine l_val rfl rfl rfl (r_assign (v := .int .i64 x11_2) rfl) ?_
        refine l_store (i := 0) (vs := [.int .i64 t14.Moment, .int .i64 t14.Place.Lat, .int .i64 t14.Place.Lon]) (cs' := [.int .i64 t14.Moment, .int .i64 t14.Place.Lat, .int .i64 t14.Place.Lon]) Try.sizeOf108 rfl rfl rfl rfl rfl rfl rfl rfl rfl ?_
        refine l_nil ?_
        refine c_seq ?_
        refine c_seq ?_
        refine c_region ?_
        refine l_val rfl rfl rfl (r_field Try.runUnderlying108 rfl Try.sizeOf3 rfl rfl) ?_
        refine l_load1 (i := 0) (v := .int .i64 t14.Moment) Try.isAgg3 rfl rfl rfl rfl rfl ?_
        obtain ⟨t18, h_t18, H28⟩ := bnd_some H27; clear H27
        refine l_call (k64 h_t18) Try.call64 rfl rfl rfl ?_
        refine l_val rfl rfl rfl (r_not rfl) ?_
        refine l_nil ?_
        refine c_if (b := (!t18)) rfl (fun hb => ?_) (fun hb => ?_)
        · have H29 := cnd_t hb H28; clear H28
          refine c_seq ?_
          refine c_region ?_
          refine l_val rfl rfl rfl (r_assign (v := .int .i64 2) rfl) ?_
          refine l_nil ?_
          refine c_ret ?_
          obtain rfl := Option.some.inj H29
          refine ret1 (v := .int .i64 2) rfl rfl (fin rfl)
        · have H30 := cnd_f hb H28; clear H28
          refine c_skip ?_
          refine c_seq ?_
          refine c_seq ?_
          refine c_region ?_
          refine l_val rfl rfl rfl (r_field Try.runUnderlying108 rfl Try.sizeOf71 rfl rfl) ?_
          refine l_loadN (i := 0) (vs := [.int .i64 t14.Place.Lat, .int .i64 t14.Place.Lon]) Try.isAgg71 Try.sizeOf71 rfl rfl rfl rfl rfl ?_
          obtain ⟨t22, h_t22, H31⟩ := bnd_some H30; clear H30
          refine l_call (k99 h_t22) Try.call99 rfl rfl rfl ?_
          refine l_val rfl rfl rfl (r_assign (v := .int .i64 t22) rfl) ?_
          refine l_nil ?_
          refine c_seq ?_
          refine c_region ?_
          refine l_val rfl rfl rfl (r_move (v := .int .i64 t22) rfl) ?_
          refine l_val rfl rfl rfl (r_neq rfl rfl) ?_
          refine l_nil ?_
          refine c_if (b := (decide (t22 ≠ 0))) rfl (fun hb => ?_) (fun hb => ?_)
          · have H32 := cnd_t hb H31; clear H31
            refine c_seq ?_
            refine c_region ?_
            refine l_val rfl rfl rfl (r_move (v := .int .i64 t22) rfl) ?_
            refine l_val rfl rfl rfl (r_assign (v := .int .i64 t22) rfl) ?_
            refine l_nil ?_
            refine c_ret ?_
            obtain rfl := Option.some.inj H32
            refine ret1 (v := .int .i64 t22) rfl rfl (fin rfl)
          · have H33 := cnd_f hb H31; clear H31
            refine c_skip ?_
            refine c_seq ?_
            exact c_regionD (Kd.p :: Kd.p :: Kd.p :: Kd.p :: Kd.d [0] _ :: Kd.p :: Kd.p :: Kd.p :: Kd.p :: Kd.p :: Kd.d [] _ :: Kd.p :: Kd.p :: []) 0 mixed (by
              refine d_val rfl rfl (r_move (v := .int .i64 x11_2) rfl) ?_
              refine d_val rfl rfl (r_gtr rfl rfl) ?_
              refine d_val rfl rfl (r_move (v := .bool (decide (0 < x11_2))) rfl) ?_
              refine splitS (fun hb => ?_) (fun hb => ?_)
              · have H34 := cnd_t hb H33
                refine d_val rfl rfl (r_field Try.runUnderlying108 rfl Try.sizeOf3 rfl rfl) ?_
                refine d_load1 (i := 0) (v := .int .i64 t14.Moment) Try.isAgg3 rfl rfl rfl rfl ?_
                refine d_val rfl rfl (r_move (v := v0) rfl) ?_
                refine d_val rfl rfl (r_move (v := .int .i64 x11_2) rfl) ?_
                have h_t33 := bnd_val H34
                have H35 := bnd_rest H34
                refine d_val rfl rfl (r_subG rfl rfl h_t33) ?_
                have h_t34 := bnd_val H35
                have H36 := bnd_rest H35
                refine d_val rfl rfl (r_indexF Try.underlying60 Try.sizeOf108 rfl rfl f0 h_t34) ?_
                refine d_val rfl rfl (r_fieldP Try.runUnderlying108 rfl Try.sizeOf3 rfl rfl (some_of_at f0 h_t34)) ?_
                refine d_read (fun w hF => run_loadG1 (f := e_where_Fix) (i := (val (gI (x11_2 - 1)))) (sz := 3) (j := 0) (v := .int .i64 (val (gAt a0 (val (gI (x11_2 - 1))))).Moment) Try.isAgg3 rfl rfl (f0.row (hw.now hF)) h_t34 rfl) rfl rfl ?_
                refine d_val rfl rfl (r_leq rfl rfl) ?_
                refine d_val rfl rfl (r_pickT (v := .bool (decide (t14.Moment ≤ (val (gAt a0 (val (gI (x11_2 - 1))))).Moment))) rfl rfl) ?_
                refine d_nil ?_
                refine c_if (b := (decide (t14.Moment ≤ (val (gAt a0 (val (gI (x11_2 - 1))))).Moment))) rfl (fun hb => ?_) (fun hb => ?_)
                · have H37 := cnd_t hb H36; clear H36
                  refine c_seq ?_
                  refine c_region ?_
                  refine l_val rfl rfl rfl (r_assign (v := .int .i64 5) rfl) ?_
                  refine l_nil ?_
                  refine c_ret ?_
                  obtain rfl := Option.some.inj H37
                  refine ret1 (v := .int .i64 5) rfl rfl (fin rfl)
                · have H38 := cnd_f hb H36; clear H36
                  refine c_skip ?_
                  refine c_close () () 0 [] (by exact ⟨rfl, rfl, rfl, rfl, trivial⟩) (by decide) rfl (by exact ⟨H38, trivial⟩) (Nat.lt_succ_self _)
              · have H39 := cnd_f hb H33
                refine d_pass rfl rfl ?_
                refine d_pass rfl rfl ?_
                refine d_pass rfl rfl ?_
                refine d_pass rfl rfl ?_
                refine d_pass rfl rfl ?_
                refine d_pass rfl rfl ?_
                refine d_pass rfl rfl ?_
                refine d_pass rfl rfl ?_
                refine d_pass rfl rfl ?_
                refine d_val rfl rfl (r_pickF (v := .bool false) rfl rfl) ?_
                refine d_nil ?_
                refine c_false rfl ?_
                refine c_skip ?_
                refine c_close () () 0 [] (by exact ⟨rfl, rfl, rfl, rfl, trivial⟩) (by decide) rfl (by exact ⟨H39, trivial⟩) (Nat.lt_succ_self _)
              ) (by kernel_rfl)
      · rintro _ _ gg H25 _
        replace H25 : where_CheckTrack_j2 x11_2 next1 = some r := H25
        refine c_tidyF [(0, v0), (9, v0), (10, .int .i64 (a0.length : Int)), (11, .int .i64 x11_2)] [] rfl rfl ?_
        refine c_region ?_
        obtain ⟨t39, h_t39, H26⟩ := bnd_some H25; clear H25
        refine l_val rfl rfl rfl (r_addG rfl rfl h_t39) ?_
        refine l_val rfl rfl rfl (r_move (v := .int .i64 t39) rfl) ?_
        refine l_nil ?_
        refine c_close t39 () m1 [] (by exact ⟨rfl, rfl, rfl, rfl, trivial⟩) (by decide) rfl (by exact ⟨(by subst hn1; exact H26), trivial⟩) (Nat.lt_succ_self _)
    · have H40 := cnd_f hb H23; clear H23
      refine c_exit ?_
      refine c_seq ?_
      refine c_region ?_
      refine l_val rfl rfl rfl (r_assign (v := .int .i64 0) rfl) ?_
      refine l_nil ?_
      refine c_ret ?_
      obtain rfl := Option.some.inj H40
      refine ret1 (v := .int .i64 0) rfl rfl (fin rfl)
theorem k73 {a : Option Addr} {n c : Nat} (hc : n ≤ c) : Ret Try.prog 73 [.slice a n c] (.slice (cutA a 0 n 1) n n) := by
  refine enterRet (n := 9) Try.func73 rfl rfl rfl (fun wd => ?_)
  refine c_seq ?_
  refine c_region ?_
  refine l_val rfl rfl rfl (r_assign (v := .slice none 0 0) rfl) ?_
  refine l_nil ?_
  refine c_seq ?_
  refine c_region ?_
  refine l_val rfl rfl rfl (r_move (v := .slice a n c) rfl) ?_
  refine l_val rfl rfl rfl (r_move (v := .slice a n c) rfl) ?_
  refine l_val rfl rfl rfl (r_len Try.underlying67 rfl) ?_
  refine l_val rfl rfl rfl (r_move (v := .slice a n c) rfl) ?_
  refine l_val rfl rfl rfl (r_len Try.underlying67 rfl) ?_
  refine l_val rfl rfl rfl (r_sliceHM (a := a) (m := n) (c := c) (h := (n : Int)) (q := (n : Int)) Try.underlying67 Try.sizeOf3 rfl rfl rfl (Int.natCast_nonneg n) (Int.le_refl _) (Int.ofNat_le.2 hc)) ?_
  refine l_val rfl rfl rfl (r_assign (v := .slice (cutA a 0 n 1) n n) rfl) ?_
  refine l_nil ?_
  refine c_ret ?_
  exact ret1 (v := .slice (cutA a 0 n 1) n n) rfl rfl (fin rfl)

theorem k100 {a : Option Addr} {n c : Nat} (hc : n ≤ c) : Ret Try.prog 100 [.slice a n c] (.slice (cutA a 0 n 2) n n) := by
  refine enterRet (n := 9) Try.func100 rfl rfl rfl (fun wd => ?_)
  refine c_seq ?_
  refine c_region ?_
  refine l_val rfl rfl rfl (r_assign (v := .slice none 0 0) rfl) ?_
  refine l_nil ?_
  refine c_seq ?_
  refine c_region ?_
  refine l_val rfl rfl rfl (r_move (v := .slice a n c) rfl) ?_
  refine l_val rfl rfl rfl (r_move (v := .slice a n c) rfl) ?_
  refine l_val rfl rfl rfl (r_len Try.underlying65 rfl) ?_
  refine l_val rfl rfl rfl (r_move (v := .slice a n c) rfl) ?_
  refine l_val rfl rfl rfl (r_len Try.underlying65 rfl) ?_
  refine l_val rfl rfl rfl (r_sliceHM (a := a) (m := n) (c := c) (h := (n : Int)) (q := (n : Int)) Try.underlying65 Try.sizeOf71 rfl rfl rfl (Int.natCast_nonneg n) (Int.le_refl _) (Int.ofNat_le.2 hc)) ?_
  refine l_val rfl rfl rfl (r_assign (v := .slice (cutA a 0 n 2) n n) rfl) ?_
  refine l_nil ?_
  refine c_ret ?_
  exact ret1 (v := .slice (cutA a 0 n 2) n n) rfl rfl (fin rfl)

theorem k101 {a0 : (List T_api_Place)} {v0 : Value} {r : (List T_api_Place)} {w : World} {h : Heap} (hw : Know h w noS) (f0 : FrS h 2 v0 (a0.map e_api_Place)) (H : slices_Clone_api_Place a0 = some r) : Does Try.prog 101 (List.toArray [v0]) w (fun v w' => ∃ x : (Option Addr × Nat), v = (.slice x.1 r.length x.2) ∧ Turn w w' noS (rowV 71 2 (.slice x.1 r.length x.2) r.length (r.map e_api_Place))) := by
  refine enter (n := 8) Try.func101 rfl rfl rfl noS [] (Sat.nil _ _) ?_
  refine c_seq ?_
  refine c_region ?_
  refine l_val rfl rfl rfl (r_assign (v := .slice none 0 0) rfl) ?_
  refine l_nil ?_
  refine c_seq ?_
  refine c_seq ?_
  refine c_region ?_
  refine l_val rfl rfl rfl (r_move (v := v0) rfl) ?_
  refine l_val rfl rfl rfl (r_eqlNilS Try.underlying65 f0 rfl rfl) ?_
  refine l_nil ?_
  refine c_if (b := isNilV v0) rfl (fun hb => ?_) (fun hb => ?_)
  · have hn_ : a0 = [] := f0.nilV hb
    have H3 : some ([] : List T_api_Place) = some r := by have h_ := H; rw [hn_] at h_; exact h_
    refine c_seq ?_
    refine c_region ?_
    refine l_val rfl rfl rfl (r_assign (v := .slice none 0 0) rfl) ?_
    refine l_nil ?_
    refine c_ret ?_
    refine c_nilRow 71 2 ?_
    obtain rfl := Option.some.inj H3
    refine ret1 (v := .slice ((none, 0) : Option Addr × Nat).1 ([] : List T_api_Place).length ((none, 0) : Option Addr × Nat).2) rfl rfl (finX ((none, 0) : Option Addr × Nat) (i := 0) rfl rfl (Imp.refl _))
  · skip
    refine c_skip ?_
    refine c_seq ?_
    refine c_region ?_
    refine l_buildSlice (vs := []) (cs := []) Try.underlying65 Try.sizeOf71 Try.zeroValue71 rfl rfl rfl rfl rfl rfl rfl (fun b1 => ?_)
    refine l_val rfl rfl rfl (r_move (v := v0) rfl) ?_
    refine c_imp 0 rfl (imp_box (m := 0) (E := 71) (sz := 2) (xs := (([] : List T_api_Place)).map e_api_Place) rfl rfl rfl ⟨rfl, by decide⟩) ?_
    obtain ⟨l7, h_l7, H4⟩ := bnd_some H; clear H
    refine l_turn (turns_appG (i := 0) (hn := rfl) (rds := []) (p := ((some ⟨b1, 0, none⟩, 0) : Option Addr × Nat)) (sz := 2) (by_ := 16) (f := e_api_Place) (ys := ([] : List T_api_Place)) (ls := a0) (V := v0) Try.underlying65 (info_of Try.typeInfo71) rfl rfl rfl rfl rfl rfl rfl rfl f0.eq (List.length_map _) (fun w L' hF hS hi => (f0).row (hw.now hF)) (fun _ => rfl) (fun _ => rfl) h_l7) rfl rfl rfl (fun p => ?_)
    refine l_val rfl rfl rfl (r_assign (v := .slice p.1 l7.length p.2) rfl) ?_
    refine l_nil ?_
    refine c_ret ?_
    obtain rfl := Option.some.inj H4
    refine ret1 (v := .slice p.1 l7.length p.2) rfl rfl (finX p (i := 0) rfl rfl (Imp.refl _))
theorem k102 {a : Option Addr} {n c : Nat} (hc : n ≤ c) : Ret Try.prog 102 [.slice a n c] (.slice (cutA a 0 n 1) n n) := by
  refine enterRet (n := 9) Try.func102 rfl rfl rfl (fun wd => ?_)
  refine c_seq ?_
  refine c_region ?_
  refine l_val rfl rfl rfl (r_assign (v := .slice none 0 0) rfl) ?_
  refine l_nil ?_
  refine c_seq ?_
  refine c_region ?_
  refine l_val rfl rfl rfl (r_move (v := .slice a n c) rfl) ?_
  refine l_val rfl rfl rfl (r_move (v := .slice a n c) rfl) ?_
  refine l_val rfl rfl rfl (r_len Try.underlying66 rfl) ?_
  refine l_val rfl rfl rfl (r_move (v := .slice a n c) rfl) ?_
  refine l_val rfl rfl rfl (r_len Try.underlying66 rfl) ?_
  refine l_val rfl rfl rfl (r_sliceHM (a := a) (m := n) (c := c) (h := (n : Int)) (q := (n : Int)) Try.underlying66 Try.sizeOf9 rfl rfl rfl (Int.natCast_nonneg n) (Int.le_refl _) (Int.ofNat_le.2 hc)) ?_
  refine l_val rfl rfl rfl (r_assign (v := .slice (cutA a 0 n 1) n n) rfl) ?_
  refine l_nil ?_
  refine c_ret ?_
  exact ret1 (v := .slice (cutA a 0 n 1) n n) rfl rfl (fin rfl)

theorem k103 {a0 : (List (List UInt8))} {v0 : Value} {r : (List (List UInt8))} {w : World} {h : Heap} (hw : Know h w noS) (f0 : FrS h 1 v0 (a0.map e_string)) (H : slices_Clone_string a0 = some r) : Does Try.prog 103 (List.toArray [v0]) w (fun v w' => ∃ x : (Option Addr × Nat), v = (.slice x.1 r.length x.2) ∧ Turn w w' noS (rowV 9 1 (.slice x.1 r.length x.2) r.length (r.map e_string))) := by
  refine enter (n := 8) Try.func103 rfl rfl rfl noS [] (Sat.nil _ _) ?_
  refine c_seq ?_
  refine c_region ?_
  refine l_val rfl rfl rfl (r_assign (v := .slice none 0 0) rfl) ?_
  refine l_nil ?_
  refine c_seq ?_
  refine c_seq ?_
  refine c_region ?_
  refine l_val rfl rfl rfl (r_move (v := v0) rfl) ?_
  refine l_val rfl rfl rfl (r_eqlNilS Try.underlying66 f0 rfl rfl) ?_
  refine l_nil ?_
  refine c_if (b := isNilV v0) rfl (fun hb => ?_) (fun hb => ?_)
  · have hn_ : a0 = [] := f0.nilV hb
    have H3 : some ([] : List (List UInt8)) = some r := by have h_ := H; rw [hn_] at h_; exact h_
    refine c_seq ?_
    refine c_region ?_
    refine l_val rfl rfl rfl (r_assign (v := .slice none 0 0) rfl) ?_
    refine l_nil ?_
    refine c_ret ?_
    refine c_nilRow 9 1 ?_
    obtain rfl := Option.some.inj H3
    refine ret1 (v := .slice ((none, 0) : Option Addr × Nat).1 ([] : List (List UInt8)).length ((none, 0) : Option Addr × Nat).2) rfl rfl (finX ((none, 0) : Option Addr × Nat) (i := 0) rfl rfl (Imp.refl _))
  · skip
    refine c_skip ?_
    refine c_seq ?_
    refine c_region ?_
    refine l_buildSlice (vs := []) (cs := []) Try.underlying66 Try.sizeOf9 Try.zeroValue9 rfl rfl rfl rfl rfl rfl rfl (fun b1 => ?_)
    refine l_val rfl rfl rfl (r_move (v := v0) rfl) ?_
    refine c_imp 0 rfl (imp_box (m := 0) (E := 9) (sz := 1) (xs := (([] : List (List UInt8))).map e_string) rfl rfl rfl ⟨rfl, by decide⟩) ?_
    obtain ⟨l7, h_l7, H4⟩ := bnd_some H; clear H
    refine l_turn (turns_appG (i := 0) (hn := rfl) (rds := []) (p := ((some ⟨b1, 0, none⟩, 0) : Option Addr × Nat)) (sz := 1) (by_ := 16) (f := e_string) (ys := ([] : List (List UInt8))) (ls := a0) (V := v0) Try.underlying66 (info_of Try.typeInfo9) rfl rfl rfl rfl rfl rfl rfl rfl f0.eq (List.length_map _) (fun w L' hF hS hi => (f0).row (hw.now hF)) (fun _ => rfl) (fun _ => rfl) h_l7) rfl rfl rfl (fun p => ?_)
    refine l_val rfl rfl rfl (r_assign (v := .slice p.1 l7.length p.2) rfl) ?_
    refine l_nil ?_
    refine c_ret ?_
    obtain rfl := Option.some.inj H4
    refine ret1 (v := .slice p.1 l7.length p.2) rfl rfl (finX p (i := 0) rfl rfl (Imp.refl _))
theorem k104 {a0 : (List Int)} {v0 : Value} {r : (List Int)} {w : World} {h : Heap} (hw : Know h w noS) (f0 : FrS h 1 v0 (a0.map e_i64)) (H : slices_Clone_int a0 = some r) : Does Try.prog 104 (List.toArray [v0]) w (fun v w' => ∃ x : (Option Addr × Nat), v = (.slice x.1 r.length x.2) ∧ Turn w w' noS (rowV 3 1 (.slice x.1 r.length x.2) r.length (r.map e_i64))) := by
  refine enter (n := 8) Try.func104 rfl rfl rfl noS [] (Sat.nil _ _) ?_
  refine c_seq ?_
  refine c_region ?_
  refine l_val rfl rfl rfl (r_assign (v := .slice none 0 0) rfl) ?_
  refine l_nil ?_
  refine c_seq ?_
  refine c_seq ?_
  refine c_region ?_
  refine l_val rfl rfl rfl (r_move (v := v0) rfl) ?_
  refine l_val rfl rfl rfl (r_eqlNilS Try.underlying67 f0 rfl rfl) ?_
  refine l_nil ?_
  refine c_if (b := isNilV v0) rfl (fun hb => ?_) (fun hb => ?_)
  · have hn_ : a0 = [] := f0.nilV hb
    have H3 : some ([] : List Int) = some r := by have h_ := H; rw [hn_] at h_; exact h_
    refine c_seq ?_
    refine c_region ?_
    refine l_val rfl rfl rfl (r_assign (v := .slice none 0 0) rfl) ?_
    refine l_nil ?_
    refine c_ret ?_
    refine c_nilRow 3 1 ?_
    obtain rfl := Option.some.inj H3
    refine ret1 (v := .slice ((none, 0) : Option Addr × Nat).1 ([] : List Int).length ((none, 0) : Option Addr × Nat).2) rfl rfl (finX ((none, 0) : Option Addr × Nat) (i := 0) rfl rfl (Imp.refl _))
  · skip
    refine c_skip ?_
    refine c_seq ?_
    refine c_region ?_
    refine l_buildSlice (vs := []) (cs := []) Try.underlying67 Try.sizeOf3 Try.zeroValue3 rfl rfl rfl rfl rfl rfl rfl (fun b1 => ?_)
    refine l_val rfl rfl rfl (r_move (v := v0) rfl) ?_
    refine c_imp 0 rfl (imp_box (m := 0) (E := 3) (sz := 1) (xs := (([] : List Int)).map e_i64) rfl rfl rfl ⟨rfl, by decide⟩) ?_
    obtain ⟨l7, h_l7, H4⟩ := bnd_some H; clear H
    refine l_turn (turns_appG (i := 0) (hn := rfl) (rds := []) (p := ((some ⟨b1, 0, none⟩, 0) : Option Addr × Nat)) (sz := 1) (by_ := 8) (f := e_i64) (ys := ([] : List Int)) (ls := a0) (V := v0) Try.underlying67 (info_of Try.typeInfo3) rfl rfl rfl rfl rfl rfl rfl rfl f0.eq (List.length_map _) (fun w L' hF hS hi => (f0).row (hw.now hF)) (fun _ => rfl) (fun _ => rfl) h_l7) rfl rfl rfl (fun p => ?_)
    refine l_val rfl rfl rfl (r_assign (v := .slice p.1 l7.length p.2) rfl) ?_
    refine l_nil ?_
    refine c_ret ?_
    obtain rfl := Option.some.inj H4
    refine ret1 (v := .slice p.1 l7.length p.2) rfl rfl (finX p (i := 0) rfl rfl (Imp.refl _))
theorem k63 {a0 : T_api_Photo} {v0_4 : Value} {v0_9 : Value} {v0_11 : Value} {r : T_api_Photo} {w : World} {h : Heap} (hw : Know h w noS) (f0_4 : FrS h 2 v0_4 (a0.Where.map e_api_Place)) (f0_9 : FrS h 1 v0_9 (a0.Tags.map e_string)) (f0_11 : FrS h 1 v0_11 (a0.People.map e_i64)) (H : where_copyPhoto a0 = some r) : Does Try.prog 63 (List.toArray [.agg #[.int .i64 a0.Id, str a0.File, .int .i64 a0.Moment, .int .i64 a0.Zone, v0_4, .int .i64 a0.W, .int .i64 a0.H, .int .i64 a0.Turn, .int .i64 a0.Stars, v0_9, str a0.Caption, v0_11, .bool a0.Hidden]]) w (fun v w' => ∃ x : (Option Addr × Nat) × (Option Addr × Nat) × (Option Addr × Nat), v = (.agg #[.int .i64 r.Id, str r.File, .int .i64 r.Moment, .int .i64 r.Zone, .slice x.1.1 r.Where.length x.1.2, .int .i64 r.W, .int .i64 r.H, .int .i64 r.Turn, .int .i64 r.Stars, .slice x.2.1.1 r.Tags.length x.2.1.2, str r.Caption, .slice x.2.2.1 r.People.length x.2.2.2, .bool r.Hidden]) ∧ Turn w w' noS (bothC (roV 2 (.slice x.1.1 r.Where.length x.1.2) r.Where.length (r.Where.map e_api_Place)) (bothC (roV 1 (.slice x.2.1.1 r.Tags.length x.2.1.2) r.Tags.length (r.Tags.map e_string)) (roV 1 (.slice x.2.2.1 r.People.length x.2.2.2) r.People.length (r.People.map e_i64))))) := by
  refine enter (n := 19) Try.func63 rfl rfl rfl noS [] (Sat.nil _ _) ?_
  refine c_seq ?_
  refine c_region ?_
  refine l_box (cs := [.int .i64 a0.Id, str a0.File, .int .i64 a0.Moment, .int .i64 a0.Zone, v0_4, .int .i64 a0.W, .int .i64 a0.H, .int .i64 a0.Turn, .int .i64 a0.Stars, v0_9, str a0.Caption, v0_11, .bool a0.Hidden]) rfl rfl rfl rfl (fun b4 => ?_)
  refine l_alloc (cs := [.int .i64 0, str [], .int .i64 0, .int .i64 0, .slice none 0 0, .int .i64 0, .int .i64 0, .int .i64 0, .int .i64 0, .slice none 0 0, str [], .slice none 0 0, .bool false]) Try.zeroValue69 rfl rfl rfl (fun b5 => ?_)
  refine l_nil ?_
  refine c_seq ?_
  refine c_region ?_
  refine l_val rfl rfl rfl (r_field Try.runUnderlying69 rfl Try.sizeOf65 rfl rfl) ?_
  refine l_load1 (i := 0) (v := v0_4) Try.isAgg65 rfl rfl rfl rfl rfl ?_
  obtain ⟨t5, h_t5, H7⟩ := bnd_some H; clear H
  refine l_make (makes_call (rds := []) (G := fun x : (Option Addr × Nat) => .slice x.1 t5.length x.2) (C := fun x : (Option Addr × Nat) => rowV 71 2 (.slice x.1 t5.length x.2) t5.length (t5.map e_api_Place)) (fun w L' hF hS hi => k101 (know_all w) (f0_4.mono (hw.now hF)) h_t5) Try.call101 rfl) rfl rfl rfl (fun p => ?_)
  refine l_callG (fun w hF hS => k100 (capOf (i := 2) hS rfl) w) Try.call100 rfl rfl rfl ?_
  refine l_val rfl rfl rfl (r_field Try.runUnderlying69 rfl Try.sizeOf65 rfl rfl) ?_
  refine l_store (i := 0) (vs := [.slice (cutA p.1 0 t5.length 2) t5.length t5.length]) (cs' := [.int .i64 a0.Id, str a0.File, .int .i64 a0.Moment, .int .i64 a0.Zone, .slice (cutA p.1 0 t5.length 2) t5.length t5.length, .int .i64 a0.W, .int .i64 a0.H, .int .i64 a0.Turn, .int .i64 a0.Stars, v0_9, str a0.Caption, v0_11, .bool a0.Hidden]) Try.sizeOf65 rfl rfl rfl rfl rfl rfl rfl rfl rfl ?_
  refine l_nil ?_
  refine c_seq ?_
  refine c_region ?_
  refine l_val rfl rfl rfl (r_field Try.runUnderlying69 rfl Try.sizeOf66 rfl rfl) ?_
  refine l_load1 (i := 0) (v := v0_9) Try.isAgg66 rfl rfl rfl rfl rfl ?_
  obtain ⟨t10, h_t10, H8⟩ := bnd_some H7; clear H7
  refine l_make (makes_call (rds := []) (G := fun x : (Option Addr × Nat) => .slice x.1 t10.length x.2) (C := fun x : (Option Addr × Nat) => rowV 9 1 (.slice x.1 t10.length x.2) t10.length (t10.map e_string)) (fun w L' hF hS hi => k103 (know_all w) (f0_9.mono (hw.now hF)) h_t10) Try.call103 rfl) rfl rfl rfl (fun p_2 => ?_)
  refine l_callG (fun w hF hS => k102 (capOf (i := 3) hS rfl) w) Try.call102 rfl rfl rfl ?_
  refine l_val rfl rfl rfl (r_field Try.runUnderlying69 rfl Try.sizeOf66 rfl rfl) ?_
  refine l_store (i := 0) (vs := [.slice (cutA p_2.1 0 t10.length 1) t10.length t10.length]) (cs' := [.int .i64 a0.Id, str a0.File, .int .i64 a0.Moment, .int .i64 a0.Zone, .slice (cutA p.1 0 t5.length 2) t5.length t5.length, .int .i64 a0.W, .int .i64 a0.H, .int .i64 a0.Turn, .int .i64 a0.Stars, .slice (cutA p_2.1 0 t10.length 1) t10.length t10.length, str a0.Caption, v0_11, .bool a0.Hidden]) Try.sizeOf66 rfl rfl rfl rfl rfl rfl rfl rfl rfl ?_
  refine l_nil ?_
  refine c_seq ?_
  refine c_region ?_
  refine l_val rfl rfl rfl (r_field Try.runUnderlying69 rfl Try.sizeOf67 rfl rfl) ?_
  refine l_load1 (i := 0) (v := v0_11) Try.isAgg67 rfl rfl rfl rfl rfl ?_
  obtain ⟨t15, h_t15, H9⟩ := bnd_some H8; clear H8
  refine l_make (makes_call (rds := []) (G := fun x : (Option Addr × Nat) => .slice x.1 t15.length x.2) (C := fun x : (Option Addr × Nat) => rowV 3 1 (.slice x.1 t15.length x.2) t15.length (t15.map e_i64)) (fun w L' hF hS hi => k104 (know_all w) (f0_11.mono (hw.now hF)) h_t15) Try.call104 rfl) rfl rfl rfl (fun p_3 => ?_)
  refine l_callG (fun w hF hS => k73 (capOf (i := 4) hS rfl) w) Try.call73 rfl rfl rfl ?_
  refine l_val rfl rfl rfl (r_field Try.runUnderlying69 rfl Try.sizeOf67 rfl rfl) ?_
  refine l_store (i := 0) (vs := [.slice (cutA p_3.1 0 t15.length 1) t15.length t15.length]) (cs' := [.int .i64 a0.Id, str a0.File, .int .i64 a0.Moment, .int .i64 a0.Zone, .slice (cutA p.1 0 t5.length 2) t5.length t5.length, .int .i64 a0.W, .int .i64 a0.H, .int .i64 a0.Turn, .int .i64 a0.Stars, .slice (cutA p_2.1 0 t10.length 1) t10.length t10.length, str a0.Caption, .slice (cutA p_3.1 0 t15.length 1) t15.length t15.length, .bool a0.Hidden]) Try.sizeOf67 rfl rfl rfl rfl rfl rfl rfl rfl rfl ?_
  refine l_nil ?_
  refine c_seq ?_
  refine c_region ?_
  refine l_loadN (i := 0) (vs := [.int .i64 a0.Id, str a0.File, .int .i64 a0.Moment, .int .i64 a0.Zone, .slice (cutA p.1 0 t5.length 2) t5.length t5.length, .int .i64 a0.W, .int .i64 a0.H, .int .i64 a0.Turn, .int .i64 a0.Stars, .slice (cutA p_2.1 0 t10.length 1) t10.length t10.length, str a0.Caption, .slice (cutA p_3.1 0 t15.length 1) t15.length t15.length, .bool a0.Hidden]) Try.isAgg69 Try.sizeOf69 rfl rfl rfl rfl rfl ?_
  refine l_store (i := 1) (vs := [.int .i64 a0.Id, str a0.File, .int .i64 a0.Moment, .int .i64 a0.Zone, .slice (cutA p.1 0 t5.length 2) t5.length t5.length, .int .i64 a0.W, .int .i64 a0.H, .int .i64 a0.Turn, .int .i64 a0.Stars, .slice (cutA p_2.1 0 t10.length 1) t10.length t10.length, str a0.Caption, .slice (cutA p_3.1 0 t15.length 1) t15.length t15.length, .bool a0.Hidden]) (cs' := [.int .i64 a0.Id, str a0.File, .int .i64 a0.Moment, .int .i64 a0.Zone, .slice (cutA p.1 0 t5.length 2) t5.length t5.length, .int .i64 a0.W, .int .i64 a0.H, .int .i64 a0.Turn, .int .i64 a0.Stars, .slice (cutA p_2.1 0 t10.length 1) t10.length t10.length, str a0.Caption, .slice (cutA p_3.1 0 t15.length 1) t15.length t15.length, .bool a0.Hidden]) Try.sizeOf69 rfl rfl rfl rfl rfl rfl rfl rfl rfl ?_
  refine l_nil ?_
  refine c_ret ?_
  obtain rfl := Option.some.inj H9
  refine c_imp 2 rfl (imp_clipO _ _ _ _ _ _) ?_
  refine c_imp 3 rfl (imp_clipO _ _ _ _ _ _) ?_
  refine c_imp 4 rfl (imp_clipO _ _ _ _ _ _) ?_
  refine c_both 3 4 rfl rfl (by decide) ?_
  refine c_both 2 3 rfl rfl (by decide) ?_
  refine retC (i := 1) (vs := [.int .i64 a0.Id, str a0.File, .int .i64 a0.Moment, .int .i64 a0.Zone, .slice (cutA p.1 0 t5.length 2) t5.length t5.length, .int .i64 a0.W, .int .i64 a0.H, .int .i64 a0.Turn, .int .i64 a0.Stars, .slice (cutA p_2.1 0 t10.length 1) t10.length t10.length, str a0.Caption, .slice (cutA p_3.1 0 t15.length 1) t15.length t15.length, .bool a0.Hidden]) Try.isAgg69 Try.sizeOf69 rfl rfl rfl rfl (finX ((cutA p.1 0 t5.length 2, t5.length), (cutA p_2.1 0 t10.length 1, t10.length), (cutA p_3.1 0 t15.length 1, t15.length)) (i := 2) rfl rfl (Imp.refl _))
theorem k105 {a0 : Int} {a1 : (Int → Option (Bool))} {v1 : Value} {r : Int} {w : World} {h : Heap} (hw : Know h w noS) (f1 : FnH Try.prog h v1 (fnR_func_int_bool a1)) (H : sort_Search a0 a1 = some r) : Does Try.prog 105 (List.toArray [.int .i64 a0, v1]) w (fun v w' => v = (.int .i64 r) ∧ Grow w w') := by
  refine enter (n := 26) Try.func105 rfl rfl rfl noS [] (Sat.nil _ _) ?_
  refine c_seq ?_
  refine c_region ?_
  refine l_val rfl rfl rfl (r_assign (v := .int .i64 0) rfl) ?_
  refine l_nil ?_
  refine c_seq ?_
  refine c_region ?_
  refine l_val rfl rfl rfl (r_move (v := .int .i64 a0) rfl) ?_
  refine l_val rfl rfl rfl (r_assign (v := .int .i64 0) rfl) ?_
  refine l_val rfl rfl rfl (r_assign (v := .int .i64 a0) rfl) ?_
  refine l_nil ?_
  refine c_seq ?_
  refine c_block ?_
  refine c_fix (σ := Int × Int) (τ := Unit) (fun next1 s => sort_Search_l1 a1 next1 s.1 s.2) (fun s t => [(1, v1), (5, .int .i64 s.1), (6, .int .i64 s.2)]) (fun s t => []) (fun s t => True) (0, a0) () [] H (by exact trivial) (by exact ⟨rfl, rfl, rfl, trivial⟩) (by decide) rfl ?_
  rintro ⟨x5_2, x6_2⟩ _ m1 gg H10 _
  clear H
  replace H10 : sort_Search_l1 a1 (it (fun next1 s => sort_Search_l1 a1 next1 s.1 s.2) m1) x5_2 x6_2 = some r := H10
  generalize hn1 : it (fun next1 s => sort_Search_l1 a1 next1 s.1 s.2) m1 = next1 at H10
  refine c_tidyF [(1, v1), (5, .int .i64 x5_2), (6, .int .i64 x6_2)] [] rfl rfl ?_
  refine c_seq ?_
  refine c_seq ?_
  refine c_region ?_
  refine l_val rfl rfl rfl (r_move (v := .int .i64 x5_2) rfl) ?_
  refine l_val rfl rfl rfl (r_move (v := .int .i64 x6_2) rfl) ?_
  refine l_val rfl rfl rfl (r_lss rfl rfl) ?_
  refine l_nil ?_
  refine c_if (b := (decide (x5_2 < x6_2))) rfl (fun hb => ?_) (fun hb => ?_)
  · have H11 := cnd_t hb H10; clear H10
    refine c_skip ?_
    refine c_block ?_
    refine c_seq ?_
    refine c_region ?_
    refine l_val rfl rfl rfl (r_move (v := .int .i64 x5_2) rfl) ?_
    refine l_val rfl rfl rfl (r_move (v := .int .i64 x6_2) rfl) ?_
    obtain ⟨t14, h_t14, H12⟩ := bnd_some H11; clear H11
    refine l_val rfl rfl rfl (r_addG rfl rfl h_t14) ?_
    refine l_val rfl rfl rfl (r_convG Try.runUnderlying3 Try.runUnderlying141 rfl (wr_u64 _)) ?_
    obtain ⟨t16, h_t16, H13⟩ := bnd_some H12; clear H12
    refine l_val rfl rfl rfl (r_shrG rfl rfl rfl h_t16) ?_
    refine l_val rfl rfl rfl (r_convG Try.runUnderlying141 Try.runUnderlying3 rfl (wr_i64 _)) ?_
    refine l_val rfl rfl rfl (r_assign (v := .int .i64 (wI64 t16)) rfl) ?_
    refine l_nil ?_
    refine c_seq ?_
    refine c_region ?_
    refine l_val rfl rfl rfl (r_move (v := v1) rfl) ?_
    refine l_val rfl rfl rfl (r_move (v := .int .i64 (wI64 t16)) rfl) ?_
    obtain ⟨t20, h_t20, H14⟩ := bnd_some H13; clear H13
    refine l_callV (R := fnR_func_int_bool a1) (r := .bool t20) (v := v1) (fun w hF hS => ⟨(f1.mono (hw.now hF)), ⟨(wI64 t16), _, rfl, h_t20, rfl⟩⟩) rfl rfl rfl rfl ?_
    refine l_val rfl rfl rfl (r_not rfl) ?_
    refine l_nil ?_
    refine c_if (b := (!t20)) rfl (fun hb => ?_) (fun hb => ?_)
    · have H15 := cnd_t hb H14; clear H14
      refine c_region ?_
      refine l_val rfl rfl rfl (r_move (v := .int .i64 (wI64 t16)) rfl) ?_
      obtain ⟨t23, h_t23, H16⟩ := bnd_some H15; clear H15
      refine l_val rfl rfl rfl (r_addG rfl rfl h_t23) ?_
      refine l_val rfl rfl rfl (r_assign (v := .int .i64 t23) rfl) ?_
      refine l_nil ?_
      refine c_close (t23, x6_2) () m1 [] (by exact ⟨rfl, rfl, rfl, trivial⟩) (by decide) rfl (by exact ⟨(by subst hn1; exact H16), trivial⟩) (Nat.lt_succ_self _)
    · have H17 := cnd_f hb H14; clear H14
      refine c_region ?_
      refine l_val rfl rfl rfl (r_move (v := .int .i64 (wI64 t16)) rfl) ?_
      refine l_val rfl rfl rfl (r_assign (v := .int .i64 (wI64 t16)) rfl) ?_
      refine l_nil ?_
      refine c_close (x5_2, (wI64 t16)) () m1 [] (by exact ⟨rfl, rfl, rfl, trivial⟩) (by decide) rfl (by exact ⟨(by subst hn1; exact H17), trivial⟩) (Nat.lt_succ_self _)
  · have H18 := cnd_f hb H10; clear H10
    refine c_exit ?_
    refine c_seq ?_
    refine c_region ?_
    refine l_val rfl rfl rfl (r_move (v := .int .i64 x5_2) rfl) ?_
    refine l_val rfl rfl rfl (r_assign (v := .int .i64 x5_2) rfl) ?_
    refine l_nil ?_
    refine c_ret ?_
    obtain rfl := Option.some.inj H18
    refine ret1 (v := .int .i64 x5_2) rfl rfl (fin rfl)
theorem k106 {q0 : (List T_where_Fix)} {vq0 : Value} {c0 : Nat} {q1 : Int} {c1 : Nat} {a0 : Int} {r : Bool} {w : World} {h : Heap} (hw : Know h w noS) (fq0 : FrS h 3 vq0 (q0.map e_where_Fix)) (hc0 : h c0 = some (.cells (List.toArray [vq0]) 60 (0, 0))) (hc1 : h c1 = some (.cells (List.toArray [.int .i64 q1]) 3 (0, 0))) (H : where_at_1 q0 q1 a0 = some r) : Does Try.prog 106 (List.toArray [.int .i64 a0, .pointer (some ⟨c0, 0, none⟩), .pointer (some ⟨c1, 0, none⟩)]) w (fun v w' => v = (.bool r) ∧ Grow w w') := by
  refine enter (n := 12) Try.func106 rfl rfl rfl noS [] (Sat.nil _ _) ?_
  refine c_seq ?_
  refine c_region ?_
  refine l_val rfl rfl rfl (r_assign (v := .bool false) rfl) ?_
  refine l_nil ?_
  refine c_seq ?_
  exact c_regionD (Kd.d [] _ :: Kd.p :: Kd.p :: Kd.p :: Kd.d [] _ :: Kd.d [] _ :: Kd.p :: Kd.p :: []) 0 mixed (by
    refine d_read (fun w hF => run_loadK1 (v := vq0) Try.isAgg60 rfl (hw.now hF _ _ hc0) rfl) rfl rfl ?_
    refine d_val rfl rfl (r_move (v := .int .i64 a0) rfl) ?_
    have h_t7 := bnd_val H
    have H2 := bnd_rest H
    refine d_val rfl rfl (r_indexF Try.underlying60 Try.sizeOf108 rfl rfl fq0 h_t7) ?_
    refine d_val rfl rfl (r_fieldP Try.runUnderlying108 rfl Try.sizeOf3 rfl rfl (some_of_at fq0 h_t7)) ?_
    refine d_read (fun w hF => run_loadG1 (f := e_where_Fix) (i := a0) (sz := 3) (j := 0) (v := .int .i64 (val (gAt q0 a0)).Moment) Try.isAgg3 rfl rfl (fq0.row (hw.now hF)) h_t7 rfl) rfl rfl ?_
    refine d_read (fun w hF => run_loadK1 (v := .int .i64 q1) Try.isAgg3 rfl (hw.now hF _ _ hc1) rfl) rfl rfl ?_
    refine d_val rfl rfl (r_geq rfl rfl) ?_
    refine d_val rfl rfl (r_assign (v := .bool (decide (q1 ≤ (val (gAt q0 a0)).Moment))) rfl) ?_
    refine d_nil ?_
    refine c_ret ?_
    obtain rfl := Option.some.inj H2
    refine ret1 (v := .bool (decide (q1 ≤ (val (gAt q0 a0)).Moment))) rfl rfl (fin rfl)
    ) (by kernel_rfl)
theorem k131 {a0 : Int} {a1 : Int} {r : Int} (H : where_eastward a0 a1 = some r) : Ret Try.prog 131 [.int .i64 a0, .int .i64 a1] (.int .i64 r) := by
  refine enterRet (n := 11) Try.func131 rfl rfl rfl (fun wd => ?_)
  refine c_seq ?_
  refine c_region ?_
  refine l_val rfl rfl rfl (r_assign (v := .int .i64 0) rfl) ?_
  refine l_nil ?_
  refine c_seq ?_
  refine c_region ?_
  refine l_val rfl rfl rfl (r_move (v := .int .i64 a1) rfl) ?_
  refine l_val rfl rfl rfl (r_move (v := .int .i64 a0) rfl) ?_
  obtain ⟨t7, h_t7, H5⟩ := bnd_some H; clear H
  refine l_val rfl rfl rfl (r_subG rfl rfl h_t7) ?_
  obtain ⟨t8, h_t8, H6⟩ := bnd_some H5; clear H5
  refine l_val rfl rfl rfl (r_remG rfl rfl h_t8) ?_
  obtain ⟨t9, h_t9, H7⟩ := bnd_some H6; clear H6
  refine l_val rfl rfl rfl (r_addG rfl rfl h_t9) ?_
  obtain ⟨t10, h_t10, H8⟩ := bnd_some H7; clear H7
  refine l_val rfl rfl rfl (r_remG rfl rfl h_t10) ?_
  refine l_val rfl rfl rfl (r_assign (v := .int .i64 t10) rfl) ?_
  refine l_nil ?_
  refine c_ret ?_
  obtain rfl := Option.some.inj H8
  refine ret1 (v := .int .i64 t10) rfl rfl (fin rfl)
theorem k110 {a0 : Int} {a1 : Int} {r : Int} (H : where_short a0 a1 = some r) : Ret Try.prog 110 [.int .i64 a0, .int .i64 a1] (.int .i64 r) := by
  refine enterRet (n := 14) Try.func110 rfl rfl rfl (fun wd => ?_)
  refine c_seq ?_
  refine c_region ?_
  refine l_val rfl rfl rfl (r_assign (v := .int .i64 0) rfl) ?_
  refine l_nil ?_
  refine c_seq ?_
  refine c_region ?_
  refine l_val rfl rfl rfl (r_move (v := .int .i64 a0) rfl) ?_
  refine l_val rfl rfl rfl (r_move (v := .int .i64 a1) rfl) ?_
  obtain ⟨t8, h_t8, H5⟩ := bnd_some H; clear H
  refine l_call (k131 h_t8) Try.call131 rfl rfl rfl ?_
  refine l_val rfl rfl rfl (r_assign (v := .int .i64 t8) rfl) ?_
  refine l_nil ?_
  refine c_seq ?_
  refine c_seq ?_
  refine c_region ?_
  refine l_val rfl rfl rfl (r_move (v := .int .i64 t8) rfl) ?_
  refine l_val rfl rfl rfl (r_geq rfl rfl) ?_
  refine l_nil ?_
  refine c_if (b := (decide (180000000 ≤ t8))) rfl (fun hb => ?_) (fun hb => ?_)
  · have H6 := cnd_t hb H5; clear H5
    refine c_region ?_
    refine l_val rfl rfl rfl (r_move (v := .int .i64 t8) rfl) ?_
    obtain ⟨t12, h_t12, H7⟩ := bnd_some H6; clear H6
    refine l_val rfl rfl rfl (r_subG rfl rfl h_t12) ?_
    refine l_val rfl rfl rfl (r_assign (v := .int .i64 t12) rfl) ?_
    refine l_nil ?_
    refine c_seq ?_
    refine c_region ?_
    refine l_val rfl rfl rfl (r_move (v := .int .i64 t12) rfl) ?_
    refine l_val rfl rfl rfl (r_assign (v := .int .i64 t12) rfl) ?_
    refine l_nil ?_
    refine c_ret ?_
    obtain rfl := Option.some.inj H7
    refine ret1 (v := .int .i64 t12) rfl rfl (fin rfl)
  · have H8 := cnd_f hb H5; clear H5
    refine c_skip ?_
    refine c_seq ?_
    refine c_region ?_
    refine l_val rfl rfl rfl (r_move (v := .int .i64 t8) rfl) ?_
    refine l_val rfl rfl rfl (r_assign (v := .int .i64 t8) rfl) ?_
    refine l_nil ?_
    refine c_ret ?_
    obtain rfl := Option.some.inj H8
    refine ret1 (v := .int .i64 t8) rfl rfl (fin rfl)
theorem k112 {a0 : Int} {a1 : Int} {r : Int} (H : where_floor a0 a1 = some r) : Ret Try.prog 112 [.int .i64 a0, .int .i64 a1] (.int .i64 r) := by
  refine enterRet (n := 16) Try.func112 rfl rfl rfl (fun wd => ?_)
  refine c_seq ?_
  refine c_region ?_
  refine l_val rfl rfl rfl (r_assign (v := .int .i64 0) rfl) ?_
  refine l_nil ?_
  refine c_seq ?_
  refine c_region ?_
  refine l_val rfl rfl rfl (r_move (v := .int .i64 a0) rfl) ?_
  refine l_val rfl rfl rfl (r_move (v := .int .i64 a1) rfl) ?_
  obtain ⟨t8, h_t8, H6⟩ := bnd_some H; clear H
  refine l_val rfl rfl rfl (r_quoG rfl rfl h_t8) ?_
  refine l_val rfl rfl rfl (r_assign (v := .int .i64 t8) rfl) ?_
  refine l_nil ?_
  refine c_seq ?_
  refine c_seq ?_
  refine c_region ?_
  refine l_val rfl rfl rfl (r_move (v := .int .i64 a0) rfl) ?_
  refine l_val rfl rfl rfl (r_move (v := .int .i64 a1) rfl) ?_
  obtain ⟨t11, h_t11, H7⟩ := bnd_some H6; clear H6
  refine l_val rfl rfl rfl (r_remG rfl rfl h_t11) ?_
  refine l_val rfl rfl rfl (r_lss rfl rfl) ?_
  refine l_nil ?_
  refine c_if (b := (decide (t11 < 0))) rfl (fun hb => ?_) (fun hb => ?_)
  · have H8 := cnd_t hb H7; clear H7
    refine c_region ?_
    refine l_val rfl rfl rfl (r_move (v := .int .i64 t8) rfl) ?_
    obtain ⟨t14, h_t14, H9⟩ := bnd_some H8; clear H8
    refine l_val rfl rfl rfl (r_subG rfl rfl h_t14) ?_
    refine l_val rfl rfl rfl (r_assign (v := .int .i64 t14) rfl) ?_
    refine l_nil ?_
    refine c_seq ?_
    refine c_region ?_
    refine l_val rfl rfl rfl (r_move (v := .int .i64 t14) rfl) ?_
    refine l_val rfl rfl rfl (r_assign (v := .int .i64 t14) rfl) ?_
    refine l_nil ?_
    refine c_ret ?_
    obtain rfl := Option.some.inj H9
    refine ret1 (v := .int .i64 t14) rfl rfl (fin rfl)
  · have H10 := cnd_f hb H7; clear H7
    refine c_skip ?_
    refine c_seq ?_
    refine c_region ?_
    refine l_val rfl rfl rfl (r_move (v := .int .i64 t8) rfl) ?_
    refine l_val rfl rfl rfl (r_assign (v := .int .i64 t8) rfl) ?_
    refine l_nil ?_
    refine c_ret ?_
    obtain rfl := Option.some.inj H10
    refine ret1 (v := .int .i64 t8) rfl rfl (fin rfl)
theorem k130 {a0 : Int} {r : Int} (H : where_wrap a0 = some r) : Ret Try.prog 130 [.int .i64 a0] (.int .i64 r) := by
  refine enterRet (n := 6) Try.func130 rfl rfl rfl (fun wd => ?_)
  refine c_seq ?_
  refine c_region ?_
  refine l_val rfl rfl rfl (r_assign (v := .int .i64 0) rfl) ?_
  refine l_nil ?_
  refine c_seq ?_
  refine c_region ?_
  refine l_val rfl rfl rfl (r_move (v := .int .i64 a0) rfl) ?_
  obtain ⟨t4, h_t4, H3⟩ := bnd_some H; clear H
  refine l_call (k131 h_t4) Try.call131 rfl rfl rfl ?_
  obtain ⟨t5, h_t5, H4⟩ := bnd_some H3; clear H3
  refine l_val rfl rfl rfl (r_subG rfl rfl h_t5) ?_
  refine l_val rfl rfl rfl (r_assign (v := .int .i64 t5) rfl) ?_
  refine l_nil ?_
  refine c_ret ?_
  obtain rfl := Option.some.inj H4
  refine ret1 (v := .int .i64 t5) rfl rfl (fin rfl)
theorem k107 {a0 : T_api_Place} {a1 : T_api_Place} {a2 : Int} {a3 : Int} {r : T_api_Place} (H : where_between a0 a1 a2 a3 = some r) : Ret Try.prog 107 [.agg #[.int .i64 a0.Lat, .int .i64 a0.Lon], .agg #[.int .i64 a1.Lat, .int .i64 a1.Lon], .int .i64 a2, .int .i64 a3] (.agg #[.int .i64 r.Lat, .int .i64 r.Lon]) := by
  refine enterRet (n := 35) Try.func107 rfl rfl rfl (fun wd => ?_)
  refine c_seq ?_
  refine c_region ?_
  refine l_box (cs := [.int .i64 a0.Lat, .int .i64 a0.Lon]) rfl rfl rfl rfl (fun b3 => ?_)
  refine l_box (cs := [.int .i64 a1.Lat, .int .i64 a1.Lon]) rfl rfl rfl rfl (fun b4 => ?_)
  refine l_alloc (cs := [.int .i64 0, .int .i64 0]) Try.zeroValue71 rfl rfl rfl (fun b5 => ?_)
  refine l_nil ?_
  refine c_seq ?_
  exact c_regionD (Kd.p :: Kd.d [0] _ :: Kd.p :: Kd.d [1] _ :: Kd.p :: Kd.d [0] _ :: Kd.p :: Kd.p :: Kd.p :: Kd.p :: Kd.d [] _ :: Kd.p :: Kd.p :: Kd.d [0] _ :: Kd.p :: Kd.d [0] _ :: Kd.p :: Kd.d [1] _ :: Kd.d [] _ :: Kd.p :: Kd.p :: Kd.p :: Kd.d [] _ :: Kd.p :: Kd.d [] _ :: Kd.p :: Kd.st 8 2 [_, _] 71 :: []) 0 mixed (by
    refine d_val rfl rfl (r_field Try.runUnderlying71 rfl Try.sizeOf3 rfl rfl) ?_
    refine d_load1 (i := 0) (v := .int .i64 a0.Lat) Try.isAgg3 rfl rfl rfl rfl ?_
    refine d_val rfl rfl (r_field Try.runUnderlying71 rfl Try.sizeOf3 rfl rfl) ?_
    refine d_load1 (i := 1) (v := .int .i64 a1.Lat) Try.isAgg3 rfl rfl rfl rfl ?_
    refine d_val rfl rfl (r_field Try.runUnderlying71 rfl Try.sizeOf3 rfl rfl) ?_
    refine d_load1 (i := 0) (v := .int .i64 a0.Lat) Try.isAgg3 rfl rfl rfl rfl ?_
    have h_t15 := bnd_val H
    have H10 := bnd_rest H
    refine d_val rfl rfl (r_subG rfl rfl h_t15) ?_
    refine d_val rfl rfl (r_move (v := .int .i64 a2) rfl) ?_
    have h_t17 := bnd_val H10
    have H11 := bnd_rest H10
    refine d_val rfl rfl (r_mulG rfl rfl h_t17) ?_
    refine d_val rfl rfl (r_move (v := .int .i64 a3) rfl) ?_
    have h_t19 := bnd_val H11
    have H12 := bnd_rest H11
    refine d_call (k112 h_t19) Try.call112 rfl rfl ?_
    have h_t20 := bnd_val H12
    have H13 := bnd_rest H12
    refine d_val rfl rfl (r_addG rfl rfl h_t20) ?_
    refine d_val rfl rfl (r_field Try.runUnderlying71 rfl Try.sizeOf3 rfl rfl) ?_
    refine d_load1 (i := 0) (v := .int .i64 a0.Lon) Try.isAgg3 rfl rfl rfl rfl ?_
    refine d_val rfl rfl (r_field Try.runUnderlying71 rfl Try.sizeOf3 rfl rfl) ?_
    refine d_load1 (i := 0) (v := .int .i64 a0.Lon) Try.isAgg3 rfl rfl rfl rfl ?_
    refine d_val rfl rfl (r_field Try.runUnderlying71 rfl Try.sizeOf3 rfl rfl) ?_
    refine d_load1 (i := 1) (v := .int .i64 a1.Lon) Try.isAgg3 rfl rfl rfl rfl ?_
    have h_t27 := bnd_val H13
    have H14 := bnd_rest H13
    refine d_call (k110 h_t27) Try.call110 rfl rfl ?_
    refine d_val rfl rfl (r_move (v := .int .i64 a2) rfl) ?_
    have h_t29 := bnd_val H14
    have H15 := bnd_rest H14
    refine d_val rfl rfl (r_mulG rfl rfl h_t29) ?_
    refine d_val rfl rfl (r_move (v := .int .i64 a3) rfl) ?_
    have h_t31 := bnd_val H15
    have H16 := bnd_rest H15
    refine d_call (k112 h_t31) Try.call112 rfl rfl ?_
    have h_t32 := bnd_val H16
    have H17 := bnd_rest H16
    refine d_val rfl rfl (r_addG rfl rfl h_t32) ?_
    have h_t33 := bnd_val H17
    have H18 := bnd_rest H17
    refine d_call (k130 h_t33) Try.call130 rfl rfl ?_
    refine d_val rfl rfl (r_build (pl := #[(0, 1), (1, 1)]) (ps := [(0, .int .i64 (val (gI (a0.Lat + (val (where_floor (val (gI ((val (gI (a1.Lat - a0.Lat))) * a2))) a3)))))), (1, .int .i64 (val (where_wrap (val (gI (a0.Lon + (val (where_floor (val (gI ((val (where_short a0.Lon a1.Lon)) * a2))) a3))))))))]) (cells := #[.int .i64 (val (gI (a0.Lat + (val (where_floor (val (gI ((val (gI (a1.Lat - a0.Lat))) * a2))) a3))))), .int .i64 (val (where_wrap (val (gI (a0.Lon + (val (where_floor (val (gI ((val (where_short a0.Lon a1.Lon)) * a2))) a3)))))))]) Try.zeroValue71 Try.runUnderlying71 (fun w => by kernel_rfl) rfl rfl) ?_
    refine d_store (i := 2) (vs := [.int .i64 (val (gI (a0.Lat + (val (where_floor (val (gI ((val (gI (a1.Lat - a0.Lat))) * a2))) a3))))), .int .i64 (val (where_wrap (val (gI (a0.Lon + (val (where_floor (val (gI ((val (where_short a0.Lon a1.Lon)) * a2))) a3)))))))]) (cs' := [.int .i64 (val (gI (a0.Lat + (val (where_floor (val (gI ((val (gI (a1.Lat - a0.Lat))) * a2))) a3))))), .int .i64 (val (where_wrap (val (gI (a0.Lon + (val (where_floor (val (gI ((val (where_short a0.Lon a1.Lon)) * a2))) a3)))))))]) Try.sizeOf71 rfl rfl rfl rfl rfl rfl rfl rfl rfl ?_
    refine d_nil ?_
    refine c_ret ?_
    obtain rfl := Option.some.inj H18
    refine retC (i := 2) (vs := [.int .i64 (val (gI (a0.Lat + (val (where_floor (val (gI ((val (gI (a1.Lat - a0.Lat))) * a2))) a3))))), .int .i64 (val (where_wrap (val (gI (a0.Lon + (val (where_floor (val (gI ((val (where_short a0.Lon a1.Lon)) * a2))) a3)))))))]) Try.isAgg71 Try.sizeOf71 rfl rfl rfl rfl (fin rfl)
    ) (by kernel_rfl)
theorem k65 {a0 : (List T_where_Fix)} {v0 : Value} {a1 : Int} {a2 : Int} {r : T_api_Place × Bool} {w : World} {h : Heap} (hw : Know h w noS) (f0 : FrS h 3 v0 (a0.map e_where_Fix)) (H : where_at a0 a1 a2 = some r) : Does Try.prog 65 (List.toArray [v0, .int .i64 a1, .int .i64 a2]) w (fun v w' => v = (.tuple #[.agg #[.int .i64 r.1.Lat, .int .i64 r.1.Lon], .bool r.2]) ∧ Grow w w') := by
  refine enter (n := 129) Try.func65 rfl rfl rfl noS [] (Sat.nil _ _) ?_
  refine c_seq ?_
  refine c_region ?_
  refine l_box (cs := [v0]) rfl rfl rfl f0.cells (fun b3 => ?_)
  refine l_box (cs := [.int .i64 a1]) rfl rfl rfl rfl (fun b4 => ?_)
  refine l_alloc (cs := [.int .i64 0, .int .i64 0]) Try.zeroValue71 rfl rfl rfl (fun b5 => ?_)
  refine l_val rfl rfl rfl (r_assign (v := .bool false) rfl) ?_
  refine l_nil ?_
  refine c_seq ?_
  refine c_region ?_
  refine l_load1 (i := 0) (v := v0) Try.isAgg60 rfl rfl rfl rfl rfl ?_
  refine l_val rfl rfl rfl (r_lenF Try.underlying60 rfl f0 rfl) ?_
  refine l_val rfl rfl rfl (r_makeFn (caps := #[.pointer (some ⟨b3, 0, none⟩), .pointer (some ⟨b4, 0, none⟩)]) rfl) ?_
  obtain ⟨t14, h_t14, H50⟩ := bnd_some H; clear H
  refine l_callG (fun w hF hS => k105 (know_all w) (FnH.mk ⟨106, #[], #[.pointer (some ⟨b3, 0, none⟩), .pointer (some ⟨b4, 0, none⟩)], rfl, Try.call106, fun args2 post2 w2 hk2 hR2 => by obtain ⟨a0_, r_, rfl, H_, rfl⟩ := hR2; exact k106 (know_all w2) ((f0.mono (hw.now hF)).mono hk2.up) (hk2.up _ _ (sat_cell (i := 0) hS rfl)) (hk2.up _ _ (sat_cell (i := 1) hS rfl)) H_⟩) h_t14) Try.call105 rfl rfl rfl ?_
  refine l_val rfl rfl rfl (r_assign (v := .int .i64 t14) rfl) ?_
  refine l_nil ?_
  refine c_meet (r := r) (σ := Unit) (τ := Unit) (fun s => where_at_j1 a0 a1 a2 t14) (fun s t => [(2, .int .i64 a2), (3, .pointer (some ⟨b3, 0, none⟩)), (4, .pointer (some ⟨b4, 0, none⟩)), (6, .pointer (some ⟨b5, 0, none⟩)), (8, .int .i64 t14)]) (fun s t => [cellsC b3 [v0] 60, cellsC b4 [.int .i64 a1] 3, cellsC b5 [.int .i64 0, .int .i64 0] 71]) (fun s t => True) ?_ ?_
  · refine c_seq ?_
    exact c_regionD (Kd.p :: Kd.d [0] _ :: Kd.p :: Kd.p :: Kd.p :: Kd.d [0] _ :: Kd.p :: Kd.p :: Kd.p :: Kd.d [] _ :: Kd.d [1] _ :: Kd.p :: Kd.p :: []) 0 mixed (by
      refine d_val rfl rfl (r_move (v := .int .i64 t14) rfl) ?_
      refine d_load1 (i := 0) (v := v0) Try.isAgg60 rfl rfl rfl rfl ?_
      refine d_val rfl rfl (r_lenF Try.underlying60 rfl f0 rfl) ?_
      refine d_val rfl rfl (r_lss rfl rfl) ?_
      refine d_val rfl rfl (r_move (v := .bool (decide (t14 < (a0.length : Int)))) rfl) ?_
      refine splitS (fun hb => ?_) (fun hb => ?_)
      · have H93 := cnd_t hb H50
        refine d_load1 (i := 0) (v := v0) Try.isAgg60 rfl rfl rfl rfl ?_
        refine d_val rfl rfl (r_move (v := .int .i64 t14) rfl) ?_
        have h_t22 := bnd_val H93
        have H94 := bnd_rest H93
        refine d_val rfl rfl (r_indexF Try.underlying60 Try.sizeOf108 rfl rfl f0 h_t22) ?_
        refine d_val rfl rfl (r_fieldP Try.runUnderlying108 rfl Try.sizeOf3 rfl rfl (some_of_at f0 h_t22)) ?_
        refine d_read (fun w hF => run_loadG1 (f := e_where_Fix) (i := t14) (sz := 3) (j := 0) (v := .int .i64 (val (gAt a0 t14)).Moment) Try.isAgg3 rfl rfl (f0.row (hw.now hF)) h_t22 rfl) rfl rfl ?_
        refine d_load1 (i := 1) (v := .int .i64 a1) Try.isAgg3 rfl rfl rfl rfl ?_
        refine d_val rfl rfl (r_eql rfl rfl) ?_
        refine d_val rfl rfl (r_pickT (v := .bool (decide ((val (gAt a0 t14)).Moment = a1))) rfl rfl) ?_
        refine d_nil ?_
        refine c_if (b := (decide ((val (gAt a0 t14)).Moment = a1))) rfl (fun hb => ?_) (fun hb => ?_)
        · have H95 := cnd_t hb H94; clear H94
          refine c_seq ?_
          refine c_region ?_
          refine l_load1 (i := 0) (v := v0) Try.isAgg60 rfl rfl rfl rfl rfl ?_
          refine l_val rfl rfl rfl (r_move (v := .int .i64 t14) rfl) ?_
          obtain ⟨t30, h_t30, H96⟩ := bnd_some H95; clear H95
          refine l_val rfl rfl rfl (r_indexF Try.underlying60 Try.sizeOf108 rfl rfl f0 h_t30) ?_
          refine l_val rfl rfl rfl (r_fieldP Try.runUnderlying108 rfl Try.sizeOf71 rfl rfl (some_of_at f0 h_t30)) ?_
          refine l_read (fun w hF hS => run_loadGN (f := e_where_Fix) (i := t14) (sz := 3) (j := 1) (vs := [.int .i64 t30.Place.Lat, .int .i64 t30.Place.Lon]) Try.isAgg71 Try.sizeOf71 rfl rfl (f0.row (hw.now hF)) h_t30 rfl) rfl rfl rfl ?_
          refine l_store (i := 2) (vs := [.int .i64 t30.Place.Lat, .int .i64 t30.Place.Lon]) (cs' := [.int .i64 t30.Place.Lat, .int .i64 t30.Place.Lon]) Try.sizeOf71 rfl rfl rfl rfl rfl rfl rfl rfl rfl ?_
          refine l_val rfl rfl rfl (r_assign (v := .bool true) rfl) ?_
          refine l_nil ?_
          refine c_ret ?_
          obtain rfl := Option.some.inj H96
          refine retCt (i := 2) (vs := [.int .i64 t30.Place.Lat, .int .i64 t30.Place.Lon]) (v2 := .bool true) Try.isAgg71 Try.sizeOf71 rfl rfl rfl rfl rfl (fin rfl)
        · have H97 := cnd_f hb H94; clear H94
          refine c_skip ?_
          refine c_close () () 0 [0, 1, 2] (by exact ⟨rfl, rfl, rfl, rfl, rfl, trivial⟩) (by decide) rfl (by exact ⟨H97, trivial⟩) (Nat.lt_succ_self _)
      · have H98 := cnd_f hb H50
        refine d_pass rfl rfl ?_
        refine d_pass rfl rfl ?_
        refine d_pass rfl rfl ?_
        refine d_pass rfl rfl ?_
        refine d_pass rfl rfl ?_
        refine d_pass rfl rfl ?_
        refine d_pass rfl rfl ?_
        refine d_val rfl rfl (r_pickF (v := .bool false) rfl rfl) ?_
        refine d_nil ?_
        refine c_false rfl ?_
        refine c_skip ?_
        refine c_close () () 0 [0, 1, 2] (by exact ⟨rfl, rfl, rfl, rfl, rfl, trivial⟩) (by decide) rfl (by exact ⟨H98, trivial⟩) (Nat.lt_succ_self _)
      ) (by kernel_rfl)
  · rintro _ _ gg H51 _
    replace H51 : where_at_j1 a0 a1 a2 t14 = some r := H51
    refine c_tidyF [(2, .int .i64 a2), (3, .pointer (some ⟨b3, 0, none⟩)), (4, .pointer (some ⟨b4, 0, none⟩)), (6, .pointer (some ⟨b5, 0, none⟩)), (8, .int .i64 t14)] [cellsC b3 [v0] 60, cellsC b4 [.int .i64 a1] 3, cellsC b5 [.int .i64 0, .int .i64 0] 71] rfl rfl ?_
    refine c_seq ?_
    refine c_region ?_
    refine l_val rfl rfl rfl (r_move (v := .int .i64 a2) rfl) ?_
    refine l_val rfl rfl rfl (r_move (v := .int .i64 a2) rfl) ?_
    refine l_val rfl rfl rfl (r_assign (v := .int .i64 a2) rfl) ?_
    refine l_val rfl rfl rfl (r_assign (v := .int .i64 a2) rfl) ?_
    refine l_nil ?_
    refine c_meet (r := r) (σ := Int) (τ := Unit) (fun s => where_at_j2 a0 a1 a2 t14 s) (fun s t => [(2, .int .i64 a2), (3, .pointer (some ⟨b3, 0, none⟩)), (4, .pointer (some ⟨b4, 0, none⟩)), (6, .pointer (some ⟨b5, 0, none⟩)), (8, .int .i64 t14), (9, .int .i64 s), (10, .int .i64 a2)]) (fun s t => [cellsC b3 [v0] 60, cellsC b4 [.int .i64 a1] 3, cellsC b5 [.int .i64 0, .int .i64 0] 71]) (fun s t => True) ?_ ?_
    · refine c_seq ?_
      refine c_region ?_
      refine l_val rfl rfl rfl (r_move (v := .int .i64 t14) rfl) ?_
      refine l_val rfl rfl rfl (r_gtr rfl rfl) ?_
      refine l_nil ?_
      refine c_if (b := (decide (0 < t14))) rfl (fun hb => ?_) (fun hb => ?_)
      · have H88 := cnd_t hb H51; clear H51
        exact c_regionD (Kd.d [1] _ :: Kd.d [0] _ :: Kd.p :: Kd.p :: Kd.p :: Kd.p :: Kd.d [] _ :: Kd.p :: Kd.p :: []) 0 mixed (by
          refine d_load1 (i := 1) (v := .int .i64 a1) Try.isAgg3 rfl rfl rfl rfl ?_
          refine d_load1 (i := 0) (v := v0) Try.isAgg60 rfl rfl rfl rfl ?_
          refine d_val rfl rfl (r_move (v := .int .i64 t14) rfl) ?_
          have h_t40 := bnd_val H88
          have H89 := bnd_rest H88
          refine d_val rfl rfl (r_subG rfl rfl h_t40) ?_
          have h_t41 := bnd_val H89
          have H90 := bnd_rest H89
          refine d_val rfl rfl (r_indexF Try.underlying60 Try.sizeOf108 rfl rfl f0 h_t41) ?_
          refine d_val rfl rfl (r_fieldP Try.runUnderlying108 rfl Try.sizeOf3 rfl rfl (some_of_at f0 h_t41)) ?_
          refine d_read (fun w hF => run_loadG1 (f := e_where_Fix) (i := (val (gI (t14 - 1)))) (sz := 3) (j := 0) (v := .int .i64 (val (gAt a0 (val (gI (t14 - 1))))).Moment) Try.isAgg3 rfl rfl (f0.row (hw.now hF)) h_t41 rfl) rfl rfl ?_
          have h_t44 := bnd_val H90
          have H91 := bnd_rest H90
          refine d_val rfl rfl (r_subG rfl rfl h_t44) ?_
          refine d_val rfl rfl (r_assign (v := .int .i64 (val (gI (a1 - (val (gAt a0 (val (gI (t14 - 1))))).Moment)))) rfl) ?_
          refine d_nil ?_
          refine c_close (val (gI (a1 - (val (gAt a0 (val (gI (t14 - 1))))).Moment))) () 0 [0, 1, 2] (by exact ⟨rfl, rfl, rfl, rfl, rfl, rfl, rfl, trivial⟩) (by decide) rfl (by exact ⟨H91, trivial⟩) (Nat.lt_succ_self _)
          ) (by kernel_rfl)
      · have H92 := cnd_f hb H51; clear H51
        refine c_skip ?_
        refine c_close a2 () 0 [0, 1, 2] (by exact ⟨rfl, rfl, rfl, rfl, rfl, rfl, rfl, trivial⟩) (by decide) rfl (by exact ⟨H92, trivial⟩) (Nat.lt_succ_self _)
    · rintro x9 _ gg H52 _
      replace H52 : where_at_j2 a0 a1 a2 t14 x9 = some r := H52
      refine c_tidyF [(2, .int .i64 a2), (3, .pointer (some ⟨b3, 0, none⟩)), (4, .pointer (some ⟨b4, 0, none⟩)), (6, .pointer (some ⟨b5, 0, none⟩)), (8, .int .i64 t14), (9, .int .i64 x9), (10, .int .i64 a2)] [cellsC b3 [v0] 60, cellsC b4 [.int .i64 a1] 3, cellsC b5 [.int .i64 0, .int .i64 0] 71] rfl rfl ?_
      refine c_meet (r := r) (σ := Int) (τ := Unit) (fun s => where_at_j3 a0 a2 t14 x9 s) (fun s t => [(2, .int .i64 a2), (3, .pointer (some ⟨b3, 0, none⟩)), (6, .pointer (some ⟨b5, 0, none⟩)), (8, .int .i64 t14), (9, .int .i64 x9), (10, .int .i64 s)]) (fun s t => [cellsC b3 [v0] 60, cellsC b5 [.int .i64 0, .int .i64 0] 71]) (fun s t => True) ?_ ?_
      · refine c_seq ?_
        refine c_region ?_
        refine l_val rfl rfl rfl (r_move (v := .int .i64 t14) rfl) ?_
        refine l_load1 (i := 0) (v := v0) Try.isAgg60 rfl rfl rfl rfl rfl ?_
        refine l_val rfl rfl rfl (r_lenF Try.underlying60 rfl f0 rfl) ?_
        refine l_val rfl rfl rfl (r_lss rfl rfl) ?_
        refine l_nil ?_
        refine c_if (b := (decide (t14 < (a0.length : Int)))) rfl (fun hb => ?_) (fun hb => ?_)
        · have H84 := cnd_t hb H52; clear H52
          exact c_regionD (Kd.d [0] _ :: Kd.p :: Kd.p :: Kd.p :: Kd.d [] _ :: Kd.d [1] _ :: Kd.p :: Kd.p :: []) 0 mixed (by
            refine d_load1 (i := 0) (v := v0) Try.isAgg60 rfl rfl rfl rfl ?_
            refine d_val rfl rfl (r_move (v := .int .i64 t14) rfl) ?_
            have h_t51 := bnd_val H84
            have H85 := bnd_rest H84
            refine d_val rfl rfl (r_indexF Try.underlying60 Try.sizeOf108 rfl rfl f0 h_t51) ?_
            refine d_val rfl rfl (r_fieldP Try.runUnderlying108 rfl Try.sizeOf3 rfl rfl (some_of_at f0 h_t51)) ?_
            refine d_read (fun w hF => run_loadG1 (f := e_where_Fix) (i := t14) (sz := 3) (j := 0) (v := .int .i64 (val (gAt a0 t14)).Moment) Try.isAgg3 rfl rfl (f0.row (hw.now hF)) h_t51 rfl) rfl rfl ?_
            refine d_load1 (i := 1) (v := .int .i64 a1) Try.isAgg3 rfl rfl rfl rfl ?_
            have h_t55 := bnd_val H85
            have H86 := bnd_rest H85
            refine d_val rfl rfl (r_subG rfl rfl h_t55) ?_
            refine d_val rfl rfl (r_assign (v := .int .i64 (val (gI ((val (gAt a0 t14)).Moment - a1)))) rfl) ?_
            refine d_nil ?_
            refine c_close (val (gI ((val (gAt a0 t14)).Moment - a1))) () 0 [0, 2] (by exact ⟨rfl, rfl, rfl, rfl, rfl, rfl, trivial⟩) (by decide) rfl (by exact ⟨H86, trivial⟩) (Nat.lt_succ_self _)
            ) (by kernel_rfl)
        · have H87 := cnd_f hb H52; clear H52
          refine c_skip ?_
          refine c_close a2 () 0 [0, 2] (by exact ⟨rfl, rfl, rfl, rfl, rfl, rfl, trivial⟩) (by decide) rfl (by exact ⟨H87, trivial⟩) (Nat.lt_succ_self _)
      · rintro x10 _ gg H53 _
        replace H53 : where_at_j3 a0 a2 t14 x9 x10 = some r := H53
        refine c_tidyF [(2, .int .i64 a2), (3, .pointer (some ⟨b3, 0, none⟩)), (6, .pointer (some ⟨b5, 0, none⟩)), (8, .int .i64 t14), (9, .int .i64 x9), (10, .int .i64 x10)] [cellsC b3 [v0] 60, cellsC b5 [.int .i64 0, .int .i64 0] 71] rfl rfl ?_
        refine c_meet (r := r) (σ := Unit) (τ := Unit) (fun s => where_at_j4) (fun s t => [(6, .pointer (some ⟨b5, 0, none⟩))]) (fun s t => [cellsC b5 [.int .i64 0, .int .i64 0] 71]) (fun s t => True) ?_ ?_
        · refine c_block ?_
          refine c_meet (r := r) (σ := Bool) (τ := Unit) (fun s => where_at_j5 a0 a2 t14 x9 x10 s) (fun s t => [(2, .int .i64 a2), (3, .pointer (some ⟨b3, 0, none⟩)), (6, .pointer (some ⟨b5, 0, none⟩)), (8, .int .i64 t14), (9, .int .i64 x9), (10, .int .i64 x10), (56, .bool s)]) (fun s t => [cellsC b3 [v0] 60, cellsC b5 [.int .i64 0, .int .i64 0] 71]) (fun s t => True) ?_ ?_
          · refine c_region ?_
            refine l_val rfl rfl rfl (r_move (v := .int .i64 t14) rfl) ?_
            refine l_val rfl rfl rfl (r_gtr rfl rfl) ?_
            refine l_val rfl rfl rfl (r_move (v := .bool (decide (0 < t14))) rfl) ?_
            refine split (fun hb => ?_) (fun hb => ?_)
            · have H79 := cnd_t hb H53; clear H53
              refine l_val rfl rfl rfl (r_move (v := .int .i64 t14) rfl) ?_
              refine l_load1 (i := 0) (v := v0) Try.isAgg60 rfl rfl rfl rfl rfl ?_
              refine l_val rfl rfl rfl (r_lenF Try.underlying60 rfl f0 rfl) ?_
              refine l_val rfl rfl rfl (r_lss rfl rfl) ?_
              refine l_val rfl rfl rfl (r_pickT (v := .bool (decide (t14 < (a0.length : Int)))) rfl rfl) ?_
              refine l_val rfl rfl rfl (r_move (v := .bool (decide (t14 < (a0.length : Int)))) rfl) ?_
              refine split (fun hb => ?_) (fun hb => ?_)
              · have H80 := cnd_t hb H79; clear H79
                refine l_val rfl rfl rfl (r_move (v := .int .i64 x9) rfl) ?_
                refine l_val rfl rfl rfl (r_move (v := .int .i64 x10) rfl) ?_
                obtain ⟨t68, h_t68, H81⟩ := bnd_some H80; clear H80
                refine l_val rfl rfl rfl (r_addG rfl rfl h_t68) ?_
                refine l_val rfl rfl rfl (r_move (v := .int .i64 a2) rfl) ?_
                refine l_val rfl rfl rfl (r_leq rfl rfl) ?_
                refine l_val rfl rfl rfl (r_pickT (v := .bool (decide (t68 ≤ a2))) rfl rfl) ?_
                refine l_val rfl rfl rfl (r_assign (v := .bool (decide (t68 ≤ a2))) rfl) ?_
                refine l_nil ?_
                refine c_close (decide (t68 ≤ a2)) () 0 [0, 1] (by exact ⟨rfl, rfl, rfl, rfl, rfl, rfl, rfl, trivial⟩) (by decide) rfl (by exact ⟨H81, trivial⟩) (Nat.lt_succ_self _)
              · have H82 := cnd_f hb H79; clear H79
                refine l_passed rfl rfl rfl ?_
                refine l_passed rfl rfl rfl ?_
                refine l_passed rfl rfl rfl ?_
                refine l_passed rfl rfl rfl ?_
                refine l_passed rfl rfl rfl ?_
                refine l_val rfl rfl rfl (r_pickF (v := .bool false) rfl rfl) ?_
                refine l_val rfl rfl rfl (r_assign (v := .bool false) rfl) ?_
                refine l_nil ?_
                refine c_close false () 0 [0, 1] (by exact ⟨rfl, rfl, rfl, rfl, rfl, rfl, rfl, trivial⟩) (by decide) rfl (by exact ⟨H82, trivial⟩) (Nat.lt_succ_self _)
            · have H83 := cnd_f hb H53; clear H53
              refine l_passed rfl rfl rfl ?_
              refine l_passed rfl rfl rfl ?_
              refine l_passed rfl rfl rfl ?_
              refine l_passed rfl rfl rfl ?_
              refine l_val rfl rfl rfl (r_pickF (v := .bool false) rfl rfl) ?_
              refine l_val rfl rfl rfl (r_move (v := .bool false) rfl) ?_
              refine l_passed rfl rfl rfl ?_
              refine l_passed rfl rfl rfl ?_
              refine l_passed rfl rfl rfl ?_
              refine l_passed rfl rfl rfl ?_
              refine l_passed rfl rfl rfl ?_
              refine l_val rfl rfl rfl (r_pickF (v := .bool false) rfl rfl) ?_
              refine l_val rfl rfl rfl (r_assign (v := .bool false) rfl) ?_
              refine l_nil ?_
              refine c_close false () 0 [0, 1] (by exact ⟨rfl, rfl, rfl, rfl, rfl, rfl, rfl, trivial⟩) (by decide) rfl (by exact ⟨H83, trivial⟩) (Nat.lt_succ_self _)
          · rintro x56 _ gg H55 _
            replace H55 : where_at_j5 a0 a2 t14 x9 x10 x56 = some r := H55
            refine c_tidyF [(2, .int .i64 a2), (3, .pointer (some ⟨b3, 0, none⟩)), (6, .pointer (some ⟨b5, 0, none⟩)), (8, .int .i64 t14), (9, .int .i64 x9), (10, .int .i64 x10), (56, .bool x56)] [cellsC b3 [v0] 60, cellsC b5 [.int .i64 0, .int .i64 0] 71] rfl rfl ?_
            refine c_if (b := x56) rfl (fun hb => ?_) (fun hb => ?_)
            · have H56 := cnd_t hb H55; clear H55
              refine c_seq ?_
              exact c_regionD (Kd.d [0] _ :: Kd.p :: Kd.p :: Kd.p :: Kd.p :: Kd.d [] _ :: Kd.d [0] _ :: Kd.p :: Kd.p :: Kd.p :: Kd.d [] _ :: Kd.p :: Kd.p :: Kd.p :: Kd.p :: Kd.d [] _ :: Kd.st 6 1 [_, _] 71 :: Kd.p :: []) 0 mixed (by
                refine d_load1 (i := 0) (v := v0) Try.isAgg60 rfl rfl rfl rfl ?_
                refine d_val rfl rfl (r_move (v := .int .i64 t14) rfl) ?_
                have h_t74 := bnd_val H56
                have H57 := bnd_rest H56
                refine d_val rfl rfl (r_subG rfl rfl h_t74) ?_
                have h_t75 := bnd_val H57
                have H58 := bnd_rest H57
                refine d_val rfl rfl (r_indexF Try.underlying60 Try.sizeOf108 rfl rfl f0 h_t75) ?_
                refine d_val rfl rfl (r_fieldP Try.runUnderlying108 rfl Try.sizeOf71 rfl rfl (some_of_at f0 h_t75)) ?_
                refine d_read (fun w hF => run_loadGN (f := e_where_Fix) (i := (val (gI (t14 - 1)))) (sz := 3) (j := 1) (vs := [.int .i64 (val (gAt a0 (val (gI (t14 - 1))))).Place.Lat, .int .i64 (val (gAt a0 (val (gI (t14 - 1))))).Place.Lon]) Try.isAgg71 Try.sizeOf71 rfl rfl (f0.row (hw.now hF)) h_t75 rfl) rfl rfl ?_
                refine d_load1 (i := 0) (v := v0) Try.isAgg60 rfl rfl rfl rfl ?_
                refine d_val rfl rfl (r_move (v := .int .i64 t14) rfl) ?_
                have h_t80 := bnd_val H58
                have H59 := bnd_rest H58
                refine d_val rfl rfl (r_indexF Try.underlying60 Try.sizeOf108 rfl rfl f0 h_t80) ?_
                refine d_val rfl rfl (r_fieldP Try.runUnderlying108 rfl Try.sizeOf71 rfl rfl (some_of_at f0 h_t80)) ?_
                refine d_read (fun w hF => run_loadGN (f := e_where_Fix) (i := t14) (sz := 3) (j := 1) (vs := [.int .i64 (val (gAt a0 t14)).Place.Lat, .int .i64 (val (gAt a0 t14)).Place.Lon]) Try.isAgg71 Try.sizeOf71 rfl rfl (f0.row (hw.now hF)) h_t80 rfl) rfl rfl ?_
                refine d_val rfl rfl (r_move (v := .int .i64 x9) rfl) ?_
                refine d_val rfl rfl (r_move (v := .int .i64 x9) rfl) ?_
                refine d_val rfl rfl (r_move (v := .int .i64 x10) rfl) ?_
                have h_t86 := bnd_val H59
                have H60 := bnd_rest H59
                refine d_val rfl rfl (r_addG rfl rfl h_t86) ?_
                have h_t87 := bnd_val H60
                have H61 := bnd_rest H60
                refine d_call (k107 h_t87) Try.call107 rfl rfl ?_
                refine d_store (i := 1) (vs := [.int .i64 (val (where_between (val (gAt a0 (val (gI (t14 - 1))))).Place (val (gAt a0 t14)).Place x9 (val (gI (x9 + x10))))).Lat, .int .i64 (val (where_between (val (gAt a0 (val (gI (t14 - 1))))).Place (val (gAt a0 t14)).Place x9 (val (gI (x9 + x10))))).Lon]) (cs' := [.int .i64 (val (where_between (val (gAt a0 (val (gI (t14 - 1))))).Place (val (gAt a0 t14)).Place x9 (val (gI (x9 + x10))))).Lat, .int .i64 (val (where_between (val (gAt a0 (val (gI (t14 - 1))))).Place (val (gAt a0 t14)).Place x9 (val (gI (x9 + x10))))).Lon]) Try.sizeOf71 rfl rfl rfl rfl rfl rfl rfl rfl rfl ?_
                refine d_val rfl rfl (r_assign (v := .bool true) rfl) ?_
                refine d_nil ?_
                refine c_ret ?_
                obtain rfl := Option.some.inj H61
                refine retCt (i := 1) (vs := [.int .i64 (val (where_between (val (gAt a0 (val (gI (t14 - 1))))).Place (val (gAt a0 t14)).Place x9 (val (gI (x9 + x10))))).Lat, .int .i64 (val (where_between (val (gAt a0 (val (gI (t14 - 1))))).Place (val (gAt a0 t14)).Place x9 (val (gI (x9 + x10))))).Lon]) (v2 := .bool true) Try.isAgg71 Try.sizeOf71 rfl rfl rfl rfl rfl (fin rfl)
                ) (by kernel_rfl)
            · have H62 := cnd_f hb H55; clear H55
              refine c_meet (r := r) (σ := Bool) (τ := Unit) (fun s => where_at_j6 a0 a2 t14 x10 s) (fun s t => [(2, .int .i64 a2), (3, .pointer (some ⟨b3, 0, none⟩)), (6, .pointer (some ⟨b5, 0, none⟩)), (8, .int .i64 t14), (10, .int .i64 x10), (88, .bool s)]) (fun s t => [cellsC b3 [v0] 60, cellsC b5 [.int .i64 0, .int .i64 0] 71]) (fun s t => True) ?_ ?_
              · refine c_region ?_
                refine l_val rfl rfl rfl (r_move (v := .int .i64 t14) rfl) ?_
                refine l_val rfl rfl rfl (r_gtr rfl rfl) ?_
                refine l_val rfl rfl rfl (r_move (v := .bool (decide (0 < t14))) rfl) ?_
                refine split (fun hb => ?_) (fun hb => ?_)
                · have H73 := cnd_t hb H62; clear H62
                  refine l_val rfl rfl rfl (r_move (v := .int .i64 x9) rfl) ?_
                  refine l_val rfl rfl rfl (r_move (v := .int .i64 a2) rfl) ?_
                  refine l_val rfl rfl rfl (r_leq rfl rfl) ?_
                  refine l_val rfl rfl rfl (r_pickT (v := .bool (decide (x9 ≤ a2))) rfl rfl) ?_
                  refine l_val rfl rfl rfl (r_move (v := .bool (decide (x9 ≤ a2))) rfl) ?_
                  refine split (fun hb => ?_) (fun hb => ?_)
                  · have H74 := cnd_t hb H73; clear H73
                    refine l_val rfl rfl rfl (r_move (v := .int .i64 t14) rfl) ?_
                    refine l_load1 (i := 0) (v := v0) Try.isAgg60 rfl rfl rfl rfl rfl ?_
                    refine l_val rfl rfl rfl (r_lenF Try.underlying60 rfl f0 rfl) ?_
                    refine l_val rfl rfl rfl (r_eql rfl rfl) ?_
                    refine l_val rfl rfl rfl (r_move (v := .bool (decide (t14 = (a0.length : Int)))) rfl) ?_
                    refine split (fun hb => ?_) (fun hb => ?_)
                    · have H75 := cnd_t hb H74; clear H74
                      refine l_passed rfl rfl rfl ?_
                      refine l_passed rfl rfl rfl ?_
                      refine l_passed rfl rfl rfl ?_
                      refine l_val rfl rfl rfl (r_pickT (v := .bool true) rfl rfl) ?_
                      refine l_val rfl rfl rfl (r_pickT (v := .bool true) rfl rfl) ?_
                      refine l_val rfl rfl rfl (r_assign (v := .bool true) rfl) ?_
                      refine l_nil ?_
                      refine c_close true () 0 [0, 1] (by exact ⟨rfl, rfl, rfl, rfl, rfl, rfl, trivial⟩) (by decide) rfl (by exact ⟨H75, trivial⟩) (Nat.lt_succ_self _)
                    · have H76 := cnd_f hb H74; clear H74
                      refine l_val rfl rfl rfl (r_move (v := .int .i64 x9) rfl) ?_
                      refine l_val rfl rfl rfl (r_move (v := .int .i64 x10) rfl) ?_
                      refine l_val rfl rfl rfl (r_leq rfl rfl) ?_
                      refine l_val rfl rfl rfl (r_pickF (v := .bool (decide (x9 ≤ x10))) rfl rfl) ?_
                      refine l_val rfl rfl rfl (r_pickT (v := .bool (decide (x9 ≤ x10))) rfl rfl) ?_
                      refine l_val rfl rfl rfl (r_assign (v := .bool (decide (x9 ≤ x10))) rfl) ?_
                      refine l_nil ?_
                      refine c_close (decide (x9 ≤ x10)) () 0 [0, 1] (by exact ⟨rfl, rfl, rfl, rfl, rfl, rfl, trivial⟩) (by decide) rfl (by exact ⟨H76, trivial⟩) (Nat.lt_succ_self _)
                  · have H77 := cnd_f hb H73; clear H73
                    refine l_passed rfl rfl rfl ?_
                    refine l_passed rfl rfl rfl ?_
                    refine l_passed rfl rfl rfl ?_
                    refine l_passed rfl rfl rfl ?_
                    refine l_passed rfl rfl rfl ?_
                    refine l_passed rfl rfl rfl ?_
                    refine l_passed rfl rfl rfl ?_
                    refine l_passed rfl rfl rfl ?_
                    refine l_passed rfl rfl rfl ?_
                    refine l_val rfl rfl rfl (r_pickF (v := .bool false) rfl rfl) ?_
                    refine l_val rfl rfl rfl (r_assign (v := .bool false) rfl) ?_
                    refine l_nil ?_
                    refine c_close false () 0 [0, 1] (by exact ⟨rfl, rfl, rfl, rfl, rfl, rfl, trivial⟩) (by decide) rfl (by exact ⟨H77, trivial⟩) (Nat.lt_succ_self _)
                · have H78 := cnd_f hb H62; clear H62
                  refine l_passed rfl rfl rfl ?_
                  refine l_passed rfl rfl rfl ?_
                  refine l_passed rfl rfl rfl ?_
                  refine l_val rfl rfl rfl (r_pickF (v := .bool false) rfl rfl) ?_
                  refine l_val rfl rfl rfl (r_move (v := .bool false) rfl) ?_
                  refine l_passed rfl rfl rfl ?_
                  refine l_passed rfl rfl rfl ?_
                  refine l_passed rfl rfl rfl ?_
                  refine l_passed rfl rfl rfl ?_
                  refine l_passed rfl rfl rfl ?_
                  refine l_passed rfl rfl rfl ?_
                  refine l_passed rfl rfl rfl ?_
                  refine l_passed rfl rfl rfl ?_
                  refine l_passed rfl rfl rfl ?_
                  refine l_val rfl rfl rfl (r_pickF (v := .bool false) rfl rfl) ?_
                  refine l_val rfl rfl rfl (r_assign (v := .bool false) rfl) ?_
                  refine l_nil ?_
                  refine c_close false () 0 [0, 1] (by exact ⟨rfl, rfl, rfl, rfl, rfl, rfl, trivial⟩) (by decide) rfl (by exact ⟨H78, trivial⟩) (Nat.lt_succ_self _)
              · rintro x88 _ gg H63 _
                replace H63 : where_at_j6 a0 a2 t14 x10 x88 = some r := H63
                refine c_tidyF [(2, .int .i64 a2), (3, .pointer (some ⟨b3, 0, none⟩)), (6, .pointer (some ⟨b5, 0, none⟩)), (8, .int .i64 t14), (10, .int .i64 x10), (88, .bool x88)] [cellsC b3 [v0] 60, cellsC b5 [.int .i64 0, .int .i64 0] 71] rfl rfl ?_
                refine c_if (b := x88) rfl (fun hb => ?_) (fun hb => ?_)
                · have H64 := cnd_t hb H63; clear H63
                  refine c_seq ?_
                  refine c_region ?_
                  refine l_load1 (i := 0) (v := v0) Try.isAgg60 rfl rfl rfl rfl rfl ?_
                  refine l_val rfl rfl rfl (r_move (v := .int .i64 t14) rfl) ?_
                  obtain ⟨t109, h_t109, H65⟩ := bnd_some H64; clear H64
                  refine l_val rfl rfl rfl (r_subG rfl rfl h_t109) ?_
                  obtain ⟨t110, h_t110, H66⟩ := bnd_some H65; clear H65
                  refine l_val rfl rfl rfl (r_indexF Try.underlying60 Try.sizeOf108 rfl rfl f0 h_t110) ?_
                  refine l_val rfl rfl rfl (r_fieldP Try.runUnderlying108 rfl Try.sizeOf71 rfl rfl (some_of_at f0 h_t110)) ?_
                  refine l_read (fun w hF hS => run_loadGN (f := e_where_Fix) (i := t109) (sz := 3) (j := 1) (vs := [.int .i64 t110.Place.Lat, .int .i64 t110.Place.Lon]) Try.isAgg71 Try.sizeOf71 rfl rfl (f0.row (hw.now hF)) h_t110 rfl) rfl rfl rfl ?_
                  refine l_store (i := 1) (vs := [.int .i64 t110.Place.Lat, .int .i64 t110.Place.Lon]) (cs' := [.int .i64 t110.Place.Lat, .int .i64 t110.Place.Lon]) Try.sizeOf71 rfl rfl rfl rfl rfl rfl rfl rfl rfl ?_
                  refine l_val rfl rfl rfl (r_assign (v := .bool true) rfl) ?_
                  refine l_nil ?_
                  refine c_ret ?_
                  obtain rfl := Option.some.inj H66
                  refine retCt (i := 1) (vs := [.int .i64 t110.Place.Lat, .int .i64 t110.Place.Lon]) (v2 := .bool true) Try.isAgg71 Try.sizeOf71 rfl rfl rfl rfl rfl (fin rfl)
                · have H67 := cnd_f hb H63; clear H63
                  refine c_seq ?_
                  refine c_region ?_
                  refine l_val rfl rfl rfl (r_move (v := .int .i64 t14) rfl) ?_
                  refine l_load1 (i := 0) (v := v0) Try.isAgg60 rfl rfl rfl rfl rfl ?_
                  refine l_val rfl rfl rfl (r_lenF Try.underlying60 rfl f0 rfl) ?_
                  refine l_val rfl rfl rfl (r_lss rfl rfl) ?_
                  refine l_val rfl rfl rfl (r_move (v := .bool (decide (t14 < (a0.length : Int)))) rfl) ?_
                  refine split (fun hb => ?_) (fun hb => ?_)
                  · have H68 := cnd_t hb H67; clear H67
                    refine l_val rfl rfl rfl (r_move (v := .int .i64 x10) rfl) ?_
                    refine l_val rfl rfl rfl (r_move (v := .int .i64 a2) rfl) ?_
                    refine l_val rfl rfl rfl (r_leq rfl rfl) ?_
                    refine l_val rfl rfl rfl (r_pickT (v := .bool (decide (x10 ≤ a2))) rfl rfl) ?_
                    refine l_val rfl rfl rfl (r_assign (v := .bool (decide (x10 ≤ a2))) rfl) ?_
                    refine l_nil ?_
                    refine c_if (b := (decide (x10 ≤ a2))) rfl (fun hb => ?_) (fun hb => ?_)
                    · have H69 := cnd_t hb H68; clear H68
                      refine c_seq ?_
                      refine c_region ?_
                      refine l_load1 (i := 0) (v := v0) Try.isAgg60 rfl rfl rfl rfl rfl ?_
                      refine l_val rfl rfl rfl (r_move (v := .int .i64 t14) rfl) ?_
                      obtain ⟨t125, h_t125, H70⟩ := bnd_some H69; clear H69
                      refine l_val rfl rfl rfl (r_indexF Try.underlying60 Try.sizeOf108 rfl rfl f0 h_t125) ?_
                      refine l_val rfl rfl rfl (r_fieldP Try.runUnderlying108 rfl Try.sizeOf71 rfl rfl (some_of_at f0 h_t125)) ?_
                      refine l_read (fun w hF hS => run_loadGN (f := e_where_Fix) (i := t14) (sz := 3) (j := 1) (vs := [.int .i64 t125.Place.Lat, .int .i64 t125.Place.Lon]) Try.isAgg71 Try.sizeOf71 rfl rfl (f0.row (hw.now hF)) h_t125 rfl) rfl rfl rfl ?_
                      refine l_store (i := 1) (vs := [.int .i64 t125.Place.Lat, .int .i64 t125.Place.Lon]) (cs' := [.int .i64 t125.Place.Lat, .int .i64 t125.Place.Lon]) Try.sizeOf71 rfl rfl rfl rfl rfl rfl rfl rfl rfl ?_
                      refine l_val rfl rfl rfl (r_assign (v := .bool true) rfl) ?_
                      refine l_nil ?_
                      refine c_ret ?_
                      obtain rfl := Option.some.inj H70
                      refine retCt (i := 1) (vs := [.int .i64 t125.Place.Lat, .int .i64 t125.Place.Lon]) (v2 := .bool true) Try.isAgg71 Try.sizeOf71 rfl rfl rfl rfl rfl (fin rfl)
                    · have H71 := cnd_f hb H68; clear H68
                      refine c_skip ?_
                      refine c_close () () 0 [1] (by exact ⟨rfl, trivial⟩) (by decide) rfl (by exact ⟨H71, trivial⟩) (Nat.lt_succ_self _)
                  · have H72 := cnd_f hb H67; clear H67
                    refine l_passed rfl rfl rfl ?_
                    refine l_passed rfl rfl rfl ?_
                    refine l_passed rfl rfl rfl ?_
                    refine l_val rfl rfl rfl (r_pickF (v := .bool false) rfl rfl) ?_
                    refine l_val rfl rfl rfl (r_assign (v := .bool false) rfl) ?_
                    refine l_nil ?_
                    refine c_false rfl ?_
                    refine c_skip ?_
                    refine c_close () () 0 [1] (by exact ⟨rfl, trivial⟩) (by decide) rfl (by exact ⟨H72, trivial⟩) (Nat.lt_succ_self _)
        · rintro _ _ gg H54 _
          replace H54 : where_at_j4 = some r := H54
          refine c_tidyF [(6, .pointer (some ⟨b5, 0, none⟩))] [cellsC b5 [.int .i64 0, .int .i64 0] 71] rfl rfl ?_
          refine c_seq ?_
          refine c_region ?_
          refine l_val rfl rfl rfl (r_build (pl := #[(0, 1), (1, 1)]) (ps := []) (cells := #[.int .i64 0, .int .i64 0]) Try.zeroValue71 Try.runUnderlying71 (fun w => by kernel_rfl) rfl rfl) ?_
          refine l_store (i := 0) (vs := [.int .i64 0, .int .i64 0]) (cs' := [.int .i64 0, .int .i64 0]) Try.sizeOf71 rfl rfl rfl rfl rfl rfl rfl rfl rfl ?_
          refine l_val rfl rfl rfl (r_assign (v := .bool false) rfl) ?_
          refine l_nil ?_
          refine c_ret ?_
          obtain rfl := Option.some.inj H54
          refine retCt (i := 0) (vs := [.int .i64 0, .int .i64 0]) (v2 := .bool false) Try.isAgg71 Try.sizeOf71 rfl rfl rfl rfl rfl (fin rfl)
theorem k66 {a : Option Addr} {n c : Nat} (hc : n ≤ c) : Ret Try.prog 66 [.slice a n c] (.slice (cutA a 0 n 13) n n) := by
  refine enterRet (n := 9) Try.func66 rfl rfl rfl (fun wd => ?_)
  refine c_seq ?_
  refine c_region ?_
  refine l_val rfl rfl rfl (r_assign (v := .slice none 0 0) rfl) ?_
  refine l_nil ?_
  refine c_seq ?_
  refine c_region ?_
  refine l_val rfl rfl rfl (r_move (v := .slice a n c) rfl) ?_
  refine l_val rfl rfl rfl (r_move (v := .slice a n c) rfl) ?_
  refine l_val rfl rfl rfl (r_len Try.underlying61 rfl) ?_
  refine l_val rfl rfl rfl (r_move (v := .slice a n c) rfl) ?_
  refine l_val rfl rfl rfl (r_len Try.underlying61 rfl) ?_
  refine l_val rfl rfl rfl (r_sliceHM (a := a) (m := n) (c := c) (h := (n : Int)) (q := (n : Int)) Try.underlying61 Try.sizeOf69 rfl rfl rfl (Int.natCast_nonneg n) (Int.le_refl _) (Int.ofNat_le.2 hc)) ?_
  refine l_val rfl rfl rfl (r_assign (v := .slice (cutA a 0 n 13) n n) rfl) ?_
  refine l_nil ?_
  refine c_ret ?_
  exact ret1 (v := .slice (cutA a 0 n 13) n n) rfl rfl (fin rfl)

theorem k30 {a0 : (List T_where_Fix)} {v0 : Value} {a1 : (List T_api_Photo)} {v1 : Value} {a2 : Int} {r : (List T_api_Photo) × Int} {w : World} {h : Heap} (hw : Know h w noS) (f0 : FrS h 3 v0 (a0.map e_where_Fix)) (f1 : FrN h 13 v1 g_api_Photo a1) (H : where_Placed a0 a1 a2 = some r) : Does Try.prog 30 (List.toArray [v0, v1, .int .i64 a2]) w (fun v w' => ∃ x : (Option Addr × Nat), v = (.tuple #[.slice x.1 r.1.length x.2, .int .i64 r.2]) ∧ Turn w w' noS (roD 13 g_api_Photo (.slice x.1 r.1.length x.2) r.1.length r.1)) := by
  refine enter (n := 60) Try.func30 rfl rfl rfl noS [] (Sat.nil _ _) ?_
  refine c_poolNew noH ?_
  refine c_seq ?_
  refine c_region ?_
  refine l_val rfl rfl rfl (r_assign (v := .slice none 0 0) rfl) ?_
  refine l_val rfl rfl rfl (r_assign (v := .int .i64 0) rfl) ?_
  refine l_nil ?_
  refine c_seq ?_
  refine c_seq ?_
  refine c_region ?_
  refine l_val rfl rfl rfl (r_move (v := v0) rfl) ?_
  obtain ⟨t15, h_t15, H49⟩ := bnd_some H; clear H
  refine l_callG (fun w hF hS => k62 (know_all w) (f0.mono (hw.now hF)) h_t15) Try.call62 rfl rfl rfl ?_
  refine l_val rfl rfl rfl (r_assign (v := .int .i64 t15) rfl) ?_
  refine l_nil ?_
  refine c_seq ?_
  refine c_region ?_
  refine l_val rfl rfl rfl (r_move (v := .int .i64 t15) rfl) ?_
  refine l_val rfl rfl rfl (r_neq rfl rfl) ?_
  refine l_nil ?_
  refine c_if (b := (decide (t15 ≠ 0))) rfl (fun hb => ?_) (fun hb => ?_)
  · have H50 := cnd_t hb H49; clear H49
    refine c_seq ?_
    refine c_region ?_
    refine l_val rfl rfl rfl (r_move (v := .int .i64 t15) rfl) ?_
    refine l_val rfl rfl rfl (r_assign (v := .slice none 0 0) rfl) ?_
    refine l_val rfl rfl rfl (r_assign (v := .int .i64 t15) rfl) ?_
    refine l_nil ?_
    refine c_ret ?_
    refine c_nilRow 69 13 ?_
    obtain rfl := Option.some.inj H50
    refine c_imp 1 rfl (row_ro _ _ _ _ _) ?_
    refine c_both 0 1 rfl rfl (by decide) ?_
    refine c_imp 0 rfl (imp_roD (p := ((none, 0) : Option Addr × Nat)) rfl (AllC.nil (G := g_api_Photo) (h := noH) (sz := 13))) ?_
    refine ret2 (v1 := .slice ((none, 0) : Option Addr × Nat).1 (([] : List (List Value)).length) ((none, 0) : Option Addr × Nat).2) (v2 := .int .i64 t15) rfl rfl rfl (finX ((none, 0) : Option Addr × Nat) (i := 0) rfl (by first | rfl | rw [(show (([] : List (List Value)).length) = ([] : List T_api_Photo).length from (AllC.nil (G := g_api_Photo) (h := noH) (sz := 13)).len)]) (by first | exact Imp.refl _ | exact Imp.of (by rw [(show (([] : List (List Value)).length) = ([] : List T_api_Photo).length from (AllC.nil (G := g_api_Photo) (h := noH) (sz := 13)).len)])))
  · have H51 := cnd_f hb H49; clear H49
    refine c_skip ?_
    refine c_seq ?_
    refine c_seq ?_
    refine c_region ?_
    refine l_val rfl rfl rfl (r_move (v := .int .i64 a2) rfl) ?_
    refine l_val rfl rfl rfl (r_lss rfl rfl) ?_
    refine l_nil ?_
    refine c_if (b := (decide (a2 < 0))) rfl (fun hb => ?_) (fun hb => ?_)
    · have H52 := cnd_t hb H51; clear H51
      refine c_seq ?_
      refine c_region ?_
      refine l_val rfl rfl rfl (r_assign (v := .slice none 0 0) rfl) ?_
      refine l_val rfl rfl rfl (r_assign (v := .int .i64 2) rfl) ?_
      refine l_nil ?_
      refine c_ret ?_
      refine c_nilRow 69 13 ?_
      obtain rfl := Option.some.inj H52
      refine c_imp 1 rfl (row_ro _ _ _ _ _) ?_
      refine c_both 0 1 rfl rfl (by decide) ?_
      refine c_imp 0 rfl (imp_roD (p := ((none, 0) : Option Addr × Nat)) rfl (AllC.nil (G := g_api_Photo) (h := noH) (sz := 13))) ?_
      refine ret2 (v1 := .slice ((none, 0) : Option Addr × Nat).1 (([] : List (List Value)).length) ((none, 0) : Option Addr × Nat).2) (v2 := .int .i64 2) rfl rfl rfl (finX ((none, 0) : Option Addr × Nat) (i := 0) rfl (by first | rfl | rw [(show (([] : List (List Value)).length) = ([] : List T_api_Photo).length from (AllC.nil (G := g_api_Photo) (h := noH) (sz := 13)).len)]) (by first | exact Imp.refl _ | exact Imp.of (by rw [(show (([] : List (List Value)).length) = ([] : List T_api_Photo).length from (AllC.nil (G := g_api_Photo) (h := noH) (sz := 13)).len)])))
    · have H53 := cnd_f hb H51; clear H51
      refine c_skip ?_
      refine c_seq ?_
      refine c_seq ?_
      refine c_region ?_
      refine l_val rfl rfl rfl (r_move (v := v1) rfl) ?_
      refine l_val rfl rfl rfl (r_lenFN Try.underlying61 rfl f1) ?_
      refine l_val rfl rfl rfl (r_gtr rfl rfl) ?_
      refine l_nil ?_
      refine c_if (b := (decide (1000 < (a1.length : Int)))) rfl (fun hb => ?_) (fun hb => ?_)
      · have H54 := cnd_t hb H53; clear H53
        refine c_seq ?_
        refine c_region ?_
        refine l_val rfl rfl rfl (r_assign (v := .slice none 0 0) rfl) ?_
        refine l_val rfl rfl rfl (r_assign (v := .int .i64 4) rfl) ?_
        refine l_nil ?_
        refine c_ret ?_
        refine c_nilRow 69 13 ?_
        obtain rfl := Option.some.inj H54
        refine c_imp 1 rfl (row_ro _ _ _ _ _) ?_
        refine c_both 0 1 rfl rfl (by decide) ?_
        refine c_imp 0 rfl (imp_roD (p := ((none, 0) : Option Addr × Nat)) rfl (AllC.nil (G := g_api_Photo) (h := noH) (sz := 13))) ?_
        refine ret2 (v1 := .slice ((none, 0) : Option Addr × Nat).1 (([] : List (List Value)).length) ((none, 0) : Option Addr × Nat).2) (v2 := .int .i64 4) rfl rfl rfl (finX ((none, 0) : Option Addr × Nat) (i := 0) rfl (by first | rfl | rw [(show (([] : List (List Value)).length) = ([] : List T_api_Photo).length from (AllC.nil (G := g_api_Photo) (h := noH) (sz := 13)).len)]) (by first | exact Imp.refl _ | exact Imp.of (by rw [(show (([] : List (List Value)).length) = ([] : List T_api_Photo).length from (AllC.nil (G := g_api_Photo) (h := noH) (sz := 13)).len)])))
      · have H55 := cnd_f hb H53; clear H53
        refine c_skip ?_
        refine c_seq ?_
        refine c_region ?_
        refine l_val rfl rfl rfl (r_assign (v := .slice none 0 0) rfl) ?_
        refine l_nil ?_
        refine c_meet (r := r) (σ := (List T_api_Photo)) (τ := Heap × (List (List Value)) × (Option Addr × Nat)) (fun s => where_Placed_j1 s) (fun s t => [(9, .slice t.2.2.1 t.2.1.length t.2.2.2)]) (fun s t => [poolC noH t.1, rowV 69 13 (.slice t.2.2.1 t.2.1.length t.2.2.2) t.2.1.length (t.2.1.map idC)]) (fun s t => AllC g_api_Photo t.1 13 t.2.1 s) ?_ ?_
        · refine c_seq ?_
          refine c_region ?_
          refine l_val rfl rfl rfl (r_move (v := v1) rfl) ?_
          refine l_val rfl rfl rfl (r_lenFN Try.underlying61 rfl f1) ?_
          refine l_val rfl rfl rfl (r_move (v := .int .i64 0) rfl) ?_
          refine l_nil ?_
          refine c_block ?_
          refine c_nilRow 69 13 ?_
          refine c_fix (σ := Int × Int × Int × (List T_api_Photo)) (τ := Heap × (List (List Value)) × (Option Addr × Nat)) (fun next2 s => where_Placed_l2 a0 a1 next2 s.1 s.2.1 s.2.2.1 s.2.2.2) (fun s t => [(0, v0), (2, .int .i64 s.1), (9, .slice t.2.2.1 t.2.1.length t.2.2.2), (24, v1), (25, .int .i64 s.2.1), (26, .int .i64 s.2.2.1)]) (fun s t => [poolC noH t.1, rowV 69 13 (.slice t.2.2.1 t.2.1.length t.2.2.2) t.2.1.length (t.2.1.map idC)]) (fun s t => AllC g_api_Photo t.1 13 t.2.1 s.2.2.2) (a2, (a1.length : Int), 0, ([] : List T_api_Photo)) (noH, ([] : List (List Value)), ((none, 0) : Option Addr × Nat)) [0, 1] H55 (by exact (AllC.nil (G := g_api_Photo) (h := noH) (sz := 13))) (by exact ⟨rfl, rfl, rfl, rfl, rfl, rfl, trivial⟩) (by decide) rfl ?_
          rintro ⟨x2_2, x25_2, x26_2, l_3⟩ ⟨hp_2, css_2, p_2⟩ m2 gg H57 pf_3
          clear H55
          replace H57 : where_Placed_l2 a0 a1 (it (fun next2 s => where_Placed_l2 a0 a1 next2 s.1 s.2.1 s.2.2.1 s.2.2.2) m2) x2_2 x25_2 x26_2 l_3 = some r := H57
          generalize hn2 : it (fun next2 s => where_Placed_l2 a0 a1 next2 s.1 s.2.1 s.2.2.1 s.2.2.2) m2 = next2 at H57
          refine c_tidyF [(0, v0), (2, .int .i64 x2_2), (9, .slice p_2.1 css_2.length p_2.2), (24, v1), (25, .int .i64 x25_2), (26, .int .i64 x26_2)] [poolC noH hp_2, rowV 69 13 (.slice p_2.1 css_2.length p_2.2) css_2.length (css_2.map idC)] rfl rfl ?_
          refine c_seq ?_
          refine c_region ?_
          refine l_val rfl rfl rfl (r_lss rfl rfl) ?_
          refine l_nil ?_
          refine c_seq ?_
          refine c_if (b := (decide (x26_2 < x25_2))) rfl (fun hb => ?_) (fun hb => ?_)
          · have H58 := cnd_t hb H57; clear H57
            refine c_skip ?_
            refine c_seq ?_
            refine c_block ?_
            refine c_seq ?_
            refine c_region ?_
            obtain ⟨t28, h_t28, H59⟩ := bnd_some H58; clear H58
            refine l_val rfl rfl rfl (r_indexF Try.underlying61 Try.sizeOf69 rfl rfl f1.frs (f1.ix h_t28)) ?_
            refine l_read (fun w hF hS => run_loadGN (f := (elC h v1 13)) (i := x26_2) (sz := 13) (j := 0) (vs := [.int .i64 t28.Id, str t28.File, .int .i64 t28.Moment, .int .i64 t28.Zone, (elH h v1 13 (Int.toNat x26_2) 4), .int .i64 t28.W, .int .i64 t28.H, .int .i64 t28.Turn, .int .i64 t28.Stars, (elH h v1 13 (Int.toNat x26_2) 9), str t28.Caption, (elH h v1 13 (Int.toNat x26_2) 11), .bool t28.Hidden]) Try.isAgg69 Try.sizeOf69 rfl rfl (f1.frs.row (hw.now hF)) (f1.ix h_t28) (rd_of (cg_api_Photo (f1.at h_t28)) rfl)) rfl rfl rfl ?_
            refine l_alloc (cs := [.int .i64 0, str [], .int .i64 0, .int .i64 0, .slice none 0 0, .int .i64 0, .int .i64 0, .int .i64 0, .int .i64 0, .slice none 0 0, str [], .slice none 0 0, .bool false]) Try.zeroValue69 rfl rfl rfl (fun b8 => ?_)
            refine l_store (i := 2) (vs := [.int .i64 t28.Id, str t28.File, .int .i64 t28.Moment, .int .i64 t28.Zone, (elH h v1 13 (Int.toNat x26_2) 4), .int .i64 t28.W, .int .i64 t28.H, .int .i64 t28.Turn, .int .i64 t28.Stars, (elH h v1 13 (Int.toNat x26_2) 9), str t28.Caption, (elH h v1 13 (Int.toNat x26_2) 11), .bool t28.Hidden]) (cs' := [.int .i64 t28.Id, str t28.File, .int .i64 t28.Moment, .int .i64 t28.Zone, (elH h v1 13 (Int.toNat x26_2) 4), .int .i64 t28.W, .int .i64 t28.H, .int .i64 t28.Turn, .int .i64 t28.Stars, (elH h v1 13 (Int.toNat x26_2) 9), str t28.Caption, (elH h v1 13 (Int.toNat x26_2) 11), .bool t28.Hidden]) Try.sizeOf69 rfl rfl rfl rfl rfl rfl (by simp only [List.all_cons, List.all_nil, (show FrS h 1 (elH h v1 13 (Int.toNat x26_2) 11) (t28.People.map e_i64) from (g_api_Photo_p11 (f1.at h_t28))).one, (show FrS h 1 (elH h v1 13 (Int.toNat x26_2) 9) (t28.Tags.map e_string) from (g_api_Photo_p9 (f1.at h_t28))).one, (show FrS h 2 (elH h v1 13 (Int.toNat x26_2) 4) (t28.Where.map e_api_Place) from (g_api_Photo_p4 (f1.at h_t28))).one] <;> rfl) rfl rfl ?_
            refine l_nil ?_
            refine c_seq ?_
            refine c_region ?_
            refine l_loadN (i := 2) (vs := [.int .i64 t28.Id, str t28.File, .int .i64 t28.Moment, .int .i64 t28.Zone, (elH h v1 13 (Int.toNat x26_2) 4), .int .i64 t28.W, .int .i64 t28.H, .int .i64 t28.Turn, .int .i64 t28.Stars, (elH h v1 13 (Int.toNat x26_2) 9), str t28.Caption, (elH h v1 13 (Int.toNat x26_2) 11), .bool t28.Hidden]) Try.isAgg69 Try.sizeOf69 rfl rfl rfl rfl rfl ?_
            obtain ⟨t31, h_t31, H60⟩ := bnd_some H59; clear H59
            refine l_make (makes_call (rds := []) (G := fun x : (Option Addr × Nat) × (Option Addr × Nat) × (Option Addr × Nat) => .agg #[.int .i64 t31.Id, str t31.File, .int .i64 t31.Moment, .int .i64 t31.Zone, .slice x.1.1 t31.Where.length x.1.2, .int .i64 t31.W, .int .i64 t31.H, .int .i64 t31.Turn, .int .i64 t31.Stars, .slice x.2.1.1 t31.Tags.length x.2.1.2, str t31.Caption, .slice x.2.2.1 t31.People.length x.2.2.2, .bool t31.Hidden]) (C := fun x : (Option Addr × Nat) × (Option Addr × Nat) × (Option Addr × Nat) => bothC (roV 2 (.slice x.1.1 t31.Where.length x.1.2) t31.Where.length (t31.Where.map e_api_Place)) (bothC (roV 1 (.slice x.2.1.1 t31.Tags.length x.2.1.2) t31.Tags.length (t31.Tags.map e_string)) (roV 1 (.slice x.2.2.1 t31.People.length x.2.2.2) t31.People.length (t31.People.map e_i64)))) (fun w L' hF hS hi => k63 (know_all w) ((show FrS h 2 (elH h v1 13 (Int.toNat x26_2) 4) (t28.Where.map e_api_Place) from (g_api_Photo_p4 (f1.at h_t28))).mono (hw.now hF)) ((show FrS h 1 (elH h v1 13 (Int.toNat x26_2) 9) (t28.Tags.map e_string) from (g_api_Photo_p9 (f1.at h_t28))).mono (hw.now hF)) ((show FrS h 1 (elH h v1 13 (Int.toNat x26_2) 11) (t28.People.map e_i64) from (g_api_Photo_p11 (f1.at h_t28))).mono (hw.now hF)) h_t31) Try.call63 rfl) rfl rfl rfl (fun ⟨p_3, p_4, p_5⟩ => ?_)
            refine c_split 3 rfl ?_
            refine c_split 4 rfl ?_
            refine l_store (i := 2) (vs := [.int .i64 t31.Id, str t31.File, .int .i64 t31.Moment, .int .i64 t31.Zone, .slice p_3.1 t31.Where.length p_3.2, .int .i64 t31.W, .int .i64 t31.H, .int .i64 t31.Turn, .int .i64 t31.Stars, .slice p_4.1 t31.Tags.length p_4.2, str t31.Caption, .slice p_5.1 t31.People.length p_5.2, .bool t31.Hidden]) (cs' := [.int .i64 t31.Id, str t31.File, .int .i64 t31.Moment, .int .i64 t31.Zone, .slice p_3.1 t31.Where.length p_3.2, .int .i64 t31.W, .int .i64 t31.H, .int .i64 t31.Turn, .int .i64 t31.Stars, .slice p_4.1 t31.Tags.length p_4.2, str t31.Caption, .slice p_5.1 t31.People.length p_5.2, .bool t31.Hidden]) Try.sizeOf69 rfl rfl rfl rfl rfl rfl rfl rfl rfl ?_
            refine l_nil ?_
            refine c_meet (r := r) (σ := (List T_api_Place)) (τ := (Option Addr × Nat)) (fun s => where_Placed_j3 x2_2 x25_2 x26_2 l_3 next2 t31 s) (fun s t => [(0, v0), (2, .int .i64 x2_2), (9, .slice p_2.1 css_2.length p_2.2), (11, .pointer (some ⟨b8, 0, none⟩)), (24, v1), (25, .int .i64 x25_2), (26, .int .i64 x26_2)]) (fun s t => [poolC noH hp_2, rowV 69 13 (.slice p_2.1 css_2.length p_2.2) css_2.length (css_2.map idC), cellsC b8 [.int .i64 t31.Id, str t31.File, .int .i64 t31.Moment, .int .i64 t31.Zone, .slice t.1 s.length t.2, .int .i64 t31.W, .int .i64 t31.H, .int .i64 t31.Turn, .int .i64 t31.Stars, .slice p_4.1 t31.Tags.length p_4.2, str t31.Caption, .slice p_5.1 t31.People.length p_5.2, .bool t31.Hidden] 69, roV 1 (.slice p_4.1 t31.Tags.length p_4.2) t31.Tags.length (t31.Tags.map e_string), roV 1 (.slice p_5.1 t31.People.length p_5.2) t31.People.length (t31.People.map e_i64), roV 2 (.slice t.1 s.length t.2) s.length (s.map e_api_Place)]) (fun s t => True) ?_ ?_
            · refine c_seq ?_
              refine c_region ?_
              refine l_val rfl rfl rfl (r_field Try.runUnderlying69 rfl Try.sizeOf3 rfl rfl) ?_
              refine l_load1 (i := 2) (v := .int .i64 t31.Moment) Try.isAgg3 rfl rfl rfl rfl rfl ?_
              obtain ⟨t34, h_t34, H64⟩ := bnd_some H60; clear H60
              refine l_call (k64 h_t34) Try.call64 rfl rfl rfl ?_
              refine l_val rfl rfl rfl (r_move (v := .bool t34) rfl) ?_
              refine split (fun hb => ?_) (fun hb => ?_)
              · have H65 := cnd_t hb H64; clear H64
                refine l_val rfl rfl rfl (r_field Try.runUnderlying69 rfl Try.sizeOf65 rfl rfl) ?_
                refine l_load1 (i := 2) (v := .slice p_3.1 t31.Where.length p_3.2) Try.isAgg65 rfl rfl rfl rfl rfl ?_
                refine l_val rfl rfl rfl (r_len Try.underlying65 rfl) ?_
                refine l_val rfl rfl rfl (r_eql rfl rfl) ?_
                refine l_val rfl rfl rfl (r_pickT (v := .bool (decide ((t31.Where.length : Int) = 0))) rfl rfl) ?_
                refine l_nil ?_
                refine c_if (b := (decide ((t31.Where.length : Int) = 0))) rfl (fun hb => ?_) (fun hb => ?_)
                · have H66 := cnd_t hb H65; clear H65
                  refine c_seq ?_
                  refine c_region ?_
                  refine l_val rfl rfl rfl (r_move (v := v0) rfl) ?_
                  refine l_val rfl rfl rfl (r_field Try.runUnderlying69 rfl Try.sizeOf3 rfl rfl) ?_
                  refine l_load1 (i := 2) (v := .int .i64 t31.Moment) Try.isAgg3 rfl rfl rfl rfl rfl ?_
                  refine l_val rfl rfl rfl (r_move (v := .int .i64 x2_2) rfl) ?_
                  obtain ⟨t46, h_t46, H67⟩ := bnd_some H66; clear H66
                  refine l_callG (fun w hF hS => k65 (know_all w) (f0.mono (hw.now hF)) h_t46) Try.call65 rfl rfl rfl ?_
                  refine l_val rfl rfl rfl (r_move (v := .tuple #[.agg #[.int .i64 t46.1.Lat, .int .i64 t46.1.Lon], .bool t46.2]) rfl) ?_
                  refine l_val rfl rfl rfl (r_extract (v := .agg #[.int .i64 t46.1.Lat, .int .i64 t46.1.Lon]) rfl rfl) ?_
                  refine l_val rfl rfl rfl (r_extract (v := .bool t46.2) rfl rfl) ?_
                  refine l_alloc (cs := [.int .i64 0, .int .i64 0]) Try.zeroValue71 rfl rfl rfl (fun b10 => ?_)
                  refine l_store (i := 6) (vs := [.int .i64 t46.1.Lat, .int .i64 t46.1.Lon]) (cs' := [.int .i64 t46.1.Lat, .int .i64 t46.1.Lon]) Try.sizeOf71 rfl rfl rfl rfl rfl rfl rfl rfl rfl ?_
                  refine l_val rfl rfl rfl (r_assign (v := .bool t46.2) rfl) ?_
                  refine l_nil ?_
                  refine c_seq ?_
                  refine c_region ?_
                  refine l_val rfl rfl rfl (r_move (v := .bool t46.2) rfl) ?_
                  refine l_nil ?_
                  refine c_if (b := t46.2) rfl (fun hb => ?_) (fun hb => ?_)
                  · have H68 := cnd_t hb H67; clear H67
                    refine c_region ?_
                    refine l_loadN (i := 6) (vs := [.int .i64 t46.1.Lat, .int .i64 t46.1.Lon]) Try.isAgg71 Try.sizeOf71 rfl rfl rfl rfl rfl ?_
                    refine l_buildSlice (vs := [.agg #[.int .i64 t46.1.Lat, .int .i64 t46.1.Lon]]) (cs := [.int .i64 t46.1.Lat, .int .i64 t46.1.Lon]) Try.underlying65 Try.sizeOf71 Try.zeroValue71 rfl rfl rfl rfl rfl rfl rfl (fun b11 => ?_)
                    refine l_val rfl rfl rfl (r_field Try.runUnderlying69 rfl Try.sizeOf65 rfl rfl) ?_
                    refine l_store (i := 2) (vs := [.slice (some ⟨b11, 0, none⟩) 1 1]) (cs' := [.int .i64 t31.Id, str t31.File, .int .i64 t31.Moment, .int .i64 t31.Zone, .slice (some ⟨b11, 0, none⟩) 1 1, .int .i64 t31.W, .int .i64 t31.H, .int .i64 t31.Turn, .int .i64 t31.Stars, .slice p_4.1 t31.Tags.length p_4.2, str t31.Caption, .slice p_5.1 t31.People.length p_5.2, .bool t31.Hidden]) Try.sizeOf65 rfl rfl rfl rfl rfl rfl rfl rfl rfl ?_
                    refine l_nil ?_
                    refine c_imp 7 rfl (imp_box (m := 1) (E := 71) (sz := 2) (xs := (([t46.1] : List T_api_Place)).map e_api_Place) rfl rfl rfl ⟨rfl, by decide⟩) ?_
                    refine c_imp 7 rfl (row_ro _ _ _ _ _) ?_
                    refine c_close ([t46.1] : List T_api_Place) ((some ⟨b11, 0, none⟩, 1) : Option Addr × Nat) 0 [0, 1, 2, 4, 5, 7] (by exact ⟨rfl, rfl, rfl, rfl, rfl, rfl, rfl, trivial⟩) (by decide) rfl (by exact ⟨H68, trivial⟩) (Nat.lt_succ_self _)
                  · have H69 := cnd_f hb H67; clear H67
                    refine c_skip ?_
                    refine c_close t31.Where p_3 0 [0, 1, 2, 4, 5, 3] (by exact ⟨rfl, rfl, rfl, rfl, rfl, rfl, rfl, trivial⟩) (by decide) rfl (by exact ⟨H69, trivial⟩) (Nat.lt_succ_self _)
                · have H70 := cnd_f hb H65; clear H65
                  refine c_skip ?_
                  refine c_close t31.Where p_3 0 [0, 1, 2, 4, 5, 3] (by exact ⟨rfl, rfl, rfl, rfl, rfl, rfl, rfl, trivial⟩) (by decide) rfl (by exact ⟨H70, trivial⟩) (Nat.lt_succ_self _)
              · have H71 := cnd_f hb H64; clear H64
                refine l_passed rfl rfl rfl ?_
                refine l_passed rfl rfl rfl ?_
                refine l_passed rfl rfl rfl ?_
                refine l_passed rfl rfl rfl ?_
                refine l_val rfl rfl rfl (r_pickF (v := .bool false) rfl rfl) ?_
                refine l_nil ?_
                refine c_false rfl ?_
                refine c_skip ?_
                refine c_close t31.Where p_3 0 [0, 1, 2, 4, 5, 3] (by exact ⟨rfl, rfl, rfl, rfl, rfl, rfl, rfl, trivial⟩) (by decide) rfl (by exact ⟨H71, trivial⟩) (Nat.lt_succ_self _)
            · rintro l_4 p_6 gg H61 _
              replace H61 : where_Placed_j3 x2_2 x25_2 x26_2 l_3 next2 t31 l_4 = some r := H61
              refine c_tidyF [(0, v0), (2, .int .i64 x2_2), (9, .slice p_2.1 css_2.length p_2.2), (11, .pointer (some ⟨b8, 0, none⟩)), (24, v1), (25, .int .i64 x25_2), (26, .int .i64 x26_2)] [poolC noH hp_2, rowV 69 13 (.slice p_2.1 css_2.length p_2.2) css_2.length (css_2.map idC), cellsC b8 [.int .i64 t31.Id, str t31.File, .int .i64 t31.Moment, .int .i64 t31.Zone, .slice p_6.1 l_4.length p_6.2, .int .i64 t31.W, .int .i64 t31.H, .int .i64 t31.Turn, .int .i64 t31.Stars, .slice p_4.1 t31.Tags.length p_4.2, str t31.Caption, .slice p_5.1 t31.People.length p_5.2, .bool t31.Hidden] 69, roV 1 (.slice p_4.1 t31.Tags.length p_4.2) t31.Tags.length (t31.Tags.map e_string), roV 1 (.slice p_5.1 t31.People.length p_5.2) t31.People.length (t31.People.map e_i64), roV 2 (.slice p_6.1 l_4.length p_6.2) l_4.length (l_4.map e_api_Place)] rfl rfl ?_
              refine c_region ?_
              refine l_val rfl rfl rfl (r_move (v := .slice p_2.1 css_2.length p_2.2) rfl) ?_
              refine l_loadN (i := 2) (vs := [.int .i64 t31.Id, str t31.File, .int .i64 t31.Moment, .int .i64 t31.Zone, .slice p_6.1 l_4.length p_6.2, .int .i64 t31.W, .int .i64 t31.H, .int .i64 t31.Turn, .int .i64 t31.Stars, .slice p_4.1 t31.Tags.length p_4.2, str t31.Caption, .slice p_5.1 t31.People.length p_5.2, .bool t31.Hidden]) Try.isAgg69 Try.sizeOf69 rfl rfl rfl rfl rfl ?_
              refine l_buildSlice (vs := [.agg #[.int .i64 t31.Id, str t31.File, .int .i64 t31.Moment, .int .i64 t31.Zone, .slice p_6.1 l_4.length p_6.2, .int .i64 t31.W, .int .i64 t31.H, .int .i64 t31.Turn, .int .i64 t31.Stars, .slice p_4.1 t31.Tags.length p_4.2, str t31.Caption, .slice p_5.1 t31.People.length p_5.2, .bool t31.Hidden]]) (cs := [.int .i64 t31.Id, str t31.File, .int .i64 t31.Moment, .int .i64 t31.Zone, .slice p_6.1 l_4.length p_6.2, .int .i64 t31.W, .int .i64 t31.H, .int .i64 t31.Turn, .int .i64 t31.Stars, .slice p_4.1 t31.Tags.length p_4.2, str t31.Caption, .slice p_5.1 t31.People.length p_5.2, .bool t31.Hidden]) Try.underlying61 Try.sizeOf69 Try.zeroValue69 rfl rfl rfl rfl rfl rfl rfl (fun b9 => ?_)
              refine c_freeze (Φ := fun H_ => FrS H_ 2 (.slice p_6.1 l_4.length p_6.2) (l_4.map e_api_Place)) 0 5 rfl rfl (by decide) (fun _ _ => noH_le) (fz_ro _) (fun hp_3 hle hf => ?_)
              refine c_freeze (Φ := fun H_ => FrS H_ 1 (.slice p_4.1 t31.Tags.length p_4.2) (t31.Tags.map e_string)) 0 3 rfl rfl (by decide) (fun _ _ => noH_le) (fz_ro _) (fun hp_4 hle_2 hf_2 => ?_)
              refine c_freeze (Φ := fun H_ => FrS H_ 1 (.slice p_5.1 t31.People.length p_5.2) (t31.People.map e_i64)) 0 4 rfl rfl (by decide) (fun _ _ => noH_le) (fz_ro _) (fun hp_5 hle_3 hf_3 => ?_)
              obtain ⟨l56, h_l56, H62⟩ := bnd_some H61; clear H61
              refine l_turn (turns_appendM (i := 1) (k := 6) (p := p_2) (f := idC) (ys := css_2) (ls := [[.int .i64 t31.Id, str t31.File, .int .i64 t31.Moment, .int .i64 t31.Zone, .slice p_6.1 l_4.length p_6.2, .int .i64 t31.W, .int .i64 t31.H, .int .i64 t31.Turn, .int .i64 t31.Stars, .slice p_4.1 t31.Tags.length p_4.2, str t31.Caption, .slice p_5.1 t31.People.length p_5.2, .bool t31.Hidden]]) Try.underlying61 (info_of Try.typeInfo69) rfl rfl rfl rfl rfl rfl rfl rfl rfl rfl rfl rfl rfl rfl (by simp only [idC, List.map_cons, List.map_nil, List.all_cons, List.all_nil, ((hf.mono hle_2).mono hle_3).one, (hf_2.mono hle_3).one, hf_3.one] <;> rfl) (app63 ((((pf_3.mono hle).mono hle_2).mono hle_3).app h_l56 (nc := [[.int .i64 t31.Id, str t31.File, .int .i64 t31.Moment, .int .i64 t31.Zone, .slice p_6.1 l_4.length p_6.2, .int .i64 t31.W, .int .i64 t31.H, .int .i64 t31.Turn, .int .i64 t31.Stars, .slice p_4.1 t31.Tags.length p_4.2, str t31.Caption, .slice p_5.1 t31.People.length p_5.2, .bool t31.Hidden]]) rfl)) rfl) rfl rfl rfl (fun p_7 => ?_)
              have pf_4 : AllC g_api_Photo hp_5 13 (css_2 ++ [[.int .i64 t31.Id, str t31.File, .int .i64 t31.Moment, .int .i64 t31.Zone, .slice p_6.1 l_4.length p_6.2, .int .i64 t31.W, .int .i64 t31.H, .int .i64 t31.Turn, .int .i64 t31.Stars, .slice p_4.1 t31.Tags.length p_4.2, str t31.Caption, .slice p_5.1 t31.People.length p_5.2, .bool t31.Hidden]]) l56 := AllC.snocG (((pf_3.mono hle).mono hle_2).mono hle_3) h_l56 rfl (⟨rfl, rfl, rfl, rfl, ((hf.mono hle_2).mono hle_3), rfl, rfl, rfl, rfl, (hf_2.mono hle_3), rfl, hf_3, rfl⟩)
              refine l_val rfl rfl rfl (r_assign (v := .slice p_7.1 ((css_2 ++ [[.int .i64 t31.Id, str t31.File, .int .i64 t31.Moment, .int .i64 t31.Zone, .slice p_6.1 l_4.length p_6.2, .int .i64 t31.W, .int .i64 t31.H, .int .i64 t31.Turn, .int .i64 t31.Stars, .slice p_4.1 t31.Tags.length p_4.2, str t31.Caption, .slice p_5.1 t31.People.length p_5.2, .bool t31.Hidden]]).length) p_7.2) rfl) ?_
              refine l_nil ?_
              refine c_region ?_
              obtain ⟨t57, h_t57, H63⟩ := bnd_some H62; clear H62
              refine l_val rfl rfl rfl (r_addG rfl rfl h_t57) ?_
              refine l_val rfl rfl rfl (r_move (v := .int .i64 t57) rfl) ?_
              refine l_nil ?_
              refine c_close (x2_2, x25_2, t57, l56) (hp_5, (css_2 ++ [[.int .i64 t31.Id, str t31.File, .int .i64 t31.Moment, .int .i64 t31.Zone, .slice p_6.1 l_4.length p_6.2, .int .i64 t31.W, .int .i64 t31.H, .int .i64 t31.Turn, .int .i64 t31.Stars, .slice p_4.1 t31.Tags.length p_4.2, str t31.Caption, .slice p_5.1 t31.People.length p_5.2, .bool t31.Hidden]]), p_7) m2 [0, 1] (by exact ⟨rfl, rfl, rfl, rfl, rfl, rfl, trivial⟩) (by decide) rfl (by exact ⟨(by subst hn2; exact H63), pf_4⟩) (Nat.lt_succ_self _)
          · have H72 := cnd_f hb H57; clear H57
            refine c_exit ?_
            refine c_close l_3 (hp_2, css_2, p_2) 0 [0, 1] (by exact ⟨rfl, trivial⟩) (by decide) rfl (by exact ⟨H72, pf_3⟩) (Nat.lt_succ_self _)
        · rintro l ⟨hp, css, p⟩ gg H56 pf
          replace H56 : where_Placed_j1 l = some r := H56
          refine c_tidyF [(9, .slice p.1 css.length p.2)] [poolC noH hp, rowV 69 13 (.slice p.1 css.length p.2) css.length (css.map idC)] rfl rfl ?_
          refine c_seq ?_
          refine c_region ?_
          refine l_val rfl rfl rfl (r_move (v := .slice p.1 css.length p.2) rfl) ?_
          refine l_callG (fun w hF hS => k66 (capOf (i := 1) hS rfl) w) Try.call66 rfl rfl rfl ?_
          refine l_val rfl rfl rfl (r_assign (v := .slice (cutA p.1 0 css.length 13) css.length css.length) rfl) ?_
          refine l_val rfl rfl rfl (r_assign (v := .int .i64 0) rfl) ?_
          refine l_nil ?_
          refine c_ret ?_
          obtain rfl := Option.some.inj H56
          refine c_imp 1 rfl (imp_clipO _ _ _ _ _ _) ?_
          refine c_both 0 1 rfl rfl (by decide) ?_
          refine c_imp 0 rfl (imp_roD (p := (cutA p.1 0 css.length 13, css.length)) rfl pf) ?_
          refine ret2 (v1 := .slice (cutA p.1 0 css.length 13) css.length css.length) (v2 := .int .i64 0) rfl rfl rfl (finX (cutA p.1 0 css.length 13, css.length) (i := 0) rfl (by first | rfl | rw [(show css.length = l.length from pf.len)]) (by first | exact Imp.refl _ | exact Imp.of (by rw [(show css.length = l.length from pf.len)])))
end Go.Proofs.Ytinpjnlocahjjaa
