/- EditTidiesSame, tones: the walks, printed by our generator; each follows its model. Conditions: the model yields a value. -/
import Derived.Test.YtilhbkglchppjaaDoorMTs
import Derived.Test.YtilhbkglchppjaaDoorProg
import Derived.Test.YtilhbkglchppjaaDoorLx15
import Derived.Test.YtilhbkglchppjaaDoorSrt
import Derived.Test.YtilhbkglchppjaaDoorLx17
import Derived.Test.YtilhbkglchppjaaDoorLx18
import Derived.Test.YtilhbkglchppjaaDoorLx19
namespace Go.Proofs.YtilhbkglchppjaaDoor
open Go Go.Vc Go.Md Go.M Go.Lx
set_option maxRecDepth 100000
set_option maxHeartbeats 4000000
set_option linter.unusedVariables false

theorem mixed : Tryd.prog.follows .mixedOrders = true := by kernel_rfl

abbrev e_i64 (x : Int) : List Value := [.int .i64 x]
abbrev e_edit_Step (x : T_edit_Step) : List Value := [.int .i64 x.Kind, .int .i64 x.A, .int .i64 x.B, .int .i64 x.C, .int .i64 x.D]
abbrev e_u8 (x : Int) : List Value := [.int .u8 x]
def fnR_func_int_int_int_int_int_int (m : (Int → Int → Int → Int → Option (Int × Int))) (w : World) (args : List Value) (post : Value → World → Prop) : Prop :=
  ∃ (a0 : Int) (a1 : Int) (a2 : Int) (a3 : Int) (r : Int × Int), args = [.int .i64 a0, .int .i64 a1, .int .i64 a2, .int .i64 a3] ∧ m a0 a1 a2 a3 = some r ∧ post = fun v' w' => v' = (.tuple #[.int .i64 r.1, .int .i64 r.2]) ∧ Grow w w'
abbrev e_pix_share (x : T_pix_share) : List Value := [.int .i64 x.at_, .int .i64 x.parts_]
def fnR_func_uint8_uint8 (m : (Int → Option (Int))) (w : World) (args : List Value) (post : Value → World → Prop) : Prop :=
  ∃ (a0 : Int) (r : Int), args = [.int .u8 a0] ∧ m a0 = some r ∧ post = fun v' w' => v' = (.int .u8 r) ∧ Grow w w'
def fnR_func_3_uint8_3_uint8 (m : ((Nat → Int) → Option ((Nat → Int)))) (w : World) (args : List Value) (post : Value → World → Prop) : Prop :=
  ∃ (a0 : (Nat → Int)) (r : (Nat → Int)), args = [.agg #[.int .u8 (a0 0), .int .u8 (a0 1), .int .u8 (a0 2)]] ∧ m a0 = some r ∧ post = fun v' w' => v' = (.agg #[.int .u8 (r 0), .int .u8 (r 1), .int .u8 (r 2)]) ∧ Grow w w'
abbrev vft174 : Nat → Value
  | 0 => .func (.func 125) #[] #[]
  | 1 => .func (.func 126) #[] #[]
  | 2 => .func (.func 127) #[] #[]
  | 3 => .func (.func 128) #[] #[]
  | 4 => .func (.func 129) #[] #[]
  | 5 => .func (.func 130) #[] #[]
  | _ => .nilFunc
abbrev e_ft174 (x : Nat) : List Value := [vft174 x]
def fnR_edit_rule (m : ((List T_edit_Step) → Int → Int → Int → Option ((List T_edit_Step) × Bool))) (w : World) (args : List Value) (post : Value → World → Prop) : Prop :=
  ∃ (a0 : (List T_edit_Step)) (v0 : Value) (a1 : Int) (a2 : Int) (a3 : Int) (r : (List T_edit_Step) × Bool), FrS (fun b => w.heap[b]?) 5 v0 (a0.map e_edit_Step) ∧ args = [v0, .int .i64 a1, .int .i64 a2, .int .i64 a3] ∧ m a0 a1 a2 a3 = some r ∧ post = fun v' w' => ∃ x : (Option Addr × Nat), v' = (.tuple #[.slice x.1 r.1.length x.2, .bool r.2]) ∧ Turn w w' noS (rowV 35 5 (.slice x.1 r.1.length x.2) r.1.length (r.1.map e_edit_Step))
def fnR_func_edit_Step_bool (m : (T_edit_Step → Option (Bool))) (w : World) (args : List Value) (post : Value → World → Prop) : Prop :=
  ∃ (a0 : T_edit_Step) (r : Bool), args = [.agg #[.int .i64 a0.Kind, .int .i64 a0.A, .int .i64 a0.B, .int .i64 a0.C, .int .i64 a0.D]] ∧ m a0 = some r ∧ post = fun v' w' => v' = (.bool r) ∧ Grow w w'

def gs_edit_Step (h : Heap) (c : Nat → Value) (x : (List T_edit_Step)) : Prop := FrS h 5 (c 0) (x.map e_edit_Step)
instance : Mon gs_edit_Step := ⟨fun k _ _ f => FrS.mono f k⟩
theorem cgs_edit_Step {h : Heap} {c : Nat → Value} {x : (List T_edit_Step)} (_ : gs_edit_Step h c x) : (List.range 1).map c = [c 0] := rfl

theorem run_eqT35 (d : Nat) (w : World) (a0 b0 : Int) (a1 b1 : Int) (a2 b2 : Int) (a3 b3 : Int) (a4 b4 : Int) : (Op.equalIn (d + 2) 35 (.agg #[.int .i64 a0, .int .i64 a1, .int .i64 a2, .int .i64 a3, .int .i64 a4]) (.agg #[.int .i64 b0, .int .i64 b1, .int .i64 b2, .int .i64 b3, .int .i64 b4])).run Tryd.prog w = .ok (decide (a0 = b0 ∧ a1 = b1 ∧ a2 = b2 ∧ a3 = b3 ∧ a4 = b4)) w := by
  rw [run_equalIn_struct w (d + 1) 35 _ _ (by simp only [Program.fieldsOf, Tryd.underlying35]) Tryd.stoodInHeld35]
  simp only [Program.fieldsOf, Tryd.underlying35, Op.eqFields]
  simp [part, run_equalIn_int, run_equalIn_strL, run_equalIn_bool', Tryd.underlying3]
  repeat' split
  all_goals simp_all

theorem run_eq_edit_Step (w : World) (x y : T_edit_Step) : (Op.equalIn Op.maxDepth 35 (.agg #[.int .i64 x.Kind, .int .i64 x.A, .int .i64 x.B, .int .i64 x.C, .int .i64 x.D]) (.agg #[.int .i64 y.Kind, .int .i64 y.A, .int .i64 y.B, .int .i64 y.C, .int .i64 y.D])).run Tryd.prog w = .ok (eq_edit_Step x y) w :=
  run_eqT35 9998 w _ _ _ _ _ _ _ _ _ _

theorem run_eq_edit_curve (w : World) (x y : (Nat → Int)) : (Op.equalIn Op.maxDepth 239 (.agg (arrC 256 fun j_ => [.int .u8 (x j_)]).toArray) (.agg (arrC 256 fun j_ => [.int .u8 (y j_)]).toArray)).run Tryd.prog w = .ok (eq_edit_curve x y) w :=
  run_eqIntsC (dp := 9998) (len := 256) (k := .u8) (k' := .u8) x y Tryd.underlying239 Tryd.underlying5 Tryd.isAgg5 Tryd.sizeOf5 w

theorem k198 {a0 : Int} {r : Int} (H : edit_clamp a0 = some r) : Ret Tryd.prog 198 [.int .i64 a0] (.int .u8 r) := by
  refine enterRet (n := 7) Tryd.func198 rfl rfl rfl (fun wd => ?_)
  refine c_seq ?_
  refine c_region ?_
  refine l_val rfl rfl rfl (r_assign (v := .int .u8 0) rfl) ?_
  refine l_nil ?_
  refine c_seq ?_
  refine c_region ?_
  refine l_val rfl rfl rfl (r_move (v := .int .i64 a0) rfl) ?_
  refine l_val rfl rfl rfl (r_max rfl rfl) ?_
  refine l_val rfl rfl rfl (r_min rfl rfl) ?_
  refine l_val rfl rfl rfl (r_convG Tryd.runUnderlying3 Tryd.runUnderlying5 rfl (wr_u8 _)) ?_
  refine l_val rfl rfl rfl (r_assign (v := .int .u8 (wU8 (min (max a0 0) 255))) rfl) ?_
  refine l_nil ?_
  refine c_ret ?_
  obtain rfl := Option.some.inj H
  refine ret1 (v := .int .u8 (wU8 (min (max a0 0) 255))) rfl rfl (fin rfl)
theorem k164 {a0 : T_edit_Step} {a1 : (Nat → Int)} {r : (Nat → Int)} (H : edit_Step_warm a0 a1 = some r) : Ret Tryd.prog 164 [.agg #[.int .i64 a0.Kind, .int .i64 a0.A, .int .i64 a0.B, .int .i64 a0.C, .int .i64 a0.D], .agg #[.int .u8 (a1 0), .int .u8 (a1 1), .int .u8 (a1 2)]] (.agg #[.int .u8 (r 0), .int .u8 (r 1), .int .u8 (r 2)]) := by
  refine enterRet (n := 22) Tryd.func164 rfl rfl rfl (fun wd => ?_)
  refine c_seq ?_
  refine c_region ?_
  refine l_box (cs := [.int .i64 a0.Kind, .int .i64 a0.A, .int .i64 a0.B, .int .i64 a0.C, .int .i64 a0.D]) rfl rfl rfl rfl (fun b3 => ?_)
  refine l_box (cs := [.int .u8 (a1 0), .int .u8 (a1 1), .int .u8 (a1 2)]) rfl rfl rfl rfl (fun b4 => ?_)
  refine l_alloc (cs := [.int .u8 0, .int .u8 0, .int .u8 0]) Tryd.zeroValue166 rfl rfl rfl (fun b5 => ?_)
  refine l_nil ?_
  refine c_seq ?_
  exact c_regionD (Kd.p :: Kd.d [1] _ :: Kd.p :: Kd.p :: Kd.d [0] _ :: Kd.p :: Kd.d [] _ :: Kd.p :: Kd.d [1] _ :: Kd.p :: Kd.d [1] _ :: Kd.p :: Kd.p :: Kd.d [0] _ :: Kd.p :: Kd.d [] _ :: Kd.p :: Kd.st 4 2 [_, _, _] 166 :: []) 0 mixed (by
    refine d_val rfl rfl (r_indexPA Tryd.runUnderlying166 Tryd.sizeOf5 rfl rfl (by decide) (by decide)) ?_
    refine d_load1 (i := 1) (v := .int .u8 (a1 0)) Tryd.isAgg5 rfl rfl rfl rfl ?_
    have h_t7 := bnd_val H
    have H7 := bnd_rest H
    refine d_val rfl rfl (r_convG Tryd.runUnderlying5 Tryd.runUnderlying3 rfl (gK_i64 h_t7)) ?_
    refine d_val rfl rfl (r_field Tryd.runUnderlying35 rfl Tryd.sizeOf3 rfl rfl) ?_
    refine d_load1 (i := 0) (v := .int .i64 a0.A) Tryd.isAgg3 rfl rfl rfl rfl ?_
    have h_t10 := bnd_val H7
    have H8 := bnd_rest H7
    refine d_val rfl rfl (r_addG rfl rfl h_t10) ?_
    have h_t11 := bnd_val H8
    have H9 := bnd_rest H8
    refine d_call (k198 h_t11) Tryd.call198 rfl rfl ?_
    refine d_val rfl rfl (r_indexPA Tryd.runUnderlying166 Tryd.sizeOf5 rfl rfl (by decide) (by decide)) ?_
    refine d_load1 (i := 1) (v := .int .u8 (a1 1)) Tryd.isAgg5 rfl rfl rfl rfl ?_
    refine d_val rfl rfl (r_indexPA Tryd.runUnderlying166 Tryd.sizeOf5 rfl rfl (by decide) (by decide)) ?_
    refine d_load1 (i := 1) (v := .int .u8 (a1 2)) Tryd.isAgg5 rfl rfl rfl rfl ?_
    have h_t16 := bnd_val H9
    have H10 := bnd_rest H9
    refine d_val rfl rfl (r_convG Tryd.runUnderlying5 Tryd.runUnderlying3 rfl (gK_i64 h_t16)) ?_
    refine d_val rfl rfl (r_field Tryd.runUnderlying35 rfl Tryd.sizeOf3 rfl rfl) ?_
    refine d_load1 (i := 0) (v := .int .i64 a0.A) Tryd.isAgg3 rfl rfl rfl rfl ?_
    have h_t19 := bnd_val H10
    have H11 := bnd_rest H10
    refine d_val rfl rfl (r_subG rfl rfl h_t19) ?_
    have h_t20 := bnd_val H11
    have H12 := bnd_rest H11
    refine d_call (k198 h_t20) Tryd.call198 rfl rfl ?_
    refine d_val rfl rfl (r_buildA (ps := [(0, .int .u8 (val (edit_clamp (val (gI ((val (gK (-9223372036854775808) 9223372036854775807 (a1 0))) + a0.A)))))), (1, .int .u8 (a1 1)), (2, .int .u8 (val (edit_clamp (val (gI ((val (gK (-9223372036854775808) 9223372036854775807 (a1 2))) - a0.A))))))]) (cells := #[.int .u8 (val (edit_clamp (val (gI ((val (gK (-9223372036854775808) 9223372036854775807 (a1 0))) + a0.A))))), .int .u8 (a1 1), .int .u8 (val (edit_clamp (val (gI ((val (gK (-9223372036854775808) 9223372036854775807 (a1 2))) - a0.A)))))]) Tryd.zeroValue166 Tryd.runUnderlying166 Tryd.sizeOf5 rfl rfl) ?_
    refine d_store (i := 2) (vs := [.int .u8 (val (edit_clamp (val (gI ((val (gK (-9223372036854775808) 9223372036854775807 (a1 0))) + a0.A))))), .int .u8 (a1 1), .int .u8 (val (edit_clamp (val (gI ((val (gK (-9223372036854775808) 9223372036854775807 (a1 2))) - a0.A)))))]) (cs' := [.int .u8 (val (edit_clamp (val (gI ((val (gK (-9223372036854775808) 9223372036854775807 (a1 0))) + a0.A))))), .int .u8 (a1 1), .int .u8 (val (edit_clamp (val (gI ((val (gK (-9223372036854775808) 9223372036854775807 (a1 2))) - a0.A)))))]) Tryd.sizeOf166 rfl rfl rfl rfl rfl rfl rfl rfl rfl ?_
    refine d_nil ?_
    refine c_ret ?_
    obtain rfl := Option.some.inj H12
    refine retC (i := 2) (vs := [.int .u8 (val (edit_clamp (val (gI ((val (gK (-9223372036854775808) 9223372036854775807 (a1 0))) + a0.A))))), .int .u8 (a1 1), .int .u8 (val (edit_clamp (val (gI ((val (gK (-9223372036854775808) 9223372036854775807 (a1 2))) - a0.A)))))]) Tryd.isAgg166 Tryd.sizeOf166 rfl rfl rfl rfl (fin rfl)
    ) (by kernel_rfl)
theorem k199 {a0 : Int} {a1 : Int} {r : Int} (H : edit_floor a0 a1 = some r) : Ret Tryd.prog 199 [.int .i64 a0, .int .i64 a1] (.int .i64 r) := by
  refine enterRet (n := 16) Tryd.func199 rfl rfl rfl (fun wd => ?_)
  refine c_seq ?_
  refine c_region ?_
  refine l_val rfl rfl rfl (r_assign (v := .int .i64 0) rfl) ?_
  refine l_nil ?_
  refine c_seq ?_
  refine c_region ?_
  refine l_val rfl rfl rfl (r_move (v := .int .i64 a0) rfl) ?_
  refine l_val rfl rfl rfl (r_move (v := .int .i64 a1) rfl) ?_
  obtain ⟨t8, h_t8, H6⟩ := bnd_some H; clear H
  refine l_val rfl rfl rfl (r_quoG rfl rfl h_t8) ?_
  refine l_val rfl rfl rfl (r_assign (v := .int .i64 t8) rfl) ?_
  refine l_nil ?_
  refine c_seq ?_
  refine c_seq ?_
  refine c_region ?_
  refine l_val rfl rfl rfl (r_move (v := .int .i64 a0) rfl) ?_
  refine l_val rfl rfl rfl (r_move (v := .int .i64 a1) rfl) ?_
  obtain ⟨t11, h_t11, H7⟩ := bnd_some H6; clear H6
  refine l_val rfl rfl rfl (r_remG rfl rfl h_t11) ?_
  refine l_val rfl rfl rfl (r_lss rfl rfl) ?_
  refine l_nil ?_
  refine c_if (b := (decide (t11 < 0))) rfl (fun hb => ?_) (fun hb => ?_)
  · have H8 := cnd_t hb H7; clear H7
    refine c_region ?_
    refine l_val rfl rfl rfl (r_move (v := .int .i64 t8) rfl) ?_
    obtain ⟨t14, h_t14, H9⟩ := bnd_some H8; clear H8
    refine l_val rfl rfl rfl (r_subG rfl rfl h_t14) ?_
    refine l_val rfl rfl rfl (r_assign (v := .int .i64 t14) rfl) ?_
    refine l_nil ?_
    refine c_seq ?_
    refine c_region ?_
    refine l_val rfl rfl rfl (r_move (v := .int .i64 t14) rfl) ?_
    refine l_val rfl rfl rfl (r_assign (v := .int .i64 t14) rfl) ?_
    refine l_nil ?_
    refine c_ret ?_
    obtain rfl := Option.some.inj H9
    refine ret1 (v := .int .i64 t14) rfl rfl (fin rfl)
  · have H10 := cnd_f hb H7; clear H7
    refine c_skip ?_
    refine c_seq ?_
    refine c_region ?_
    refine l_val rfl rfl rfl (r_move (v := .int .i64 t8) rfl) ?_
    refine l_val rfl rfl rfl (r_assign (v := .int .i64 t8) rfl) ?_
    refine l_nil ?_
    refine c_ret ?_
    obtain rfl := Option.some.inj H10
    refine ret1 (v := .int .i64 t8) rfl rfl (fin rfl)
theorem k165 {a0 : T_edit_Step} {a1 : (Nat → Int)} {r : (Nat → Int)} (H : edit_Step_mute a0 a1 = some r) : Ret Tryd.prog 165 [.agg #[.int .i64 a0.Kind, .int .i64 a0.A, .int .i64 a0.B, .int .i64 a0.C, .int .i64 a0.D], .agg #[.int .u8 (a1 0), .int .u8 (a1 1), .int .u8 (a1 2)]] (.agg #[.int .u8 (r 0), .int .u8 (r 1), .int .u8 (r 2)]) := by
  refine enterRet (n := 44) Tryd.func165 rfl rfl rfl (fun wd => ?_)
  refine c_seq ?_
  refine c_region ?_
  refine l_box (cs := [.int .i64 a0.Kind, .int .i64 a0.A, .int .i64 a0.B, .int .i64 a0.C, .int .i64 a0.D]) rfl rfl rfl rfl (fun b3 => ?_)
  refine l_box (cs := [.int .u8 (a1 0), .int .u8 (a1 1), .int .u8 (a1 2)]) rfl rfl rfl rfl (fun b4 => ?_)
  refine l_alloc (cs := [.int .u8 0, .int .u8 0, .int .u8 0]) Tryd.zeroValue166 rfl rfl rfl (fun b5 => ?_)
  refine l_nil ?_
  refine c_seq ?_
  refine c_region ?_
  refine l_val rfl rfl rfl (r_indexPA Tryd.runUnderlying166 Tryd.sizeOf5 rfl rfl (by decide) (by decide)) ?_
  refine l_load1 (i := 1) (v := .int .u8 (a1 0)) Tryd.isAgg5 rfl rfl rfl rfl rfl ?_
  obtain ⟨t10, h_t10, H24⟩ := bnd_some H; clear H
  refine l_val rfl rfl rfl (r_convG Tryd.runUnderlying5 Tryd.runUnderlying3 rfl (gK_i64 h_t10)) ?_
  obtain ⟨t11, h_t11, H25⟩ := bnd_some H24; clear H24
  refine l_val rfl rfl rfl (r_mulG rfl rfl h_t11) ?_
  refine l_val rfl rfl rfl (r_indexPA Tryd.runUnderlying166 Tryd.sizeOf5 rfl rfl (by decide) (by decide)) ?_
  refine l_load1 (i := 1) (v := .int .u8 (a1 1)) Tryd.isAgg5 rfl rfl rfl rfl rfl ?_
  obtain ⟨t14, h_t14, H26⟩ := bnd_some H25; clear H25
  refine l_val rfl rfl rfl (r_convG Tryd.runUnderlying5 Tryd.runUnderlying3 rfl (gK_i64 h_t14)) ?_
  obtain ⟨t15, h_t15, H27⟩ := bnd_some H26; clear H26
  refine l_val rfl rfl rfl (r_mulG rfl rfl h_t15) ?_
  obtain ⟨t16, h_t16, H28⟩ := bnd_some H27; clear H27
  refine l_val rfl rfl rfl (r_addG rfl rfl h_t16) ?_
  refine l_val rfl rfl rfl (r_indexPA Tryd.runUnderlying166 Tryd.sizeOf5 rfl rfl (by decide) (by decide)) ?_
  refine l_load1 (i := 1) (v := .int .u8 (a1 2)) Tryd.isAgg5 rfl rfl rfl rfl rfl ?_
  obtain ⟨t19, h_t19, H29⟩ := bnd_some H28; clear H28
  refine l_val rfl rfl rfl (r_convG Tryd.runUnderlying5 Tryd.runUnderlying3 rfl (gK_i64 h_t19)) ?_
  obtain ⟨t20, h_t20, H30⟩ := bnd_some H29; clear H29
  refine l_val rfl rfl rfl (r_mulG rfl rfl h_t20) ?_
  obtain ⟨t21, h_t21, H31⟩ := bnd_some H30; clear H30
  refine l_val rfl rfl rfl (r_addG rfl rfl h_t21) ?_
  obtain ⟨t22, h_t22, H32⟩ := bnd_some H31; clear H31
  refine l_val rfl rfl rfl (r_quoG rfl rfl h_t22) ?_
  refine l_val rfl rfl rfl (r_assign (v := .int .i64 t22) rfl) ?_
  refine l_nil ?_
  refine c_meet (r := r) (σ := (Nat → Int)) (τ := Unit) (fun s => edit_Step_mute_j1 s) (fun s t => [(3, .pointer (some ⟨b4, 0, none⟩)), (4, .pointer (some ⟨b5, 0, none⟩))]) (fun s t => [cellsC b4 [.int .u8 (s 0), .int .u8 (s 1), .int .u8 (s 2)] 166, cellsC b5 [.int .u8 0, .int .u8 0, .int .u8 0] 166]) (fun s t => True) ?_ ?_
  · refine c_seq ?_
    refine c_region ?_
    refine l_loadN (i := 1) (vs := [.int .u8 (a1 0), .int .u8 (a1 1), .int .u8 (a1 2)]) Tryd.isAgg166 Tryd.sizeOf166 rfl rfl rfl rfl rfl ?_
    refine l_val rfl rfl rfl (r_move (v := .int .i64 0) rfl) ?_
    refine l_nil ?_
    refine c_block ?_
    refine c_fix (σ := Int × (Nat → Int)) (τ := Unit) (fun next2 s => edit_Step_mute_l2 a0 a1 t22 next2 s.1 s.2) (fun s t => [(2, .pointer (some ⟨b3, 0, none⟩)), (3, .pointer (some ⟨b4, 0, none⟩)), (4, .pointer (some ⟨b5, 0, none⟩)), (5, .int .i64 t22), (23, .agg #[.int .u8 (a1 0), .int .u8 (a1 1), .int .u8 (a1 2)]), (24, .int .i64 s.1)]) (fun s t => [cellsC b3 [.int .i64 a0.Kind, .int .i64 a0.A, .int .i64 a0.B, .int .i64 a0.C, .int .i64 a0.D] 35, cellsC b4 [.int .u8 (s.2 0), .int .u8 (s.2 1), .int .u8 (s.2 2)] 166, cellsC b5 [.int .u8 0, .int .u8 0, .int .u8 0] 166]) (fun s t => True) (0, a1) () [0, 1, 2] H32 (by exact trivial) (by exact ⟨rfl, rfl, rfl, rfl, rfl, rfl, trivial⟩) (by decide) rfl ?_
    rintro ⟨x24_2, m_3⟩ _ m2 gg H34 _
    clear H32
    replace H34 : edit_Step_mute_l2 a0 a1 t22 (it (fun next2 s => edit_Step_mute_l2 a0 a1 t22 next2 s.1 s.2) m2) x24_2 m_3 = some r := H34
    generalize hn2 : it (fun next2 s => edit_Step_mute_l2 a0 a1 t22 next2 s.1 s.2) m2 = next2 at H34
    refine c_tidyF [(2, .pointer (some ⟨b3, 0, none⟩)), (3, .pointer (some ⟨b4, 0, none⟩)), (4, .pointer (some ⟨b5, 0, none⟩)), (5, .int .i64 t22), (23, .agg #[.int .u8 (a1 0), .int .u8 (a1 1), .int .u8 (a1 2)]), (24, .int .i64 x24_2)] [cellsC b3 [.int .i64 a0.Kind, .int .i64 a0.A, .int .i64 a0.B, .int .i64 a0.C, .int .i64 a0.D] 35, cellsC b4 [.int .u8 (m_3 0), .int .u8 (m_3 1), .int .u8 (m_3 2)] 166, cellsC b5 [.int .u8 0, .int .u8 0, .int .u8 0] 166] rfl rfl ?_
    refine c_seq ?_
    refine c_region ?_
    refine l_val rfl rfl rfl (r_lss rfl rfl) ?_
    refine l_nil ?_
    refine c_seq ?_
    refine c_if (b := (decide (x24_2 < 3))) rfl (fun hb => ?_) (fun hb => ?_)
    · have H35 := cnd_t hb H34; clear H34
      refine c_skip ?_
      refine c_seq ?_
      refine c_block ?_
      refine c_seq ?_
      refine c_region ?_
      refine l_val rfl rfl rfl (r_move (v := .int .i64 x24_2) rfl) ?_
      obtain ⟨k27, h_k27, H36⟩ := bnd_some H35; clear H35
      refine l_val rfl rfl rfl (r_indexAG (f := fun j_ => .int .u8 (a1 j_)) Tryd.runUnderlying166 Tryd.isAgg5 Tryd.sizeOf5 rfl rfl rfl h_k27) ?_
      refine l_val rfl rfl rfl (r_assign (v := .int .i64 x24_2) rfl) ?_
      refine l_val rfl rfl rfl (r_assign (v := .int .u8 (a1 k27)) rfl) ?_
      refine l_nil ?_
      refine c_region ?_
      refine l_val rfl rfl rfl (r_move (v := .int .i64 x24_2) rfl) ?_
      refine l_val rfl rfl rfl (r_move (v := .int .u8 (a1 k27)) rfl) ?_
      obtain ⟨t30, h_t30, H37⟩ := bnd_some H36; clear H36
      refine l_val rfl rfl rfl (r_convG Tryd.runUnderlying5 Tryd.runUnderlying3 rfl (gK_i64 h_t30)) ?_
      refine l_val rfl rfl rfl (r_move (v := .int .i64 t22) rfl) ?_
      refine l_val rfl rfl rfl (r_move (v := .int .u8 (a1 k27)) rfl) ?_
      obtain ⟨t33, h_t33, H38⟩ := bnd_some H37; clear H37
      refine l_val rfl rfl rfl (r_convG Tryd.runUnderlying5 Tryd.runUnderlying3 rfl (gK_i64 h_t33)) ?_
      obtain ⟨t34, h_t34, H39⟩ := bnd_some H38; clear H38
      refine l_val rfl rfl rfl (r_subG rfl rfl h_t34) ?_
      refine l_val rfl rfl rfl (r_field Tryd.runUnderlying35 rfl Tryd.sizeOf3 rfl rfl) ?_
      refine l_load1 (i := 0) (v := .int .i64 a0.A) Tryd.isAgg3 rfl rfl rfl rfl rfl ?_
      obtain ⟨t37, h_t37, H40⟩ := bnd_some H39; clear H39
      refine l_val rfl rfl rfl (r_mulG rfl rfl h_t37) ?_
      obtain ⟨t38, h_t38, H41⟩ := bnd_some H40; clear H40
      refine l_call (k199 h_t38) Tryd.call199 rfl rfl rfl ?_
      obtain ⟨t39, h_t39, H42⟩ := bnd_some H41; clear H41
      refine l_val rfl rfl rfl (r_addG rfl rfl h_t39) ?_
      obtain ⟨t40, h_t40, H43⟩ := bnd_some H42; clear H42
      refine l_call (k198 h_t40) Tryd.call198 rfl rfl rfl ?_
      obtain ⟨k41, h_k41, H44⟩ := bnd_some H43; clear H43
      refine l_val rfl rfl rfl (r_indexPG Tryd.runUnderlying166 Tryd.sizeOf5 rfl rfl h_k41) ?_
      refine l_store (i := 1) (vs := [.int .u8 t40]) (cs' := [.int .u8 ((setA m_3 k41 t40) 0), .int .u8 ((setA m_3 k41 t40) 1), .int .u8 ((setA m_3 k41 t40) 2)]) Tryd.sizeOf5 rfl rfl rfl rfl rfl rfl rfl rfl (wr_arr (pre := []) (post := []) (f := fun (j_ : Int) => [.int .u8 j_]) (n := 3) (sz := 1) (a := m_3) (x := t40) rfl rfl (fun _ => rfl) (gIx_lt h_k41) rfl rfl) ?_
      refine l_nil ?_
      refine c_region ?_
      obtain ⟨t42, h_t42, H45⟩ := bnd_some H44; clear H44
      refine l_val rfl rfl rfl (r_addG rfl rfl h_t42) ?_
      refine l_val rfl rfl rfl (r_move (v := .int .i64 t42) rfl) ?_
      refine l_nil ?_
      refine c_close (t42, (setA m_3 k41 t40)) () m2 [0, 1, 2] (by exact ⟨rfl, rfl, rfl, rfl, rfl, rfl, trivial⟩) (by decide) rfl (by exact ⟨(by subst hn2; exact H45), trivial⟩) (Nat.lt_succ_self _)
    · have H46 := cnd_f hb H34; clear H34
      refine c_exit ?_
      refine c_close m_3 () 0 [1, 2] (by exact ⟨rfl, rfl, trivial⟩) (by decide) rfl (by exact ⟨H46, trivial⟩) (Nat.lt_succ_self _)
  · rintro m _ gg H33 _
    replace H33 : edit_Step_mute_j1 m = some r := H33
    refine c_tidyF [(3, .pointer (some ⟨b4, 0, none⟩)), (4, .pointer (some ⟨b5, 0, none⟩))] [cellsC b4 [.int .u8 (m 0), .int .u8 (m 1), .int .u8 (m 2)] 166, cellsC b5 [.int .u8 0, .int .u8 0, .int .u8 0] 166] rfl rfl ?_
    refine c_seq ?_
    refine c_region ?_
    refine l_loadN (i := 0) (vs := [.int .u8 (m 0), .int .u8 (m 1), .int .u8 (m 2)]) Tryd.isAgg166 Tryd.sizeOf166 rfl rfl rfl rfl rfl ?_
    refine l_store (i := 1) (vs := [.int .u8 (m 0), .int .u8 (m 1), .int .u8 (m 2)]) (cs' := [.int .u8 (m 0), .int .u8 (m 1), .int .u8 (m 2)]) Tryd.sizeOf166 rfl rfl rfl rfl rfl rfl rfl rfl rfl ?_
    refine l_nil ?_
    refine c_ret ?_
    obtain rfl := Option.some.inj H33
    refine retC (i := 1) (vs := [.int .u8 (m 0), .int .u8 (m 1), .int .u8 (m 2)]) Tryd.isAgg166 Tryd.sizeOf166 rfl rfl rfl rfl (fin rfl)
theorem k216 {a0 : T_edit_Step} {a1 : Int} {r : Int} (H : edit_Step_light a0 a1 = some r) : Ret Tryd.prog 216 [.agg #[.int .i64 a0.Kind, .int .i64 a0.A, .int .i64 a0.B, .int .i64 a0.C, .int .i64 a0.D], .int .u8 a1] (.int .u8 r) := by
  refine enterRet (n := 11) Tryd.func216 rfl rfl rfl (fun wd => ?_)
  refine c_seq ?_
  refine c_region ?_
  refine l_box (cs := [.int .i64 a0.Kind, .int .i64 a0.A, .int .i64 a0.B, .int .i64 a0.C, .int .i64 a0.D]) rfl rfl rfl rfl (fun b1 => ?_)
  refine l_val rfl rfl rfl (r_assign (v := .int .u8 0) rfl) ?_
  refine l_nil ?_
  refine c_seq ?_
  refine c_region ?_
  refine l_val rfl rfl rfl (r_move (v := .int .u8 a1) rfl) ?_
  obtain ⟨t6, h_t6, H4⟩ := bnd_some H; clear H
  refine l_val rfl rfl rfl (r_convG Tryd.runUnderlying5 Tryd.runUnderlying3 rfl (gK_i64 h_t6)) ?_
  refine l_val rfl rfl rfl (r_field Tryd.runUnderlying35 rfl Tryd.sizeOf3 rfl rfl) ?_
  refine l_load1 (i := 0) (v := .int .i64 a0.A) Tryd.isAgg3 rfl rfl rfl rfl rfl ?_
  obtain ⟨t9, h_t9, H5⟩ := bnd_some H4; clear H4
  refine l_val rfl rfl rfl (r_addG rfl rfl h_t9) ?_
  obtain ⟨t10, h_t10, H6⟩ := bnd_some H5; clear H5
  refine l_call (k198 h_t10) Tryd.call198 rfl rfl rfl ?_
  refine l_val rfl rfl rfl (r_assign (v := .int .u8 t10) rfl) ?_
  refine l_nil ?_
  refine c_ret ?_
  obtain rfl := Option.some.inj H6
  refine ret1 (v := .int .u8 t10) rfl rfl (fin rfl)
theorem k217 {a0 : T_edit_Step} {a1 : Int} {r : Int} (H : edit_Step_spread a0 a1 = some r) : Ret Tryd.prog 217 [.agg #[.int .i64 a0.Kind, .int .i64 a0.A, .int .i64 a0.B, .int .i64 a0.C, .int .i64 a0.D], .int .u8 a1] (.int .u8 r) := by
  refine enterRet (n := 14) Tryd.func217 rfl rfl rfl (fun wd => ?_)
  refine c_seq ?_
  refine c_region ?_
  refine l_box (cs := [.int .i64 a0.Kind, .int .i64 a0.A, .int .i64 a0.B, .int .i64 a0.C, .int .i64 a0.D]) rfl rfl rfl rfl (fun b1 => ?_)
  refine l_val rfl rfl rfl (r_assign (v := .int .u8 0) rfl) ?_
  refine l_nil ?_
  refine c_seq ?_
  refine c_region ?_
  refine l_val rfl rfl rfl (r_move (v := .int .u8 a1) rfl) ?_
  obtain ⟨t6, h_t6, H7⟩ := bnd_some H; clear H
  refine l_val rfl rfl rfl (r_convG Tryd.runUnderlying5 Tryd.runUnderlying3 rfl (gK_i64 h_t6)) ?_
  obtain ⟨t7, h_t7, H8⟩ := bnd_some H7; clear H7
  refine l_val rfl rfl rfl (r_subG rfl rfl h_t7) ?_
  refine l_val rfl rfl rfl (r_field Tryd.runUnderlying35 rfl Tryd.sizeOf3 rfl rfl) ?_
  refine l_load1 (i := 0) (v := .int .i64 a0.A) Tryd.isAgg3 rfl rfl rfl rfl rfl ?_
  obtain ⟨t10, h_t10, H9⟩ := bnd_some H8; clear H8
  refine l_val rfl rfl rfl (r_mulG rfl rfl h_t10) ?_
  obtain ⟨t11, h_t11, H10⟩ := bnd_some H9; clear H9
  refine l_call (k199 h_t11) Tryd.call199 rfl rfl rfl ?_
  obtain ⟨t12, h_t12, H11⟩ := bnd_some H10; clear H10
  refine l_val rfl rfl rfl (r_addG rfl rfl h_t12) ?_
  obtain ⟨t13, h_t13, H12⟩ := bnd_some H11; clear H11
  refine l_call (k198 h_t13) Tryd.call198 rfl rfl rfl ?_
  refine l_val rfl rfl rfl (r_assign (v := .int .u8 t13) rfl) ?_
  refine l_nil ?_
  refine c_ret ?_
  obtain rfl := Option.some.inj H12
  refine ret1 (v := .int .u8 t13) rfl rfl (fin rfl)
theorem k218 {a0 : T_edit_Step} {a1 : Int} {r : Int} (H : edit_Step_levels a0 a1 = some r) : Ret Tryd.prog 218 [.agg #[.int .i64 a0.Kind, .int .i64 a0.A, .int .i64 a0.B, .int .i64 a0.C, .int .i64 a0.D], .int .u8 a1] (.int .u8 r) := by
  refine enterRet (n := 18) Tryd.func218 rfl rfl rfl (fun wd => ?_)
  refine c_seq ?_
  refine c_region ?_
  refine l_box (cs := [.int .i64 a0.Kind, .int .i64 a0.A, .int .i64 a0.B, .int .i64 a0.C, .int .i64 a0.D]) rfl rfl rfl rfl (fun b1 => ?_)
  refine l_val rfl rfl rfl (r_assign (v := .int .u8 0) rfl) ?_
  refine l_nil ?_
  refine c_seq ?_
  refine c_region ?_
  refine l_val rfl rfl rfl (r_move (v := .int .u8 a1) rfl) ?_
  obtain ⟨t6, h_t6, H7⟩ := bnd_some H; clear H
  refine l_val rfl rfl rfl (r_convG Tryd.runUnderlying5 Tryd.runUnderlying3 rfl (gK_i64 h_t6)) ?_
  refine l_val rfl rfl rfl (r_field Tryd.runUnderlying35 rfl Tryd.sizeOf3 rfl rfl) ?_
  refine l_load1 (i := 0) (v := .int .i64 a0.A) Tryd.isAgg3 rfl rfl rfl rfl rfl ?_
  obtain ⟨t9, h_t9, H8⟩ := bnd_some H7; clear H7
  refine l_val rfl rfl rfl (r_subG rfl rfl h_t9) ?_
  obtain ⟨t10, h_t10, H9⟩ := bnd_some H8; clear H8
  refine l_val rfl rfl rfl (r_mulG rfl rfl h_t10) ?_
  refine l_val rfl rfl rfl (r_field Tryd.runUnderlying35 rfl Tryd.sizeOf3 rfl rfl) ?_
  refine l_load1 (i := 0) (v := .int .i64 a0.B) Tryd.isAgg3 rfl rfl rfl rfl rfl ?_
  refine l_val rfl rfl rfl (r_field Tryd.runUnderlying35 rfl Tryd.sizeOf3 rfl rfl) ?_
  refine l_load1 (i := 0) (v := .int .i64 a0.A) Tryd.isAgg3 rfl rfl rfl rfl rfl ?_
  obtain ⟨t15, h_t15, H10⟩ := bnd_some H9; clear H9
  refine l_val rfl rfl rfl (r_subG rfl rfl h_t15) ?_
  obtain ⟨t16, h_t16, H11⟩ := bnd_some H10; clear H10
  refine l_call (k199 h_t16) Tryd.call199 rfl rfl rfl ?_
  obtain ⟨t17, h_t17, H12⟩ := bnd_some H11; clear H11
  refine l_call (k198 h_t17) Tryd.call198 rfl rfl rfl ?_
  refine l_val rfl rfl rfl (r_assign (v := .int .u8 t17) rfl) ?_
  refine l_nil ?_
  refine c_ret ?_
  obtain rfl := Option.some.inj H12
  refine ret1 (v := .int .u8 t17) rfl rfl (fin rfl)
theorem k219 {a0 : T_edit_Step} {a1 : Int} {r : Int} (H : edit_Step_invert a0 a1 = some r) : Ret Tryd.prog 219 [.agg #[.int .i64 a0.Kind, .int .i64 a0.A, .int .i64 a0.B, .int .i64 a0.C, .int .i64 a0.D], .int .u8 a1] (.int .u8 r) := by
  refine enterRet (n := 7) Tryd.func219 rfl rfl rfl (fun wd => ?_)
  refine c_seq ?_
  refine c_region ?_
  refine l_box (cs := [.int .i64 a0.Kind, .int .i64 a0.A, .int .i64 a0.B, .int .i64 a0.C, .int .i64 a0.D]) rfl rfl rfl rfl (fun b1 => ?_)
  refine l_val rfl rfl rfl (r_assign (v := .int .u8 0) rfl) ?_
  refine l_nil ?_
  refine c_seq ?_
  refine c_region ?_
  refine l_val rfl rfl rfl (r_move (v := .int .u8 a1) rfl) ?_
  refine l_val rfl rfl rfl (r_subW rfl rfl (wr_u8 _)) ?_
  refine l_val rfl rfl rfl (r_assign (v := .int .u8 (wU8 (255 - a1))) rfl) ?_
  refine l_nil ?_
  refine c_ret ?_
  obtain rfl := Option.some.inj H
  refine ret1 (v := .int .u8 (wU8 (255 - a1))) rfl rfl (fin rfl)
theorem k200 {a0 : T_edit_Step} {r : (Option (Int → Option (Int)))} (H : edit_Step_byByte a0 = some r) : RetF Tryd.prog 200 [.agg #[.int .i64 a0.Kind, .int .i64 a0.A, .int .i64 a0.B, .int .i64 a0.C, .int .i64 a0.D]] (fun v => FnV Tryd.prog v r (fun g => fnR_func_uint8_uint8 g)) := by
  refine enterRetF (n := 21) Tryd.func200 rfl rfl rfl (fun wd => ?_)
  refine c_seq ?_
  refine c_region ?_
  refine l_box (cs := [.int .i64 a0.Kind, .int .i64 a0.A, .int .i64 a0.B, .int .i64 a0.C, .int .i64 a0.D]) rfl rfl rfl rfl (fun b1 => ?_)
  refine l_val rfl rfl rfl (r_assign (v := .nilFunc) rfl) ?_
  refine l_nil ?_
  refine c_seq ?_
  refine c_seq ?_
  refine c_region ?_
  refine l_val rfl rfl rfl (r_field Tryd.runUnderlying35 rfl Tryd.sizeOf3 rfl rfl) ?_
  refine l_load1 (i := 0) (v := .int .i64 a0.Kind) Tryd.isAgg3 rfl rfl rfl rfl rfl ?_
  refine l_nil ?_
  refine c_block ?_
  refine c_seq ?_
  refine c_region ?_
  refine l_val rfl rfl rfl (r_eql rfl rfl) ?_
  refine l_val rfl rfl rfl (r_assign (v := .bool (decide (a0.Kind = 4))) rfl) ?_
  refine l_nil ?_
  refine c_if (b := (decide (a0.Kind = 4))) rfl (fun hb => ?_) (fun hb => ?_)
  · have H9 := cnd_t hb H; clear H
    refine c_seq ?_
    refine c_region ?_
    refine l_loadN (i := 0) (vs := [.int .i64 a0.Kind, .int .i64 a0.A, .int .i64 a0.B, .int .i64 a0.C, .int .i64 a0.D]) Tryd.isAgg35 Tryd.sizeOf35 rfl rfl rfl rfl rfl ?_
    refine l_val rfl rfl rfl (r_makeFnP (pre := #[.agg #[.int .i64 a0.Kind, .int .i64 a0.A, .int .i64 a0.B, .int .i64 a0.C, .int .i64 a0.D]]) (caps := #[]) rfl rfl) ?_
    refine l_val rfl rfl rfl (r_assign (v := .func (.func 216) #[.agg #[.int .i64 a0.Kind, .int .i64 a0.A, .int .i64 a0.B, .int .i64 a0.C, .int .i64 a0.D]] #[]) rfl) ?_
    refine l_nil ?_
    refine c_ret ?_
    obtain rfl := Option.some.inj H9
    refine ret1 (v := .func (.func 216) #[.agg #[.int .i64 a0.Kind, .int .i64 a0.A, .int .i64 a0.B, .int .i64 a0.C, .int .i64 a0.D]] #[]) rfl rfl (finF (φ := fun v => FnV Tryd.prog v (some (edit_Step_light a0)) (fun g => fnR_func_uint8_uint8 g)) (FnV.mk (g := (edit_Step_light a0)) (R := fun g => fnR_func_uint8_uint8 g) (fun h_ => (FnH.mk ⟨216, #[.agg #[.int .i64 a0.Kind, .int .i64 a0.A, .int .i64 a0.B, .int .i64 a0.C, .int .i64 a0.D]], #[], rfl, Tryd.call216, fun args2 post2 w2 hk2 hR2 => by obtain ⟨a0_, r_, rfl, H_, rfl⟩ := hR2; exact k216 H_ w2⟩))))
  · have H10 := cnd_f hb H; clear H
    refine c_seq ?_
    refine c_region ?_
    refine l_val rfl rfl rfl (r_eql rfl rfl) ?_
    refine l_val rfl rfl rfl (r_assign (v := .bool (decide (a0.Kind = 5))) rfl) ?_
    refine l_nil ?_
    refine c_if (b := (decide (a0.Kind = 5))) rfl (fun hb => ?_) (fun hb => ?_)
    · have H11 := cnd_t hb H10; clear H10
      refine c_seq ?_
      refine c_region ?_
      refine l_loadN (i := 0) (vs := [.int .i64 a0.Kind, .int .i64 a0.A, .int .i64 a0.B, .int .i64 a0.C, .int .i64 a0.D]) Tryd.isAgg35 Tryd.sizeOf35 rfl rfl rfl rfl rfl ?_
      refine l_val rfl rfl rfl (r_makeFnP (pre := #[.agg #[.int .i64 a0.Kind, .int .i64 a0.A, .int .i64 a0.B, .int .i64 a0.C, .int .i64 a0.D]]) (caps := #[]) rfl rfl) ?_
      refine l_val rfl rfl rfl (r_assign (v := .func (.func 217) #[.agg #[.int .i64 a0.Kind, .int .i64 a0.A, .int .i64 a0.B, .int .i64 a0.C, .int .i64 a0.D]] #[]) rfl) ?_
      refine l_nil ?_
      refine c_ret ?_
      obtain rfl := Option.some.inj H11
      refine ret1 (v := .func (.func 217) #[.agg #[.int .i64 a0.Kind, .int .i64 a0.A, .int .i64 a0.B, .int .i64 a0.C, .int .i64 a0.D]] #[]) rfl rfl (finF (φ := fun v => FnV Tryd.prog v (some (edit_Step_spread a0)) (fun g => fnR_func_uint8_uint8 g)) (FnV.mk (g := (edit_Step_spread a0)) (R := fun g => fnR_func_uint8_uint8 g) (fun h_ => (FnH.mk ⟨217, #[.agg #[.int .i64 a0.Kind, .int .i64 a0.A, .int .i64 a0.B, .int .i64 a0.C, .int .i64 a0.D]], #[], rfl, Tryd.call217, fun args2 post2 w2 hk2 hR2 => by obtain ⟨a0_, r_, rfl, H_, rfl⟩ := hR2; exact k217 H_ w2⟩))))
    · have H12 := cnd_f hb H10; clear H10
      refine c_seq ?_
      refine c_region ?_
      refine l_val rfl rfl rfl (r_eql rfl rfl) ?_
      refine l_val rfl rfl rfl (r_assign (v := .bool (decide (a0.Kind = 6))) rfl) ?_
      refine l_nil ?_
      refine c_if (b := (decide (a0.Kind = 6))) rfl (fun hb => ?_) (fun hb => ?_)
      · have H13 := cnd_t hb H12; clear H12
        refine c_seq ?_
        refine c_region ?_
        refine l_loadN (i := 0) (vs := [.int .i64 a0.Kind, .int .i64 a0.A, .int .i64 a0.B, .int .i64 a0.C, .int .i64 a0.D]) Tryd.isAgg35 Tryd.sizeOf35 rfl rfl rfl rfl rfl ?_
        refine l_val rfl rfl rfl (r_makeFnP (pre := #[.agg #[.int .i64 a0.Kind, .int .i64 a0.A, .int .i64 a0.B, .int .i64 a0.C, .int .i64 a0.D]]) (caps := #[]) rfl rfl) ?_
        refine l_val rfl rfl rfl (r_assign (v := .func (.func 218) #[.agg #[.int .i64 a0.Kind, .int .i64 a0.A, .int .i64 a0.B, .int .i64 a0.C, .int .i64 a0.D]] #[]) rfl) ?_
        refine l_nil ?_
        refine c_ret ?_
        obtain rfl := Option.some.inj H13
        refine ret1 (v := .func (.func 218) #[.agg #[.int .i64 a0.Kind, .int .i64 a0.A, .int .i64 a0.B, .int .i64 a0.C, .int .i64 a0.D]] #[]) rfl rfl (finF (φ := fun v => FnV Tryd.prog v (some (edit_Step_levels a0)) (fun g => fnR_func_uint8_uint8 g)) (FnV.mk (g := (edit_Step_levels a0)) (R := fun g => fnR_func_uint8_uint8 g) (fun h_ => (FnH.mk ⟨218, #[.agg #[.int .i64 a0.Kind, .int .i64 a0.A, .int .i64 a0.B, .int .i64 a0.C, .int .i64 a0.D]], #[], rfl, Tryd.call218, fun args2 post2 w2 hk2 hR2 => by obtain ⟨a0_, r_, rfl, H_, rfl⟩ := hR2; exact k218 H_ w2⟩))))
      · have H14 := cnd_f hb H12; clear H12
        refine c_seq ?_
        refine c_region ?_
        refine l_val rfl rfl rfl (r_eql rfl rfl) ?_
        refine l_val rfl rfl rfl (r_assign (v := .bool (decide (a0.Kind = 9))) rfl) ?_
        refine l_nil ?_
        refine c_if (b := (decide (a0.Kind = 9))) rfl (fun hb => ?_) (fun hb => ?_)
        · have H15 := cnd_t hb H14; clear H14
          refine c_seq ?_
          refine c_region ?_
          refine l_loadN (i := 0) (vs := [.int .i64 a0.Kind, .int .i64 a0.A, .int .i64 a0.B, .int .i64 a0.C, .int .i64 a0.D]) Tryd.isAgg35 Tryd.sizeOf35 rfl rfl rfl rfl rfl ?_
          refine l_val rfl rfl rfl (r_makeFnP (pre := #[.agg #[.int .i64 a0.Kind, .int .i64 a0.A, .int .i64 a0.B, .int .i64 a0.C, .int .i64 a0.D]]) (caps := #[]) rfl rfl) ?_
          refine l_val rfl rfl rfl (r_assign (v := .func (.func 219) #[.agg #[.int .i64 a0.Kind, .int .i64 a0.A, .int .i64 a0.B, .int .i64 a0.C, .int .i64 a0.D]] #[]) rfl) ?_
          refine l_nil ?_
          refine c_ret ?_
          obtain rfl := Option.some.inj H15
          refine ret1 (v := .func (.func 219) #[.agg #[.int .i64 a0.Kind, .int .i64 a0.A, .int .i64 a0.B, .int .i64 a0.C, .int .i64 a0.D]] #[]) rfl rfl (finF (φ := fun v => FnV Tryd.prog v (some (edit_Step_invert a0)) (fun g => fnR_func_uint8_uint8 g)) (FnV.mk (g := (edit_Step_invert a0)) (R := fun g => fnR_func_uint8_uint8 g) (fun h_ => (FnH.mk ⟨219, #[.agg #[.int .i64 a0.Kind, .int .i64 a0.A, .int .i64 a0.B, .int .i64 a0.C, .int .i64 a0.D]], #[], rfl, Tryd.call219, fun args2 post2 w2 hk2 hR2 => by obtain ⟨a0_, r_, rfl, H_, rfl⟩ := hR2; exact k219 H_ w2⟩))))
        · have H16 := cnd_f hb H14; clear H14
          refine c_skip ?_
          refine c_seq ?_
          refine c_region ?_
          refine l_val rfl rfl rfl (r_assign (v := .nilFunc) rfl) ?_
          refine l_nil ?_
          refine c_ret ?_
          obtain rfl := Option.some.inj H16
          refine ret1 (v := .nilFunc) rfl rfl (finF (φ := fun v => FnV Tryd.prog v none (fun g => fnR_func_uint8_uint8 g)) FnV.nil)
theorem k166 {a0 : T_edit_Step} {a1 : (Nat → Int)} {r : (Nat → Int)} (H : edit_Step_eachByte a0 a1 = some r) : Ret Tryd.prog 166 [.agg #[.int .i64 a0.Kind, .int .i64 a0.A, .int .i64 a0.B, .int .i64 a0.C, .int .i64 a0.D], .agg #[.int .u8 (a1 0), .int .u8 (a1 1), .int .u8 (a1 2)]] (.agg #[.int .u8 (r 0), .int .u8 (r 1), .int .u8 (r 2)]) := by
  refine enterRet (n := 22) Tryd.func166 rfl rfl rfl (fun wd => ?_)
  refine c_seq ?_
  refine c_region ?_
  refine l_box (cs := [.int .i64 a0.Kind, .int .i64 a0.A, .int .i64 a0.B, .int .i64 a0.C, .int .i64 a0.D]) rfl rfl rfl rfl (fun b3 => ?_)
  refine l_box (cs := [.int .u8 (a1 0), .int .u8 (a1 1), .int .u8 (a1 2)]) rfl rfl rfl rfl (fun b4 => ?_)
  refine l_alloc (cs := [.int .u8 0, .int .u8 0, .int .u8 0]) Tryd.zeroValue166 rfl rfl rfl (fun b5 => ?_)
  refine l_nil ?_
  refine c_seq ?_
  refine c_region ?_
  refine l_loadN (i := 0) (vs := [.int .i64 a0.Kind, .int .i64 a0.A, .int .i64 a0.B, .int .i64 a0.C, .int .i64 a0.D]) Tryd.isAgg35 Tryd.sizeOf35 rfl rfl rfl rfl rfl ?_
  obtain ⟨t9, h_t9, H11⟩ := bnd_some H; clear H
  refine l_callF (k200 h_t9) Tryd.call200 rfl rfl rfl (fun fv hf => ?_)
  refine l_val rfl rfl rfl (r_assign (v := fv) rfl) ?_
  refine l_nil ?_
  refine c_meet (r := r) (σ := (Nat → Int)) (τ := Unit) (fun s => edit_Step_eachByte_j1 s) (fun s t => [(3, .pointer (some ⟨b4, 0, none⟩)), (4, .pointer (some ⟨b5, 0, none⟩))]) (fun s t => [cellsC b4 [.int .u8 (s 0), .int .u8 (s 1), .int .u8 (s 2)] 166, cellsC b5 [.int .u8 0, .int .u8 0, .int .u8 0] 166]) (fun s t => True) ?_ ?_
  · refine c_seq ?_
    refine c_region ?_
    refine l_loadN (i := 1) (vs := [.int .u8 (a1 0), .int .u8 (a1 1), .int .u8 (a1 2)]) Tryd.isAgg166 Tryd.sizeOf166 rfl rfl rfl rfl rfl ?_
    refine l_val rfl rfl rfl (r_move (v := .int .i64 0) rfl) ?_
    refine l_nil ?_
    refine c_block ?_
    refine c_sel [1, 2] [cellsC b4 [.int .u8 (a1 0), .int .u8 (a1 1), .int .u8 (a1 2)] 166, cellsC b5 [.int .u8 0, .int .u8 0, .int .u8 0] 166] rfl (by decide) ?_
    refine c_fix (σ := Int × (Nat → Int)) (τ := Unit) (fun next2 s => edit_Step_eachByte_l2 a1 t9 next2 s.1 s.2) (fun s t => [(3, .pointer (some ⟨b4, 0, none⟩)), (4, .pointer (some ⟨b5, 0, none⟩)), (5, fv), (10, .agg #[.int .u8 (a1 0), .int .u8 (a1 1), .int .u8 (a1 2)]), (11, .int .i64 s.1)]) (fun s t => [cellsC b4 [.int .u8 (s.2 0), .int .u8 (s.2 1), .int .u8 (s.2 2)] 166, cellsC b5 [.int .u8 0, .int .u8 0, .int .u8 0] 166]) (fun s t => True) (0, a1) () [0, 1] H11 (by exact trivial) (by exact ⟨rfl, rfl, rfl, rfl, rfl, trivial⟩) (by decide) rfl ?_
    rintro ⟨x11_2, m_3⟩ _ m2 gg H13 _
    clear H11
    replace H13 : edit_Step_eachByte_l2 a1 t9 (it (fun next2 s => edit_Step_eachByte_l2 a1 t9 next2 s.1 s.2) m2) x11_2 m_3 = some r := H13
    generalize hn2 : it (fun next2 s => edit_Step_eachByte_l2 a1 t9 next2 s.1 s.2) m2 = next2 at H13
    refine c_tidyF [(3, .pointer (some ⟨b4, 0, none⟩)), (4, .pointer (some ⟨b5, 0, none⟩)), (5, fv), (10, .agg #[.int .u8 (a1 0), .int .u8 (a1 1), .int .u8 (a1 2)]), (11, .int .i64 x11_2)] [cellsC b4 [.int .u8 (m_3 0), .int .u8 (m_3 1), .int .u8 (m_3 2)] 166, cellsC b5 [.int .u8 0, .int .u8 0, .int .u8 0] 166] rfl rfl ?_
    refine c_seq ?_
    refine c_region ?_
    refine l_val rfl rfl rfl (r_lss rfl rfl) ?_
    refine l_nil ?_
    refine c_seq ?_
    refine c_if (b := (decide (x11_2 < 3))) rfl (fun hb => ?_) (fun hb => ?_)
    · have H14 := cnd_t hb H13; clear H13
      refine c_skip ?_
      refine c_seq ?_
      refine c_block ?_
      refine c_seq ?_
      refine c_region ?_
      refine l_val rfl rfl rfl (r_move (v := .int .i64 x11_2) rfl) ?_
      obtain ⟨k14, h_k14, H15⟩ := bnd_some H14; clear H14
      refine l_val rfl rfl rfl (r_indexAG (f := fun j_ => .int .u8 (a1 j_)) Tryd.runUnderlying166 Tryd.isAgg5 Tryd.sizeOf5 rfl rfl rfl h_k14) ?_
      refine l_val rfl rfl rfl (r_assign (v := .int .i64 x11_2) rfl) ?_
      refine l_val rfl rfl rfl (r_assign (v := .int .u8 (a1 k14)) rfl) ?_
      refine l_nil ?_
      refine c_region ?_
      refine l_val rfl rfl rfl (r_move (v := .int .i64 x11_2) rfl) ?_
      refine l_val rfl rfl rfl (r_move (v := fv) rfl) ?_
      refine l_val rfl rfl rfl (r_move (v := .int .u8 (a1 k14)) rfl) ?_
      obtain ⟨g18, h_g18, H16⟩ := bnd_some H15; clear H15
      obtain ⟨t18, h_t18, H17⟩ := bnd_some H16; clear H16
      refine l_callV (R := fnR_func_uint8_uint8 g18) (r := .int .u8 t18) (v := fv) (fun w hF hS => ⟨(hf.fn (gFn_some h_g18) _), ⟨(a1 k14), _, rfl, h_t18, rfl⟩⟩) rfl rfl rfl rfl ?_
      obtain ⟨k19, h_k19, H18⟩ := bnd_some H17; clear H17
      refine l_val rfl rfl rfl (r_indexPG Tryd.runUnderlying166 Tryd.sizeOf5 rfl rfl h_k19) ?_
      refine l_store (i := 0) (vs := [.int .u8 t18]) (cs' := [.int .u8 ((setA m_3 k19 t18) 0), .int .u8 ((setA m_3 k19 t18) 1), .int .u8 ((setA m_3 k19 t18) 2)]) Tryd.sizeOf5 rfl rfl rfl rfl rfl rfl rfl rfl (wr_arr (pre := []) (post := []) (f := fun (j_ : Int) => [.int .u8 j_]) (n := 3) (sz := 1) (a := m_3) (x := t18) rfl rfl (fun _ => rfl) (gIx_lt h_k19) rfl rfl) ?_
      refine l_nil ?_
      refine c_region ?_
      obtain ⟨t20, h_t20, H19⟩ := bnd_some H18; clear H18
      refine l_val rfl rfl rfl (r_addG rfl rfl h_t20) ?_
      refine l_val rfl rfl rfl (r_move (v := .int .i64 t20) rfl) ?_
      refine l_nil ?_
      refine c_close (t20, (setA m_3 k19 t18)) () m2 [0, 1] (by exact ⟨rfl, rfl, rfl, rfl, rfl, trivial⟩) (by decide) rfl (by exact ⟨(by subst hn2; exact H19), trivial⟩) (Nat.lt_succ_self _)
    · have H20 := cnd_f hb H13; clear H13
      refine c_exit ?_
      refine c_close m_3 () 0 [0, 1] (by exact ⟨rfl, rfl, trivial⟩) (by decide) rfl (by exact ⟨H20, trivial⟩) (Nat.lt_succ_self _)
  · rintro m _ gg H12 _
    replace H12 : edit_Step_eachByte_j1 m = some r := H12
    refine c_tidyF [(3, .pointer (some ⟨b4, 0, none⟩)), (4, .pointer (some ⟨b5, 0, none⟩))] [cellsC b4 [.int .u8 (m 0), .int .u8 (m 1), .int .u8 (m 2)] 166, cellsC b5 [.int .u8 0, .int .u8 0, .int .u8 0] 166] rfl rfl ?_
    refine c_seq ?_
    refine c_region ?_
    refine l_loadN (i := 0) (vs := [.int .u8 (m 0), .int .u8 (m 1), .int .u8 (m 2)]) Tryd.isAgg166 Tryd.sizeOf166 rfl rfl rfl rfl rfl ?_
    refine l_store (i := 1) (vs := [.int .u8 (m 0), .int .u8 (m 1), .int .u8 (m 2)]) (cs' := [.int .u8 (m 0), .int .u8 (m 1), .int .u8 (m 2)]) Tryd.sizeOf166 rfl rfl rfl rfl rfl rfl rfl rfl rfl ?_
    refine l_nil ?_
    refine c_ret ?_
    obtain rfl := Option.some.inj H12
    refine retC (i := 1) (vs := [.int .u8 (m 0), .int .u8 (m 1), .int .u8 (m 2)]) Tryd.isAgg166 Tryd.sizeOf166 rfl rfl rfl rfl (fin rfl)
theorem k124 {a0 : T_edit_Step} {r : (Option ((Nat → Int) → Option ((Nat → Int))))} (H : edit_Step_byPixel a0 = some r) : RetF Tryd.prog 124 [.agg #[.int .i64 a0.Kind, .int .i64 a0.A, .int .i64 a0.B, .int .i64 a0.C, .int .i64 a0.D]] (fun v => FnV Tryd.prog v r (fun g => fnR_func_3_uint8_3_uint8 g)) := by
  refine enterRetF (n := 15) Tryd.func124 rfl rfl rfl (fun wd => ?_)
  refine c_seq ?_
  refine c_region ?_
  refine l_box (cs := [.int .i64 a0.Kind, .int .i64 a0.A, .int .i64 a0.B, .int .i64 a0.C, .int .i64 a0.D]) rfl rfl rfl rfl (fun b1 => ?_)
  refine l_val rfl rfl rfl (r_assign (v := .nilFunc) rfl) ?_
  refine l_nil ?_
  refine c_seq ?_
  refine c_seq ?_
  refine c_region ?_
  refine l_val rfl rfl rfl (r_field Tryd.runUnderlying35 rfl Tryd.sizeOf3 rfl rfl) ?_
  refine l_load1 (i := 0) (v := .int .i64 a0.Kind) Tryd.isAgg3 rfl rfl rfl rfl rfl ?_
  refine l_nil ?_
  refine c_block ?_
  refine c_seq ?_
  refine c_region ?_
  refine l_val rfl rfl rfl (r_eql rfl rfl) ?_
  refine l_val rfl rfl rfl (r_assign (v := .bool (decide (a0.Kind = 7))) rfl) ?_
  refine l_nil ?_
  refine c_if (b := (decide (a0.Kind = 7))) rfl (fun hb => ?_) (fun hb => ?_)
  · have H5 := cnd_t hb H; clear H
    refine c_seq ?_
    refine c_region ?_
    refine l_loadN (i := 0) (vs := [.int .i64 a0.Kind, .int .i64 a0.A, .int .i64 a0.B, .int .i64 a0.C, .int .i64 a0.D]) Tryd.isAgg35 Tryd.sizeOf35 rfl rfl rfl rfl rfl ?_
    refine l_val rfl rfl rfl (r_makeFnP (pre := #[.agg #[.int .i64 a0.Kind, .int .i64 a0.A, .int .i64 a0.B, .int .i64 a0.C, .int .i64 a0.D]]) (caps := #[]) rfl rfl) ?_
    refine l_val rfl rfl rfl (r_assign (v := .func (.func 164) #[.agg #[.int .i64 a0.Kind, .int .i64 a0.A, .int .i64 a0.B, .int .i64 a0.C, .int .i64 a0.D]] #[]) rfl) ?_
    refine l_nil ?_
    refine c_ret ?_
    obtain rfl := Option.some.inj H5
    refine ret1 (v := .func (.func 164) #[.agg #[.int .i64 a0.Kind, .int .i64 a0.A, .int .i64 a0.B, .int .i64 a0.C, .int .i64 a0.D]] #[]) rfl rfl (finF (φ := fun v => FnV Tryd.prog v (some (edit_Step_warm a0)) (fun g => fnR_func_3_uint8_3_uint8 g)) (FnV.mk (g := (edit_Step_warm a0)) (R := fun g => fnR_func_3_uint8_3_uint8 g) (fun h_ => (FnH.mk ⟨164, #[.agg #[.int .i64 a0.Kind, .int .i64 a0.A, .int .i64 a0.B, .int .i64 a0.C, .int .i64 a0.D]], #[], rfl, Tryd.call164, fun args2 post2 w2 hk2 hR2 => by obtain ⟨a0_, r_, rfl, H_, rfl⟩ := hR2; exact k164 H_ w2⟩))))
  · have H6 := cnd_f hb H; clear H
    refine c_seq ?_
    refine c_region ?_
    refine l_val rfl rfl rfl (r_eql rfl rfl) ?_
    refine l_val rfl rfl rfl (r_assign (v := .bool (decide (a0.Kind = 8))) rfl) ?_
    refine l_nil ?_
    refine c_if (b := (decide (a0.Kind = 8))) rfl (fun hb => ?_) (fun hb => ?_)
    · have H7 := cnd_t hb H6; clear H6
      refine c_seq ?_
      refine c_region ?_
      refine l_loadN (i := 0) (vs := [.int .i64 a0.Kind, .int .i64 a0.A, .int .i64 a0.B, .int .i64 a0.C, .int .i64 a0.D]) Tryd.isAgg35 Tryd.sizeOf35 rfl rfl rfl rfl rfl ?_
      refine l_val rfl rfl rfl (r_makeFnP (pre := #[.agg #[.int .i64 a0.Kind, .int .i64 a0.A, .int .i64 a0.B, .int .i64 a0.C, .int .i64 a0.D]]) (caps := #[]) rfl rfl) ?_
      refine l_val rfl rfl rfl (r_assign (v := .func (.func 165) #[.agg #[.int .i64 a0.Kind, .int .i64 a0.A, .int .i64 a0.B, .int .i64 a0.C, .int .i64 a0.D]] #[]) rfl) ?_
      refine l_nil ?_
      refine c_ret ?_
      obtain rfl := Option.some.inj H7
      refine ret1 (v := .func (.func 165) #[.agg #[.int .i64 a0.Kind, .int .i64 a0.A, .int .i64 a0.B, .int .i64 a0.C, .int .i64 a0.D]] #[]) rfl rfl (finF (φ := fun v => FnV Tryd.prog v (some (edit_Step_mute a0)) (fun g => fnR_func_3_uint8_3_uint8 g)) (FnV.mk (g := (edit_Step_mute a0)) (R := fun g => fnR_func_3_uint8_3_uint8 g) (fun h_ => (FnH.mk ⟨165, #[.agg #[.int .i64 a0.Kind, .int .i64 a0.A, .int .i64 a0.B, .int .i64 a0.C, .int .i64 a0.D]], #[], rfl, Tryd.call165, fun args2 post2 w2 hk2 hR2 => by obtain ⟨a0_, r_, rfl, H_, rfl⟩ := hR2; exact k165 H_ w2⟩))))
    · have H8 := cnd_f hb H6; clear H6
      refine c_skip ?_
      refine c_seq ?_
      refine c_region ?_
      refine l_loadN (i := 0) (vs := [.int .i64 a0.Kind, .int .i64 a0.A, .int .i64 a0.B, .int .i64 a0.C, .int .i64 a0.D]) Tryd.isAgg35 Tryd.sizeOf35 rfl rfl rfl rfl rfl ?_
      refine l_val rfl rfl rfl (r_makeFnP (pre := #[.agg #[.int .i64 a0.Kind, .int .i64 a0.A, .int .i64 a0.B, .int .i64 a0.C, .int .i64 a0.D]]) (caps := #[]) rfl rfl) ?_
      refine l_val rfl rfl rfl (r_assign (v := .func (.func 166) #[.agg #[.int .i64 a0.Kind, .int .i64 a0.A, .int .i64 a0.B, .int .i64 a0.C, .int .i64 a0.D]] #[]) rfl) ?_
      refine l_nil ?_
      refine c_ret ?_
      obtain rfl := Option.some.inj H8
      refine ret1 (v := .func (.func 166) #[.agg #[.int .i64 a0.Kind, .int .i64 a0.A, .int .i64 a0.B, .int .i64 a0.C, .int .i64 a0.D]] #[]) rfl rfl (finF (φ := fun v => FnV Tryd.prog v (some (edit_Step_eachByte a0)) (fun g => fnR_func_3_uint8_3_uint8 g)) (FnV.mk (g := (edit_Step_eachByte a0)) (R := fun g => fnR_func_3_uint8_3_uint8 g) (fun h_ => (FnH.mk ⟨166, #[.agg #[.int .i64 a0.Kind, .int .i64 a0.A, .int .i64 a0.B, .int .i64 a0.C, .int .i64 a0.D]], #[], rfl, Tryd.call166, fun args2 post2 w2 hk2 hR2 => by obtain ⟨a0_, r_, rfl, H_, rfl⟩ := hR2; exact k166 H_ w2⟩))))
theorem k75 {a0 : T_edit_Step} {a1 : T_api_Image} {p1_2 : Option Addr × Nat} {n1_2 : Nat} {r : (List Int)} {w : World} {h : Heap} {S : Nat → Prop} (hcs : (rowV 5 1 (.slice p1_2.1 n1_2 p1_2.2) n1_2 (a1.Pixels.map e_u8)).P S w) (hlt : ∀ b, S b → b < w.heap.size) (hw : Know h w S) (hn1_2 : n1_2 = a1.Pixels.length) (H : edit_Step_tone a0 a1 = some r) : Does Tryd.prog 75 (List.toArray [.agg #[.int .i64 a0.Kind, .int .i64 a0.A, .int .i64 a0.B, .int .i64 a0.C, .int .i64 a0.D], .agg #[.int .i64 a1.W, .int .i64 a1.H, .slice p1_2.1 n1_2 p1_2.2]]) w (fun v w' => ∃ x : Unit, v = (.tuple #[]) ∧ Turn w w' S (rowV 5 1 (.slice p1_2.1 n1_2 p1_2.2) n1_2 (r.map e_u8))) := by
  refine enter (n := 32) Tryd.func75 rfl rfl rfl S [rowV 5 1 (.slice p1_2.1 n1_2 p1_2.2) n1_2 (a1.Pixels.map e_u8)] (Sat.one hcs hlt) ?_
  refine c_seq ?_
  refine c_region ?_
  refine l_box (cs := [.int .i64 a0.Kind, .int .i64 a0.A, .int .i64 a0.B, .int .i64 a0.C, .int .i64 a0.D]) rfl rfl rfl rfl (fun b3 => ?_)
  refine l_box (cs := [.int .i64 a1.W, .int .i64 a1.H, .slice p1_2.1 n1_2 p1_2.2]) rfl rfl rfl rfl (fun b4 => ?_)
  refine l_nil ?_
  refine c_seq ?_
  refine c_region ?_
  refine l_loadN (i := 1) (vs := [.int .i64 a0.Kind, .int .i64 a0.A, .int .i64 a0.B, .int .i64 a0.C, .int .i64 a0.D]) Tryd.isAgg35 Tryd.sizeOf35 rfl rfl rfl rfl rfl ?_
  obtain ⟨t8, h_t8, H12⟩ := bnd_some H; clear H
  refine l_callF (k124 h_t8) Tryd.call124 rfl rfl rfl (fun fv hf => ?_)
  refine l_val rfl rfl rfl (r_assign (v := fv) rfl) ?_
  refine l_nil ?_
  refine c_seq ?_
  refine c_region ?_
  refine l_val rfl rfl rfl (r_assign (v := .int .i64 0) rfl) ?_
  refine l_nil ?_
  refine c_block ?_
  refine c_sel [0, 2] [rowV 5 1 (.slice p1_2.1 n1_2 p1_2.2) n1_2 (a1.Pixels.map e_u8), cellsC b4 [.int .i64 a1.W, .int .i64 a1.H, .slice p1_2.1 n1_2 p1_2.2] 48] rfl (by decide) ?_
  refine c_fix (σ := Int × (List Int)) (τ := Unit) (fun next1 s => edit_Step_tone_l1 t8 next1 s.1 s.2) (fun s t => [(3, .pointer (some ⟨b4, 0, none⟩)), (4, fv), (5, .int .i64 s.1)]) (fun s t => [rowV 5 1 (.slice p1_2.1 n1_2 p1_2.2) n1_2 (s.2.map e_u8), cellsC b4 [.int .i64 a1.W, .int .i64 a1.H, .slice p1_2.1 n1_2 p1_2.2] 48]) (fun s t => n1_2 = s.2.length) (0, a1.Pixels) () [0, 1] H12 (by exact hn1_2) (by exact ⟨rfl, rfl, rfl, trivial⟩) (by decide) rfl ?_
  rintro ⟨x5_2, l_2⟩ _ m1 gg H13 hl_2
  clear H12
  replace H13 : edit_Step_tone_l1 t8 (it (fun next1 s => edit_Step_tone_l1 t8 next1 s.1 s.2) m1) x5_2 l_2 = some r := H13
  generalize hn1 : it (fun next1 s => edit_Step_tone_l1 t8 next1 s.1 s.2) m1 = next1 at H13
  refine c_tidyF [(3, .pointer (some ⟨b4, 0, none⟩)), (4, fv), (5, .int .i64 x5_2)] [rowV 5 1 (.slice p1_2.1 n1_2 p1_2.2) n1_2 (l_2.map e_u8), cellsC b4 [.int .i64 a1.W, .int .i64 a1.H, .slice p1_2.1 n1_2 p1_2.2] 48] rfl rfl ?_
  refine c_seq ?_
  refine c_seq ?_
  refine c_region ?_
  refine l_val rfl rfl rfl (r_move (v := .int .i64 x5_2) rfl) ?_
  refine l_val rfl rfl rfl (r_field Tryd.runUnderlying48 rfl Tryd.sizeOf46 rfl rfl) ?_
  refine l_load1 (i := 1) (v := .slice p1_2.1 n1_2 p1_2.2) Tryd.isAgg46 rfl rfl rfl rfl rfl ?_
  refine l_val rfl rfl rfl (r_lenN Tryd.underlying46 rfl hl_2) ?_
  refine l_val rfl rfl rfl (r_lss rfl rfl) ?_
  refine l_nil ?_
  refine c_if (b := (decide (x5_2 < (l_2.length : Int)))) rfl (fun hb => ?_) (fun hb => ?_)
  · have H14 := cnd_t hb H13; clear H13
    refine c_skip ?_
    refine c_seq ?_
    refine c_block ?_
    refine c_seq ?_
    refine c_region ?_
    refine l_val rfl rfl rfl (r_move (v := fv) rfl) ?_
    refine l_val rfl rfl rfl (r_field Tryd.runUnderlying48 rfl Tryd.sizeOf46 rfl rfl) ?_
    refine l_load1 (i := 1) (v := .slice p1_2.1 n1_2 p1_2.2) Tryd.isAgg46 rfl rfl rfl rfl rfl ?_
    refine l_val rfl rfl rfl (r_move (v := .int .i64 x5_2) rfl) ?_
    refine l_val rfl rfl rfl (r_move (v := .int .i64 x5_2) rfl) ?_
    obtain ⟨t21, h_t21, H15⟩ := bnd_some H14; clear H14
    refine l_val rfl rfl rfl (r_addG rfl rfl h_t21) ?_
    obtain ⟨t22, h_t22, H16⟩ := bnd_some H15; clear H15
    refine l_read (v := .slice (cutA p1_2.1 (Int.toNat x5_2) p1_2.2 1) t22.length (p1_2.2 - Int.toNat x5_2)) (fun w hF hS => run_sliceLHO (xs := l_2) Tryd.underlying46 Tryd.sizeOf5 rfl rfl rfl hl_2 (capOf (i := 0) hS rfl) h_t22) rfl rfl rfl ?_
    obtain ⟨u23, h_u23, H17⟩ := bnd_some H16; clear H16
    refine l_val rfl rfl rfl (r_sap Tryd.runUnderlying166 rfl (gIf_some h_u23)) ?_
    refine l_read (fun w hF hS => run_loadSA (n := 3) (f := e_u8) (xs := t22) (vs := [.int .u8 ((ofL t22) 0), .int .u8 ((ofL t22) 1), .int .u8 ((ofL t22) 2)]) Tryd.isAgg166 Tryd.sizeOf166 rfl (Row.cutG (rowOf (i := 0) hS rfl) hl_2 (capOf (i := 0) hS rfl) h_t22) (gIf_some h_u23) rfl rfl (fun _ => rfl) rfl) rfl rfl rfl ?_
    obtain ⟨g25, h_g25, H18⟩ := bnd_some H17; clear H17
    obtain ⟨t25, h_t25, H19⟩ := bnd_some H18; clear H18
    refine l_callV (R := fnR_func_3_uint8_3_uint8 g25) (r := .agg #[.int .u8 (t25 0), .int .u8 (t25 1), .int .u8 (t25 2)]) (v := fv) (fun w hF hS => ⟨(hf.fn (gFn_some h_g25) _), ⟨(ofL t22), _, rfl, h_t25, rfl⟩⟩) rfl rfl rfl rfl ?_
    refine l_alloc (cs := [.int .u8 0, .int .u8 0, .int .u8 0]) Tryd.zeroValue166 rfl rfl rfl (fun b5 => ?_)
    refine l_store (i := 2) (vs := [.int .u8 (t25 0), .int .u8 (t25 1), .int .u8 (t25 2)]) (cs' := [.int .u8 (t25 0), .int .u8 (t25 1), .int .u8 (t25 2)]) Tryd.sizeOf166 rfl rfl rfl rfl rfl rfl rfl rfl rfl ?_
    refine l_nil ?_
    exact c_regionD (Kd.p :: Kd.d [1] _ :: Kd.p :: Kd.d [0] _ :: Kd.p :: Kd.t 0 [2] _ _ :: []) 0 mixed (by
      refine d_val rfl rfl (r_field Tryd.runUnderlying48 rfl Tryd.sizeOf46 rfl rfl) ?_
      refine d_load1 (i := 1) (v := .slice p1_2.1 n1_2 p1_2.2) Tryd.isAgg46 rfl rfl rfl rfl ?_
      refine d_val rfl rfl (r_move (v := .int .i64 x5_2) rfl) ?_
      have h_t29 := bnd_val H19
      have H20 := bnd_rest H19
      refine d_readD (v := .slice (cutA p1_2.1 (Int.toNat x5_2) p1_2.2 1) (val (gCut l_2 x5_2 l_2.length)).length (p1_2.2 - Int.toNat x5_2)) (fun w L' hF hS hi => run_sliceLO (xs := l_2) Tryd.underlying46 Tryd.sizeOf5 rfl rfl hl_2 (capOf (i := 0) hS ((hi 0 (by simp)).trans rfl)) h_t29) rfl rfl ?_
      refine d_val rfl rfl (r_sliceArrAll Tryd.underlying166 Tryd.sizeOf5 rfl) ?_
      refine d_turn (Cv := fun _ => rowV 5 1 (.slice p1_2.1 n1_2 p1_2.2) n1_2 ((cpyL l_2 x5_2 (val (gCut l_2 x5_2 l_2.length)).length ((List.range 3).map t25)).map e_u8)) () (turns_copyG (i := 0) (rds := _) (p := p1_2) (f := e_u8) (xs := l_2) (ts := (val (gCut l_2 x5_2 l_2.length))) (ys := ((List.range 3).map t25)) hl_2 Tryd.underlying46 (by rw [info_of Tryd.typeInfo5]; rfl) rfl rfl h_t29 rfl (by simp) (fun w L' hF hS hi => row_arr (f := e_u8) (i := 2) hS ((hi 2 (by simp)).trans rfl) rfl (fun _ => rfl) (gCutA_ok (n := 3) (f := t25) (q := 3) (by decide))) (fun _ => rfl) (fun _ => rfl)) (fun _ => rfl) rfl rfl (fun _ => ?_)
      refine d_nil ?_
      refine c_region ?_
      refine l_val rfl rfl rfl (r_move (v := .int .i64 x5_2) rfl) ?_
      obtain ⟨t15, h_t15, H21⟩ := bnd_some H20; clear H20
      refine l_val rfl rfl rfl (r_addG rfl rfl h_t15) ?_
      refine l_val rfl rfl rfl (r_assign (v := .int .i64 t15) rfl) ?_
      refine l_nil ?_
      refine c_close (t15, (cpyL l_2 x5_2 (val (gCut l_2 x5_2 l_2.length)).length ((List.range 3).map t25))) () m1 [0, 1] (by exact ⟨rfl, rfl, rfl, trivial⟩) (by decide) rfl (by exact ⟨(by subst hn1; exact H21), (cpyL_n hl_2 h_t29)⟩) (Nat.lt_succ_self _)
      ) (by kernel_rfl)
  · have H22 := cnd_f hb H13; clear H13
    refine c_exit ?_
    obtain rfl := Option.some.inj H22
    refine ret0n rfl (finX () (i := 0) rfl rfl (Imp.refl _))
end Go.Proofs.YtilhbkglchppjaaDoor
