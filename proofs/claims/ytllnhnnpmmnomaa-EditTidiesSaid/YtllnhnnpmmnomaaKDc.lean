/- EditTidies, curves: the walks, printed by our generator; each follows its model. Conditions: the model yields a value. -/
import Derived.Test.YtllnhnnpmmnomaaMTd
import Derived.Test.YtllnhnnpmmnomaaProg
import Derived.Test.YtllnhnnpmmnomaaLx15
import Derived.Test.YtllnhnnpmmnomaaLx17
import Derived.Test.YtllnhnnpmmnomaaLx18
import Derived.Test.YtllnhnnpmmnomaaLx19
import Derived.Test.YtllnhnnpmmnomaaLx22
namespace Go.Proofs.Ytllnhnnpmmnomaa
open Go Go.Vc Go.Md Go.M Go.Lx
set_option maxRecDepth 100000
set_option maxHeartbeats 4000000
set_option linter.unusedVariables false

theorem mixed : Try.prog.follows .mixedOrders = true := by kernel_rfl

abbrev e_i64 (x : Int) : List Value := [.int .i64 x]
def fnR_func_int_int_int_bool (m : (Int → Int → Int → Option (Bool))) (w : World) (args : List Value) (post : Value → World → Prop) : Prop :=
  ∃ (a0 : Int) (a1 : Int) (a2 : Int) (r : Bool), args = [.int .i64 a0, .int .i64 a1, .int .i64 a2] ∧ m a0 a1 a2 = some r ∧ post = fun v' w' => v' = (.bool r) ∧ Grow w w'
abbrev e_edit_Step (x : T_edit_Step) : List Value := [.int .i64 x.Kind, .int .i64 x.A, .int .i64 x.B, .int .i64 x.C, .int .i64 x.D]
def fnR_func_uint8_uint8 (m : (Int → Option (Int))) (w : World) (args : List Value) (post : Value → World → Prop) : Prop :=
  ∃ (a0 : Int) (r : Int), args = [.int .u8 a0] ∧ m a0 = some r ∧ post = fun v' w' => v' = (.int .u8 r) ∧ Grow w w'
abbrev e_u8 (x : Int) : List Value := [.int .u8 x]
def fnR_func_int_int_int_int_int_int (m : (Int → Int → Int → Int → Option (Int × Int))) (w : World) (args : List Value) (post : Value → World → Prop) : Prop :=
  ∃ (a0 : Int) (a1 : Int) (a2 : Int) (a3 : Int) (r : Int × Int), args = [.int .i64 a0, .int .i64 a1, .int .i64 a2, .int .i64 a3] ∧ m a0 a1 a2 a3 = some r ∧ post = fun v' w' => v' = (.tuple #[.int .i64 r.1, .int .i64 r.2]) ∧ Grow w w'
abbrev vft175 : Nat → Value
  | 0 => .func (.func 118) #[] #[]
  | 1 => .func (.func 119) #[] #[]
  | 2 => .func (.func 120) #[] #[]
  | 3 => .func (.func 121) #[] #[]
  | 4 => .func (.func 122) #[] #[]
  | 5 => .func (.func 123) #[] #[]
  | _ => .nilFunc
abbrev e_ft175 (x : Nat) : List Value := [vft175 x]
def fnR_edit_rule (m : ((List T_edit_Step) → Int → Int → Int → Option ((List T_edit_Step) × Bool))) (w : World) (args : List Value) (post : Value → World → Prop) : Prop :=
  ∃ (a0 : (List T_edit_Step)) (v0 : Value) (a1 : Int) (a2 : Int) (a3 : Int) (r : (List T_edit_Step) × Bool), FrS (fun b => w.heap[b]?) 5 v0 (a0.map e_edit_Step) ∧ args = [v0, .int .i64 a1, .int .i64 a2, .int .i64 a3] ∧ m a0 a1 a2 a3 = some r ∧ post = fun v' w' => ∃ x : (Option Addr × Nat), v' = (.tuple #[.slice x.1 r.1.length x.2, .bool r.2]) ∧ Turn w w' noS (rowV 31 5 (.slice x.1 r.1.length x.2) r.1.length (r.1.map e_edit_Step))

def gs_edit_Step (h : Heap) (c : Nat → Value) (x : (List T_edit_Step)) : Prop := FrS h 5 (c 0) (x.map e_edit_Step)
instance : Mon gs_edit_Step := ⟨fun k _ _ f => FrS.mono f k⟩
theorem cgs_edit_Step {h : Heap} {c : Nat → Value} {x : (List T_edit_Step)} (_ : gs_edit_Step h c x) : (List.range 1).map c = [c 0] := rfl

theorem run_eqT31 (d : Nat) (w : World) (a0 b0 : Int) (a1 b1 : Int) (a2 b2 : Int) (a3 b3 : Int) (a4 b4 : Int) : (Op.equalIn (d + 2) 31 (.agg #[.int .i64 a0, .int .i64 a1, .int .i64 a2, .int .i64 a3, .int .i64 a4]) (.agg #[.int .i64 b0, .int .i64 b1, .int .i64 b2, .int .i64 b3, .int .i64 b4])).run Try.prog w = .ok (decide (a0 = b0 ∧ a1 = b1 ∧ a2 = b2 ∧ a3 = b3 ∧ a4 = b4)) w := by
  rw [run_equalIn_struct w (d + 1) 31 _ _ (by simp only [Program.fieldsOf, Try.underlying31]) Try.stoodInHeld31]
  simp only [Program.fieldsOf, Try.underlying31, Op.eqFields]
  simp [part, run_equalIn_int, run_equalIn_strL, run_equalIn_bool', Try.underlying3]
  repeat' split
  all_goals simp_all

theorem run_eq_edit_Step (w : World) (x y : T_edit_Step) : (Op.equalIn Op.maxDepth 31 (.agg #[.int .i64 x.Kind, .int .i64 x.A, .int .i64 x.B, .int .i64 x.C, .int .i64 x.D]) (.agg #[.int .i64 y.Kind, .int .i64 y.A, .int .i64 y.B, .int .i64 y.C, .int .i64 y.D])).run Try.prog w = .ok (eq_edit_Step x y) w :=
  run_eqT31 9998 w _ _ _ _ _ _ _ _ _ _

theorem run_eq_edit_curve (w : World) (x y : (Nat → Int)) : (Op.equalIn Op.maxDepth 169 (.agg (arrC 256 fun j_ => [.int .u8 (x j_)]).toArray) (.agg (arrC 256 fun j_ => [.int .u8 (y j_)]).toArray)).run Try.prog w = .ok (eq_edit_curve x y) w :=
  run_eqIntsC (dp := 9998) (len := 256) (k := .u8) (k' := .u8) x y Try.underlying169 Try.underlying5 Try.isAgg5 Try.sizeOf5 w

theorem k112 {r : (Nat → Int)} (H : edit_straight = some r) : Ret Try.prog 112 [] (.agg (List.toArray (arrC 256 (fun j_ => [.int .u8 (r j_)])))) := by
  refine enterRet (n := 12) Try.func112 rfl rfl rfl (fun wd => ?_)
  refine c_seq ?_
  refine c_region ?_
  refine l_alloc (cs := (arrC 256 (fun j_ => [.int .u8 ((fun _ => 0) j_)]))) Try.zeroValue169 (by kernel_rfl) rfl rfl (fun b2 => ?_)
  refine l_nil ?_
  refine c_seq ?_
  refine c_region ?_
  refine l_alloc (cs := (arrC 256 (fun j_ => [.int .u8 ((fun _ => 0) j_)]))) Try.zeroValue169 (by kernel_rfl) rfl rfl (fun b3 => ?_)
  refine l_nil ?_
  refine c_meet (r := r) (σ := (Nat → Int)) (τ := Unit) (fun s => edit_straight_j1 s) (fun s t => [(0, .pointer (some ⟨b2, 0, none⟩)), (1, .pointer (some ⟨b3, 0, none⟩))]) (fun s t => [cellsC b2 (arrC 256 (fun j_ => [.int .u8 ((fun _ => 0) j_)])) 169, cellsC b3 (arrC 256 (fun j_ => [.int .u8 (s j_)])) 169]) (fun s t => True) ?_ ?_
  · refine c_seq ?_
    refine c_region ?_
    refine l_val rfl rfl rfl (r_move (v := .int .i64 0) rfl) ?_
    refine l_nil ?_
    refine c_block ?_
    refine c_fix (σ := Int × (Nat → Int)) (τ := Unit) (fun next2 s => edit_straight_l2 next2 s.1 s.2) (fun s t => [(0, .pointer (some ⟨b2, 0, none⟩)), (1, .pointer (some ⟨b3, 0, none⟩)), (3, .int .i64 s.1)]) (fun s t => [cellsC b2 (arrC 256 (fun j_ => [.int .u8 ((fun _ => 0) j_)])) 169, cellsC b3 (arrC 256 (fun j_ => [.int .u8 (s.2 j_)])) 169]) (fun s t => True) (0, (fun _ => 0)) () [0, 1] H (by exact trivial) (by exact ⟨rfl, rfl, rfl, trivial⟩) (by decide) rfl ?_
    rintro ⟨x3_2, m_3⟩ _ m2 gg H8 _
    clear H
    replace H8 : edit_straight_l2 (it (fun next2 s => edit_straight_l2 next2 s.1 s.2) m2) x3_2 m_3 = some r := H8
    generalize hn2 : it (fun next2 s => edit_straight_l2 next2 s.1 s.2) m2 = next2 at H8
    refine c_tidyF [(0, .pointer (some ⟨b2, 0, none⟩)), (1, .pointer (some ⟨b3, 0, none⟩)), (3, .int .i64 x3_2)] [cellsC b2 (arrC 256 (fun j_ => [.int .u8 ((fun _ => 0) j_)])) 169, cellsC b3 (arrC 256 (fun j_ => [.int .u8 (m_3 j_)])) 169] rfl rfl ?_
    refine c_seq ?_
    refine c_region ?_
    refine l_val rfl rfl rfl (r_lss rfl rfl) ?_
    refine l_nil ?_
    refine c_seq ?_
    refine c_if (b := (decide (x3_2 < 256))) rfl (fun hb => ?_) (fun hb => ?_)
    · have H9 := cnd_t hb H8; clear H8
      refine c_skip ?_
      refine c_seq ?_
      refine c_block ?_
      refine c_seq ?_
      refine c_region ?_
      refine l_val rfl rfl rfl (r_move (v := .int .i64 x3_2) rfl) ?_
      refine l_val rfl rfl rfl (r_assign (v := .int .i64 x3_2) rfl) ?_
      refine l_nil ?_
      refine c_region ?_
      refine l_val rfl rfl rfl (r_move (v := .int .i64 x3_2) rfl) ?_
      refine l_val rfl rfl rfl (r_move (v := .int .i64 x3_2) rfl) ?_
      refine l_val rfl rfl rfl (r_convG Try.runUnderlying3 Try.runUnderlying5 rfl (wr_u8 _)) ?_
      obtain ⟨k9, h_k9, H10⟩ := bnd_some H9; clear H9
      refine l_val rfl rfl rfl (r_indexPG Try.runUnderlying169 Try.sizeOf5 rfl rfl h_k9) ?_
      refine l_store (i := 1) (vs := [.int .u8 (wU8 x3_2)]) (cs' := (arrC 256 (fun j_ => [.int .u8 ((setA m_3 k9 (wU8 x3_2)) j_)]))) Try.sizeOf5 rfl rfl rfl rfl rfl rfl rfl rfl (wr_arr (pre := []) (post := []) (f := fun (j_ : Int) => [.int .u8 j_]) (n := 256) (sz := 1) (a := m_3) (x := (wU8 x3_2)) (arr_whole _ _) rfl (fun _ => rfl) (gIx_lt h_k9) rfl (arr_whole _ _)) ?_
      refine l_nil ?_
      refine c_region ?_
      obtain ⟨t10, h_t10, H11⟩ := bnd_some H10; clear H10
      refine l_val rfl rfl rfl (r_addG rfl rfl h_t10) ?_
      refine l_val rfl rfl rfl (r_move (v := .int .i64 t10) rfl) ?_
      refine l_nil ?_
      refine c_close (t10, (setA m_3 k9 (wU8 x3_2))) () m2 [0, 1] (by exact ⟨rfl, rfl, rfl, trivial⟩) (by decide) rfl (by exact ⟨(by subst hn2; exact H11), trivial⟩) (Nat.lt_succ_self _)
    · have H12 := cnd_f hb H8; clear H8
      refine c_exit ?_
      refine c_close m_3 () 0 [0, 1] (by exact ⟨rfl, rfl, trivial⟩) (by decide) rfl (by exact ⟨H12, trivial⟩) (Nat.lt_succ_self _)
  · rintro m _ gg H7 _
    replace H7 : edit_straight_j1 m = some r := H7
    refine c_tidyF [(0, .pointer (some ⟨b2, 0, none⟩)), (1, .pointer (some ⟨b3, 0, none⟩))] [cellsC b2 (arrC 256 (fun j_ => [.int .u8 ((fun _ => 0) j_)])) 169, cellsC b3 (arrC 256 (fun j_ => [.int .u8 (m j_)])) 169] rfl rfl ?_
    refine c_seq ?_
    refine c_region ?_
    refine l_loadN (i := 1) (vs := (arrC 256 (fun j_ => [.int .u8 (m j_)]))) Try.isAgg169 Try.sizeOf169 rfl rfl rfl rfl (rd_whole (arrC_len (fun _ => rfl))) ?_
    refine l_store (i := 0) (vs := (arrC 256 (fun j_ => [.int .u8 (m j_)]))) (cs' := (arrC 256 (fun j_ => [.int .u8 (m j_)]))) Try.sizeOf169 rfl rfl rfl rfl (arrC_len (fun _ => rfl)) rfl (arrC_one (fun _ => rfl)) rfl (wr_whole ((arrC_len (fun _ => rfl)).trans (arrC_len (fun _ => rfl)).symm)) ?_
    refine l_nil ?_
    refine c_ret ?_
    obtain rfl := Option.some.inj H7
    refine retC (i := 0) (vs := (arrC 256 (fun j_ => [.int .u8 (m j_)]))) Try.isAgg169 Try.sizeOf169 rfl rfl rfl (rd_whole (arrC_len (fun _ => rfl))) (fin rfl)
theorem k233 {a0 : Int} {r : Int} (H : edit_clamp a0 = some r) : Ret Try.prog 233 [.int .i64 a0] (.int .u8 r) := by
  refine enterRet (n := 7) Try.func233 rfl rfl rfl (fun wd => ?_)
  refine c_seq ?_
  refine c_region ?_
  refine l_val rfl rfl rfl (r_assign (v := .int .u8 0) rfl) ?_
  refine l_nil ?_
  refine c_seq ?_
  refine c_region ?_
  refine l_val rfl rfl rfl (r_move (v := .int .i64 a0) rfl) ?_
  refine l_val rfl rfl rfl (r_max rfl rfl) ?_
  refine l_val rfl rfl rfl (r_min rfl rfl) ?_
  refine l_val rfl rfl rfl (r_convG Try.runUnderlying3 Try.runUnderlying5 rfl (wr_u8 _)) ?_
  refine l_val rfl rfl rfl (r_assign (v := .int .u8 (wU8 (min (max a0 0) 255))) rfl) ?_
  refine l_nil ?_
  refine c_ret ?_
  obtain rfl := Option.some.inj H
  refine ret1 (v := .int .u8 (wU8 (min (max a0 0) 255))) rfl rfl (fin rfl)
theorem k201 {a0 : T_edit_Step} {a1 : Int} {r : Int} (H : edit_Step_light a0 a1 = some r) : Ret Try.prog 201 [.agg #[.int .i64 a0.Kind, .int .i64 a0.A, .int .i64 a0.B, .int .i64 a0.C, .int .i64 a0.D], .int .u8 a1] (.int .u8 r) := by
  refine enterRet (n := 11) Try.func201 rfl rfl rfl (fun wd => ?_)
  refine c_seq ?_
  refine c_region ?_
  refine l_box (cs := [.int .i64 a0.Kind, .int .i64 a0.A, .int .i64 a0.B, .int .i64 a0.C, .int .i64 a0.D]) rfl rfl rfl rfl (fun b1 => ?_)
  refine l_val rfl rfl rfl (r_assign (v := .int .u8 0) rfl) ?_
  refine l_nil ?_
  refine c_seq ?_
  refine c_region ?_
  refine l_val rfl rfl rfl (r_move (v := .int .u8 a1) rfl) ?_
  obtain ⟨t6, h_t6, H4⟩ := bnd_some H; clear H
  refine l_val rfl rfl rfl (r_convG Try.runUnderlying5 Try.runUnderlying3 rfl (gK_i64 h_t6)) ?_
  refine l_val rfl rfl rfl (r_field Try.runUnderlying31 rfl Try.sizeOf3 rfl rfl) ?_
  refine l_load1 (i := 0) (v := .int .i64 a0.A) Try.isAgg3 rfl rfl rfl rfl rfl ?_
  obtain ⟨t9, h_t9, H5⟩ := bnd_some H4; clear H4
  refine l_val rfl rfl rfl (r_addG rfl rfl h_t9) ?_
  obtain ⟨t10, h_t10, H6⟩ := bnd_some H5; clear H5
  refine l_call (k233 h_t10) Try.call233 rfl rfl rfl ?_
  refine l_val rfl rfl rfl (r_assign (v := .int .u8 t10) rfl) ?_
  refine l_nil ?_
  refine c_ret ?_
  obtain rfl := Option.some.inj H6
  refine ret1 (v := .int .u8 t10) rfl rfl (fin rfl)
theorem k234 {a0 : Int} {a1 : Int} {r : Int} (H : edit_floor a0 a1 = some r) : Ret Try.prog 234 [.int .i64 a0, .int .i64 a1] (.int .i64 r) := by
  refine enterRet (n := 16) Try.func234 rfl rfl rfl (fun wd => ?_)
  refine c_seq ?_
  refine c_region ?_
  refine l_val rfl rfl rfl (r_assign (v := .int .i64 0) rfl) ?_
  refine l_nil ?_
  refine c_seq ?_
  refine c_region ?_
  refine l_val rfl rfl rfl (r_move (v := .int .i64 a0) rfl) ?_
  refine l_val rfl rfl rfl (r_move (v := .int .i64 a1) rfl) ?_
  obtain ⟨t8, h_t8, H6⟩ := bnd_some H; clear H
  refine l_val rfl rfl rfl (r_quoG rfl rfl h_t8) ?_
  refine l_val rfl rfl rfl (r_assign (v := .int .i64 t8) rfl) ?_
  refine l_nil ?_
  refine c_seq ?_
  refine c_seq ?_
  refine c_region ?_
  refine l_val rfl rfl rfl (r_move (v := .int .i64 a0) rfl) ?_
  refine l_val rfl rfl rfl (r_move (v := .int .i64 a1) rfl) ?_
  obtain ⟨t11, h_t11, H7⟩ := bnd_some H6; clear H6
  refine l_val rfl rfl rfl (r_remG rfl rfl h_t11) ?_
  refine l_val rfl rfl rfl (r_lss rfl rfl) ?_
  refine l_nil ?_
  refine c_if (b := (decide (t11 < 0))) rfl (fun hb => ?_) (fun hb => ?_)
  · have H8 := cnd_t hb H7; clear H7
    refine c_region ?_
    refine l_val rfl rfl rfl (r_move (v := .int .i64 t8) rfl) ?_
    obtain ⟨t14, h_t14, H9⟩ := bnd_some H8; clear H8
    refine l_val rfl rfl rfl (r_subG rfl rfl h_t14) ?_
    refine l_val rfl rfl rfl (r_assign (v := .int .i64 t14) rfl) ?_
    refine l_nil ?_
    refine c_seq ?_
    refine c_region ?_
    refine l_val rfl rfl rfl (r_move (v := .int .i64 t14) rfl) ?_
    refine l_val rfl rfl rfl (r_assign (v := .int .i64 t14) rfl) ?_
    refine l_nil ?_
    refine c_ret ?_
    obtain rfl := Option.some.inj H9
    refine ret1 (v := .int .i64 t14) rfl rfl (fin rfl)
  · have H10 := cnd_f hb H7; clear H7
    refine c_skip ?_
    refine c_seq ?_
    refine c_region ?_
    refine l_val rfl rfl rfl (r_move (v := .int .i64 t8) rfl) ?_
    refine l_val rfl rfl rfl (r_assign (v := .int .i64 t8) rfl) ?_
    refine l_nil ?_
    refine c_ret ?_
    obtain rfl := Option.some.inj H10
    refine ret1 (v := .int .i64 t8) rfl rfl (fin rfl)
theorem k202 {a0 : T_edit_Step} {a1 : Int} {r : Int} (H : edit_Step_spread a0 a1 = some r) : Ret Try.prog 202 [.agg #[.int .i64 a0.Kind, .int .i64 a0.A, .int .i64 a0.B, .int .i64 a0.C, .int .i64 a0.D], .int .u8 a1] (.int .u8 r) := by
  refine enterRet (n := 14) Try.func202 rfl rfl rfl (fun wd => ?_)
  refine c_seq ?_
  refine c_region ?_
  refine l_box (cs := [.int .i64 a0.Kind, .int .i64 a0.A, .int .i64 a0.B, .int .i64 a0.C, .int .i64 a0.D]) rfl rfl rfl rfl (fun b1 => ?_)
  refine l_val rfl rfl rfl (r_assign (v := .int .u8 0) rfl) ?_
  refine l_nil ?_
  refine c_seq ?_
  refine c_region ?_
  refine l_val rfl rfl rfl (r_move (v := .int .u8 a1) rfl) ?_
  obtain ⟨t6, h_t6, H7⟩ := bnd_some H; clear H
  refine l_val rfl rfl rfl (r_convG Try.runUnderlying5 Try.runUnderlying3 rfl (gK_i64 h_t6)) ?_
  obtain ⟨t7, h_t7, H8⟩ := bnd_some H7; clear H7
  refine l_val rfl rfl rfl (r_subG rfl rfl h_t7) ?_
  refine l_val rfl rfl rfl (r_field Try.runUnderlying31 rfl Try.sizeOf3 rfl rfl) ?_
  refine l_load1 (i := 0) (v := .int .i64 a0.A) Try.isAgg3 rfl rfl rfl rfl rfl ?_
  obtain ⟨t10, h_t10, H9⟩ := bnd_some H8; clear H8
  refine l_val rfl rfl rfl (r_mulG rfl rfl h_t10) ?_
  obtain ⟨t11, h_t11, H10⟩ := bnd_some H9; clear H9
  refine l_call (k234 h_t11) Try.call234 rfl rfl rfl ?_
  obtain ⟨t12, h_t12, H11⟩ := bnd_some H10; clear H10
  refine l_val rfl rfl rfl (r_addG rfl rfl h_t12) ?_
  obtain ⟨t13, h_t13, H12⟩ := bnd_some H11; clear H11
  refine l_call (k233 h_t13) Try.call233 rfl rfl rfl ?_
  refine l_val rfl rfl rfl (r_assign (v := .int .u8 t13) rfl) ?_
  refine l_nil ?_
  refine c_ret ?_
  obtain rfl := Option.some.inj H12
  refine ret1 (v := .int .u8 t13) rfl rfl (fin rfl)
theorem k203 {a0 : T_edit_Step} {a1 : Int} {r : Int} (H : edit_Step_levels a0 a1 = some r) : Ret Try.prog 203 [.agg #[.int .i64 a0.Kind, .int .i64 a0.A, .int .i64 a0.B, .int .i64 a0.C, .int .i64 a0.D], .int .u8 a1] (.int .u8 r) := by
  refine enterRet (n := 18) Try.func203 rfl rfl rfl (fun wd => ?_)
  refine c_seq ?_
  refine c_region ?_
  refine l_box (cs := [.int .i64 a0.Kind, .int .i64 a0.A, .int .i64 a0.B, .int .i64 a0.C, .int .i64 a0.D]) rfl rfl rfl rfl (fun b1 => ?_)
  refine l_val rfl rfl rfl (r_assign (v := .int .u8 0) rfl) ?_
  refine l_nil ?_
  refine c_seq ?_
  refine c_region ?_
  refine l_val rfl rfl rfl (r_move (v := .int .u8 a1) rfl) ?_
  obtain ⟨t6, h_t6, H7⟩ := bnd_some H; clear H
  refine l_val rfl rfl rfl (r_convG Try.runUnderlying5 Try.runUnderlying3 rfl (gK_i64 h_t6)) ?_
  refine l_val rfl rfl rfl (r_field Try.runUnderlying31 rfl Try.sizeOf3 rfl rfl) ?_
  refine l_load1 (i := 0) (v := .int .i64 a0.A) Try.isAgg3 rfl rfl rfl rfl rfl ?_
  obtain ⟨t9, h_t9, H8⟩ := bnd_some H7; clear H7
  refine l_val rfl rfl rfl (r_subG rfl rfl h_t9) ?_
  obtain ⟨t10, h_t10, H9⟩ := bnd_some H8; clear H8
  refine l_val rfl rfl rfl (r_mulG rfl rfl h_t10) ?_
  refine l_val rfl rfl rfl (r_field Try.runUnderlying31 rfl Try.sizeOf3 rfl rfl) ?_
  refine l_load1 (i := 0) (v := .int .i64 a0.B) Try.isAgg3 rfl rfl rfl rfl rfl ?_
  refine l_val rfl rfl rfl (r_field Try.runUnderlying31 rfl Try.sizeOf3 rfl rfl) ?_
  refine l_load1 (i := 0) (v := .int .i64 a0.A) Try.isAgg3 rfl rfl rfl rfl rfl ?_
  obtain ⟨t15, h_t15, H10⟩ := bnd_some H9; clear H9
  refine l_val rfl rfl rfl (r_subG rfl rfl h_t15) ?_
  obtain ⟨t16, h_t16, H11⟩ := bnd_some H10; clear H10
  refine l_call (k234 h_t16) Try.call234 rfl rfl rfl ?_
  obtain ⟨t17, h_t17, H12⟩ := bnd_some H11; clear H11
  refine l_call (k233 h_t17) Try.call233 rfl rfl rfl ?_
  refine l_val rfl rfl rfl (r_assign (v := .int .u8 t17) rfl) ?_
  refine l_nil ?_
  refine c_ret ?_
  obtain rfl := Option.some.inj H12
  refine ret1 (v := .int .u8 t17) rfl rfl (fin rfl)
theorem k204 {a0 : T_edit_Step} {a1 : Int} {r : Int} (H : edit_Step_invert a0 a1 = some r) : Ret Try.prog 204 [.agg #[.int .i64 a0.Kind, .int .i64 a0.A, .int .i64 a0.B, .int .i64 a0.C, .int .i64 a0.D], .int .u8 a1] (.int .u8 r) := by
  refine enterRet (n := 7) Try.func204 rfl rfl rfl (fun wd => ?_)
  refine c_seq ?_
  refine c_region ?_
  refine l_box (cs := [.int .i64 a0.Kind, .int .i64 a0.A, .int .i64 a0.B, .int .i64 a0.C, .int .i64 a0.D]) rfl rfl rfl rfl (fun b1 => ?_)
  refine l_val rfl rfl rfl (r_assign (v := .int .u8 0) rfl) ?_
  refine l_nil ?_
  refine c_seq ?_
  refine c_region ?_
  refine l_val rfl rfl rfl (r_move (v := .int .u8 a1) rfl) ?_
  refine l_val rfl rfl rfl (r_subW rfl rfl (wr_u8 _)) ?_
  refine l_val rfl rfl rfl (r_assign (v := .int .u8 (wU8 (255 - a1))) rfl) ?_
  refine l_nil ?_
  refine c_ret ?_
  obtain rfl := Option.some.inj H
  refine ret1 (v := .int .u8 (wU8 (255 - a1))) rfl rfl (fin rfl)
theorem k163 {a0 : T_edit_Step} {r : (Option (Int → Option (Int)))} (H : edit_Step_byByte a0 = some r) : RetF Try.prog 163 [.agg #[.int .i64 a0.Kind, .int .i64 a0.A, .int .i64 a0.B, .int .i64 a0.C, .int .i64 a0.D]] (fun v => FnV Try.prog v r (fun g => fnR_func_uint8_uint8 g)) := by
  refine enterRetF (n := 21) Try.func163 rfl rfl rfl (fun wd => ?_)
  refine c_seq ?_
  refine c_region ?_
  refine l_box (cs := [.int .i64 a0.Kind, .int .i64 a0.A, .int .i64 a0.B, .int .i64 a0.C, .int .i64 a0.D]) rfl rfl rfl rfl (fun b1 => ?_)
  refine l_val rfl rfl rfl (r_assign (v := .nilFunc) rfl) ?_
  refine l_nil ?_
  refine c_seq ?_
  refine c_seq ?_
  refine c_region ?_
  refine l_val rfl rfl rfl (r_field Try.runUnderlying31 rfl Try.sizeOf3 rfl rfl) ?_
  refine l_load1 (i := 0) (v := .int .i64 a0.Kind) Try.isAgg3 rfl rfl rfl rfl rfl ?_
  refine l_nil ?_
  refine c_block ?_
  refine c_seq ?_
  refine c_region ?_
  refine l_val rfl rfl rfl (r_eql rfl rfl) ?_
  refine l_val rfl rfl rfl (r_assign (v := .bool (decide (a0.Kind = 4))) rfl) ?_
  refine l_nil ?_
  refine c_if (b := (decide (a0.Kind = 4))) rfl (fun hb => ?_) (fun hb => ?_)
  · have H9 := cnd_t hb H; clear H
    refine c_seq ?_
    refine c_region ?_
    refine l_loadN (i := 0) (vs := [.int .i64 a0.Kind, .int .i64 a0.A, .int .i64 a0.B, .int .i64 a0.C, .int .i64 a0.D]) Try.isAgg31 Try.sizeOf31 rfl rfl rfl rfl rfl ?_
    refine l_val rfl rfl rfl (r_makeFnP (pre := #[.agg #[.int .i64 a0.Kind, .int .i64 a0.A, .int .i64 a0.B, .int .i64 a0.C, .int .i64 a0.D]]) (caps := #[]) rfl rfl) ?_
    refine l_val rfl rfl rfl (r_assign (v := .func (.func 201) #[.agg #[.int .i64 a0.Kind, .int .i64 a0.A, .int .i64 a0.B, .int .i64 a0.C, .int .i64 a0.D]] #[]) rfl) ?_
    refine l_nil ?_
    refine c_ret ?_
    obtain rfl := Option.some.inj H9
    refine ret1 (v := .func (.func 201) #[.agg #[.int .i64 a0.Kind, .int .i64 a0.A, .int .i64 a0.B, .int .i64 a0.C, .int .i64 a0.D]] #[]) rfl rfl (finF (φ := fun v => FnV Try.prog v (some (edit_Step_light a0)) (fun g => fnR_func_uint8_uint8 g)) (FnV.mk (g := (edit_Step_light a0)) (R := fun g => fnR_func_uint8_uint8 g) (fun h_ => (FnH.mk ⟨201, #[.agg #[.int .i64 a0.Kind, .int .i64 a0.A, .int .i64 a0.B, .int .i64 a0.C, .int .i64 a0.D]], #[], rfl, Try.call201, fun args2 post2 w2 hk2 hR2 => by obtain ⟨a0_, r_, rfl, H_, rfl⟩ := hR2; exact k201 H_ w2⟩))))
  · have H10 := cnd_f hb H; clear H
    refine c_seq ?_
    refine c_region ?_
    refine l_val rfl rfl rfl (r_eql rfl rfl) ?_
    refine l_val rfl rfl rfl (r_assign (v := .bool (decide (a0.Kind = 5))) rfl) ?_
    refine l_nil ?_
    refine c_if (b := (decide (a0.Kind = 5))) rfl (fun hb => ?_) (fun hb => ?_)
    · have H11 := cnd_t hb H10; clear H10
      refine c_seq ?_
      refine c_region ?_
      refine l_loadN (i := 0) (vs := [.int .i64 a0.Kind, .int .i64 a0.A, .int .i64 a0.B, .int .i64 a0.C, .int .i64 a0.D]) Try.isAgg31 Try.sizeOf31 rfl rfl rfl rfl rfl ?_
      refine l_val rfl rfl rfl (r_makeFnP (pre := #[.agg #[.int .i64 a0.Kind, .int .i64 a0.A, .int .i64 a0.B, .int .i64 a0.C, .int .i64 a0.D]]) (caps := #[]) rfl rfl) ?_
      refine l_val rfl rfl rfl (r_assign (v := .func (.func 202) #[.agg #[.int .i64 a0.Kind, .int .i64 a0.A, .int .i64 a0.B, .int .i64 a0.C, .int .i64 a0.D]] #[]) rfl) ?_
      refine l_nil ?_
      refine c_ret ?_
      obtain rfl := Option.some.inj H11
      refine ret1 (v := .func (.func 202) #[.agg #[.int .i64 a0.Kind, .int .i64 a0.A, .int .i64 a0.B, .int .i64 a0.C, .int .i64 a0.D]] #[]) rfl rfl (finF (φ := fun v => FnV Try.prog v (some (edit_Step_spread a0)) (fun g => fnR_func_uint8_uint8 g)) (FnV.mk (g := (edit_Step_spread a0)) (R := fun g => fnR_func_uint8_uint8 g) (fun h_ => (FnH.mk ⟨202, #[.agg #[.int .i64 a0.Kind, .int .i64 a0.A, .int .i64 a0.B, .int .i64 a0.C, .int .i64 a0.D]], #[], rfl, Try.call202, fun args2 post2 w2 hk2 hR2 => by obtain ⟨a0_, r_, rfl, H_, rfl⟩ := hR2; exact k202 H_ w2⟩))))
    · have H12 := cnd_f hb H10; clear H10
      refine c_seq ?_
      refine c_region ?_
      refine l_val rfl rfl rfl (r_eql rfl rfl) ?_
      refine l_val rfl rfl rfl (r_assign (v := .bool (decide (a0.Kind = 6))) rfl) ?_
      refine l_nil ?_
      refine c_if (b := (decide (a0.Kind = 6))) rfl (fun hb => ?_) (fun hb => ?_)
      · have H13 := cnd_t hb H12; clear H12
        refine c_seq ?_
        refine c_region ?_
        refine l_loadN (i := 0) (vs := [.int .i64 a0.Kind, .int .i64 a0.A, .int .i64 a0.B, .int .i64 a0.C, .int .i64 a0.D]) Try.isAgg31 Try.sizeOf31 rfl rfl rfl rfl rfl ?_
        refine l_val rfl rfl rfl (r_makeFnP (pre := #[.agg #[.int .i64 a0.Kind, .int .i64 a0.A, .int .i64 a0.B, .int .i64 a0.C, .int .i64 a0.D]]) (caps := #[]) rfl rfl) ?_
        refine l_val rfl rfl rfl (r_assign (v := .func (.func 203) #[.agg #[.int .i64 a0.Kind, .int .i64 a0.A, .int .i64 a0.B, .int .i64 a0.C, .int .i64 a0.D]] #[]) rfl) ?_
        refine l_nil ?_
        refine c_ret ?_
        obtain rfl := Option.some.inj H13
        refine ret1 (v := .func (.func 203) #[.agg #[.int .i64 a0.Kind, .int .i64 a0.A, .int .i64 a0.B, .int .i64 a0.C, .int .i64 a0.D]] #[]) rfl rfl (finF (φ := fun v => FnV Try.prog v (some (edit_Step_levels a0)) (fun g => fnR_func_uint8_uint8 g)) (FnV.mk (g := (edit_Step_levels a0)) (R := fun g => fnR_func_uint8_uint8 g) (fun h_ => (FnH.mk ⟨203, #[.agg #[.int .i64 a0.Kind, .int .i64 a0.A, .int .i64 a0.B, .int .i64 a0.C, .int .i64 a0.D]], #[], rfl, Try.call203, fun args2 post2 w2 hk2 hR2 => by obtain ⟨a0_, r_, rfl, H_, rfl⟩ := hR2; exact k203 H_ w2⟩))))
      · have H14 := cnd_f hb H12; clear H12
        refine c_seq ?_
        refine c_region ?_
        refine l_val rfl rfl rfl (r_eql rfl rfl) ?_
        refine l_val rfl rfl rfl (r_assign (v := .bool (decide (a0.Kind = 9))) rfl) ?_
        refine l_nil ?_
        refine c_if (b := (decide (a0.Kind = 9))) rfl (fun hb => ?_) (fun hb => ?_)
        · have H15 := cnd_t hb H14; clear H14
          refine c_seq ?_
          refine c_region ?_
          refine l_loadN (i := 0) (vs := [.int .i64 a0.Kind, .int .i64 a0.A, .int .i64 a0.B, .int .i64 a0.C, .int .i64 a0.D]) Try.isAgg31 Try.sizeOf31 rfl rfl rfl rfl rfl ?_
          refine l_val rfl rfl rfl (r_makeFnP (pre := #[.agg #[.int .i64 a0.Kind, .int .i64 a0.A, .int .i64 a0.B, .int .i64 a0.C, .int .i64 a0.D]]) (caps := #[]) rfl rfl) ?_
          refine l_val rfl rfl rfl (r_assign (v := .func (.func 204) #[.agg #[.int .i64 a0.Kind, .int .i64 a0.A, .int .i64 a0.B, .int .i64 a0.C, .int .i64 a0.D]] #[]) rfl) ?_
          refine l_nil ?_
          refine c_ret ?_
          obtain rfl := Option.some.inj H15
          refine ret1 (v := .func (.func 204) #[.agg #[.int .i64 a0.Kind, .int .i64 a0.A, .int .i64 a0.B, .int .i64 a0.C, .int .i64 a0.D]] #[]) rfl rfl (finF (φ := fun v => FnV Try.prog v (some (edit_Step_invert a0)) (fun g => fnR_func_uint8_uint8 g)) (FnV.mk (g := (edit_Step_invert a0)) (R := fun g => fnR_func_uint8_uint8 g) (fun h_ => (FnH.mk ⟨204, #[.agg #[.int .i64 a0.Kind, .int .i64 a0.A, .int .i64 a0.B, .int .i64 a0.C, .int .i64 a0.D]], #[], rfl, Try.call204, fun args2 post2 w2 hk2 hR2 => by obtain ⟨a0_, r_, rfl, H_, rfl⟩ := hR2; exact k204 H_ w2⟩))))
        · have H16 := cnd_f hb H14; clear H14
          refine c_skip ?_
          refine c_seq ?_
          refine c_region ?_
          refine l_val rfl rfl rfl (r_assign (v := .nilFunc) rfl) ?_
          refine l_nil ?_
          refine c_ret ?_
          obtain rfl := Option.some.inj H16
          refine ret1 (v := .nilFunc) rfl rfl (finF (φ := fun v => FnV Try.prog v none (fun g => fnR_func_uint8_uint8 g)) FnV.nil)
theorem k113 {a0 : (Nat → Int)} {a1 : T_edit_Step} {r : (Nat → Int) × Bool} (H : edit_curve_after a0 a1 = some r) : Ret Try.prog 113 [.agg (List.toArray (arrC 256 (fun j_ => [.int .u8 (a0 j_)]))), .agg #[.int .i64 a1.Kind, .int .i64 a1.A, .int .i64 a1.B, .int .i64 a1.C, .int .i64 a1.D]] (.tuple #[.agg (List.toArray (arrC 256 (fun j_ => [.int .u8 (r.1 j_)]))), .bool r.2]) := by
  refine enterRet (n := 26) Try.func113 rfl rfl rfl (fun wd => ?_)
  refine c_seq ?_
  refine c_region ?_
  refine l_box (cs := (arrC 256 (fun j_ => [.int .u8 (a0 j_)]))) rfl rfl rfl rfl (fun b3 => ?_)
  refine l_box (cs := [.int .i64 a1.Kind, .int .i64 a1.A, .int .i64 a1.B, .int .i64 a1.C, .int .i64 a1.D]) rfl rfl rfl rfl (fun b4 => ?_)
  refine l_alloc (cs := (arrC 256 (fun j_ => [.int .u8 ((fun _ => 0) j_)]))) Try.zeroValue169 (by kernel_rfl) rfl rfl (fun b5 => ?_)
  refine l_val rfl rfl rfl (r_assign (v := .bool false) rfl) ?_
  refine l_nil ?_
  refine c_seq ?_
  refine c_region ?_
  refine l_loadN (i := 1) (vs := [.int .i64 a1.Kind, .int .i64 a1.A, .int .i64 a1.B, .int .i64 a1.C, .int .i64 a1.D]) Try.isAgg31 Try.sizeOf31 rfl rfl rfl rfl rfl ?_
  obtain ⟨t10, h_t10, H13⟩ := bnd_some H; clear H
  refine l_callF (k163 h_t10) Try.call163 rfl rfl rfl (fun fv hf => ?_)
  refine l_val rfl rfl rfl (r_assign (v := fv) rfl) ?_
  refine l_nil ?_
  refine c_seq ?_
  refine c_seq ?_
  refine c_region ?_
  refine l_val rfl rfl rfl (r_move (v := fv) rfl) ?_
  refine l_val rfl rfl rfl (r_eqlFn Try.underlying208 rfl rfl hf) ?_
  refine l_nil ?_
  refine c_if (b := (Option.isNone t10)) rfl (fun hb => ?_) (fun hb => ?_)
  · have H14 := cnd_t hb H13; clear H13
    refine c_seq ?_
    refine c_region ?_
    refine l_loadN (i := 0) (vs := (arrC 256 (fun j_ => [.int .u8 (a0 j_)]))) Try.isAgg169 Try.sizeOf169 rfl rfl rfl rfl (rd_whole (arrC_len (fun _ => rfl))) ?_
    refine l_store (i := 2) (vs := (arrC 256 (fun j_ => [.int .u8 (a0 j_)]))) (cs' := (arrC 256 (fun j_ => [.int .u8 (a0 j_)]))) Try.sizeOf169 rfl rfl rfl rfl (arrC_len (fun _ => rfl)) rfl (arrC_one (fun _ => rfl)) rfl (wr_whole ((arrC_len (fun _ => rfl)).trans (arrC_len (fun _ => rfl)).symm)) ?_
    refine l_val rfl rfl rfl (r_assign (v := .bool false) rfl) ?_
    refine l_nil ?_
    refine c_ret ?_
    obtain rfl := Option.some.inj H14
    refine retCt (i := 2) (vs := (arrC 256 (fun j_ => [.int .u8 (a0 j_)]))) (v2 := .bool false) Try.isAgg169 Try.sizeOf169 rfl rfl rfl (rd_whole (arrC_len (fun _ => rfl))) rfl (fin rfl)
  · have H15 := cnd_f hb H13; clear H13
    refine c_skip ?_
    refine c_meet (r := r) (σ := (Nat → Int)) (τ := Unit) (fun s => edit_curve_after_j1 s) (fun s t => [(2, .pointer (some ⟨b3, 0, none⟩)), (4, .pointer (some ⟨b5, 0, none⟩))]) (fun s t => [cellsC b3 (arrC 256 (fun j_ => [.int .u8 (s j_)])) 169, cellsC b5 (arrC 256 (fun j_ => [.int .u8 ((fun _ => 0) j_)])) 169]) (fun s t => True) ?_ ?_
    · refine c_seq ?_
      refine c_region ?_
      refine l_loadN (i := 0) (vs := (arrC 256 (fun j_ => [.int .u8 (a0 j_)]))) Try.isAgg169 Try.sizeOf169 rfl rfl rfl rfl (rd_whole (arrC_len (fun _ => rfl))) ?_
      refine l_val rfl rfl rfl (r_move (v := .int .i64 0) rfl) ?_
      refine l_nil ?_
      refine c_block ?_
      refine c_sel [0, 2] [cellsC b3 (arrC 256 (fun j_ => [.int .u8 (a0 j_)])) 169, cellsC b5 (arrC 256 (fun j_ => [.int .u8 ((fun _ => 0) j_)])) 169] rfl (by decide) ?_
      refine c_fix (σ := Int × (Nat → Int)) (τ := Unit) (fun next2 s => edit_curve_after_l2 a0 t10 next2 s.1 s.2) (fun s t => [(2, .pointer (some ⟨b3, 0, none⟩)), (4, .pointer (some ⟨b5, 0, none⟩)), (6, fv), (14, .agg (List.toArray (arrC 256 (fun j_ => [.int .u8 (a0 j_)])))), (15, .int .i64 s.1)]) (fun s t => [cellsC b3 (arrC 256 (fun j_ => [.int .u8 (s.2 j_)])) 169, cellsC b5 (arrC 256 (fun j_ => [.int .u8 ((fun _ => 0) j_)])) 169]) (fun s t => True) (0, a0) () [0, 1] H15 (by exact trivial) (by exact ⟨rfl, rfl, rfl, rfl, rfl, trivial⟩) (by decide) rfl ?_
      rintro ⟨x15_2, m_3⟩ _ m2 gg H17 _
      clear H15
      replace H17 : edit_curve_after_l2 a0 t10 (it (fun next2 s => edit_curve_after_l2 a0 t10 next2 s.1 s.2) m2) x15_2 m_3 = some r := H17
      generalize hn2 : it (fun next2 s => edit_curve_after_l2 a0 t10 next2 s.1 s.2) m2 = next2 at H17
      refine c_tidyF [(2, .pointer (some ⟨b3, 0, none⟩)), (4, .pointer (some ⟨b5, 0, none⟩)), (6, fv), (14, .agg (List.toArray (arrC 256 (fun j_ => [.int .u8 (a0 j_)])))), (15, .int .i64 x15_2)] [cellsC b3 (arrC 256 (fun j_ => [.int .u8 (m_3 j_)])) 169, cellsC b5 (arrC 256 (fun j_ => [.int .u8 ((fun _ => 0) j_)])) 169] rfl rfl ?_
      refine c_seq ?_
      refine c_region ?_
      refine l_val rfl rfl rfl (r_lss rfl rfl) ?_
      refine l_nil ?_
      refine c_seq ?_
      refine c_if (b := (decide (x15_2 < 256))) rfl (fun hb => ?_) (fun hb => ?_)
      · have H18 := cnd_t hb H17; clear H17
        refine c_skip ?_
        refine c_seq ?_
        refine c_block ?_
        refine c_seq ?_
        refine c_region ?_
        refine l_val rfl rfl rfl (r_move (v := .int .i64 x15_2) rfl) ?_
        obtain ⟨k18, h_k18, H19⟩ := bnd_some H18; clear H18
        refine l_val rfl rfl rfl (r_indexAG (f := fun j_ => .int .u8 (a0 j_)) Try.runUnderlying169 Try.isAgg5 Try.sizeOf5 rfl rfl rfl h_k18) ?_
        refine l_val rfl rfl rfl (r_assign (v := .int .i64 x15_2) rfl) ?_
        refine l_val rfl rfl rfl (r_assign (v := .int .u8 (a0 k18)) rfl) ?_
        refine l_nil ?_
        refine c_region ?_
        refine l_val rfl rfl rfl (r_move (v := .int .i64 x15_2) rfl) ?_
        refine l_val rfl rfl rfl (r_move (v := fv) rfl) ?_
        refine l_val rfl rfl rfl (r_move (v := .int .u8 (a0 k18)) rfl) ?_
        obtain ⟨g22, h_g22, H20⟩ := bnd_some H19; clear H19
        obtain ⟨t22, h_t22, H21⟩ := bnd_some H20; clear H20
        refine l_callV (R := fnR_func_uint8_uint8 g22) (r := .int .u8 t22) (v := fv) (fun w hF hS => ⟨(hf.fn (gFn_some h_g22) _), ⟨(a0 k18), _, rfl, h_t22, rfl⟩⟩) rfl rfl rfl rfl ?_
        obtain ⟨k23, h_k23, H22⟩ := bnd_some H21; clear H21
        refine l_val rfl rfl rfl (r_indexPG Try.runUnderlying169 Try.sizeOf5 rfl rfl h_k23) ?_
        refine l_store (i := 0) (vs := [.int .u8 t22]) (cs' := (arrC 256 (fun j_ => [.int .u8 ((setA m_3 k23 t22) j_)]))) Try.sizeOf5 rfl rfl rfl rfl rfl rfl rfl rfl (wr_arr (pre := []) (post := []) (f := fun (j_ : Int) => [.int .u8 j_]) (n := 256) (sz := 1) (a := m_3) (x := t22) (arr_whole _ _) rfl (fun _ => rfl) (gIx_lt h_k23) rfl (arr_whole _ _)) ?_
        refine l_nil ?_
        refine c_region ?_
        obtain ⟨t24, h_t24, H23⟩ := bnd_some H22; clear H22
        refine l_val rfl rfl rfl (r_addG rfl rfl h_t24) ?_
        refine l_val rfl rfl rfl (r_move (v := .int .i64 t24) rfl) ?_
        refine l_nil ?_
        refine c_close (t24, (setA m_3 k23 t22)) () m2 [0, 1] (by exact ⟨rfl, rfl, rfl, rfl, rfl, trivial⟩) (by decide) rfl (by exact ⟨(by subst hn2; exact H23), trivial⟩) (Nat.lt_succ_self _)
      · have H24 := cnd_f hb H17; clear H17
        refine c_exit ?_
        refine c_close m_3 () 0 [0, 1] (by exact ⟨rfl, rfl, trivial⟩) (by decide) rfl (by exact ⟨H24, trivial⟩) (Nat.lt_succ_self _)
    · rintro m _ gg H16 _
      replace H16 : edit_curve_after_j1 m = some r := H16
      refine c_tidyF [(2, .pointer (some ⟨b3, 0, none⟩)), (4, .pointer (some ⟨b5, 0, none⟩))] [cellsC b3 (arrC 256 (fun j_ => [.int .u8 (m j_)])) 169, cellsC b5 (arrC 256 (fun j_ => [.int .u8 ((fun _ => 0) j_)])) 169] rfl rfl ?_
      refine c_seq ?_
      refine c_region ?_
      refine l_loadN (i := 0) (vs := (arrC 256 (fun j_ => [.int .u8 (m j_)]))) Try.isAgg169 Try.sizeOf169 rfl rfl rfl rfl (rd_whole (arrC_len (fun _ => rfl))) ?_
      refine l_store (i := 1) (vs := (arrC 256 (fun j_ => [.int .u8 (m j_)]))) (cs' := (arrC 256 (fun j_ => [.int .u8 (m j_)]))) Try.sizeOf169 rfl rfl rfl rfl (arrC_len (fun _ => rfl)) rfl (arrC_one (fun _ => rfl)) rfl (wr_whole ((arrC_len (fun _ => rfl)).trans (arrC_len (fun _ => rfl)).symm)) ?_
      refine l_val rfl rfl rfl (r_assign (v := .bool true) rfl) ?_
      refine l_nil ?_
      refine c_ret ?_
      obtain rfl := Option.some.inj H16
      refine retCt (i := 1) (vs := (arrC 256 (fun j_ => [.int .u8 (m j_)]))) (v2 := .bool true) Try.isAgg169 Try.sizeOf169 rfl rfl rfl (rd_whole (arrC_len (fun _ => rfl))) rfl (fin rfl)
end Go.Proofs.Ytllnhnnpmmnomaa
