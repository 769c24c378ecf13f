/- TagValues, first part: the walks, printed by our generator; each follows its model. Conditions: the model yields a value. -/
import Derived.Test.YtohdhdiaahiicaaGreatDoorMTv
import Derived.Test.YtohdhdiaahiicaaGreatDoorProg
import Derived.Test.YtohdhdiaahiicaaGreatDoorLx15
import Derived.Test.YtohdhdiaahiicaaGreatDoorSrt
import Derived.Test.YtohdhdiaahiicaaGreatDoorLx17
import Derived.Test.YtohdhdiaahiicaaGreatDoorLx18
import Derived.Test.YtohdhdiaahiicaaGreatDoorLx19
import Derived.Test.YtohdhdiaahiicaaGreatDoorLx22
import Derived.Test.YtohdhdiaahiicaaGreatDoorLx23
import Derived.Test.YtohdhdiaahiicaaGreatDoorLx24
namespace Go.Proofs.YtohdhdiaahiicaaGreatDoor
open Go Go.Vc Go.Md Go.M Go.Lx
set_option maxRecDepth 100000
set_option maxHeartbeats 4000000
set_option linter.unusedVariables false

theorem mixed : Tryz.prog.follows .mixedOrders = true := by kernel_rfl

abbrev e_i64 (x : Int) : List Value := [.int .i64 x]
abbrev e_tag_Ratio (x : T_tag_Ratio) : List Value := [.int .i64 x.Num, .int .i64 x.Den]
abbrev e_string (x : (List UInt8)) : List Value := [str x]
abbrev e_u8 (x : Int) : List Value := [.int .u8 x]

inductive g_tag_Entry (h : Heap) : (Nat → Value) → T_tag_Entry → Prop
  | mk {c : Nat → Value} {x : T_tag_Entry} (h0 : c 0 = .int .i64 x.Tag) (h1 : c 1 = .int .i64 x.Value.Kind) (h2 : c 2 = str x.Value.Text) (h3 : FrS h 1 (c 3) (x.Value.Ints.map e_i64)) (h4 : FrS h 2 (c 4) (x.Value.Ratios.map e_tag_Ratio)) (h5 : FrS h 6 (c 5) ((List.range x.Value.Entries.length).map (elC h (c 5) 6))) (h6 : ∀ (i : Nat) (y : T_tag_Entry), x.Value.Entries[i]? = some y → g_tag_Entry h (elH h (c 5) 6 i) y) : g_tag_Entry h c x
instance : Mon g_tag_Entry := ⟨fun k c x f => by
  induction f with
  | mk h0 h1 h2 h3 h4 h5 h6 ih => exact .mk h0 h1 h2 (h3.mono k) (h4.mono k) (frsMono h5 k) (fun i y hy => by have e_ := elMonoE h5 k hy; rw [← e_]; exact ih i y hy)⟩
def gs_int (h : Heap) (c : Nat → Value) (x : (List Int)) : Prop := FrS h 1 (c 0) (x.map e_i64)
instance : Mon gs_int := ⟨fun k _ _ f => FrS.mono f k⟩
theorem cgs_int {h : Heap} {c : Nat → Value} {x : (List Int)} (_ : gs_int h c x) : (List.range 1).map c = [c 0] := rfl
def gs_tag_Ratio (h : Heap) (c : Nat → Value) (x : (List T_tag_Ratio)) : Prop := FrS h 2 (c 0) (x.map e_tag_Ratio)
instance : Mon gs_tag_Ratio := ⟨fun k _ _ f => FrS.mono f k⟩
theorem cgs_tag_Ratio {h : Heap} {c : Nat → Value} {x : (List T_tag_Ratio)} (_ : gs_tag_Ratio h c x) : (List.range 1).map c = [c 0] := rfl
def gs_tag_Entry (h : Heap) (c : Nat → Value) (x : (List T_tag_Entry)) : Prop := FrN h 6 (c 0) g_tag_Entry x
instance : Mon gs_tag_Entry := ⟨fun k _ _ f => FrN.mono f k⟩
theorem cgs_tag_Entry {h : Heap} {c : Nat → Value} {x : (List T_tag_Entry)} (_ : gs_tag_Entry h c x) : (List.range 1).map c = [c 0] := rfl
def g_tag_Value (h : Heap) (c : Nat → Value) (x : T_tag_Value) : Prop := c 0 = .int .i64 x.Kind ∧ c 1 = str x.Text ∧ gs_int h (fun j => c (2 + j)) x.Ints ∧ gs_tag_Ratio h (fun j => c (3 + j)) x.Ratios ∧ gs_tag_Entry h (fun j => c (4 + j)) x.Entries
instance : Mon g_tag_Value := ⟨fun k _ _ f => by obtain ⟨h0, h1, h2, h3, h4⟩ := f; exact ⟨h0, h1, Mon.mono k _ _ h2, Mon.mono k _ _ h3, Mon.mono k _ _ h4⟩⟩
theorem cg_tag_Value {h : Heap} {c : Nat → Value} {x : T_tag_Value} (f : g_tag_Value h c x) : (List.range 5).map c = [.int .i64 x.Kind, str x.Text, c 2, c 3, c 4] := by
  obtain ⟨h0, h1, h2, h3, h4⟩ := f
  show [c 0, c 1, c 2, c 3, c 4] = _
  simp only [h0, h1]
theorem g_tag_Value_p2 {h : Heap} {c : Nat → Value} {x : T_tag_Value} (f : g_tag_Value h c x) : gs_int h (fun j => c (2 + j)) x.Ints := by
  obtain ⟨h0, h1, h2, h3, h4⟩ := f; exact h2
theorem g_tag_Value_p3 {h : Heap} {c : Nat → Value} {x : T_tag_Value} (f : g_tag_Value h c x) : gs_tag_Ratio h (fun j => c (3 + j)) x.Ratios := by
  obtain ⟨h0, h1, h2, h3, h4⟩ := f; exact h3
theorem g_tag_Value_p4 {h : Heap} {c : Nat → Value} {x : T_tag_Value} (f : g_tag_Value h c x) : gs_tag_Entry h (fun j => c (4 + j)) x.Entries := by
  obtain ⟨h0, h1, h2, h3, h4⟩ := f; exact h4

theorem g_tag_Entry_iff {h : Heap} {c : Nat → Value} {x : T_tag_Entry} : g_tag_Entry h c x ↔ (c 0 = .int .i64 x.Tag ∧ g_tag_Value h (fun j => c (1 + j)) x.Value) :=
  ⟨fun f => by cases f with | mk h0 h1 h2 h3 h4 h5 h6 => exact ⟨h0, ⟨h1, h2, h3, h4, ⟨h5, h6⟩⟩⟩, fun ⟨h0, ⟨h1, h2, h3, h4, ⟨h5, h6⟩⟩⟩ => .mk h0 h1 h2 h3 h4 h5 h6⟩
theorem cg_tag_Entry {h : Heap} {c : Nat → Value} {x : T_tag_Entry} (f : g_tag_Entry h c x) : (List.range 6).map c = [.int .i64 x.Tag, .int .i64 x.Value.Kind, str x.Value.Text, c 3, c 4, c 5] := by
  obtain ⟨h0, h1⟩ := g_tag_Entry_iff.1 f
  have hc1 := cg_tag_Value h1
  simp only [List.range, List.range.loop, List.map_cons, List.map_nil, Nat.reduceAdd, List.cons.injEq, and_true] at hc1
  show [c 0, c 1, c 2, c 3, c 4, c 5] = _
  simp only [h0, hc1]
theorem g_tag_Entry_p1 {h : Heap} {c : Nat → Value} {x : T_tag_Entry} (f : g_tag_Entry h c x) : g_tag_Value h (fun j => c (1 + j)) x.Value := by
  obtain ⟨h0, h1⟩ := g_tag_Entry_iff.1 f; exact h1


def fnR_func_tag_Entry_tag_Entry_bool (m : (T_tag_Entry → T_tag_Entry → Option (Bool))) (w : World) (args : List Value) (post : Value → World → Prop) : Prop :=
  ∃ (a0 : T_tag_Entry) (v0_1_2 : Value) (v0_1_3 : Value) (v0_1_4 : Value) (a1 : T_tag_Entry) (v1_1_2 : Value) (v1_1_3 : Value) (v1_1_4 : Value) (r : Bool), FrS (fun b => w.heap[b]?) 1 v0_1_2 (a0.Value.Ints.map e_i64) ∧ FrS (fun b => w.heap[b]?) 2 v0_1_3 (a0.Value.Ratios.map e_tag_Ratio) ∧ FrN (fun b => w.heap[b]?) 6 v0_1_4 g_tag_Entry a0.Value.Entries ∧ FrS (fun b => w.heap[b]?) 1 v1_1_2 (a1.Value.Ints.map e_i64) ∧ FrS (fun b => w.heap[b]?) 2 v1_1_3 (a1.Value.Ratios.map e_tag_Ratio) ∧ FrN (fun b => w.heap[b]?) 6 v1_1_4 g_tag_Entry a1.Value.Entries ∧ args = [.agg #[.int .i64 a0.Tag, .int .i64 a0.Value.Kind, str a0.Value.Text, v0_1_2, v0_1_3, v0_1_4], .agg #[.int .i64 a1.Tag, .int .i64 a1.Value.Kind, str a1.Value.Text, v1_1_2, v1_1_3, v1_1_4]] ∧ m a0 a1 = some r ∧ post = fun v' w' => v' = (.bool r) ∧ Grow w w'
theorem run_eqT42 (d : Nat) (w : World) (a0 b0 : Int) (a1 b1 : Int) : (Op.equalIn (d + 2) 42 (.agg #[.int .i64 a0, .int .i64 a1]) (.agg #[.int .i64 b0, .int .i64 b1])).run Tryz.prog w = .ok (decide (a0 = b0 ∧ a1 = b1)) w := by
  rw [run_equalIn_struct w (d + 1) 42 _ _ (by simp only [Program.fieldsOf, Tryz.underlying42]) Tryz.stoodInHeld42]
  simp only [Program.fieldsOf, Tryz.underlying42, Op.eqFields]
  simp [part, run_equalIn_int, run_equalIn_strL, run_equalIn_bool', Tryz.underlying3]
  repeat' split
  all_goals simp_all

theorem run_eq_tag_Ratio (w : World) (x y : T_tag_Ratio) : (Op.equalIn Op.maxDepth 42 (.agg #[.int .i64 x.Num, .int .i64 x.Den]) (.agg #[.int .i64 y.Num, .int .i64 y.Den])).run Tryz.prog w = .ok (eq_tag_Ratio x y) w :=
  run_eqT42 9998 w _ _ _ _

theorem k12 {a0 : Int} {r : Int} (H : R_wide a0 = some r) : Ret Tryz.prog 12 [.int .i64 a0] (.int .i64 r) := by
 refine enterRet (n := 16) Tryz.func12 rfl rfl rfl (fun wd => ?_)
 refine c_seq ?_
 refine c_region ?_
 refine l_val rfl rfl rfl (r_assign (v := .int .i64 0) rfl) ?_
 refine l_nil ?_
 refine c_seq ?_
 refine c_seq ?_
 refine c_region ?_
 refine l_val rfl rfl rfl (r_move (v := .int .i64 a0) rfl) ?_
 refine l_nil ?_
 refine c_block ?_
 refine c_meet (r := r) (σ := Bool) (τ := Unit) (fun s => R_wide_j1 a0 s) (fun s t => [(3, .int .i64 a0), (4, .bool s)]) (fun s t => []) (fun s t => True) ?_ ?_
 ·refine c_seq ?_
  refine c_region ?_
  refine l_val rfl rfl rfl (r_eql rfl rfl) ?_
  refine l_val rfl rfl rfl (r_assign (v := .bool (decide (a0 = 1))) rfl) ?_
  refine l_nil ?_
  refine c_if (b := (decide (a0 = 1))) rfl (fun hb => ?_) (fun hb => ?_)
  ·have H47 := cnd_t hb H; clear H
   refine c_skip ?_
   refine c_close (decide (a0 = 1)) () 0 [] (by exact ⟨rfl, rfl, trivial⟩) (by decide) rfl (by exact ⟨H47, trivial⟩) (Nat.lt_succ_self _)
  ·have H48 := cnd_f hb H; clear H
   refine c_seq ?_
   refine c_region ?_
   refine l_val rfl rfl rfl (r_eql rfl rfl) ?_
   refine l_val rfl rfl rfl (r_assign (v := .bool (decide (a0 = 2))) rfl) ?_
   refine l_nil ?_
   refine c_if (b := (decide (a0 = 2))) rfl (fun hb => ?_) (fun hb => ?_)
   ·have H49 := cnd_t hb H48; clear H48
    refine c_skip ?_
    refine c_close (decide (a0 = 2)) () 0 [] (by exact ⟨rfl, rfl, trivial⟩) (by decide) rfl (by exact ⟨H49, trivial⟩) (Nat.lt_succ_self _)
   ·have H50 := cnd_f hb H48; clear H48
    refine c_region ?_
    refine l_val rfl rfl rfl (r_eql rfl rfl) ?_
    refine l_val rfl rfl rfl (r_assign (v := .bool (decide (a0 = 7))) rfl) ?_
    refine l_nil ?_
    refine c_close (decide (a0 = 7)) () 0 [] (by exact ⟨rfl, rfl, trivial⟩) (by decide) rfl (by exact ⟨H50, trivial⟩) (Nat.lt_succ_self _)
 ·rintro x4 _ gg H26 _
  replace H26 : R_wide_j1 a0 x4 = some r := H26
  refine c_tidyF [(3, .int .i64 a0), (4, .bool x4)] [] rfl rfl ?_
  refine c_if (b := x4) rfl (fun hb => ?_) (fun hb => ?_)
  ·have H27 := cnd_t hb H26; clear H26
   refine c_seq ?_
   refine c_region ?_
   refine l_val rfl rfl rfl (r_assign (v := .int .i64 1) rfl) ?_
   refine l_nil ?_
   refine c_ret ?_
   obtain rfl := Option.some.inj H27
   refine ret1 (v := .int .i64 1) rfl rfl (fin rfl)
  ·have H28 := cnd_f hb H26; clear H26
   refine c_seq ?_
   refine c_region ?_
   refine l_val rfl rfl rfl (r_eql rfl rfl) ?_
   refine l_val rfl rfl rfl (r_assign (v := .bool (decide (a0 = 3))) rfl) ?_
   refine l_nil ?_
   refine c_if (b := (decide (a0 = 3))) rfl (fun hb => ?_) (fun hb => ?_)
   ·have H29 := cnd_t hb H28; clear H28
    refine c_seq ?_
    refine c_region ?_
    refine l_val rfl rfl rfl (r_assign (v := .int .i64 2) rfl) ?_
    refine l_nil ?_
    refine c_ret ?_
    obtain rfl := Option.some.inj H29
    refine ret1 (v := .int .i64 2) rfl rfl (fin rfl)
   ·have H30 := cnd_f hb H28; clear H28
    refine c_seq ?_
    refine c_seq ?_
    refine c_region ?_
    refine l_val rfl rfl rfl (r_eql rfl rfl) ?_
    refine l_val rfl rfl rfl (r_assign (v := .bool (decide (a0 = 4))) rfl) ?_
    refine l_nil ?_
    refine c_if (b := (decide (a0 = 4))) rfl (fun hb => ?_) (fun hb => ?_)
    ·have H31 := cnd_t hb H30; clear H30
     refine c_skip ?_
     refine c_if (b := (decide (a0 = 4))) rfl (fun hb => ?_) (fun hb => ?_)
     ·have H32 := cnd_t hb H31; clear H31
      refine c_seq ?_
      refine c_region ?_
      refine l_val rfl rfl rfl (r_assign (v := .int .i64 4) rfl) ?_
      refine l_nil ?_
      refine c_ret ?_
      obtain rfl := Option.some.inj H32
      refine ret1 (v := .int .i64 4) rfl rfl (fin rfl)
     ·have H33 := cnd_f hb H31; clear H31
      refine c_seq ?_
      refine c_region ?_
      refine l_val rfl rfl rfl (r_eql rfl rfl) ?_
      refine l_val rfl rfl rfl (r_assign (v := .bool (decide (a0 = 5))) rfl) ?_
      refine l_nil ?_
      refine c_if (b := (decide (a0 = 5))) rfl (fun hb => ?_) (fun hb => ?_)
      ·have H34 := cnd_t hb H33; clear H33
       refine c_seq ?_
       refine c_region ?_
       refine l_val rfl rfl rfl (r_assign (v := .int .i64 8) rfl) ?_
       refine l_nil ?_
       refine c_ret ?_
       obtain rfl := Option.some.inj H34
       refine ret1 (v := .int .i64 8) rfl rfl (fin rfl)
      ·have H35 := cnd_f hb H33; clear H33
       refine c_skip ?_
       refine c_seq ?_
       refine c_region ?_
       refine l_val rfl rfl rfl (r_assign (v := .int .i64 0) rfl) ?_
       refine l_nil ?_
       refine c_ret ?_
       obtain rfl := Option.some.inj H35
       refine ret1 (v := .int .i64 0) rfl rfl (fin rfl)
    ·have H36 := cnd_f hb H30; clear H30
     refine c_seq ?_
     refine c_region ?_
     refine l_val rfl rfl rfl (r_eql rfl rfl) ?_
     refine l_val rfl rfl rfl (r_assign (v := .bool (decide (a0 = 9))) rfl) ?_
     refine l_nil ?_
     refine c_if (b := (decide (a0 = 9))) rfl (fun hb => ?_) (fun hb => ?_)
     ·have H37 := cnd_t hb H36; clear H36
      refine c_skip ?_
      refine c_if (b := (decide (a0 = 9))) rfl (fun hb => ?_) (fun hb => ?_)
      ·have H38 := cnd_t hb H37; clear H37
       refine c_seq ?_
       refine c_region ?_
       refine l_val rfl rfl rfl (r_assign (v := .int .i64 4) rfl) ?_
       refine l_nil ?_
       refine c_ret ?_
       obtain rfl := Option.some.inj H38
       refine ret1 (v := .int .i64 4) rfl rfl (fin rfl)
      ·have H39 := cnd_f hb H37; clear H37
       refine c_seq ?_
       refine c_region ?_
       refine l_val rfl rfl rfl (r_eql rfl rfl) ?_
       refine l_val rfl rfl rfl (r_assign (v := .bool (decide (a0 = 5))) rfl) ?_
       refine l_nil ?_
       refine c_if (b := (decide (a0 = 5))) rfl (fun hb => ?_) (fun hb => ?_)
       ·have H40 := cnd_t hb H39; clear H39
        refine c_seq ?_
        refine c_region ?_
        refine l_val rfl rfl rfl (r_assign (v := .int .i64 8) rfl) ?_
        refine l_nil ?_
        refine c_ret ?_
        obtain rfl := Option.some.inj H40
        refine ret1 (v := .int .i64 8) rfl rfl (fin rfl)
       ·have H41 := cnd_f hb H39; clear H39
        refine c_skip ?_
        refine c_seq ?_
        refine c_region ?_
        refine l_val rfl rfl rfl (r_assign (v := .int .i64 0) rfl) ?_
        refine l_nil ?_
        refine c_ret ?_
        obtain rfl := Option.some.inj H41
        refine ret1 (v := .int .i64 0) rfl rfl (fin rfl)
     ·have H42 := cnd_f hb H36; clear H36
      refine c_region ?_
      refine l_val rfl rfl rfl (r_eql rfl rfl) ?_
      refine l_val rfl rfl rfl (r_assign (v := .bool (decide (a0 = 13))) rfl) ?_
      refine l_nil ?_
      refine c_if (b := (decide (a0 = 13))) rfl (fun hb => ?_) (fun hb => ?_)
      ·have H43 := cnd_t hb H42; clear H42
       refine c_seq ?_
       refine c_region ?_
       refine l_val rfl rfl rfl (r_assign (v := .int .i64 4) rfl) ?_
       refine l_nil ?_
       refine c_ret ?_
       obtain rfl := Option.some.inj H43
       refine ret1 (v := .int .i64 4) rfl rfl (fin rfl)
      ·have H44 := cnd_f hb H42; clear H42
       refine c_seq ?_
       refine c_region ?_
       refine l_val rfl rfl rfl (r_eql rfl rfl) ?_
       refine l_val rfl rfl rfl (r_assign (v := .bool (decide (a0 = 5))) rfl) ?_
       refine l_nil ?_
       refine c_if (b := (decide (a0 = 5))) rfl (fun hb => ?_) (fun hb => ?_)
       ·have H45 := cnd_t hb H44; clear H44
        refine c_seq ?_
        refine c_region ?_
        refine l_val rfl rfl rfl (r_assign (v := .int .i64 8) rfl) ?_
        refine l_nil ?_
        refine c_ret ?_
        obtain rfl := Option.some.inj H45
        refine ret1 (v := .int .i64 8) rfl rfl (fin rfl)
       ·have H46 := cnd_f hb H44; clear H44
        refine c_skip ?_
        refine c_seq ?_
        refine c_region ?_
        refine l_val rfl rfl rfl (r_assign (v := .int .i64 0) rfl) ?_
        refine l_nil ?_
        refine c_ret ?_
        obtain rfl := Option.some.inj H46
        refine ret1 (v := .int .i64 0) rfl rfl (fin rfl)
theorem k13 {a0 : Int} {r : Int × Int} (H : R_limits a0 = some r) : Ret Tryz.prog 13 [.int .i64 a0] (.tuple #[.int .i64 r.1, .int .i64 r.2]) := by
 refine enterRet (n := 11) Tryz.func13 rfl rfl rfl (fun wd => ?_)
 refine c_seq ?_
 refine c_region ?_
 refine l_val rfl rfl rfl (r_assign (v := .int .i64 0) rfl) ?_
 refine l_val rfl rfl rfl (r_assign (v := .int .i64 0) rfl) ?_
 refine l_nil ?_
 refine c_seq ?_
 refine c_seq ?_
 refine c_region ?_
 refine l_val rfl rfl rfl (r_move (v := .int .i64 a0) rfl) ?_
 refine l_nil ?_
 refine c_block ?_
 refine c_seq ?_
 refine c_region ?_
 refine l_val rfl rfl rfl (r_eql rfl rfl) ?_
 refine l_val rfl rfl rfl (r_assign (v := .bool (decide (a0 = 1))) rfl) ?_
 refine l_nil ?_
 refine c_if (b := (decide (a0 = 1))) rfl (fun hb => ?_) (fun hb => ?_)
 ·have H7 := cnd_t hb H; clear H
  refine c_seq ?_
  refine c_region ?_
  refine l_val rfl rfl rfl (r_assign (v := .int .i64 0) rfl) ?_
  refine l_val rfl rfl rfl (r_assign (v := .int .i64 255) rfl) ?_
  refine l_nil ?_
  refine c_ret ?_
  obtain rfl := Option.some.inj H7
  refine ret2 (v1 := .int .i64 0) (v2 := .int .i64 255) rfl rfl rfl (fin rfl)
 ·have H8 := cnd_f hb H; clear H
  refine c_seq ?_
  refine c_region ?_
  refine l_val rfl rfl rfl (r_eql rfl rfl) ?_
  refine l_val rfl rfl rfl (r_assign (v := .bool (decide (a0 = 3))) rfl) ?_
  refine l_nil ?_
  refine c_if (b := (decide (a0 = 3))) rfl (fun hb => ?_) (fun hb => ?_)
  ·have H9 := cnd_t hb H8; clear H8
   refine c_seq ?_
   refine c_region ?_
   refine l_val rfl rfl rfl (r_assign (v := .int .i64 0) rfl) ?_
   refine l_val rfl rfl rfl (r_assign (v := .int .i64 65535) rfl) ?_
   refine l_nil ?_
   refine c_ret ?_
   obtain rfl := Option.some.inj H9
   refine ret2 (v1 := .int .i64 0) (v2 := .int .i64 65535) rfl rfl rfl (fin rfl)
  ·have H10 := cnd_f hb H8; clear H8
   refine c_seq ?_
   refine c_region ?_
   refine l_val rfl rfl rfl (r_eql rfl rfl) ?_
   refine l_val rfl rfl rfl (r_assign (v := .bool (decide (a0 = 9))) rfl) ?_
   refine l_nil ?_
   refine c_if (b := (decide (a0 = 9))) rfl (fun hb => ?_) (fun hb => ?_)
   ·have H11 := cnd_t hb H10; clear H10
    refine c_seq ?_
    refine c_region ?_
    refine l_val rfl rfl rfl (r_assign (v := .int .i64 (-2147483648)) rfl) ?_
    refine l_val rfl rfl rfl (r_assign (v := .int .i64 2147483647) rfl) ?_
    refine l_nil ?_
    refine c_ret ?_
    obtain rfl := Option.some.inj H11
    refine ret2 (v1 := .int .i64 (-2147483648)) (v2 := .int .i64 2147483647) rfl rfl rfl (fin rfl)
   ·have H12 := cnd_f hb H10; clear H10
    refine c_skip ?_
    refine c_seq ?_
    refine c_region ?_
    refine l_val rfl rfl rfl (r_assign (v := .int .i64 0) rfl) ?_
    refine l_val rfl rfl rfl (r_assign (v := .int .i64 4294967295) rfl) ?_
    refine l_nil ?_
    refine c_ret ?_
    obtain rfl := Option.some.inj H12
    refine ret2 (v1 := .int .i64 0) (v2 := .int .i64 4294967295) rfl rfl rfl (fin rfl)
theorem ext61 (s : List UInt8) (c r : Int) (h : gIxB s c = some r) (w : World) : (callFunc 61 (List.toArray [str s, .int .u8 c])).run Tryz.prog w = .ok (.value (.int .i64 r)) w := by
  have h0 : (callFunc 61 #[str s, .int .u8 c]).run Tryz.prog w = (do pure (.value (← Extern.BytealgIndexByte.indexByte #[str s, .int .u8 c])) : Sem Next).run Tryz.prog w := by kernel_rfl
  rw [h0]
  simp only [Sem.run_bind, Go.Lx.run_ixB h, Result.andThen_ok, Sem.run_pure]

theorem k34 {a0 : (List UInt8)} {a1 : Int} {r : Int} (H : internal_stringslite_IndexByte a0 a1 = some r) : Ret Tryz.prog 34 [str a0, .int .u8 a1] (.int .i64 r) := by
 refine enterRet (n := 8) Tryz.func34 rfl rfl rfl (fun wd => ?_)
 refine c_seq ?_
 refine c_region ?_
 refine l_val rfl rfl rfl (r_assign (v := .int .i64 0) rfl) ?_
 refine l_nil ?_
 refine c_seq ?_
 refine c_region ?_
 refine l_val rfl rfl rfl (r_move (v := str a0) rfl) ?_
 refine l_val rfl rfl rfl (r_move (v := .int .u8 a1) rfl) ?_
 obtain ⟨t7, h_t7, H2⟩ := bnd_some H; clear H
 refine l_val rfl rfl rfl (r_ext (args := [str a0, .int .u8 a1]) (ext61 _ _ _ h_t7) rfl) ?_
 refine l_val rfl rfl rfl (r_assign (v := .int .i64 t7) rfl) ?_
 refine l_nil ?_
 refine c_ret ?_
 obtain rfl := Option.some.inj H2
 refine ret1 (v := .int .i64 t7) rfl rfl (fin rfl)
theorem k14 {a0 : (List UInt8)} {a1 : Int} {r : Int} (H : strings_IndexByte a0 a1 = some r) : Ret Tryz.prog 14 [str a0, .int .u8 a1] (.int .i64 r) := by
 refine enterRet (n := 8) Tryz.func14 rfl rfl rfl (fun wd => ?_)
 refine c_seq ?_
 refine c_region ?_
 refine l_val rfl rfl rfl (r_assign (v := .int .i64 0) rfl) ?_
 refine l_nil ?_
 refine c_seq ?_
 refine c_region ?_
 refine l_val rfl rfl rfl (r_move (v := str a0) rfl) ?_
 refine l_val rfl rfl rfl (r_move (v := .int .u8 a1) rfl) ?_
 obtain ⟨t7, h_t7, H2⟩ := bnd_some H; clear H
 refine l_call (k34 h_t7) Tryz.call34 rfl rfl rfl ?_
 refine l_val rfl rfl rfl (r_assign (v := .int .i64 t7) rfl) ?_
 refine l_nil ?_
 refine c_ret ?_
 obtain rfl := Option.some.inj H2
 refine ret1 (v := .int .i64 t7) rfl rfl (fin rfl)
theorem k4p {a0 : T_tag_Value} {v0_2 : Value} {v0_3 : Value} {v0_4 : Value} {r : Int} {w : World} {h : Heap} (hw : Know h w noS) (f0_2 : FrS h 1 v0_2 (a0.Ints.map e_i64)) (f0_3 : FrS h 2 v0_3 (a0.Ratios.map e_tag_Ratio)) (f0_4 : FrN h 6 v0_4 g_tag_Entry a0.Entries) (H : R_ValueFaultp a0 = some r) : Does Tryz.prog 4 (List.toArray [.agg #[.int .i64 a0.Kind, str a0.Text, v0_2, v0_3, v0_4]]) w (fun v w' => v = (.int .i64 r) ∧ Grow w w') := by
 refine enter (n := 139) Tryz.func4 rfl rfl rfl noS [] (Sat.nil _ _) ?_
 refine c_seq ?_
 refine c_region ?_
 refine l_box (cs := [.int .i64 a0.Kind, str a0.Text, v0_2, v0_3, v0_4]) rfl rfl rfl rfl (fun b2 => ?_)
 refine l_val rfl rfl rfl (r_assign (v := .int .i64 0) rfl) ?_
 refine l_nil ?_
 refine c_meet (r := r) (σ := Bool × Bool) (τ := Unit) (fun s => R_ValueFaultp_j1 a0 s.1 s.2) (fun s t => [(1, .pointer (some ⟨b2, 0, none⟩)), (3, .bool s.1), (4, .bool s.2)]) (fun s t => [cellsC b2 [.int .i64 a0.Kind, str a0.Text, v0_2, v0_3, v0_4] 26]) (fun s t => True) ?_ ?_
 ·exact c_regionD (Kd.p :: Kd.d [0] _ :: Kd.p :: Kd.p :: Kd.p :: Kd.d [0] _ :: Kd.p :: Kd.p :: Kd.p :: Kd.d [0] _ :: Kd.p :: Kd.p :: Kd.p :: Kd.d [0] _ :: Kd.p :: Kd.p :: Kd.p :: Kd.p :: Kd.d [0] _ :: Kd.p :: Kd.p :: Kd.p :: Kd.p :: Kd.d [0] _ :: Kd.p :: Kd.p :: Kd.p :: Kd.p :: []) 0 mixed (by
   refine d_val rfl rfl (r_field Tryz.runUnderlying26 rfl Tryz.sizeOf3 rfl rfl) ?_
   refine d_load1 (i := 0) (v := .int .i64 a0.Kind) Tryz.isAgg3 rfl rfl rfl rfl ?_
   refine d_val rfl rfl (r_eql rfl rfl) ?_
   refine d_val rfl rfl (r_move (v := .bool (decide (a0.Kind = 2))) rfl) ?_
   refine splitS (fun hb => ?_) (fun hb => ?_)
   ·have H141 := cnd_t hb H
    refine d_pass rfl rfl ?_
    refine d_pass rfl rfl ?_
    refine d_pass rfl rfl ?_
    refine d_val rfl rfl (r_pickT (v := .bool true) rfl rfl) ?_
    refine d_val rfl rfl (r_field Tryz.runUnderlying26 rfl Tryz.sizeOf3 rfl rfl) ?_
    refine d_load1 (i := 0) (v := .int .i64 a0.Kind) Tryz.isAgg3 rfl rfl rfl rfl ?_
    refine d_val rfl rfl (r_eql rfl rfl) ?_
    refine d_val rfl rfl (r_move (v := .bool (decide (a0.Kind = 1))) rfl) ?_
    refine splitS (fun hb => ?_) (fun hb => ?_)
    ·have H142 := cnd_t hb H141
     refine d_pass rfl rfl ?_
     refine d_pass rfl rfl ?_
     refine d_pass rfl rfl ?_
     refine d_val rfl rfl (r_pickT (v := .bool true) rfl rfl) ?_
     refine d_val rfl rfl (r_move (v := .bool true) rfl) ?_
     refine d_pass rfl rfl ?_
     refine d_pass rfl rfl ?_
     refine d_pass rfl rfl ?_
     refine d_val rfl rfl (r_pickT (v := .bool true) rfl rfl) ?_
     refine d_val rfl rfl (r_move (v := .bool true) rfl) ?_
     refine d_pass rfl rfl ?_
     refine d_pass rfl rfl ?_
     refine d_pass rfl rfl ?_
     refine d_val rfl rfl (r_pickT (v := .bool true) rfl rfl) ?_
     refine d_val rfl rfl (r_assign (v := .bool true) rfl) ?_
     refine d_val rfl rfl (r_assign (v := .bool true) rfl) ?_
     refine d_nil ?_
     refine c_close (true, true) () 0 [0] (by exact ⟨rfl, rfl, rfl, trivial⟩) (by decide) rfl (by exact ⟨H142, trivial⟩) (Nat.lt_succ_self _)
    ·have H143 := cnd_f hb H141
     refine d_val rfl rfl (r_field Tryz.runUnderlying26 rfl Tryz.sizeOf3 rfl rfl) ?_
     refine d_load1 (i := 0) (v := .int .i64 a0.Kind) Tryz.isAgg3 rfl rfl rfl rfl ?_
     refine d_val rfl rfl (r_eql rfl rfl) ?_
     refine d_val rfl rfl (r_pickF (v := .bool (decide (a0.Kind = 3))) rfl rfl) ?_
     refine d_val rfl rfl (r_move (v := .bool (decide (a0.Kind = 3))) rfl) ?_
     refine splitS (fun hb => ?_) (fun hb => ?_)
     ·have H144 := cnd_t hb H143
      refine d_pass rfl rfl ?_
      refine d_pass rfl rfl ?_
      refine d_pass rfl rfl ?_
      refine d_val rfl rfl (r_pickT (v := .bool true) rfl rfl) ?_
      refine d_val rfl rfl (r_move (v := .bool true) rfl) ?_
      refine d_pass rfl rfl ?_
      refine d_pass rfl rfl ?_
      refine d_pass rfl rfl ?_
      refine d_val rfl rfl (r_pickT (v := .bool true) rfl rfl) ?_
      refine d_val rfl rfl (r_assign (v := .bool true) rfl) ?_
      refine d_val rfl rfl (r_assign (v := .bool true) rfl) ?_
      refine d_nil ?_
      refine c_close (true, true) () 0 [0] (by exact ⟨rfl, rfl, rfl, trivial⟩) (by decide) rfl (by exact ⟨H144, trivial⟩) (Nat.lt_succ_self _)
     ·have H145 := cnd_f hb H143
      refine d_val rfl rfl (r_field Tryz.runUnderlying26 rfl Tryz.sizeOf3 rfl rfl) ?_
      refine d_load1 (i := 0) (v := .int .i64 a0.Kind) Tryz.isAgg3 rfl rfl rfl rfl ?_
      refine d_val rfl rfl (r_eql rfl rfl) ?_
      refine d_val rfl rfl (r_pickF (v := .bool (decide (a0.Kind = 4))) rfl rfl) ?_
      refine d_val rfl rfl (r_move (v := .bool (decide (a0.Kind = 4))) rfl) ?_
      refine splitS (fun hb => ?_) (fun hb => ?_)
      ·have H146 := cnd_t hb H145
       refine d_pass rfl rfl ?_
       refine d_pass rfl rfl ?_
       refine d_pass rfl rfl ?_
       refine d_val rfl rfl (r_pickT (v := .bool true) rfl rfl) ?_
       refine d_val rfl rfl (r_assign (v := .bool true) rfl) ?_
       refine d_val rfl rfl (r_assign (v := .bool true) rfl) ?_
       refine d_nil ?_
       refine c_close (true, true) () 0 [0] (by exact ⟨rfl, rfl, rfl, trivial⟩) (by decide) rfl (by exact ⟨H146, trivial⟩) (Nat.lt_succ_self _)
      ·have H147 := cnd_f hb H145
       refine d_val rfl rfl (r_field Tryz.runUnderlying26 rfl Tryz.sizeOf3 rfl rfl) ?_
       refine d_load1 (i := 0) (v := .int .i64 a0.Kind) Tryz.isAgg3 rfl rfl rfl rfl ?_
       refine d_val rfl rfl (r_eql rfl rfl) ?_
       refine d_val rfl rfl (r_pickF (v := .bool (decide (a0.Kind = 9))) rfl rfl) ?_
       refine d_val rfl rfl (r_assign (v := .bool true) rfl) ?_
       refine d_val rfl rfl (r_assign (v := .bool (decide (a0.Kind = 9))) rfl) ?_
       refine d_nil ?_
       refine c_close (true, (decide (a0.Kind = 9))) () 0 [0] (by exact ⟨rfl, rfl, rfl, trivial⟩) (by decide) rfl (by exact ⟨H147, trivial⟩) (Nat.lt_succ_self _)
   ·have H148 := cnd_f hb H
    refine d_val rfl rfl (r_field Tryz.runUnderlying26 rfl Tryz.sizeOf3 rfl rfl) ?_
    refine d_load1 (i := 0) (v := .int .i64 a0.Kind) Tryz.isAgg3 rfl rfl rfl rfl ?_
    refine d_val rfl rfl (r_eql rfl rfl) ?_
    refine d_val rfl rfl (r_pickF (v := .bool (decide (a0.Kind = 7))) rfl rfl) ?_
    refine d_val rfl rfl (r_field Tryz.runUnderlying26 rfl Tryz.sizeOf3 rfl rfl) ?_
    refine d_load1 (i := 0) (v := .int .i64 a0.Kind) Tryz.isAgg3 rfl rfl rfl rfl ?_
    refine d_val rfl rfl (r_eql rfl rfl) ?_
    refine d_val rfl rfl (r_move (v := .bool (decide (a0.Kind = 1))) rfl) ?_
    refine splitS (fun hb => ?_) (fun hb => ?_)
    ·have H149 := cnd_t hb H148
     refine d_pass rfl rfl ?_
     refine d_pass rfl rfl ?_
     refine d_pass rfl rfl ?_
     refine d_val rfl rfl (r_pickT (v := .bool true) rfl rfl) ?_
     refine d_val rfl rfl (r_move (v := .bool true) rfl) ?_
     refine d_pass rfl rfl ?_
     refine d_pass rfl rfl ?_
     refine d_pass rfl rfl ?_
     refine d_val rfl rfl (r_pickT (v := .bool true) rfl rfl) ?_
     refine d_val rfl rfl (r_move (v := .bool true) rfl) ?_
     refine d_pass rfl rfl ?_
     refine d_pass rfl rfl ?_
     refine d_pass rfl rfl ?_
     refine d_val rfl rfl (r_pickT (v := .bool true) rfl rfl) ?_
     refine d_val rfl rfl (r_assign (v := .bool (decide (a0.Kind = 7))) rfl) ?_
     refine d_val rfl rfl (r_assign (v := .bool true) rfl) ?_
     refine d_nil ?_
     refine c_close ((decide (a0.Kind = 7)), true) () 0 [0] (by exact ⟨rfl, rfl, rfl, trivial⟩) (by decide) rfl (by exact ⟨H149, trivial⟩) (Nat.lt_succ_self _)
    ·have H150 := cnd_f hb H148
     refine d_val rfl rfl (r_field Tryz.runUnderlying26 rfl Tryz.sizeOf3 rfl rfl) ?_
     refine d_load1 (i := 0) (v := .int .i64 a0.Kind) Tryz.isAgg3 rfl rfl rfl rfl ?_
     refine d_val rfl rfl (r_eql rfl rfl) ?_
     refine d_val rfl rfl (r_pickF (v := .bool (decide (a0.Kind = 3))) rfl rfl) ?_
     refine d_val rfl rfl (r_move (v := .bool (decide (a0.Kind = 3))) rfl) ?_
     refine splitS (fun hb => ?_) (fun hb => ?_)
     ·have H151 := cnd_t hb H150
      refine d_pass rfl rfl ?_
      refine d_pass rfl rfl ?_
      refine d_pass rfl rfl ?_
      refine d_val rfl rfl (r_pickT (v := .bool true) rfl rfl) ?_
      refine d_val rfl rfl (r_move (v := .bool true) rfl) ?_
      refine d_pass rfl rfl ?_
      refine d_pass rfl rfl ?_
      refine d_pass rfl rfl ?_
      refine d_val rfl rfl (r_pickT (v := .bool true) rfl rfl) ?_
      refine d_val rfl rfl (r_assign (v := .bool (decide (a0.Kind = 7))) rfl) ?_
      refine d_val rfl rfl (r_assign (v := .bool true) rfl) ?_
      refine d_nil ?_
      refine c_close ((decide (a0.Kind = 7)), true) () 0 [0] (by exact ⟨rfl, rfl, rfl, trivial⟩) (by decide) rfl (by exact ⟨H151, trivial⟩) (Nat.lt_succ_self _)
     ·have H152 := cnd_f hb H150
      refine d_val rfl rfl (r_field Tryz.runUnderlying26 rfl Tryz.sizeOf3 rfl rfl) ?_
      refine d_load1 (i := 0) (v := .int .i64 a0.Kind) Tryz.isAgg3 rfl rfl rfl rfl ?_
      refine d_val rfl rfl (r_eql rfl rfl) ?_
      refine d_val rfl rfl (r_pickF (v := .bool (decide (a0.Kind = 4))) rfl rfl) ?_
      refine d_val rfl rfl (r_move (v := .bool (decide (a0.Kind = 4))) rfl) ?_
      refine splitS (fun hb => ?_) (fun hb => ?_)
      ·have H153 := cnd_t hb H152
       refine d_pass rfl rfl ?_
       refine d_pass rfl rfl ?_
       refine d_pass rfl rfl ?_
       refine d_val rfl rfl (r_pickT (v := .bool true) rfl rfl) ?_
       refine d_val rfl rfl (r_assign (v := .bool (decide (a0.Kind = 7))) rfl) ?_
       refine d_val rfl rfl (r_assign (v := .bool true) rfl) ?_
       refine d_nil ?_
       refine c_close ((decide (a0.Kind = 7)), true) () 0 [0] (by exact ⟨rfl, rfl, rfl, trivial⟩) (by decide) rfl (by exact ⟨H153, trivial⟩) (Nat.lt_succ_self _)
      ·have H154 := cnd_f hb H152
       refine d_val rfl rfl (r_field Tryz.runUnderlying26 rfl Tryz.sizeOf3 rfl rfl) ?_
       refine d_load1 (i := 0) (v := .int .i64 a0.Kind) Tryz.isAgg3 rfl rfl rfl rfl ?_
       refine d_val rfl rfl (r_eql rfl rfl) ?_
       refine d_val rfl rfl (r_pickF (v := .bool (decide (a0.Kind = 9))) rfl rfl) ?_
       refine d_val rfl rfl (r_assign (v := .bool (decide (a0.Kind = 7))) rfl) ?_
       refine d_val rfl rfl (r_assign (v := .bool (decide (a0.Kind = 9))) rfl) ?_
       refine d_nil ?_
       refine c_close ((decide (a0.Kind = 7)), (decide (a0.Kind = 9))) () 0 [0] (by exact ⟨rfl, rfl, rfl, trivial⟩) (by decide) rfl (by exact ⟨H154, trivial⟩) (Nat.lt_succ_self _)
   ) (by kernel_rfl)
 ·rintro ⟨x3, x4⟩ _ gg H78 _
  replace H78 : R_ValueFaultp_j1 a0 x3 x4 = some r := H78
  refine c_tidyF [(1, .pointer (some ⟨b2, 0, none⟩)), (3, .bool x3), (4, .bool x4)] [cellsC b2 [.int .i64 a0.Kind, str a0.Text, v0_2, v0_3, v0_4] 26] rfl rfl ?_
  refine c_meet (r := r) (σ := Unit) (τ := Unit) (fun s => R_ValueFaultp_j2 a0) (fun s t => [(1, .pointer (some ⟨b2, 0, none⟩))]) (fun s t => [cellsC b2 [.int .i64 a0.Kind, str a0.Text, v0_2, v0_3, v0_4] 26]) (fun s t => True) ?_ ?_
  ·refine c_block ?_
   refine c_seq ?_
   refine c_region ?_
   refine l_val rfl rfl rfl (r_field Tryz.runUnderlying26 rfl Tryz.sizeOf3 rfl rfl) ?_
   refine l_load1 (i := 0) (v := .int .i64 a0.Kind) Tryz.isAgg3 rfl rfl rfl rfl rfl ?_
   obtain ⟨t40, h_t40, H113⟩ := bnd_some H78; clear H78
   refine l_call (k12 h_t40) Tryz.call12 rfl rfl rfl ?_
   refine l_val rfl rfl rfl (r_eql rfl rfl) ?_
   refine l_val rfl rfl rfl (r_assign (v := .bool (decide (t40 = 0))) rfl) ?_
   refine l_nil ?_
   refine c_if (b := (decide (t40 = 0))) rfl (fun hb => ?_) (fun hb => ?_)
   ·have H114 := cnd_t hb H113; clear H113
    refine c_seq ?_
    refine c_region ?_
    refine l_val rfl rfl rfl (r_assign (v := .int .i64 10) rfl) ?_
    refine l_nil ?_
    refine c_ret ?_
    obtain rfl := Option.some.inj H114
    refine ret1 (v := .int .i64 10) rfl rfl (fin rfl)
   ·have H115 := cnd_f hb H113; clear H113
    refine c_seq ?_
    refine c_meet (r := r) (σ := Bool) (τ := Unit) (fun s => R_ValueFaultp_j8 a0 x4 s) (fun s t => [(1, .pointer (some ⟨b2, 0, none⟩)), (4, .bool x4), (42, .bool s)]) (fun s t => [cellsC b2 [.int .i64 a0.Kind, str a0.Text, v0_2, v0_3, v0_4] 26]) (fun s t => True) ?_ ?_
    ·refine c_region ?_
     refine l_val rfl rfl rfl (r_field Tryz.runUnderlying26 rfl Tryz.sizeOf9 rfl rfl) ?_
     refine l_load1 (i := 0) (v := str a0.Text) Tryz.isAgg9 rfl rfl rfl rfl rfl ?_
     refine l_val rfl rfl rfl (r_neqT rfl rfl) ?_
     refine l_val rfl rfl rfl (r_move (v := .bool (decide (a0.Text ≠ []))) rfl) ?_
     refine split (fun hb => ?_) (fun hb => ?_)
     ·have H139 := cnd_t hb H115; clear H115
      refine l_val rfl rfl rfl (r_move (v := .bool x3) rfl) ?_
      refine l_val rfl rfl rfl (r_not rfl) ?_
      refine l_val rfl rfl rfl (r_pickT (v := .bool (!x3)) rfl rfl) ?_
      refine l_val rfl rfl rfl (r_assign (v := .bool (!x3)) rfl) ?_
      refine l_nil ?_
      refine c_close (!x3) () 0 [0] (by exact ⟨rfl, rfl, rfl, trivial⟩) (by decide) rfl (by exact ⟨H139, trivial⟩) (Nat.lt_succ_self _)
     ·have H140 := cnd_f hb H115; clear H115
      refine l_passed rfl rfl rfl ?_
      refine l_passed rfl rfl rfl ?_
      refine l_val rfl rfl rfl (r_pickF (v := .bool false) rfl rfl) ?_
      refine l_val rfl rfl rfl (r_assign (v := .bool false) rfl) ?_
      refine l_nil ?_
      refine c_close false () 0 [0] (by exact ⟨rfl, rfl, rfl, trivial⟩) (by decide) rfl (by exact ⟨H140, trivial⟩) (Nat.lt_succ_self _)
    ·rintro x42 _ gg H116 _
     replace H116 : R_ValueFaultp_j8 a0 x4 x42 = some r := H116
     refine c_tidyF [(1, .pointer (some ⟨b2, 0, none⟩)), (4, .bool x4), (42, .bool x42)] [cellsC b2 [.int .i64 a0.Kind, str a0.Text, v0_2, v0_3, v0_4] 26] rfl rfl ?_
     refine c_if (b := x42) rfl (fun hb => ?_) (fun hb => ?_)
     ·have H117 := cnd_t hb H116; clear H116
      refine c_skip ?_
      refine c_if (b := x42) rfl (fun hb => ?_) (fun hb => ?_)
      ·have H118 := cnd_t hb H117; clear H117
       refine c_seq ?_
       refine c_region ?_
       refine l_val rfl rfl rfl (r_assign (v := .int .i64 1) rfl) ?_
       refine l_nil ?_
       refine c_ret ?_
       obtain rfl := Option.some.inj H118
       refine ret1 (v := .int .i64 1) rfl rfl (fin rfl)
      ·have H119 := cnd_f hb H117; clear H117
       refine c_skip ?_
       refine c_close () () 0 [0] (by exact ⟨rfl, trivial⟩) (by decide) rfl (by exact ⟨H119, trivial⟩) (Nat.lt_succ_self _)
     ·have H120 := cnd_f hb H116; clear H116
      refine c_meet (r := r) (σ := Bool) (τ := Unit) (fun s => R_ValueFaultp_j9 a0 s) (fun s t => [(1, .pointer (some ⟨b2, 0, none⟩)), (42, .bool s)]) (fun s t => [cellsC b2 [.int .i64 a0.Kind, str a0.Text, v0_2, v0_3, v0_4] 26]) (fun s t => True) ?_ ?_
      ·refine c_region ?_
       refine l_val rfl rfl rfl (r_field Tryz.runUnderlying26 rfl Tryz.sizeOf22 rfl rfl) ?_
       refine l_load1 (i := 0) (v := v0_2) Tryz.isAgg22 rfl rfl rfl rfl rfl ?_
       refine l_val rfl rfl rfl (r_lenF Tryz.underlying22 rfl f0_2 rfl) ?_
       refine l_val rfl rfl rfl (r_gtr rfl rfl) ?_
       refine l_val rfl rfl rfl (r_move (v := .bool (decide (0 < (a0.Ints.length : Int)))) rfl) ?_
       refine split (fun hb => ?_) (fun hb => ?_)
       ·have H137 := cnd_t hb H120; clear H120
        refine l_val rfl rfl rfl (r_move (v := .bool x4) rfl) ?_
        refine l_val rfl rfl rfl (r_not rfl) ?_
        refine l_val rfl rfl rfl (r_pickT (v := .bool (!x4)) rfl rfl) ?_
        refine l_val rfl rfl rfl (r_assign (v := .bool (!x4)) rfl) ?_
        refine l_nil ?_
        refine c_close (!x4) () 0 [0] (by exact ⟨rfl, rfl, trivial⟩) (by decide) rfl (by exact ⟨H137, trivial⟩) (Nat.lt_succ_self _)
       ·have H138 := cnd_f hb H120; clear H120
        refine l_passed rfl rfl rfl ?_
        refine l_passed rfl rfl rfl ?_
        refine l_val rfl rfl rfl (r_pickF (v := .bool false) rfl rfl) ?_
        refine l_val rfl rfl rfl (r_assign (v := .bool false) rfl) ?_
        refine l_nil ?_
        refine c_close false () 0 [0] (by exact ⟨rfl, rfl, trivial⟩) (by decide) rfl (by exact ⟨H138, trivial⟩) (Nat.lt_succ_self _)
      ·rintro x42_2 _ gg H121 _
       replace H121 : R_ValueFaultp_j9 a0 x42_2 = some r := H121
       refine c_tidyF [(1, .pointer (some ⟨b2, 0, none⟩)), (42, .bool x42_2)] [cellsC b2 [.int .i64 a0.Kind, str a0.Text, v0_2, v0_3, v0_4] 26] rfl rfl ?_
       refine c_if (b := x42_2) rfl (fun hb => ?_) (fun hb => ?_)
       ·have H122 := cnd_t hb H121; clear H121
        refine c_skip ?_
        refine c_if (b := x42_2) rfl (fun hb => ?_) (fun hb => ?_)
        ·have H123 := cnd_t hb H122; clear H122
         refine c_seq ?_
         refine c_region ?_
         refine l_val rfl rfl rfl (r_assign (v := .int .i64 1) rfl) ?_
         refine l_nil ?_
         refine c_ret ?_
         obtain rfl := Option.some.inj H123
         refine ret1 (v := .int .i64 1) rfl rfl (fin rfl)
        ·have H124 := cnd_f hb H122; clear H122
         refine c_skip ?_
         refine c_close () () 0 [0] (by exact ⟨rfl, trivial⟩) (by decide) rfl (by exact ⟨H124, trivial⟩) (Nat.lt_succ_self _)
       ·have H125 := cnd_f hb H121; clear H121
        refine c_meet (r := r) (σ := Bool) (τ := Unit) (fun s => R_ValueFaultp_j10 a0 s) (fun s t => [(1, .pointer (some ⟨b2, 0, none⟩)), (42, .bool s)]) (fun s t => [cellsC b2 [.int .i64 a0.Kind, str a0.Text, v0_2, v0_3, v0_4] 26]) (fun s t => True) ?_ ?_
        ·refine c_region ?_
         refine l_val rfl rfl rfl (r_field Tryz.runUnderlying26 rfl Tryz.sizeOf23 rfl rfl) ?_
         refine l_load1 (i := 0) (v := v0_3) Tryz.isAgg23 rfl rfl rfl rfl rfl ?_
         refine l_val rfl rfl rfl (r_lenF Tryz.underlying23 rfl f0_3 rfl) ?_
         refine l_val rfl rfl rfl (r_gtr rfl rfl) ?_
         refine l_val rfl rfl rfl (r_move (v := .bool (decide (0 < (a0.Ratios.length : Int)))) rfl) ?_
         refine split (fun hb => ?_) (fun hb => ?_)
         ·have H135 := cnd_t hb H125; clear H125
          refine l_val rfl rfl rfl (r_field Tryz.runUnderlying26 rfl Tryz.sizeOf3 rfl rfl) ?_
          refine l_load1 (i := 0) (v := .int .i64 a0.Kind) Tryz.isAgg3 rfl rfl rfl rfl rfl ?_
          refine l_val rfl rfl rfl (r_neq rfl rfl) ?_
          refine l_val rfl rfl rfl (r_pickT (v := .bool (decide (a0.Kind ≠ 5))) rfl rfl) ?_
          refine l_val rfl rfl rfl (r_assign (v := .bool (decide (a0.Kind ≠ 5))) rfl) ?_
          refine l_nil ?_
          refine c_close (decide (a0.Kind ≠ 5)) () 0 [0] (by exact ⟨rfl, rfl, trivial⟩) (by decide) rfl (by exact ⟨H135, trivial⟩) (Nat.lt_succ_self _)
         ·have H136 := cnd_f hb H125; clear H125
          refine l_passed rfl rfl rfl ?_
          refine l_passed rfl rfl rfl ?_
          refine l_passed rfl rfl rfl ?_
          refine l_val rfl rfl rfl (r_pickF (v := .bool false) rfl rfl) ?_
          refine l_val rfl rfl rfl (r_assign (v := .bool false) rfl) ?_
          refine l_nil ?_
          refine c_close false () 0 [0] (by exact ⟨rfl, rfl, trivial⟩) (by decide) rfl (by exact ⟨H136, trivial⟩) (Nat.lt_succ_self _)
        ·rintro x42_3 _ gg H126 _
         replace H126 : R_ValueFaultp_j10 a0 x42_3 = some r := H126
         refine c_tidyF [(1, .pointer (some ⟨b2, 0, none⟩)), (42, .bool x42_3)] [cellsC b2 [.int .i64 a0.Kind, str a0.Text, v0_2, v0_3, v0_4] 26] rfl rfl ?_
         refine c_if (b := x42_3) rfl (fun hb => ?_) (fun hb => ?_)
         ·have H127 := cnd_t hb H126; clear H126
          refine c_skip ?_
          refine c_if (b := x42_3) rfl (fun hb => ?_) (fun hb => ?_)
          ·have H128 := cnd_t hb H127; clear H127
           refine c_seq ?_
           refine c_region ?_
           refine l_val rfl rfl rfl (r_assign (v := .int .i64 1) rfl) ?_
           refine l_nil ?_
           refine c_ret ?_
           obtain rfl := Option.some.inj H128
           refine ret1 (v := .int .i64 1) rfl rfl (fin rfl)
          ·have H129 := cnd_f hb H127; clear H127
           refine c_skip ?_
           refine c_close () () 0 [0] (by exact ⟨rfl, trivial⟩) (by decide) rfl (by exact ⟨H129, trivial⟩) (Nat.lt_succ_self _)
         ·have H130 := cnd_f hb H126; clear H126
          refine c_region ?_
          refine l_val rfl rfl rfl (r_field Tryz.runUnderlying26 rfl Tryz.sizeOf24 rfl rfl) ?_
          refine l_load1 (i := 0) (v := v0_4) Tryz.isAgg24 rfl rfl rfl rfl rfl ?_
          refine l_val rfl rfl rfl (r_lenFN Tryz.underlying24 rfl f0_4) ?_
          refine l_val rfl rfl rfl (r_gtr rfl rfl) ?_
          refine l_val rfl rfl rfl (r_move (v := .bool (decide (0 < (a0.Entries.length : Int)))) rfl) ?_
          refine split (fun hb => ?_) (fun hb => ?_)
          ·have H131 := cnd_t hb H130; clear H130
           refine l_val rfl rfl rfl (r_field Tryz.runUnderlying26 rfl Tryz.sizeOf3 rfl rfl) ?_
           refine l_load1 (i := 0) (v := .int .i64 a0.Kind) Tryz.isAgg3 rfl rfl rfl rfl rfl ?_
           refine l_val rfl rfl rfl (r_neq rfl rfl) ?_
           refine l_val rfl rfl rfl (r_pickT (v := .bool (decide (a0.Kind ≠ 13))) rfl rfl) ?_
           refine l_val rfl rfl rfl (r_assign (v := .bool (decide (a0.Kind ≠ 13))) rfl) ?_
           refine l_nil ?_
           refine c_if (b := (decide (a0.Kind ≠ 13))) rfl (fun hb => ?_) (fun hb => ?_)
           ·have H132 := cnd_t hb H131; clear H131
            refine c_seq ?_
            refine c_region ?_
            refine l_val rfl rfl rfl (r_assign (v := .int .i64 1) rfl) ?_
            refine l_nil ?_
            refine c_ret ?_
            obtain rfl := Option.some.inj H132
            refine ret1 (v := .int .i64 1) rfl rfl (fin rfl)
           ·have H133 := cnd_f hb H131; clear H131
            refine c_skip ?_
            refine c_close () () 0 [0] (by exact ⟨rfl, trivial⟩) (by decide) rfl (by exact ⟨H133, trivial⟩) (Nat.lt_succ_self _)
          ·have H134 := cnd_f hb H130; clear H130
           refine l_passed rfl rfl rfl ?_
           refine l_passed rfl rfl rfl ?_
           refine l_passed rfl rfl rfl ?_
           refine l_val rfl rfl rfl (r_pickF (v := .bool false) rfl rfl) ?_
           refine l_val rfl rfl rfl (r_assign (v := .bool false) rfl) ?_
           refine l_nil ?_
           refine c_false rfl ?_
           refine c_skip ?_
           refine c_close () () 0 [0] (by exact ⟨rfl, trivial⟩) (by decide) rfl (by exact ⟨H134, trivial⟩) (Nat.lt_succ_self _)
  ·rintro _ _ gg H79 _
   replace H79 : R_ValueFaultp_j2 a0 = some r := H79
   refine c_tidyF [(1, .pointer (some ⟨b2, 0, none⟩))] [cellsC b2 [.int .i64 a0.Kind, str a0.Text, v0_2, v0_3, v0_4] 26] rfl rfl ?_
   refine c_seq ?_
   refine c_region ?_
   refine l_val rfl rfl rfl (r_field Tryz.runUnderlying26 rfl Tryz.sizeOf3 rfl rfl) ?_
   refine l_load1 (i := 0) (v := .int .i64 a0.Kind) Tryz.isAgg3 rfl rfl rfl rfl rfl ?_
   obtain ⟨t79, h_t79, H80⟩ := bnd_some H79; clear H79
   refine l_call (k13 h_t79) Tryz.call13 rfl rfl rfl ?_
   refine l_val rfl rfl rfl (r_move (v := .tuple #[.int .i64 t79.1, .int .i64 t79.2]) rfl) ?_
   refine l_val rfl rfl rfl (r_extract (v := .int .i64 t79.1) rfl rfl) ?_
   refine l_val rfl rfl rfl (r_extract (v := .int .i64 t79.2) rfl rfl) ?_
   refine l_val rfl rfl rfl (r_assign (v := .int .i64 t79.1) rfl) ?_
   refine l_val rfl rfl rfl (r_assign (v := .int .i64 t79.2) rfl) ?_
   refine l_nil ?_
   refine c_meet (r := r) (σ := Unit) (τ := Unit) (fun s => R_ValueFaultp_j3 a0) (fun s t => [(1, .pointer (some ⟨b2, 0, none⟩))]) (fun s t => [cellsC b2 [.int .i64 a0.Kind, str a0.Text, v0_2, v0_3, v0_4] 26]) (fun s t => True) ?_ ?_
   ·refine c_seq ?_
    refine c_region ?_
    refine l_val rfl rfl rfl (r_field Tryz.runUnderlying26 rfl Tryz.sizeOf22 rfl rfl) ?_
    refine l_load1 (i := 0) (v := v0_2) Tryz.isAgg22 rfl rfl rfl rfl rfl ?_
    refine l_val rfl rfl rfl (r_lenF Tryz.underlying22 rfl f0_2 rfl) ?_
    refine l_val rfl rfl rfl (r_move (v := .int .i64 0) rfl) ?_
    refine l_nil ?_
    refine c_block ?_
    refine c_fix (σ := Int) (τ := Unit) (fun next7 s => R_ValueFaultp_l7 a0 t79 next7 s) (fun s t => [(1, .pointer (some ⟨b2, 0, none⟩)), (5, .int .i64 t79.1), (6, .int .i64 t79.2), (83, v0_2), (84, .int .i64 (a0.Ints.length : Int)), (85, .int .i64 s)]) (fun s t => [cellsC b2 [.int .i64 a0.Kind, str a0.Text, v0_2, v0_3, v0_4] 26]) (fun s t => True) 0 () [0] H80 (by exact trivial) (by exact ⟨rfl, rfl, rfl, rfl, rfl, rfl, trivial⟩) (by decide) rfl ?_
    rintro x85_2 _ m7 gg H104 _
    clear H80
    replace H104 : R_ValueFaultp_l7 a0 t79 (it (fun next7 s => R_ValueFaultp_l7 a0 t79 next7 s) m7) x85_2 = some r := H104
    generalize hn7 : it (fun next7 s => R_ValueFaultp_l7 a0 t79 next7 s) m7 = next7 at H104
    refine c_tidyF [(1, .pointer (some ⟨b2, 0, none⟩)), (5, .int .i64 t79.1), (6, .int .i64 t79.2), (83, v0_2), (84, .int .i64 (a0.Ints.length : Int)), (85, .int .i64 x85_2)] [cellsC b2 [.int .i64 a0.Kind, str a0.Text, v0_2, v0_3, v0_4] 26] rfl rfl ?_
    refine c_seq ?_
    refine c_region ?_
    refine l_val rfl rfl rfl (r_lss rfl rfl) ?_
    refine l_nil ?_
    refine c_seq ?_
    refine c_if (b := (decide (x85_2 < (a0.Ints.length : Int)))) rfl (fun hb => ?_) (fun hb => ?_)
    ·have H105 := cnd_t hb H104; clear H104
     refine c_skip ?_
     refine c_seq ?_
     refine c_block ?_
     refine c_seq ?_
     refine c_region ?_
     obtain ⟨t87, h_t87, H106⟩ := bnd_some H105; clear H105
     refine l_val rfl rfl rfl (r_indexF Tryz.underlying22 Tryz.sizeOf3 rfl rfl f0_2 h_t87) ?_
     refine l_read (fun w hF hS => run_loadG1 (f := e_i64) (i := x85_2) (sz := 1) (j := 0) (v := .int .i64 t87) Tryz.isAgg3 rfl rfl (f0_2.row (hw.now hF)) h_t87 rfl) rfl rfl rfl ?_
     refine l_val rfl rfl rfl (r_assign (v := .int .i64 t87) rfl) ?_
     refine l_nil ?_
     refine c_seq ?_
     refine c_region ?_
     refine l_val rfl rfl rfl (r_move (v := .int .i64 t87) rfl) ?_
     refine l_val rfl rfl rfl (r_move (v := .int .i64 t79.1) rfl) ?_
     refine l_val rfl rfl rfl (r_lss rfl rfl) ?_
     refine l_val rfl rfl rfl (r_move (v := .bool (decide (t87 < t79.1))) rfl) ?_
     refine split (fun hb => ?_) (fun hb => ?_)
     ·have H107 := cnd_t hb H106; clear H106
      refine l_passed rfl rfl rfl ?_
      refine l_passed rfl rfl rfl ?_
      refine l_passed rfl rfl rfl ?_
      refine l_val rfl rfl rfl (r_pickT (v := .bool true) rfl rfl) ?_
      refine l_nil ?_
      refine c_true rfl ?_
      refine c_seq ?_
      refine c_region ?_
      refine l_val rfl rfl rfl (r_assign (v := .int .i64 2) rfl) ?_
      refine l_nil ?_
      refine c_ret ?_
      obtain rfl := Option.some.inj H107
      refine ret1 (v := .int .i64 2) rfl rfl (fin rfl)
     ·have H108 := cnd_f hb H106; clear H106
      refine l_val rfl rfl rfl (r_move (v := .int .i64 t87) rfl) ?_
      refine l_val rfl rfl rfl (r_move (v := .int .i64 t79.2) rfl) ?_
      refine l_val rfl rfl rfl (r_gtr rfl rfl) ?_
      refine l_val rfl rfl rfl (r_pickF (v := .bool (decide (t79.2 < t87))) rfl rfl) ?_
      refine l_nil ?_
      refine c_if (b := (decide (t79.2 < t87))) rfl (fun hb => ?_) (fun hb => ?_)
      ·have H109 := cnd_t hb H108; clear H108
       refine c_seq ?_
       refine c_region ?_
       refine l_val rfl rfl rfl (r_assign (v := .int .i64 2) rfl) ?_
       refine l_nil ?_
       refine c_ret ?_
       obtain rfl := Option.some.inj H109
       refine ret1 (v := .int .i64 2) rfl rfl (fin rfl)
      ·have H110 := cnd_f hb H108; clear H108
       refine c_skip ?_
       refine c_region ?_
       obtain ⟨t97, h_t97, H111⟩ := bnd_some H110; clear H110
       refine l_val rfl rfl rfl (r_addG rfl rfl h_t97) ?_
       refine l_val rfl rfl rfl (r_move (v := .int .i64 t97) rfl) ?_
       refine l_nil ?_
       refine c_close t97 () m7 [0] (by exact ⟨rfl, rfl, rfl, rfl, rfl, rfl, trivial⟩) (by decide) rfl (by exact ⟨(by subst hn7; exact H111), trivial⟩) (Nat.lt_succ_self _)
    ·have H112 := cnd_f hb H104; clear H104
     refine c_exit ?_
     refine c_close () () 0 [0] (by exact ⟨rfl, trivial⟩) (by decide) rfl (by exact ⟨H112, trivial⟩) (Nat.lt_succ_self _)
   ·rintro _ _ gg H81 _
    replace H81 : R_ValueFaultp_j3 a0 = some r := H81
    refine c_tidyF [(1, .pointer (some ⟨b2, 0, none⟩))] [cellsC b2 [.int .i64 a0.Kind, str a0.Text, v0_2, v0_3, v0_4] 26] rfl rfl ?_
    refine c_meet (r := r) (σ := Unit) (τ := Unit) (fun s => R_ValueFaultp_j4 a0) (fun s t => [(1, .pointer (some ⟨b2, 0, none⟩))]) (fun s t => [cellsC b2 [.int .i64 a0.Kind, str a0.Text, v0_2, v0_3, v0_4] 26]) (fun s t => True) ?_ ?_
    ·refine c_seq ?_
     refine c_region ?_
     refine l_val rfl rfl rfl (r_field Tryz.runUnderlying26 rfl Tryz.sizeOf23 rfl rfl) ?_
     refine l_load1 (i := 0) (v := v0_3) Tryz.isAgg23 rfl rfl rfl rfl rfl ?_
     refine l_val rfl rfl rfl (r_lenF Tryz.underlying23 rfl f0_3 rfl) ?_
     refine l_val rfl rfl rfl (r_move (v := .int .i64 0) rfl) ?_
     refine l_nil ?_
     refine c_block ?_
     refine c_fix (σ := Int) (τ := Unit) (fun next6 s => R_ValueFaultp_l6 a0 next6 s) (fun s t => [(1, .pointer (some ⟨b2, 0, none⟩)), (99, v0_3), (100, .int .i64 (a0.Ratios.length : Int)), (101, .int .i64 s)]) (fun s t => [cellsC b2 [.int .i64 a0.Kind, str a0.Text, v0_2, v0_3, v0_4] 26]) (fun s t => True) 0 () [0] H81 (by exact trivial) (by exact ⟨rfl, rfl, rfl, rfl, trivial⟩) (by decide) rfl ?_
     rintro x101_2 _ m6 gg H91 _
     clear H81
     replace H91 : R_ValueFaultp_l6 a0 (it (fun next6 s => R_ValueFaultp_l6 a0 next6 s) m6) x101_2 = some r := H91
     generalize hn6 : it (fun next6 s => R_ValueFaultp_l6 a0 next6 s) m6 = next6 at H91
     refine c_tidyF [(1, .pointer (some ⟨b2, 0, none⟩)), (99, v0_3), (100, .int .i64 (a0.Ratios.length : Int)), (101, .int .i64 x101_2)] [cellsC b2 [.int .i64 a0.Kind, str a0.Text, v0_2, v0_3, v0_4] 26] rfl rfl ?_
     refine c_seq ?_
     refine c_region ?_
     refine l_val rfl rfl rfl (r_lss rfl rfl) ?_
     refine l_nil ?_
     refine c_seq ?_
     refine c_if (b := (decide (x101_2 < (a0.Ratios.length : Int)))) rfl (fun hb => ?_) (fun hb => ?_)
     ·have H92 := cnd_t hb H91; clear H91
      refine c_skip ?_
      refine c_seq ?_
      refine c_block ?_
      refine c_seq ?_
      refine c_region ?_
      obtain ⟨t103, h_t103, H93⟩ := bnd_some H92; clear H92
      refine l_val rfl rfl rfl (r_indexF Tryz.underlying23 Tryz.sizeOf42 rfl rfl f0_3 h_t103) ?_
      refine l_read (fun w hF hS => run_loadGN (f := e_tag_Ratio) (i := x101_2) (sz := 2) (j := 0) (vs := [.int .i64 t103.Num, .int .i64 t103.Den]) Tryz.isAgg42 Tryz.sizeOf42 rfl rfl (f0_3.row (hw.now hF)) h_t103 rfl) rfl rfl rfl ?_
      refine l_alloc (cs := [.int .i64 0, .int .i64 0]) Tryz.zeroValue42 rfl rfl rfl (fun b3 => ?_)
      refine l_store (i := 1) (vs := [.int .i64 t103.Num, .int .i64 t103.Den]) (cs' := [.int .i64 t103.Num, .int .i64 t103.Den]) Tryz.sizeOf42 rfl rfl rfl rfl rfl rfl rfl rfl rfl ?_
      refine l_nil ?_
      refine c_seq ?_
      refine c_region ?_
      refine l_val rfl rfl rfl (r_field Tryz.runUnderlying42 rfl Tryz.sizeOf3 rfl rfl) ?_
      refine l_load1 (i := 1) (v := .int .i64 t103.Num) Tryz.isAgg3 rfl rfl rfl rfl rfl ?_
      refine l_val rfl rfl rfl (r_lss rfl rfl) ?_
      refine l_val rfl rfl rfl (r_move (v := .bool (decide (t103.Num < 0))) rfl) ?_
      refine split (fun hb => ?_) (fun hb => ?_)
      ·have H94 := cnd_t hb H93; clear H93
       refine l_passed rfl rfl rfl ?_
       refine l_passed rfl rfl rfl ?_
       refine l_passed rfl rfl rfl ?_
       refine l_val rfl rfl rfl (r_pickT (v := .bool true) rfl rfl) ?_
       refine l_val rfl rfl rfl (r_move (v := .bool true) rfl) ?_
       refine l_passed rfl rfl rfl ?_
       refine l_passed rfl rfl rfl ?_
       refine l_passed rfl rfl rfl ?_
       refine l_val rfl rfl rfl (r_pickT (v := .bool true) rfl rfl) ?_
       refine l_val rfl rfl rfl (r_move (v := .bool true) rfl) ?_
       refine l_passed rfl rfl rfl ?_
       refine l_passed rfl rfl rfl ?_
       refine l_passed rfl rfl rfl ?_
       refine l_val rfl rfl rfl (r_pickT (v := .bool true) rfl rfl) ?_
       refine l_nil ?_
       refine c_true rfl ?_
       refine c_seq ?_
       refine c_region ?_
       refine l_val rfl rfl rfl (r_assign (v := .int .i64 2) rfl) ?_
       refine l_nil ?_
       refine c_ret ?_
       obtain rfl := Option.some.inj H94
       refine ret1 (v := .int .i64 2) rfl rfl (fin rfl)
      ·have H95 := cnd_f hb H93; clear H93
       refine l_val rfl rfl rfl (r_field Tryz.runUnderlying42 rfl Tryz.sizeOf3 rfl rfl) ?_
       refine l_load1 (i := 1) (v := .int .i64 t103.Num) Tryz.isAgg3 rfl rfl rfl rfl rfl ?_
       refine l_val rfl rfl rfl (r_gtr rfl rfl) ?_
       refine l_val rfl rfl rfl (r_pickF (v := .bool (decide (4294967295 < t103.Num))) rfl rfl) ?_
       refine l_val rfl rfl rfl (r_move (v := .bool (decide (4294967295 < t103.Num))) rfl) ?_
       refine split (fun hb => ?_) (fun hb => ?_)
       ·have H96 := cnd_t hb H95; clear H95
        refine l_passed rfl rfl rfl ?_
        refine l_passed rfl rfl rfl ?_
        refine l_passed rfl rfl rfl ?_
        refine l_val rfl rfl rfl (r_pickT (v := .bool true) rfl rfl) ?_
        refine l_val rfl rfl rfl (r_move (v := .bool true) rfl) ?_
        refine l_passed rfl rfl rfl ?_
        refine l_passed rfl rfl rfl ?_
        refine l_passed rfl rfl rfl ?_
        refine l_val rfl rfl rfl (r_pickT (v := .bool true) rfl rfl) ?_
        refine l_nil ?_
        refine c_true rfl ?_
        refine c_seq ?_
        refine c_region ?_
        refine l_val rfl rfl rfl (r_assign (v := .int .i64 2) rfl) ?_
        refine l_nil ?_
        refine c_ret ?_
        obtain rfl := Option.some.inj H96
        refine ret1 (v := .int .i64 2) rfl rfl (fin rfl)
       ·have H97 := cnd_f hb H95; clear H95
        refine l_val rfl rfl rfl (r_field Tryz.runUnderlying42 rfl Tryz.sizeOf3 rfl rfl) ?_
        refine l_load1 (i := 1) (v := .int .i64 t103.Den) Tryz.isAgg3 rfl rfl rfl rfl rfl ?_
        refine l_val rfl rfl rfl (r_lss rfl rfl) ?_
        refine l_val rfl rfl rfl (r_pickF (v := .bool (decide (t103.Den < 0))) rfl rfl) ?_
        refine l_val rfl rfl rfl (r_move (v := .bool (decide (t103.Den < 0))) rfl) ?_
        refine split (fun hb => ?_) (fun hb => ?_)
        ·have H98 := cnd_t hb H97; clear H97
         refine l_passed rfl rfl rfl ?_
         refine l_passed rfl rfl rfl ?_
         refine l_passed rfl rfl rfl ?_
         refine l_val rfl rfl rfl (r_pickT (v := .bool true) rfl rfl) ?_
         refine l_nil ?_
         refine c_true rfl ?_
         refine c_seq ?_
         refine c_region ?_
         refine l_val rfl rfl rfl (r_assign (v := .int .i64 2) rfl) ?_
         refine l_nil ?_
         refine c_ret ?_
         obtain rfl := Option.some.inj H98
         refine ret1 (v := .int .i64 2) rfl rfl (fin rfl)
        ·have H99 := cnd_f hb H97; clear H97
         refine l_val rfl rfl rfl (r_field Tryz.runUnderlying42 rfl Tryz.sizeOf3 rfl rfl) ?_
         refine l_load1 (i := 1) (v := .int .i64 t103.Den) Tryz.isAgg3 rfl rfl rfl rfl rfl ?_
         refine l_val rfl rfl rfl (r_gtr rfl rfl) ?_
         refine l_val rfl rfl rfl (r_pickF (v := .bool (decide (4294967295 < t103.Den))) rfl rfl) ?_
         refine l_nil ?_
         refine c_if (b := (decide (4294967295 < t103.Den))) rfl (fun hb => ?_) (fun hb => ?_)
         ·have H100 := cnd_t hb H99; clear H99
          refine c_seq ?_
          refine c_region ?_
          refine l_val rfl rfl rfl (r_assign (v := .int .i64 2) rfl) ?_
          refine l_nil ?_
          refine c_ret ?_
          obtain rfl := Option.some.inj H100
          refine ret1 (v := .int .i64 2) rfl rfl (fin rfl)
         ·have H101 := cnd_f hb H99; clear H99
          refine c_skip ?_
          refine c_region ?_
          obtain ⟨t123, h_t123, H102⟩ := bnd_some H101; clear H101
          refine l_val rfl rfl rfl (r_addG rfl rfl h_t123) ?_
          refine l_val rfl rfl rfl (r_move (v := .int .i64 t123) rfl) ?_
          refine l_nil ?_
          refine c_close t123 () m6 [0] (by exact ⟨rfl, rfl, rfl, rfl, trivial⟩) (by decide) rfl (by exact ⟨(by subst hn6; exact H102), trivial⟩) (Nat.lt_succ_self _)
     ·have H103 := cnd_f hb H91; clear H91
      refine c_exit ?_
      refine c_close () () 0 [0] (by exact ⟨rfl, trivial⟩) (by decide) rfl (by exact ⟨H103, trivial⟩) (Nat.lt_succ_self _)
    ·rintro _ _ gg H82 _
     replace H82 : R_ValueFaultp_j4 a0 = some r := H82
     refine c_tidyF [(1, .pointer (some ⟨b2, 0, none⟩))] [cellsC b2 [.int .i64 a0.Kind, str a0.Text, v0_2, v0_3, v0_4] 26] rfl rfl ?_
     refine c_meet (r := r) (σ := Unit) (τ := Unit) (fun s => R_ValueFaultp_j5 a0) (fun s t => [(1, .pointer (some ⟨b2, 0, none⟩))]) (fun s t => [cellsC b2 [.int .i64 a0.Kind, str a0.Text, v0_2, v0_3, v0_4] 26]) (fun s t => True) ?_ ?_
     ·refine c_seq ?_
      refine c_region ?_
      refine l_val rfl rfl rfl (r_field Tryz.runUnderlying26 rfl Tryz.sizeOf3 rfl rfl) ?_
      refine l_load1 (i := 0) (v := .int .i64 a0.Kind) Tryz.isAgg3 rfl rfl rfl rfl rfl ?_
      refine l_val rfl rfl rfl (r_eql rfl rfl) ?_
      refine l_val rfl rfl rfl (r_move (v := .bool (decide (a0.Kind = 2))) rfl) ?_
      refine split (fun hb => ?_) (fun hb => ?_)
      ·have H86 := cnd_t hb H82; clear H82
       refine l_val rfl rfl rfl (r_field Tryz.runUnderlying26 rfl Tryz.sizeOf9 rfl rfl) ?_
       refine l_load1 (i := 0) (v := str a0.Text) Tryz.isAgg9 rfl rfl rfl rfl rfl ?_
       obtain ⟨t130, h_t130, H87⟩ := bnd_some H86; clear H86
       refine l_call (k14 h_t130) Tryz.call14 rfl rfl rfl ?_
       refine l_val rfl rfl rfl (r_geq rfl rfl) ?_
       refine l_val rfl rfl rfl (r_pickT (v := .bool (decide (0 ≤ t130))) rfl rfl) ?_
       refine l_nil ?_
       refine c_if (b := (decide (0 ≤ t130))) rfl (fun hb => ?_) (fun hb => ?_)
       ·have H88 := cnd_t hb H87; clear H87
        refine c_seq ?_
        refine c_region ?_
        refine l_val rfl rfl rfl (r_assign (v := .int .i64 9) rfl) ?_
        refine l_nil ?_
        refine c_ret ?_
        obtain rfl := Option.some.inj H88
        refine ret1 (v := .int .i64 9) rfl rfl (fin rfl)
       ·have H89 := cnd_f hb H87; clear H87
        refine c_skip ?_
        refine c_close () () 0 [0] (by exact ⟨rfl, trivial⟩) (by decide) rfl (by exact ⟨H89, trivial⟩) (Nat.lt_succ_self _)
      ·have H90 := cnd_f hb H82; clear H82
       refine l_passed rfl rfl rfl ?_
       refine l_passed rfl rfl rfl ?_
       refine l_passed rfl rfl rfl ?_
       refine l_passed rfl rfl rfl ?_
       refine l_val rfl rfl rfl (r_pickF (v := .bool false) rfl rfl) ?_
       refine l_nil ?_
       refine c_false rfl ?_
       refine c_skip ?_
       refine c_close () () 0 [0] (by exact ⟨rfl, trivial⟩) (by decide) rfl (by exact ⟨H90, trivial⟩) (Nat.lt_succ_self _)
     ·rintro _ _ gg H83 _
      replace H83 : R_ValueFaultp_j5 a0 = some r := H83
      refine c_tidyF [(1, .pointer (some ⟨b2, 0, none⟩))] [cellsC b2 [.int .i64 a0.Kind, str a0.Text, v0_2, v0_3, v0_4] 26] rfl rfl ?_
      refine c_seq ?_
      refine c_seq ?_
      refine c_region ?_
      refine l_val rfl rfl rfl (r_field Tryz.runUnderlying26 rfl Tryz.sizeOf3 rfl rfl) ?_
      refine l_load1 (i := 0) (v := .int .i64 a0.Kind) Tryz.isAgg3 rfl rfl rfl rfl rfl ?_
      refine l_val rfl rfl rfl (r_eql rfl rfl) ?_
      refine l_nil ?_
      refine c_if (b := (decide (a0.Kind = 13))) rfl (fun hb => ?_) (fun hb => ?_)
      ·have H84 := cnd_t hb H83; clear H83
       exact absurd (show (none : Option (Int)) = some r from H84) (fun h => by cases h)
      ·have H85 := cnd_f hb H83; clear H83
       refine c_skip ?_
       refine c_seq ?_
       refine c_region ?_
       refine l_val rfl rfl rfl (r_assign (v := .int .i64 0) rfl) ?_
       refine l_nil ?_
       refine c_ret ?_
       obtain rfl := Option.some.inj H85
       refine ret1 (v := .int .i64 0) rfl rfl (fin rfl)
theorem k15_it (mm : Nat) : ∀ {a0 : (List T_tag_Entry)} {v0 : Value} {a1 : Int} {r : Int} {w : World} {h : Heap} (hw : Know h w noS) (f0 : FrN h 6 v0 g_tag_Entry a0) (H : it (fun (self : ((List T_tag_Entry) × Int) → Option (Int)) (s : (List T_tag_Entry) × Int) => R_dirFault_body self s.1 s.2) mm (a0, a1) = some r), Does Tryz.prog 15 (List.toArray [v0, .int .i64 a1]) w (fun v w' => v = (.int .i64 r) ∧ Grow w w') := by
 induction mm with
 | zero => intros; rename_i H; exact absurd H (by simp [it])
 | succ mm ih =>
  intro a0 v0 a1 r w h hw f0 H
  replace H : R_dirFault_body (it (fun (self : ((List T_tag_Entry) × Int) → Option (Int)) (s : (List T_tag_Entry) × Int) => R_dirFault_body self s.1 s.2) mm) a0 a1 = some r := H
  generalize it (fun (self : ((List T_tag_Entry) × Int) → Option (Int)) (s : (List T_tag_Entry) × Int) => R_dirFault_body self s.1 s.2) mm = self at H ih
  refine enter (n := 79) Tryz.func15 rfl rfl rfl noS [] (Sat.nil _ _) ?_
  refine c_seq ?_
  refine c_region ?_
  refine l_val rfl rfl rfl (r_assign (v := .int .i64 0) rfl) ?_
  refine l_nil ?_
  refine c_seq ?_
  refine c_seq ?_
  refine c_region ?_
  refine l_val rfl rfl rfl (r_move (v := .int .i64 a1) rfl) ?_
  refine l_val rfl rfl rfl (r_gtr rfl rfl) ?_
  refine l_val rfl rfl rfl (r_move (v := .bool (decide (5 < a1))) rfl) ?_
  refine split (fun hb => ?_) (fun hb => ?_)
  ·have H37 := cnd_t hb H; clear H
   refine l_passed rfl rfl rfl ?_
   refine l_passed rfl rfl rfl ?_
   refine l_passed rfl rfl rfl ?_
   refine l_val rfl rfl rfl (r_pickT (v := .bool true) rfl rfl) ?_
   refine l_nil ?_
   refine c_true rfl ?_
   refine c_seq ?_
   refine c_region ?_
   refine l_val rfl rfl rfl (r_assign (v := .int .i64 4) rfl) ?_
   refine l_nil ?_
   refine c_ret ?_
   obtain rfl := Option.some.inj H37
   refine ret1 (v := .int .i64 4) rfl rfl (fin rfl)
  ·have H38 := cnd_f hb H; clear H
   refine l_val rfl rfl rfl (r_move (v := v0) rfl) ?_
   refine l_val rfl rfl rfl (r_lenFN Tryz.underlying24 rfl f0) ?_
   refine l_val rfl rfl rfl (r_gtr rfl rfl) ?_
   refine l_val rfl rfl rfl (r_pickF (v := .bool (decide (200 < (a0.length : Int)))) rfl rfl) ?_
   refine l_nil ?_
   refine c_if (b := (decide (200 < (a0.length : Int)))) rfl (fun hb => ?_) (fun hb => ?_)
   ·have H39 := cnd_t hb H38; clear H38
    refine c_seq ?_
    refine c_region ?_
    refine l_val rfl rfl rfl (r_assign (v := .int .i64 4) rfl) ?_
    refine l_nil ?_
    refine c_ret ?_
    obtain rfl := Option.some.inj H39
    refine ret1 (v := .int .i64 4) rfl rfl (fin rfl)
   ·have H40 := cnd_f hb H38; clear H38
    refine c_skip ?_
    refine c_seq ?_
    refine c_seq ?_
    refine c_region ?_
    refine l_val rfl rfl rfl (r_move (v := v0) rfl) ?_
    refine l_val rfl rfl rfl (r_lenFN Tryz.underlying24 rfl f0) ?_
    refine l_val rfl rfl rfl (r_move (v := .int .i64 0) rfl) ?_
    refine l_nil ?_
    refine c_block ?_
    refine c_fix (σ := Int) (τ := Unit) (fun next1 s => R_dirFault_l1 a0 a1 self next1 s) (fun s t => [(0, v0), (1, .int .i64 a1), (17, v0), (18, .int .i64 (a0.length : Int)), (19, .int .i64 s)]) (fun s t => []) (fun s t => True) 0 () [] H40 (by exact trivial) (by exact ⟨rfl, rfl, rfl, rfl, rfl, trivial⟩) (by decide) rfl ?_
    rintro x19_2 _ m1 gg H41 _
    clear H40
    replace H41 : R_dirFault_l1 a0 a1 self (it (fun next1 s => R_dirFault_l1 a0 a1 self next1 s) m1) x19_2 = some r := H41
    generalize hn1 : it (fun next1 s => R_dirFault_l1 a0 a1 self next1 s) m1 = next1 at H41
    refine c_tidyF [(0, v0), (1, .int .i64 a1), (17, v0), (18, .int .i64 (a0.length : Int)), (19, .int .i64 x19_2)] [] rfl rfl ?_
    refine c_seq ?_
    refine c_region ?_
    refine l_val rfl rfl rfl (r_lss rfl rfl) ?_
    refine l_nil ?_
    refine c_seq ?_
    refine c_if (b := (decide (x19_2 < (a0.length : Int)))) rfl (fun hb => ?_) (fun hb => ?_)
    ·have H42 := cnd_t hb H41; clear H41
     refine c_skip ?_
     refine c_meet (r := r) (σ := Int × Bool × Int × Int × (List UInt8) × (List Int) × (List T_tag_Ratio) × (List T_tag_Entry)) (τ := Value × Value × Value × Nat) (fun s => R_dirFault_j2 x19_2 next1 s.1 s.2.1 s.2.2.1 s.2.2.2.1 s.2.2.2.2.1 s.2.2.2.2.2.1 s.2.2.2.2.2.2.1 s.2.2.2.2.2.2.2) (fun s t => [(0, v0), (1, .int .i64 a1), (17, v0), (18, .int .i64 (a0.length : Int)), (19, .int .i64 x19_2), (28, .pointer (some ⟨t.2.2.2, 0, none⟩)), (29, .int .i64 s.1), (30, .bool s.2.1)]) (fun s t => [cellsC t.2.2.2 [.int .i64 s.2.2.1, .int .i64 s.2.2.2.1, str s.2.2.2.2.1, t.1, t.2.1, t.2.2.1] 65]) (fun s t => FrS h 1 t.1 (s.2.2.2.2.2.1.map e_i64) ∧ FrS h 2 t.2.1 (s.2.2.2.2.2.2.1.map e_tag_Ratio) ∧ FrN h 6 t.2.2.1 g_tag_Entry s.2.2.2.2.2.2.2) ?_ ?_
     ·refine c_block ?_
      refine c_seq ?_
      refine c_region ?_
      refine l_val rfl rfl rfl (r_move (v := .int .i64 x19_2) rfl) ?_
      obtain ⟨t22, h_t22, H45⟩ := bnd_some H42; clear H42
      refine l_val rfl rfl rfl (r_indexF Tryz.underlying24 Tryz.sizeOf65 rfl rfl f0.frs (f0.ix h_t22)) ?_
      refine l_read (fun w hF hS => run_loadGN (f := (elC h v0 6)) (i := x19_2) (sz := 6) (j := 0) (vs := [.int .i64 t22.Tag, .int .i64 t22.Value.Kind, str t22.Value.Text, (elH h v0 6 (Int.toNat x19_2) 3), (elH h v0 6 (Int.toNat x19_2) 4), (elH h v0 6 (Int.toNat x19_2) 5)]) Tryz.isAgg65 Tryz.sizeOf65 rfl rfl (f0.frs.row (hw.now hF)) (f0.ix h_t22) (rd_of (cg_tag_Entry (f0.at h_t22)) rfl)) rfl rfl rfl ?_
      refine l_alloc (cs := [.int .i64 0, .int .i64 0, str [], .slice none 0 0, .slice none 0 0, .slice none 0 0]) Tryz.zeroValue65 rfl rfl rfl (fun b2 => ?_)
      refine l_val rfl rfl rfl (r_assign (v := .int .i64 x19_2) rfl) ?_
      refine l_store (i := 0) (vs := [.int .i64 t22.Tag, .int .i64 t22.Value.Kind, str t22.Value.Text, (elH h v0 6 (Int.toNat x19_2) 3), (elH h v0 6 (Int.toNat x19_2) 4), (elH h v0 6 (Int.toNat x19_2) 5)]) (cs' := [.int .i64 t22.Tag, .int .i64 t22.Value.Kind, str t22.Value.Text, (elH h v0 6 (Int.toNat x19_2) 3), (elH h v0 6 (Int.toNat x19_2) 4), (elH h v0 6 (Int.toNat x19_2) 5)]) Tryz.sizeOf65 rfl rfl rfl rfl rfl rfl (by simp only [List.all_cons, List.all_nil, (show FrN h 6 (elH h v0 6 (Int.toNat x19_2) 5) g_tag_Entry t22.Value.Entries from (g_tag_Value_p4 (g_tag_Entry_p1 (f0.at h_t22)))).one, (show FrS h 1 (elH h v0 6 (Int.toNat x19_2) 3) (t22.Value.Ints.map e_i64) from (g_tag_Value_p2 (g_tag_Entry_p1 (f0.at h_t22)))).one, (show FrS h 2 (elH h v0 6 (Int.toNat x19_2) 4) (t22.Value.Ratios.map e_tag_Ratio) from (g_tag_Value_p3 (g_tag_Entry_p1 (f0.at h_t22)))).one] <;> rfl) rfl rfl ?_
      refine l_nil ?_
      refine c_seq ?_
      refine c_seq ?_
      refine c_region ?_
      refine l_val rfl rfl rfl (r_field Tryz.runUnderlying65 rfl Tryz.sizeOf3 rfl rfl) ?_
      refine l_load1 (i := 0) (v := .int .i64 t22.Tag) Tryz.isAgg3 rfl rfl rfl rfl rfl ?_
      refine l_val rfl rfl rfl (r_lss rfl rfl) ?_
      refine l_val rfl rfl rfl (r_move (v := .bool (decide (t22.Tag < 0))) rfl) ?_
      refine split (fun hb => ?_) (fun hb => ?_)
      ·have H46 := cnd_t hb H45; clear H45
       refine l_passed rfl rfl rfl ?_
       refine l_passed rfl rfl rfl ?_
       refine l_passed rfl rfl rfl ?_
       refine l_val rfl rfl rfl (r_pickT (v := .bool true) rfl rfl) ?_
       refine l_nil ?_
       refine c_true rfl ?_
       refine c_seq ?_
       refine c_region ?_
       refine l_val rfl rfl rfl (r_assign (v := .int .i64 2) rfl) ?_
       refine l_nil ?_
       refine c_ret ?_
       obtain rfl := Option.some.inj H46
       refine ret1 (v := .int .i64 2) rfl rfl (fin rfl)
      ·have H47 := cnd_f hb H45; clear H45
       refine l_val rfl rfl rfl (r_field Tryz.runUnderlying65 rfl Tryz.sizeOf3 rfl rfl) ?_
       refine l_load1 (i := 0) (v := .int .i64 t22.Tag) Tryz.isAgg3 rfl rfl rfl rfl rfl ?_
       refine l_val rfl rfl rfl (r_gtr rfl rfl) ?_
       refine l_val rfl rfl rfl (r_pickF (v := .bool (decide (65535 < t22.Tag))) rfl rfl) ?_
       refine l_nil ?_
       refine c_if (b := (decide (65535 < t22.Tag))) rfl (fun hb => ?_) (fun hb => ?_)
       ·have H48 := cnd_t hb H47; clear H47
        refine c_seq ?_
        refine c_region ?_
        refine l_val rfl rfl rfl (r_assign (v := .int .i64 2) rfl) ?_
        refine l_nil ?_
        refine c_ret ?_
        obtain rfl := Option.some.inj H48
        refine ret1 (v := .int .i64 2) rfl rfl (fin rfl)
       ·have H49 := cnd_f hb H47; clear H47
        refine c_skip ?_
        refine c_meet (r := r) (σ := Unit) (τ := Unit) (fun s => R_dirFault_j3 a1 self x19_2 next1 t22) (fun s t => [(0, v0), (1, .int .i64 a1), (6, .pointer (some ⟨b2, 0, none⟩)), (17, v0), (18, .int .i64 (a0.length : Int)), (19, .int .i64 x19_2), (28, .pointer (some ⟨b2, 0, none⟩)), (29, .int .i64 t22.Tag), (30, .bool (decide (65535 < t22.Tag)))]) (fun s t => [cellsC b2 [.int .i64 t22.Tag, .int .i64 t22.Value.Kind, str t22.Value.Text, (elH h v0 6 (Int.toNat x19_2) 3), (elH h v0 6 (Int.toNat x19_2) 4), (elH h v0 6 (Int.toNat x19_2) 5)] 65]) (fun s t => True) ?_ ?_
        ·refine c_seq ?_
         exact c_regionD (Kd.p :: Kd.p :: Kd.p :: Kd.p :: Kd.d [0] _ :: Kd.p :: Kd.p :: Kd.p :: Kd.p :: Kd.p :: Kd.d [] _ :: Kd.p :: Kd.p :: []) 0 mixed (by
          refine d_val rfl rfl (r_move (v := .int .i64 x19_2) rfl) ?_
          refine d_val rfl rfl (r_gtr rfl rfl) ?_
          refine d_val rfl rfl (r_move (v := .bool (decide (0 < x19_2))) rfl) ?_
          refine splitS (fun hb => ?_) (fun hb => ?_)
          ·have H66 := cnd_t hb H49
           refine d_val rfl rfl (r_field Tryz.runUnderlying65 rfl Tryz.sizeOf3 rfl rfl) ?_
           refine d_load1 (i := 0) (v := .int .i64 t22.Tag) Tryz.isAgg3 rfl rfl rfl rfl ?_
           refine d_val rfl rfl (r_move (v := v0) rfl) ?_
           refine d_val rfl rfl (r_move (v := .int .i64 x19_2) rfl) ?_
           have h_t39 := bnd_val H66
           have H67 := bnd_rest H66
           refine d_val rfl rfl (r_subG rfl rfl h_t39) ?_
           have h_t40 := bnd_val H67
           have H68 := bnd_rest H67
           refine d_val rfl rfl (r_indexF Tryz.underlying24 Tryz.sizeOf65 rfl rfl f0.frs (f0.ix h_t40)) ?_
           refine d_val rfl rfl (r_fieldP Tryz.runUnderlying65 rfl Tryz.sizeOf3 rfl rfl (some_of_at f0.frs (f0.ix h_t40))) ?_
           refine d_read (fun w hF => run_loadG1 (f := (elC h v0 6)) (i := (val (gI (x19_2 - 1)))) (sz := 6) (j := 0) (v := .int .i64 (val (gAt a0 (val (gI (x19_2 - 1))))).Tag) Tryz.isAgg3 rfl rfl (f0.frs.row (hw.now hF)) (f0.ix h_t40) (rg_of (cg_tag_Entry (f0.at h_t40)) rfl)) rfl rfl ?_
           refine d_val rfl rfl (r_leq rfl rfl) ?_
           refine d_val rfl rfl (r_pickT (v := .bool (decide (t22.Tag ≤ (val (gAt a0 (val (gI (x19_2 - 1))))).Tag))) rfl rfl) ?_
           refine d_nil ?_
           refine c_if (b := (decide (t22.Tag ≤ (val (gAt a0 (val (gI (x19_2 - 1))))).Tag))) rfl (fun hb => ?_) (fun hb => ?_)
           ·have H69 := cnd_t hb H68; clear H68
            refine c_seq ?_
            refine c_region ?_
            refine l_val rfl rfl rfl (r_assign (v := .int .i64 5) rfl) ?_
            refine l_nil ?_
            refine c_ret ?_
            obtain rfl := Option.some.inj H69
            refine ret1 (v := .int .i64 5) rfl rfl (fin rfl)
           ·have H70 := cnd_f hb H68; clear H68
            refine c_skip ?_
            refine c_close () () 0 [0] (by exact ⟨rfl, rfl, rfl, rfl, rfl, rfl, rfl, rfl, rfl, trivial⟩) (by decide) rfl (by exact ⟨H70, trivial⟩) (Nat.lt_succ_self _)
          ·have H71 := cnd_f hb H49
           refine d_pass rfl rfl ?_
           refine d_pass rfl rfl ?_
           refine d_pass rfl rfl ?_
           refine d_pass rfl rfl ?_
           refine d_pass rfl rfl ?_
           refine d_pass rfl rfl ?_
           refine d_pass rfl rfl ?_
           refine d_pass rfl rfl ?_
           refine d_pass rfl rfl ?_
           refine d_val rfl rfl (r_pickF (v := .bool false) rfl rfl) ?_
           refine d_nil ?_
           refine c_false rfl ?_
           refine c_skip ?_
           refine c_close () () 0 [0] (by exact ⟨rfl, rfl, rfl, rfl, rfl, rfl, rfl, rfl, rfl, trivial⟩) (by decide) rfl (by exact ⟨H71, trivial⟩) (Nat.lt_succ_self _)
          ) (by kernel_rfl)
        ·rintro _ _ gg H50 _
         replace H50 : R_dirFault_j3 a1 self x19_2 next1 t22 = some r := H50
         refine c_tidyF [(0, v0), (1, .int .i64 a1), (6, .pointer (some ⟨b2, 0, none⟩)), (17, v0), (18, .int .i64 (a0.length : Int)), (19, .int .i64 x19_2), (28, .pointer (some ⟨b2, 0, none⟩)), (29, .int .i64 t22.Tag), (30, .bool (decide (65535 < t22.Tag)))] [cellsC b2 [.int .i64 t22.Tag, .int .i64 t22.Value.Kind, str t22.Value.Text, (elH h v0 6 (Int.toNat x19_2) 3), (elH h v0 6 (Int.toNat x19_2) 4), (elH h v0 6 (Int.toNat x19_2) 5)] 65] rfl rfl ?_
         refine c_seq ?_
         refine c_region ?_
         refine l_val rfl rfl rfl (r_field Tryz.runUnderlying65 rfl Tryz.sizeOf26 rfl rfl) ?_
         refine l_loadN (i := 0) (vs := [.int .i64 t22.Value.Kind, str t22.Value.Text, (elH h v0 6 (Int.toNat x19_2) 3), (elH h v0 6 (Int.toNat x19_2) 4), (elH h v0 6 (Int.toNat x19_2) 5)]) Tryz.isAgg26 Tryz.sizeOf26 rfl rfl rfl rfl rfl ?_
         refine l_alloc (cs := [.int .i64 0, str [], .slice none 0 0, .slice none 0 0, .slice none 0 0]) Tryz.zeroValue26 rfl rfl rfl (fun b3 => ?_)
         refine l_store (i := 1) (vs := [.int .i64 t22.Value.Kind, str t22.Value.Text, (elH h v0 6 (Int.toNat x19_2) 3), (elH h v0 6 (Int.toNat x19_2) 4), (elH h v0 6 (Int.toNat x19_2) 5)]) (cs' := [.int .i64 t22.Value.Kind, str t22.Value.Text, (elH h v0 6 (Int.toNat x19_2) 3), (elH h v0 6 (Int.toNat x19_2) 4), (elH h v0 6 (Int.toNat x19_2) 5)]) Tryz.sizeOf26 rfl rfl rfl rfl rfl rfl (by simp only [List.all_cons, List.all_nil, (show FrN h 6 (elH h v0 6 (Int.toNat x19_2) 5) g_tag_Entry t22.Value.Entries from (g_tag_Value_p4 (g_tag_Entry_p1 (f0.at h_t22)))).one, (show FrS h 1 (elH h v0 6 (Int.toNat x19_2) 3) (t22.Value.Ints.map e_i64) from (g_tag_Value_p2 (g_tag_Entry_p1 (f0.at h_t22)))).one, (show FrS h 2 (elH h v0 6 (Int.toNat x19_2) 4) (t22.Value.Ratios.map e_tag_Ratio) from (g_tag_Value_p3 (g_tag_Entry_p1 (f0.at h_t22)))).one] <;> rfl) rfl rfl ?_
         refine l_nil ?_
         refine c_seq ?_
         refine c_seq ?_
         refine c_region ?_
         refine l_val rfl rfl rfl (r_field Tryz.runUnderlying26 rfl Tryz.sizeOf3 rfl rfl) ?_
         refine l_load1 (i := 1) (v := .int .i64 t22.Value.Kind) Tryz.isAgg3 rfl rfl rfl rfl rfl ?_
         refine l_val rfl rfl rfl (r_neq rfl rfl) ?_
         refine l_nil ?_
         refine c_if (b := (decide (t22.Value.Kind ≠ 13))) rfl (fun hb => ?_) (fun hb => ?_)
         ·have H51 := cnd_t hb H50; clear H50
          refine c_seq ?_
          refine c_seq ?_
          refine c_region ?_
          refine l_loadN (i := 1) (vs := [.int .i64 t22.Value.Kind, str t22.Value.Text, (elH h v0 6 (Int.toNat x19_2) 3), (elH h v0 6 (Int.toNat x19_2) 4), (elH h v0 6 (Int.toNat x19_2) 5)]) Tryz.isAgg26 Tryz.sizeOf26 rfl rfl rfl rfl rfl ?_
          obtain ⟨t51, h_t51, H52⟩ := bnd_some H51; clear H51
          refine l_callG (fun w hF hS => k4p (know_all w) ((show FrS h 1 (elH h v0 6 (Int.toNat x19_2) 3) (t22.Value.Ints.map e_i64) from (g_tag_Value_p2 (g_tag_Entry_p1 (f0.at h_t22)))).mono (hw.now hF)) ((show FrS h 2 (elH h v0 6 (Int.toNat x19_2) 4) (t22.Value.Ratios.map e_tag_Ratio) from (g_tag_Value_p3 (g_tag_Entry_p1 (f0.at h_t22)))).mono (hw.now hF)) ((show FrN h 6 (elH h v0 6 (Int.toNat x19_2) 5) g_tag_Entry t22.Value.Entries from (g_tag_Value_p4 (g_tag_Entry_p1 (f0.at h_t22)))).mono (hw.now hF)) h_t51) Tryz.call4 rfl rfl rfl ?_
          refine l_val rfl rfl rfl (r_assign (v := .int .i64 t51) rfl) ?_
          refine l_nil ?_
          refine c_seq ?_
          refine c_region ?_
          refine l_val rfl rfl rfl (r_move (v := .int .i64 t51) rfl) ?_
          refine l_val rfl rfl rfl (r_neq rfl rfl) ?_
          refine l_nil ?_
          refine c_if (b := (decide (t51 ≠ 0))) rfl (fun hb => ?_) (fun hb => ?_)
          ·have H53 := cnd_t hb H52; clear H52
           refine c_seq ?_
           refine c_region ?_
           refine l_val rfl rfl rfl (r_move (v := .int .i64 t51) rfl) ?_
           refine l_val rfl rfl rfl (r_assign (v := .int .i64 t51) rfl) ?_
           refine l_nil ?_
           refine c_ret ?_
           obtain rfl := Option.some.inj H53
           refine ret1 (v := .int .i64 t51) rfl rfl (fin rfl)
          ·have H54 := cnd_f hb H52; clear H52
           refine c_skip ?_
           refine c_exit ?_
           refine c_close (t22.Tag, (decide (65535 < t22.Tag)), t22.Tag, t22.Value.Kind, t22.Value.Text, t22.Value.Ints, t22.Value.Ratios, t22.Value.Entries) ((elH h v0 6 (Int.toNat x19_2) 3), (elH h v0 6 (Int.toNat x19_2) 4), (elH h v0 6 (Int.toNat x19_2) 5), b2) 0 [0] (by exact ⟨rfl, rfl, rfl, rfl, rfl, rfl, rfl, rfl, trivial⟩) (by decide) rfl (by exact ⟨H54, ⟨(show FrS h 1 (elH h v0 6 (Int.toNat x19_2) 3) (t22.Value.Ints.map e_i64) from (g_tag_Value_p2 (g_tag_Entry_p1 (f0.at h_t22)))), (show FrS h 2 (elH h v0 6 (Int.toNat x19_2) 4) (t22.Value.Ratios.map e_tag_Ratio) from (g_tag_Value_p3 (g_tag_Entry_p1 (f0.at h_t22)))), (show FrN h 6 (elH h v0 6 (Int.toNat x19_2) 5) g_tag_Entry t22.Value.Entries from (g_tag_Value_p4 (g_tag_Entry_p1 (f0.at h_t22))))⟩⟩) (Nat.lt_succ_self _)
         ·have H55 := cnd_f hb H50; clear H50
          refine c_skip ?_
          refine c_seq ?_
          refine c_seq ?_
          refine c_region ?_
          refine l_val rfl rfl rfl (r_field Tryz.runUnderlying26 rfl Tryz.sizeOf9 rfl rfl) ?_
          refine l_load1 (i := 1) (v := str t22.Value.Text) Tryz.isAgg9 rfl rfl rfl rfl rfl ?_
          refine l_val rfl rfl rfl (r_neqT rfl rfl) ?_
          refine l_val rfl rfl rfl (r_move (v := .bool (decide (t22.Value.Text ≠ []))) rfl) ?_
          refine split (fun hb => ?_) (fun hb => ?_)
          ·have H56 := cnd_t hb H55; clear H55
           refine l_passed rfl rfl rfl ?_
           refine l_passed rfl rfl rfl ?_
           refine l_passed rfl rfl rfl ?_
           refine l_passed rfl rfl rfl ?_
           refine l_val rfl rfl rfl (r_pickT (v := .bool true) rfl rfl) ?_
           refine l_val rfl rfl rfl (r_move (v := .bool true) rfl) ?_
           refine l_passed rfl rfl rfl ?_
           refine l_passed rfl rfl rfl ?_
           refine l_passed rfl rfl rfl ?_
           refine l_passed rfl rfl rfl ?_
           refine l_val rfl rfl rfl (r_pickT (v := .bool true) rfl rfl) ?_
           refine l_nil ?_
           refine c_true rfl ?_
           refine c_seq ?_
           refine c_region ?_
           refine l_val rfl rfl rfl (r_assign (v := .int .i64 1) rfl) ?_
           refine l_nil ?_
           refine c_ret ?_
           obtain rfl := Option.some.inj H56
           refine ret1 (v := .int .i64 1) rfl rfl (fin rfl)
          ·have H57 := cnd_f hb H55; clear H55
           refine l_val rfl rfl rfl (r_field Tryz.runUnderlying26 rfl Tryz.sizeOf22 rfl rfl) ?_
           refine l_load1 (i := 1) (v := (elH h v0 6 (Int.toNat x19_2) 3)) Tryz.isAgg22 rfl rfl rfl rfl rfl ?_
           refine l_val rfl rfl rfl (r_lenF Tryz.underlying22 rfl (show FrS h 1 (elH h v0 6 (Int.toNat x19_2) 3) (t22.Value.Ints.map e_i64) from (g_tag_Value_p2 (g_tag_Entry_p1 (f0.at h_t22)))) rfl) ?_
           refine l_val rfl rfl rfl (r_gtr rfl rfl) ?_
           refine l_val rfl rfl rfl (r_pickF (v := .bool (decide (0 < (t22.Value.Ints.length : Int)))) rfl rfl) ?_
           refine l_val rfl rfl rfl (r_move (v := .bool (decide (0 < (t22.Value.Ints.length : Int)))) rfl) ?_
           refine split (fun hb => ?_) (fun hb => ?_)
           ·have H58 := cnd_t hb H57; clear H57
            refine l_passed rfl rfl rfl ?_
            refine l_passed rfl rfl rfl ?_
            refine l_passed rfl rfl rfl ?_
            refine l_passed rfl rfl rfl ?_
            refine l_val rfl rfl rfl (r_pickT (v := .bool true) rfl rfl) ?_
            refine l_nil ?_
            refine c_true rfl ?_
            refine c_seq ?_
            refine c_region ?_
            refine l_val rfl rfl rfl (r_assign (v := .int .i64 1) rfl) ?_
            refine l_nil ?_
            refine c_ret ?_
            obtain rfl := Option.some.inj H58
            refine ret1 (v := .int .i64 1) rfl rfl (fin rfl)
           ·have H59 := cnd_f hb H57; clear H57
            refine l_val rfl rfl rfl (r_field Tryz.runUnderlying26 rfl Tryz.sizeOf23 rfl rfl) ?_
            refine l_load1 (i := 1) (v := (elH h v0 6 (Int.toNat x19_2) 4)) Tryz.isAgg23 rfl rfl rfl rfl rfl ?_
            refine l_val rfl rfl rfl (r_lenF Tryz.underlying23 rfl (show FrS h 2 (elH h v0 6 (Int.toNat x19_2) 4) (t22.Value.Ratios.map e_tag_Ratio) from (g_tag_Value_p3 (g_tag_Entry_p1 (f0.at h_t22)))) rfl) ?_
            refine l_val rfl rfl rfl (r_gtr rfl rfl) ?_
            refine l_val rfl rfl rfl (r_pickF (v := .bool (decide (0 < (t22.Value.Ratios.length : Int)))) rfl rfl) ?_
            refine l_nil ?_
            refine c_if (b := (decide (0 < (t22.Value.Ratios.length : Int)))) rfl (fun hb => ?_) (fun hb => ?_)
            ·have H60 := cnd_t hb H59; clear H59
             refine c_seq ?_
             refine c_region ?_
             refine l_val rfl rfl rfl (r_assign (v := .int .i64 1) rfl) ?_
             refine l_nil ?_
             refine c_ret ?_
             obtain rfl := Option.some.inj H60
             refine ret1 (v := .int .i64 1) rfl rfl (fin rfl)
            ·have H61 := cnd_f hb H59; clear H59
             refine c_skip ?_
             refine c_seq ?_
             refine c_region ?_
             refine l_val rfl rfl rfl (r_field Tryz.runUnderlying26 rfl Tryz.sizeOf24 rfl rfl) ?_
             refine l_load1 (i := 1) (v := (elH h v0 6 (Int.toNat x19_2) 5)) Tryz.isAgg24 rfl rfl rfl rfl rfl ?_
             refine l_val rfl rfl rfl (r_move (v := .int .i64 a1) rfl) ?_
             obtain ⟨t73, h_t73, H62⟩ := bnd_some H61; clear H61
             refine l_val rfl rfl rfl (r_addG rfl rfl h_t73) ?_
             obtain ⟨t74, h_t74, H63⟩ := bnd_some H62; clear H62
             refine l_callG (fun w hF hS => ih (know_all w) ((show FrN h 6 (elH h v0 6 (Int.toNat x19_2) 5) g_tag_Entry t22.Value.Entries from (g_tag_Value_p4 (g_tag_Entry_p1 (f0.at h_t22)))).mono (hw.now hF)) h_t74) Tryz.call15 rfl rfl rfl ?_
             refine l_val rfl rfl rfl (r_assign (v := .int .i64 t74) rfl) ?_
             refine l_nil ?_
             refine c_seq ?_
             refine c_region ?_
             refine l_val rfl rfl rfl (r_move (v := .int .i64 t74) rfl) ?_
             refine l_val rfl rfl rfl (r_neq rfl rfl) ?_
             refine l_nil ?_
             refine c_if (b := (decide (t74 ≠ 0))) rfl (fun hb => ?_) (fun hb => ?_)
             ·have H64 := cnd_t hb H63; clear H63
              refine c_seq ?_
              refine c_region ?_
              refine l_val rfl rfl rfl (r_move (v := .int .i64 t74) rfl) ?_
              refine l_val rfl rfl rfl (r_assign (v := .int .i64 t74) rfl) ?_
              refine l_nil ?_
              refine c_ret ?_
              obtain rfl := Option.some.inj H64
              refine ret1 (v := .int .i64 t74) rfl rfl (fin rfl)
             ·have H65 := cnd_f hb H63; clear H63
              refine c_skip ?_
              refine c_close (t22.Tag, (decide (65535 < t22.Tag)), t22.Tag, t22.Value.Kind, t22.Value.Text, t22.Value.Ints, t22.Value.Ratios, t22.Value.Entries) ((elH h v0 6 (Int.toNat x19_2) 3), (elH h v0 6 (Int.toNat x19_2) 4), (elH h v0 6 (Int.toNat x19_2) 5), b2) 0 [0] (by exact ⟨rfl, rfl, rfl, rfl, rfl, rfl, rfl, rfl, trivial⟩) (by decide) rfl (by exact ⟨H65, ⟨(show FrS h 1 (elH h v0 6 (Int.toNat x19_2) 3) (t22.Value.Ints.map e_i64) from (g_tag_Value_p2 (g_tag_Entry_p1 (f0.at h_t22)))), (show FrS h 2 (elH h v0 6 (Int.toNat x19_2) 4) (t22.Value.Ratios.map e_tag_Ratio) from (g_tag_Value_p3 (g_tag_Entry_p1 (f0.at h_t22)))), (show FrN h 6 (elH h v0 6 (Int.toNat x19_2) 5) g_tag_Entry t22.Value.Entries from (g_tag_Value_p4 (g_tag_Entry_p1 (f0.at h_t22))))⟩⟩) (Nat.lt_succ_self _)
     ·rintro ⟨x29, x30, m, m_2, m_3, m_4, m_5, m_6⟩ ⟨gv, gv_2, gv_3, b⟩ gg H43 ⟨gf, gf_2, gf_3⟩
      replace H43 : R_dirFault_j2 x19_2 next1 x29 x30 m m_2 m_3 m_4 m_5 m_6 = some r := H43
      refine c_tidyF [(0, v0), (1, .int .i64 a1), (17, v0), (18, .int .i64 (a0.length : Int)), (19, .int .i64 x19_2), (28, .pointer (some ⟨b, 0, none⟩)), (29, .int .i64 x29), (30, .bool x30)] [cellsC b [.int .i64 m, .int .i64 m_2, str m_3, gv, gv_2, gv_3] 65] rfl rfl ?_
      refine c_region ?_
      obtain ⟨t78, h_t78, H44⟩ := bnd_some H43; clear H43
      refine l_val rfl rfl rfl (r_addG rfl rfl h_t78) ?_
      refine l_val rfl rfl rfl (r_move (v := .int .i64 t78) rfl) ?_
      refine l_nil ?_
      refine c_close t78 () m1 [] (by exact ⟨rfl, rfl, rfl, rfl, rfl, trivial⟩) (by decide) rfl (by exact ⟨(by subst hn1; exact H44), trivial⟩) (Nat.lt_succ_self _)
    ·have H72 := cnd_f hb H41; clear H41
     refine c_exit ?_
     refine c_seq ?_
     refine c_region ?_
     refine l_val rfl rfl rfl (r_assign (v := .int .i64 0) rfl) ?_
     refine l_nil ?_
     refine c_ret ?_
     obtain rfl := Option.some.inj H72
     refine ret1 (v := .int .i64 0) rfl rfl (fin rfl)
theorem k15 {a0 : (List T_tag_Entry)} {v0 : Value} {a1 : Int} {r : Int} {w : World} {h : Heap} (hw : Know h w noS) (f0 : FrN h 6 v0 g_tag_Entry a0) (H : R_dirFault a0 a1 = some r) : Does Tryz.prog 15 (List.toArray [v0, .int .i64 a1]) w (fun v w' => v = (.int .i64 r) ∧ Grow w w') := by
 obtain ⟨mm, hm⟩ := fix_it (show fix (fun (self : ((List T_tag_Entry) × Int) → Option (Int)) (s : (List T_tag_Entry) × Int) => R_dirFault_body self s.1 s.2) (a0, a1) = some r from H)
 exact k15_it mm hw f0 hm
theorem k4 {a0 : T_tag_Value} {v0_2 : Value} {v0_3 : Value} {v0_4 : Value} {r : Int} {w : World} {h : Heap} (hw : Know h w noS) (f0_2 : FrS h 1 v0_2 (a0.Ints.map e_i64)) (f0_3 : FrS h 2 v0_3 (a0.Ratios.map e_tag_Ratio)) (f0_4 : FrN h 6 v0_4 g_tag_Entry a0.Entries) (H : R_ValueFault a0 = some r) : Does Tryz.prog 4 (List.toArray [.agg #[.int .i64 a0.Kind, str a0.Text, v0_2, v0_3, v0_4]]) w (fun v w' => v = (.int .i64 r) ∧ Grow w w') := by
 refine enter (n := 139) Tryz.func4 rfl rfl rfl noS [] (Sat.nil _ _) ?_
 refine c_seq ?_
 refine c_region ?_
 refine l_box (cs := [.int .i64 a0.Kind, str a0.Text, v0_2, v0_3, v0_4]) rfl rfl rfl rfl (fun b2 => ?_)
 refine l_val rfl rfl rfl (r_assign (v := .int .i64 0) rfl) ?_
 refine l_nil ?_
 refine c_meet (r := r) (σ := Bool × Bool) (τ := Unit) (fun s => R_ValueFault_j1 a0 s.1 s.2) (fun s t => [(1, .pointer (some ⟨b2, 0, none⟩)), (3, .bool s.1), (4, .bool s.2)]) (fun s t => [cellsC b2 [.int .i64 a0.Kind, str a0.Text, v0_2, v0_3, v0_4] 26]) (fun s t => True) ?_ ?_
 ·exact c_regionD (Kd.p :: Kd.d [0] _ :: Kd.p :: Kd.p :: Kd.p :: Kd.d [0] _ :: Kd.p :: Kd.p :: Kd.p :: Kd.d [0] _ :: Kd.p :: Kd.p :: Kd.p :: Kd.d [0] _ :: Kd.p :: Kd.p :: Kd.p :: Kd.p :: Kd.d [0] _ :: Kd.p :: Kd.p :: Kd.p :: Kd.p :: Kd.d [0] _ :: Kd.p :: Kd.p :: Kd.p :: Kd.p :: []) 0 mixed (by
   refine d_val rfl rfl (r_field Tryz.runUnderlying26 rfl Tryz.sizeOf3 rfl rfl) ?_
   refine d_load1 (i := 0) (v := .int .i64 a0.Kind) Tryz.isAgg3 rfl rfl rfl rfl ?_
   refine d_val rfl rfl (r_eql rfl rfl) ?_
   refine d_val rfl rfl (r_move (v := .bool (decide (a0.Kind = 2))) rfl) ?_
   refine splitS (fun hb => ?_) (fun hb => ?_)
   ·have H143 := cnd_t hb H
    refine d_pass rfl rfl ?_
    refine d_pass rfl rfl ?_
    refine d_pass rfl rfl ?_
    refine d_val rfl rfl (r_pickT (v := .bool true) rfl rfl) ?_
    refine d_val rfl rfl (r_field Tryz.runUnderlying26 rfl Tryz.sizeOf3 rfl rfl) ?_
    refine d_load1 (i := 0) (v := .int .i64 a0.Kind) Tryz.isAgg3 rfl rfl rfl rfl ?_
    refine d_val rfl rfl (r_eql rfl rfl) ?_
    refine d_val rfl rfl (r_move (v := .bool (decide (a0.Kind = 1))) rfl) ?_
    refine splitS (fun hb => ?_) (fun hb => ?_)
    ·have H144 := cnd_t hb H143
     refine d_pass rfl rfl ?_
     refine d_pass rfl rfl ?_
     refine d_pass rfl rfl ?_
     refine d_val rfl rfl (r_pickT (v := .bool true) rfl rfl) ?_
     refine d_val rfl rfl (r_move (v := .bool true) rfl) ?_
     refine d_pass rfl rfl ?_
     refine d_pass rfl rfl ?_
     refine d_pass rfl rfl ?_
     refine d_val rfl rfl (r_pickT (v := .bool true) rfl rfl) ?_
     refine d_val rfl rfl (r_move (v := .bool true) rfl) ?_
     refine d_pass rfl rfl ?_
     refine d_pass rfl rfl ?_
     refine d_pass rfl rfl ?_
     refine d_val rfl rfl (r_pickT (v := .bool true) rfl rfl) ?_
     refine d_val rfl rfl (r_assign (v := .bool true) rfl) ?_
     refine d_val rfl rfl (r_assign (v := .bool true) rfl) ?_
     refine d_nil ?_
     refine c_close (true, true) () 0 [0] (by exact ⟨rfl, rfl, rfl, trivial⟩) (by decide) rfl (by exact ⟨H144, trivial⟩) (Nat.lt_succ_self _)
    ·have H145 := cnd_f hb H143
     refine d_val rfl rfl (r_field Tryz.runUnderlying26 rfl Tryz.sizeOf3 rfl rfl) ?_
     refine d_load1 (i := 0) (v := .int .i64 a0.Kind) Tryz.isAgg3 rfl rfl rfl rfl ?_
     refine d_val rfl rfl (r_eql rfl rfl) ?_
     refine d_val rfl rfl (r_pickF (v := .bool (decide (a0.Kind = 3))) rfl rfl) ?_
     refine d_val rfl rfl (r_move (v := .bool (decide (a0.Kind = 3))) rfl) ?_
     refine splitS (fun hb => ?_) (fun hb => ?_)
     ·have H146 := cnd_t hb H145
      refine d_pass rfl rfl ?_
      refine d_pass rfl rfl ?_
      refine d_pass rfl rfl ?_
      refine d_val rfl rfl (r_pickT (v := .bool true) rfl rfl) ?_
      refine d_val rfl rfl (r_move (v := .bool true) rfl) ?_
      refine d_pass rfl rfl ?_
      refine d_pass rfl rfl ?_
      refine d_pass rfl rfl ?_
      refine d_val rfl rfl (r_pickT (v := .bool true) rfl rfl) ?_
      refine d_val rfl rfl (r_assign (v := .bool true) rfl) ?_
      refine d_val rfl rfl (r_assign (v := .bool true) rfl) ?_
      refine d_nil ?_
      refine c_close (true, true) () 0 [0] (by exact ⟨rfl, rfl, rfl, trivial⟩) (by decide) rfl (by exact ⟨H146, trivial⟩) (Nat.lt_succ_self _)
     ·have H147 := cnd_f hb H145
      refine d_val rfl rfl (r_field Tryz.runUnderlying26 rfl Tryz.sizeOf3 rfl rfl) ?_
      refine d_load1 (i := 0) (v := .int .i64 a0.Kind) Tryz.isAgg3 rfl rfl rfl rfl ?_
      refine d_val rfl rfl (r_eql rfl rfl) ?_
      refine d_val rfl rfl (r_pickF (v := .bool (decide (a0.Kind = 4))) rfl rfl) ?_
      refine d_val rfl rfl (r_move (v := .bool (decide (a0.Kind = 4))) rfl) ?_
      refine splitS (fun hb => ?_) (fun hb => ?_)
      ·have H148 := cnd_t hb H147
       refine d_pass rfl rfl ?_
       refine d_pass rfl rfl ?_
       refine d_pass rfl rfl ?_
       refine d_val rfl rfl (r_pickT (v := .bool true) rfl rfl) ?_
       refine d_val rfl rfl (r_assign (v := .bool true) rfl) ?_
       refine d_val rfl rfl (r_assign (v := .bool true) rfl) ?_
       refine d_nil ?_
       refine c_close (true, true) () 0 [0] (by exact ⟨rfl, rfl, rfl, trivial⟩) (by decide) rfl (by exact ⟨H148, trivial⟩) (Nat.lt_succ_self _)
      ·have H149 := cnd_f hb H147
       refine d_val rfl rfl (r_field Tryz.runUnderlying26 rfl Tryz.sizeOf3 rfl rfl) ?_
       refine d_load1 (i := 0) (v := .int .i64 a0.Kind) Tryz.isAgg3 rfl rfl rfl rfl ?_
       refine d_val rfl rfl (r_eql rfl rfl) ?_
       refine d_val rfl rfl (r_pickF (v := .bool (decide (a0.Kind = 9))) rfl rfl) ?_
       refine d_val rfl rfl (r_assign (v := .bool true) rfl) ?_
       refine d_val rfl rfl (r_assign (v := .bool (decide (a0.Kind = 9))) rfl) ?_
       refine d_nil ?_
       refine c_close (true, (decide (a0.Kind = 9))) () 0 [0] (by exact ⟨rfl, rfl, rfl, trivial⟩) (by decide) rfl (by exact ⟨H149, trivial⟩) (Nat.lt_succ_self _)
   ·have H150 := cnd_f hb H
    refine d_val rfl rfl (r_field Tryz.runUnderlying26 rfl Tryz.sizeOf3 rfl rfl) ?_
    refine d_load1 (i := 0) (v := .int .i64 a0.Kind) Tryz.isAgg3 rfl rfl rfl rfl ?_
    refine d_val rfl rfl (r_eql rfl rfl) ?_
    refine d_val rfl rfl (r_pickF (v := .bool (decide (a0.Kind = 7))) rfl rfl) ?_
    refine d_val rfl rfl (r_field Tryz.runUnderlying26 rfl Tryz.sizeOf3 rfl rfl) ?_
    refine d_load1 (i := 0) (v := .int .i64 a0.Kind) Tryz.isAgg3 rfl rfl rfl rfl ?_
    refine d_val rfl rfl (r_eql rfl rfl) ?_
    refine d_val rfl rfl (r_move (v := .bool (decide (a0.Kind = 1))) rfl) ?_
    refine splitS (fun hb => ?_) (fun hb => ?_)
    ·have H151 := cnd_t hb H150
     refine d_pass rfl rfl ?_
     refine d_pass rfl rfl ?_
     refine d_pass rfl rfl ?_
     refine d_val rfl rfl (r_pickT (v := .bool true) rfl rfl) ?_
     refine d_val rfl rfl (r_move (v := .bool true) rfl) ?_
     refine d_pass rfl rfl ?_
     refine d_pass rfl rfl ?_
     refine d_pass rfl rfl ?_
     refine d_val rfl rfl (r_pickT (v := .bool true) rfl rfl) ?_
     refine d_val rfl rfl (r_move (v := .bool true) rfl) ?_
     refine d_pass rfl rfl ?_
     refine d_pass rfl rfl ?_
     refine d_pass rfl rfl ?_
     refine d_val rfl rfl (r_pickT (v := .bool true) rfl rfl) ?_
     refine d_val rfl rfl (r_assign (v := .bool (decide (a0.Kind = 7))) rfl) ?_
     refine d_val rfl rfl (r_assign (v := .bool true) rfl) ?_
     refine d_nil ?_
     refine c_close ((decide (a0.Kind = 7)), true) () 0 [0] (by exact ⟨rfl, rfl, rfl, trivial⟩) (by decide) rfl (by exact ⟨H151, trivial⟩) (Nat.lt_succ_self _)
    ·have H152 := cnd_f hb H150
     refine d_val rfl rfl (r_field Tryz.runUnderlying26 rfl Tryz.sizeOf3 rfl rfl) ?_
     refine d_load1 (i := 0) (v := .int .i64 a0.Kind) Tryz.isAgg3 rfl rfl rfl rfl ?_
     refine d_val rfl rfl (r_eql rfl rfl) ?_
     refine d_val rfl rfl (r_pickF (v := .bool (decide (a0.Kind = 3))) rfl rfl) ?_
     refine d_val rfl rfl (r_move (v := .bool (decide (a0.Kind = 3))) rfl) ?_
     refine splitS (fun hb => ?_) (fun hb => ?_)
     ·have H153 := cnd_t hb H152
      refine d_pass rfl rfl ?_
      refine d_pass rfl rfl ?_
      refine d_pass rfl rfl ?_
      refine d_val rfl rfl (r_pickT (v := .bool true) rfl rfl) ?_
      refine d_val rfl rfl (r_move (v := .bool true) rfl) ?_
      refine d_pass rfl rfl ?_
      refine d_pass rfl rfl ?_
      refine d_pass rfl rfl ?_
      refine d_val rfl rfl (r_pickT (v := .bool true) rfl rfl) ?_
      refine d_val rfl rfl (r_assign (v := .bool (decide (a0.Kind = 7))) rfl) ?_
      refine d_val rfl rfl (r_assign (v := .bool true) rfl) ?_
      refine d_nil ?_
      refine c_close ((decide (a0.Kind = 7)), true) () 0 [0] (by exact ⟨rfl, rfl, rfl, trivial⟩) (by decide) rfl (by exact ⟨H153, trivial⟩) (Nat.lt_succ_self _)
     ·have H154 := cnd_f hb H152
      refine d_val rfl rfl (r_field Tryz.runUnderlying26 rfl Tryz.sizeOf3 rfl rfl) ?_
      refine d_load1 (i := 0) (v := .int .i64 a0.Kind) Tryz.isAgg3 rfl rfl rfl rfl ?_
      refine d_val rfl rfl (r_eql rfl rfl) ?_
      refine d_val rfl rfl (r_pickF (v := .bool (decide (a0.Kind = 4))) rfl rfl) ?_
      refine d_val rfl rfl (r_move (v := .bool (decide (a0.Kind = 4))) rfl) ?_
      refine splitS (fun hb => ?_) (fun hb => ?_)
      ·have H155 := cnd_t hb H154
       refine d_pass rfl rfl ?_
       refine d_pass rfl rfl ?_
       refine d_pass rfl rfl ?_
       refine d_val rfl rfl (r_pickT (v := .bool true) rfl rfl) ?_
       refine d_val rfl rfl (r_assign (v := .bool (decide (a0.Kind = 7))) rfl) ?_
       refine d_val rfl rfl (r_assign (v := .bool true) rfl) ?_
       refine d_nil ?_
       refine c_close ((decide (a0.Kind = 7)), true) () 0 [0] (by exact ⟨rfl, rfl, rfl, trivial⟩) (by decide) rfl (by exact ⟨H155, trivial⟩) (Nat.lt_succ_self _)
      ·have H156 := cnd_f hb H154
       refine d_val rfl rfl (r_field Tryz.runUnderlying26 rfl Tryz.sizeOf3 rfl rfl) ?_
       refine d_load1 (i := 0) (v := .int .i64 a0.Kind) Tryz.isAgg3 rfl rfl rfl rfl ?_
       refine d_val rfl rfl (r_eql rfl rfl) ?_
       refine d_val rfl rfl (r_pickF (v := .bool (decide (a0.Kind = 9))) rfl rfl) ?_
       refine d_val rfl rfl (r_assign (v := .bool (decide (a0.Kind = 7))) rfl) ?_
       refine d_val rfl rfl (r_assign (v := .bool (decide (a0.Kind = 9))) rfl) ?_
       refine d_nil ?_
       refine c_close ((decide (a0.Kind = 7)), (decide (a0.Kind = 9))) () 0 [0] (by exact ⟨rfl, rfl, rfl, trivial⟩) (by decide) rfl (by exact ⟨H156, trivial⟩) (Nat.lt_succ_self _)
   ) (by kernel_rfl)
 ·rintro ⟨x3, x4⟩ _ gg H79 _
  replace H79 : R_ValueFault_j1 a0 x3 x4 = some r := H79
  refine c_tidyF [(1, .pointer (some ⟨b2, 0, none⟩)), (3, .bool x3), (4, .bool x4)] [cellsC b2 [.int .i64 a0.Kind, str a0.Text, v0_2, v0_3, v0_4] 26] rfl rfl ?_
  refine c_meet (r := r) (σ := Unit) (τ := Unit) (fun s => R_ValueFault_j2 a0) (fun s t => [(1, .pointer (some ⟨b2, 0, none⟩))]) (fun s t => [cellsC b2 [.int .i64 a0.Kind, str a0.Text, v0_2, v0_3, v0_4] 26]) (fun s t => True) ?_ ?_
  ·refine c_block ?_
   refine c_seq ?_
   refine c_region ?_
   refine l_val rfl rfl rfl (r_field Tryz.runUnderlying26 rfl Tryz.sizeOf3 rfl rfl) ?_
   refine l_load1 (i := 0) (v := .int .i64 a0.Kind) Tryz.isAgg3 rfl rfl rfl rfl rfl ?_
   obtain ⟨t40, h_t40, H115⟩ := bnd_some H79; clear H79
   refine l_call (k12 h_t40) Tryz.call12 rfl rfl rfl ?_
   refine l_val rfl rfl rfl (r_eql rfl rfl) ?_
   refine l_val rfl rfl rfl (r_assign (v := .bool (decide (t40 = 0))) rfl) ?_
   refine l_nil ?_
   refine c_if (b := (decide (t40 = 0))) rfl (fun hb => ?_) (fun hb => ?_)
   ·have H116 := cnd_t hb H115; clear H115
    refine c_seq ?_
    refine c_region ?_
    refine l_val rfl rfl rfl (r_assign (v := .int .i64 10) rfl) ?_
    refine l_nil ?_
    refine c_ret ?_
    obtain rfl := Option.some.inj H116
    refine ret1 (v := .int .i64 10) rfl rfl (fin rfl)
   ·have H117 := cnd_f hb H115; clear H115
    refine c_seq ?_
    refine c_meet (r := r) (σ := Bool) (τ := Unit) (fun s => R_ValueFault_j8 a0 x4 s) (fun s t => [(1, .pointer (some ⟨b2, 0, none⟩)), (4, .bool x4), (42, .bool s)]) (fun s t => [cellsC b2 [.int .i64 a0.Kind, str a0.Text, v0_2, v0_3, v0_4] 26]) (fun s t => True) ?_ ?_
    ·refine c_region ?_
     refine l_val rfl rfl rfl (r_field Tryz.runUnderlying26 rfl Tryz.sizeOf9 rfl rfl) ?_
     refine l_load1 (i := 0) (v := str a0.Text) Tryz.isAgg9 rfl rfl rfl rfl rfl ?_
     refine l_val rfl rfl rfl (r_neqT rfl rfl) ?_
     refine l_val rfl rfl rfl (r_move (v := .bool (decide (a0.Text ≠ []))) rfl) ?_
     refine split (fun hb => ?_) (fun hb => ?_)
     ·have H141 := cnd_t hb H117; clear H117
      refine l_val rfl rfl rfl (r_move (v := .bool x3) rfl) ?_
      refine l_val rfl rfl rfl (r_not rfl) ?_
      refine l_val rfl rfl rfl (r_pickT (v := .bool (!x3)) rfl rfl) ?_
      refine l_val rfl rfl rfl (r_assign (v := .bool (!x3)) rfl) ?_
      refine l_nil ?_
      refine c_close (!x3) () 0 [0] (by exact ⟨rfl, rfl, rfl, trivial⟩) (by decide) rfl (by exact ⟨H141, trivial⟩) (Nat.lt_succ_self _)
     ·have H142 := cnd_f hb H117; clear H117
      refine l_passed rfl rfl rfl ?_
      refine l_passed rfl rfl rfl ?_
      refine l_val rfl rfl rfl (r_pickF (v := .bool false) rfl rfl) ?_
      refine l_val rfl rfl rfl (r_assign (v := .bool false) rfl) ?_
      refine l_nil ?_
      refine c_close false () 0 [0] (by exact ⟨rfl, rfl, rfl, trivial⟩) (by decide) rfl (by exact ⟨H142, trivial⟩) (Nat.lt_succ_self _)
    ·rintro x42 _ gg H118 _
     replace H118 : R_ValueFault_j8 a0 x4 x42 = some r := H118
     refine c_tidyF [(1, .pointer (some ⟨b2, 0, none⟩)), (4, .bool x4), (42, .bool x42)] [cellsC b2 [.int .i64 a0.Kind, str a0.Text, v0_2, v0_3, v0_4] 26] rfl rfl ?_
     refine c_if (b := x42) rfl (fun hb => ?_) (fun hb => ?_)
     ·have H119 := cnd_t hb H118; clear H118
      refine c_skip ?_
      refine c_if (b := x42) rfl (fun hb => ?_) (fun hb => ?_)
      ·have H120 := cnd_t hb H119; clear H119
       refine c_seq ?_
       refine c_region ?_
       refine l_val rfl rfl rfl (r_assign (v := .int .i64 1) rfl) ?_
       refine l_nil ?_
       refine c_ret ?_
       obtain rfl := Option.some.inj H120
       refine ret1 (v := .int .i64 1) rfl rfl (fin rfl)
      ·have H121 := cnd_f hb H119; clear H119
       refine c_skip ?_
       refine c_close () () 0 [0] (by exact ⟨rfl, trivial⟩) (by decide) rfl (by exact ⟨H121, trivial⟩) (Nat.lt_succ_self _)
     ·have H122 := cnd_f hb H118; clear H118
      refine c_meet (r := r) (σ := Bool) (τ := Unit) (fun s => R_ValueFault_j9 a0 s) (fun s t => [(1, .pointer (some ⟨b2, 0, none⟩)), (42, .bool s)]) (fun s t => [cellsC b2 [.int .i64 a0.Kind, str a0.Text, v0_2, v0_3, v0_4] 26]) (fun s t => True) ?_ ?_
      ·refine c_region ?_
       refine l_val rfl rfl rfl (r_field Tryz.runUnderlying26 rfl Tryz.sizeOf22 rfl rfl) ?_
       refine l_load1 (i := 0) (v := v0_2) Tryz.isAgg22 rfl rfl rfl rfl rfl ?_
       refine l_val rfl rfl rfl (r_lenF Tryz.underlying22 rfl f0_2 rfl) ?_
       refine l_val rfl rfl rfl (r_gtr rfl rfl) ?_
       refine l_val rfl rfl rfl (r_move (v := .bool (decide (0 < (a0.Ints.length : Int)))) rfl) ?_
       refine split (fun hb => ?_) (fun hb => ?_)
       ·have H139 := cnd_t hb H122; clear H122
        refine l_val rfl rfl rfl (r_move (v := .bool x4) rfl) ?_
        refine l_val rfl rfl rfl (r_not rfl) ?_
        refine l_val rfl rfl rfl (r_pickT (v := .bool (!x4)) rfl rfl) ?_
        refine l_val rfl rfl rfl (r_assign (v := .bool (!x4)) rfl) ?_
        refine l_nil ?_
        refine c_close (!x4) () 0 [0] (by exact ⟨rfl, rfl, trivial⟩) (by decide) rfl (by exact ⟨H139, trivial⟩) (Nat.lt_succ_self _)
       ·have H140 := cnd_f hb H122; clear H122
        refine l_passed rfl rfl rfl ?_
        refine l_passed rfl rfl rfl ?_
        refine l_val rfl rfl rfl (r_pickF (v := .bool false) rfl rfl) ?_
        refine l_val rfl rfl rfl (r_assign (v := .bool false) rfl) ?_
        refine l_nil ?_
        refine c_close false () 0 [0] (by exact ⟨rfl, rfl, trivial⟩) (by decide) rfl (by exact ⟨H140, trivial⟩) (Nat.lt_succ_self _)
      ·rintro x42_2 _ gg H123 _
       replace H123 : R_ValueFault_j9 a0 x42_2 = some r := H123
       refine c_tidyF [(1, .pointer (some ⟨b2, 0, none⟩)), (42, .bool x42_2)] [cellsC b2 [.int .i64 a0.Kind, str a0.Text, v0_2, v0_3, v0_4] 26] rfl rfl ?_
       refine c_if (b := x42_2) rfl (fun hb => ?_) (fun hb => ?_)
       ·have H124 := cnd_t hb H123; clear H123
        refine c_skip ?_
        refine c_if (b := x42_2) rfl (fun hb => ?_) (fun hb => ?_)
        ·have H125 := cnd_t hb H124; clear H124
         refine c_seq ?_
         refine c_region ?_
         refine l_val rfl rfl rfl (r_assign (v := .int .i64 1) rfl) ?_
         refine l_nil ?_
         refine c_ret ?_
         obtain rfl := Option.some.inj H125
         refine ret1 (v := .int .i64 1) rfl rfl (fin rfl)
        ·have H126 := cnd_f hb H124; clear H124
         refine c_skip ?_
         refine c_close () () 0 [0] (by exact ⟨rfl, trivial⟩) (by decide) rfl (by exact ⟨H126, trivial⟩) (Nat.lt_succ_self _)
       ·have H127 := cnd_f hb H123; clear H123
        refine c_meet (r := r) (σ := Bool) (τ := Unit) (fun s => R_ValueFault_j10 a0 s) (fun s t => [(1, .pointer (some ⟨b2, 0, none⟩)), (42, .bool s)]) (fun s t => [cellsC b2 [.int .i64 a0.Kind, str a0.Text, v0_2, v0_3, v0_4] 26]) (fun s t => True) ?_ ?_
        ·refine c_region ?_
         refine l_val rfl rfl rfl (r_field Tryz.runUnderlying26 rfl Tryz.sizeOf23 rfl rfl) ?_
         refine l_load1 (i := 0) (v := v0_3) Tryz.isAgg23 rfl rfl rfl rfl rfl ?_
         refine l_val rfl rfl rfl (r_lenF Tryz.underlying23 rfl f0_3 rfl) ?_
         refine l_val rfl rfl rfl (r_gtr rfl rfl) ?_
         refine l_val rfl rfl rfl (r_move (v := .bool (decide (0 < (a0.Ratios.length : Int)))) rfl) ?_
         refine split (fun hb => ?_) (fun hb => ?_)
         ·have H137 := cnd_t hb H127; clear H127
          refine l_val rfl rfl rfl (r_field Tryz.runUnderlying26 rfl Tryz.sizeOf3 rfl rfl) ?_
          refine l_load1 (i := 0) (v := .int .i64 a0.Kind) Tryz.isAgg3 rfl rfl rfl rfl rfl ?_
          refine l_val rfl rfl rfl (r_neq rfl rfl) ?_
          refine l_val rfl rfl rfl (r_pickT (v := .bool (decide (a0.Kind ≠ 5))) rfl rfl) ?_
          refine l_val rfl rfl rfl (r_assign (v := .bool (decide (a0.Kind ≠ 5))) rfl) ?_
          refine l_nil ?_
          refine c_close (decide (a0.Kind ≠ 5)) () 0 [0] (by exact ⟨rfl, rfl, trivial⟩) (by decide) rfl (by exact ⟨H137, trivial⟩) (Nat.lt_succ_self _)
         ·have H138 := cnd_f hb H127; clear H127
          refine l_passed rfl rfl rfl ?_
          refine l_passed rfl rfl rfl ?_
          refine l_passed rfl rfl rfl ?_
          refine l_val rfl rfl rfl (r_pickF (v := .bool false) rfl rfl) ?_
          refine l_val rfl rfl rfl (r_assign (v := .bool false) rfl) ?_
          refine l_nil ?_
          refine c_close false () 0 [0] (by exact ⟨rfl, rfl, trivial⟩) (by decide) rfl (by exact ⟨H138, trivial⟩) (Nat.lt_succ_self _)
        ·rintro x42_3 _ gg H128 _
         replace H128 : R_ValueFault_j10 a0 x42_3 = some r := H128
         refine c_tidyF [(1, .pointer (some ⟨b2, 0, none⟩)), (42, .bool x42_3)] [cellsC b2 [.int .i64 a0.Kind, str a0.Text, v0_2, v0_3, v0_4] 26] rfl rfl ?_
         refine c_if (b := x42_3) rfl (fun hb => ?_) (fun hb => ?_)
         ·have H129 := cnd_t hb H128; clear H128
          refine c_skip ?_
          refine c_if (b := x42_3) rfl (fun hb => ?_) (fun hb => ?_)
          ·have H130 := cnd_t hb H129; clear H129
           refine c_seq ?_
           refine c_region ?_
           refine l_val rfl rfl rfl (r_assign (v := .int .i64 1) rfl) ?_
           refine l_nil ?_
           refine c_ret ?_
           obtain rfl := Option.some.inj H130
           refine ret1 (v := .int .i64 1) rfl rfl (fin rfl)
          ·have H131 := cnd_f hb H129; clear H129
           refine c_skip ?_
           refine c_close () () 0 [0] (by exact ⟨rfl, trivial⟩) (by decide) rfl (by exact ⟨H131, trivial⟩) (Nat.lt_succ_self _)
         ·have H132 := cnd_f hb H128; clear H128
          refine c_region ?_
          refine l_val rfl rfl rfl (r_field Tryz.runUnderlying26 rfl Tryz.sizeOf24 rfl rfl) ?_
          refine l_load1 (i := 0) (v := v0_4) Tryz.isAgg24 rfl rfl rfl rfl rfl ?_
          refine l_val rfl rfl rfl (r_lenFN Tryz.underlying24 rfl f0_4) ?_
          refine l_val rfl rfl rfl (r_gtr rfl rfl) ?_
          refine l_val rfl rfl rfl (r_move (v := .bool (decide (0 < (a0.Entries.length : Int)))) rfl) ?_
          refine split (fun hb => ?_) (fun hb => ?_)
          ·have H133 := cnd_t hb H132; clear H132
           refine l_val rfl rfl rfl (r_field Tryz.runUnderlying26 rfl Tryz.sizeOf3 rfl rfl) ?_
           refine l_load1 (i := 0) (v := .int .i64 a0.Kind) Tryz.isAgg3 rfl rfl rfl rfl rfl ?_
           refine l_val rfl rfl rfl (r_neq rfl rfl) ?_
           refine l_val rfl rfl rfl (r_pickT (v := .bool (decide (a0.Kind ≠ 13))) rfl rfl) ?_
           refine l_val rfl rfl rfl (r_assign (v := .bool (decide (a0.Kind ≠ 13))) rfl) ?_
           refine l_nil ?_
           refine c_if (b := (decide (a0.Kind ≠ 13))) rfl (fun hb => ?_) (fun hb => ?_)
           ·have H134 := cnd_t hb H133; clear H133
            refine c_seq ?_
            refine c_region ?_
            refine l_val rfl rfl rfl (r_assign (v := .int .i64 1) rfl) ?_
            refine l_nil ?_
            refine c_ret ?_
            obtain rfl := Option.some.inj H134
            refine ret1 (v := .int .i64 1) rfl rfl (fin rfl)
           ·have H135 := cnd_f hb H133; clear H133
            refine c_skip ?_
            refine c_close () () 0 [0] (by exact ⟨rfl, trivial⟩) (by decide) rfl (by exact ⟨H135, trivial⟩) (Nat.lt_succ_self _)
          ·have H136 := cnd_f hb H132; clear H132
           refine l_passed rfl rfl rfl ?_
           refine l_passed rfl rfl rfl ?_
           refine l_passed rfl rfl rfl ?_
           refine l_val rfl rfl rfl (r_pickF (v := .bool false) rfl rfl) ?_
           refine l_val rfl rfl rfl (r_assign (v := .bool false) rfl) ?_
           refine l_nil ?_
           refine c_false rfl ?_
           refine c_skip ?_
           refine c_close () () 0 [0] (by exact ⟨rfl, trivial⟩) (by decide) rfl (by exact ⟨H136, trivial⟩) (Nat.lt_succ_self _)
  ·rintro _ _ gg H80 _
   replace H80 : R_ValueFault_j2 a0 = some r := H80
   refine c_tidyF [(1, .pointer (some ⟨b2, 0, none⟩))] [cellsC b2 [.int .i64 a0.Kind, str a0.Text, v0_2, v0_3, v0_4] 26] rfl rfl ?_
   refine c_seq ?_
   refine c_region ?_
   refine l_val rfl rfl rfl (r_field Tryz.runUnderlying26 rfl Tryz.sizeOf3 rfl rfl) ?_
   refine l_load1 (i := 0) (v := .int .i64 a0.Kind) Tryz.isAgg3 rfl rfl rfl rfl rfl ?_
   obtain ⟨t79, h_t79, H81⟩ := bnd_some H80; clear H80
   refine l_call (k13 h_t79) Tryz.call13 rfl rfl rfl ?_
   refine l_val rfl rfl rfl (r_move (v := .tuple #[.int .i64 t79.1, .int .i64 t79.2]) rfl) ?_
   refine l_val rfl rfl rfl (r_extract (v := .int .i64 t79.1) rfl rfl) ?_
   refine l_val rfl rfl rfl (r_extract (v := .int .i64 t79.2) rfl rfl) ?_
   refine l_val rfl rfl rfl (r_assign (v := .int .i64 t79.1) rfl) ?_
   refine l_val rfl rfl rfl (r_assign (v := .int .i64 t79.2) rfl) ?_
   refine l_nil ?_
   refine c_meet (r := r) (σ := Unit) (τ := Unit) (fun s => R_ValueFault_j3 a0) (fun s t => [(1, .pointer (some ⟨b2, 0, none⟩))]) (fun s t => [cellsC b2 [.int .i64 a0.Kind, str a0.Text, v0_2, v0_3, v0_4] 26]) (fun s t => True) ?_ ?_
   ·refine c_seq ?_
    refine c_region ?_
    refine l_val rfl rfl rfl (r_field Tryz.runUnderlying26 rfl Tryz.sizeOf22 rfl rfl) ?_
    refine l_load1 (i := 0) (v := v0_2) Tryz.isAgg22 rfl rfl rfl rfl rfl ?_
    refine l_val rfl rfl rfl (r_lenF Tryz.underlying22 rfl f0_2 rfl) ?_
    refine l_val rfl rfl rfl (r_move (v := .int .i64 0) rfl) ?_
    refine l_nil ?_
    refine c_block ?_
    refine c_fix (σ := Int) (τ := Unit) (fun next7 s => R_ValueFault_l7 a0 t79 next7 s) (fun s t => [(1, .pointer (some ⟨b2, 0, none⟩)), (5, .int .i64 t79.1), (6, .int .i64 t79.2), (83, v0_2), (84, .int .i64 (a0.Ints.length : Int)), (85, .int .i64 s)]) (fun s t => [cellsC b2 [.int .i64 a0.Kind, str a0.Text, v0_2, v0_3, v0_4] 26]) (fun s t => True) 0 () [0] H81 (by exact trivial) (by exact ⟨rfl, rfl, rfl, rfl, rfl, rfl, trivial⟩) (by decide) rfl ?_
    rintro x85_2 _ m7 gg H106 _
    clear H81
    replace H106 : R_ValueFault_l7 a0 t79 (it (fun next7 s => R_ValueFault_l7 a0 t79 next7 s) m7) x85_2 = some r := H106
    generalize hn7 : it (fun next7 s => R_ValueFault_l7 a0 t79 next7 s) m7 = next7 at H106
    refine c_tidyF [(1, .pointer (some ⟨b2, 0, none⟩)), (5, .int .i64 t79.1), (6, .int .i64 t79.2), (83, v0_2), (84, .int .i64 (a0.Ints.length : Int)), (85, .int .i64 x85_2)] [cellsC b2 [.int .i64 a0.Kind, str a0.Text, v0_2, v0_3, v0_4] 26] rfl rfl ?_
    refine c_seq ?_
    refine c_region ?_
    refine l_val rfl rfl rfl (r_lss rfl rfl) ?_
    refine l_nil ?_
    refine c_seq ?_
    refine c_if (b := (decide (x85_2 < (a0.Ints.length : Int)))) rfl (fun hb => ?_) (fun hb => ?_)
    ·have H107 := cnd_t hb H106; clear H106
     refine c_skip ?_
     refine c_seq ?_
     refine c_block ?_
     refine c_seq ?_
     refine c_region ?_
     obtain ⟨t87, h_t87, H108⟩ := bnd_some H107; clear H107
     refine l_val rfl rfl rfl (r_indexF Tryz.underlying22 Tryz.sizeOf3 rfl rfl f0_2 h_t87) ?_
     refine l_read (fun w hF hS => run_loadG1 (f := e_i64) (i := x85_2) (sz := 1) (j := 0) (v := .int .i64 t87) Tryz.isAgg3 rfl rfl (f0_2.row (hw.now hF)) h_t87 rfl) rfl rfl rfl ?_
     refine l_val rfl rfl rfl (r_assign (v := .int .i64 t87) rfl) ?_
     refine l_nil ?_
     refine c_seq ?_
     refine c_region ?_
     refine l_val rfl rfl rfl (r_move (v := .int .i64 t87) rfl) ?_
     refine l_val rfl rfl rfl (r_move (v := .int .i64 t79.1) rfl) ?_
     refine l_val rfl rfl rfl (r_lss rfl rfl) ?_
     refine l_val rfl rfl rfl (r_move (v := .bool (decide (t87 < t79.1))) rfl) ?_
     refine split (fun hb => ?_) (fun hb => ?_)
     ·have H109 := cnd_t hb H108; clear H108
      refine l_passed rfl rfl rfl ?_
      refine l_passed rfl rfl rfl ?_
      refine l_passed rfl rfl rfl ?_
      refine l_val rfl rfl rfl (r_pickT (v := .bool true) rfl rfl) ?_
      refine l_nil ?_
      refine c_true rfl ?_
      refine c_seq ?_
      refine c_region ?_
      refine l_val rfl rfl rfl (r_assign (v := .int .i64 2) rfl) ?_
      refine l_nil ?_
      refine c_ret ?_
      obtain rfl := Option.some.inj H109
      refine ret1 (v := .int .i64 2) rfl rfl (fin rfl)
     ·have H110 := cnd_f hb H108; clear H108
      refine l_val rfl rfl rfl (r_move (v := .int .i64 t87) rfl) ?_
      refine l_val rfl rfl rfl (r_move (v := .int .i64 t79.2) rfl) ?_
      refine l_val rfl rfl rfl (r_gtr rfl rfl) ?_
      refine l_val rfl rfl rfl (r_pickF (v := .bool (decide (t79.2 < t87))) rfl rfl) ?_
      refine l_nil ?_
      refine c_if (b := (decide (t79.2 < t87))) rfl (fun hb => ?_) (fun hb => ?_)
      ·have H111 := cnd_t hb H110; clear H110
       refine c_seq ?_
       refine c_region ?_
       refine l_val rfl rfl rfl (r_assign (v := .int .i64 2) rfl) ?_
       refine l_nil ?_
       refine c_ret ?_
       obtain rfl := Option.some.inj H111
       refine ret1 (v := .int .i64 2) rfl rfl (fin rfl)
      ·have H112 := cnd_f hb H110; clear H110
       refine c_skip ?_
       refine c_region ?_
       obtain ⟨t97, h_t97, H113⟩ := bnd_some H112; clear H112
       refine l_val rfl rfl rfl (r_addG rfl rfl h_t97) ?_
       refine l_val rfl rfl rfl (r_move (v := .int .i64 t97) rfl) ?_
       refine l_nil ?_
       refine c_close t97 () m7 [0] (by exact ⟨rfl, rfl, rfl, rfl, rfl, rfl, trivial⟩) (by decide) rfl (by exact ⟨(by subst hn7; exact H113), trivial⟩) (Nat.lt_succ_self _)
    ·have H114 := cnd_f hb H106; clear H106
     refine c_exit ?_
     refine c_close () () 0 [0] (by exact ⟨rfl, trivial⟩) (by decide) rfl (by exact ⟨H114, trivial⟩) (Nat.lt_succ_self _)
   ·rintro _ _ gg H82 _
    replace H82 : R_ValueFault_j3 a0 = some r := H82
    refine c_tidyF [(1, .pointer (some ⟨b2, 0, none⟩))] [cellsC b2 [.int .i64 a0.Kind, str a0.Text, v0_2, v0_3, v0_4] 26] rfl rfl ?_
    refine c_meet (r := r) (σ := Unit) (τ := Unit) (fun s => R_ValueFault_j4 a0) (fun s t => [(1, .pointer (some ⟨b2, 0, none⟩))]) (fun s t => [cellsC b2 [.int .i64 a0.Kind, str a0.Text, v0_2, v0_3, v0_4] 26]) (fun s t => True) ?_ ?_
    ·refine c_seq ?_
     refine c_region ?_
     refine l_val rfl rfl rfl (r_field Tryz.runUnderlying26 rfl Tryz.sizeOf23 rfl rfl) ?_
     refine l_load1 (i := 0) (v := v0_3) Tryz.isAgg23 rfl rfl rfl rfl rfl ?_
     refine l_val rfl rfl rfl (r_lenF Tryz.underlying23 rfl f0_3 rfl) ?_
     refine l_val rfl rfl rfl (r_move (v := .int .i64 0) rfl) ?_
     refine l_nil ?_
     refine c_block ?_
     refine c_fix (σ := Int) (τ := Unit) (fun next6 s => R_ValueFault_l6 a0 next6 s) (fun s t => [(1, .pointer (some ⟨b2, 0, none⟩)), (99, v0_3), (100, .int .i64 (a0.Ratios.length : Int)), (101, .int .i64 s)]) (fun s t => [cellsC b2 [.int .i64 a0.Kind, str a0.Text, v0_2, v0_3, v0_4] 26]) (fun s t => True) 0 () [0] H82 (by exact trivial) (by exact ⟨rfl, rfl, rfl, rfl, trivial⟩) (by decide) rfl ?_
     rintro x101_2 _ m6 gg H93 _
     clear H82
     replace H93 : R_ValueFault_l6 a0 (it (fun next6 s => R_ValueFault_l6 a0 next6 s) m6) x101_2 = some r := H93
     generalize hn6 : it (fun next6 s => R_ValueFault_l6 a0 next6 s) m6 = next6 at H93
     refine c_tidyF [(1, .pointer (some ⟨b2, 0, none⟩)), (99, v0_3), (100, .int .i64 (a0.Ratios.length : Int)), (101, .int .i64 x101_2)] [cellsC b2 [.int .i64 a0.Kind, str a0.Text, v0_2, v0_3, v0_4] 26] rfl rfl ?_
     refine c_seq ?_
     refine c_region ?_
     refine l_val rfl rfl rfl (r_lss rfl rfl) ?_
     refine l_nil ?_
     refine c_seq ?_
     refine c_if (b := (decide (x101_2 < (a0.Ratios.length : Int)))) rfl (fun hb => ?_) (fun hb => ?_)
     ·have H94 := cnd_t hb H93; clear H93
      refine c_skip ?_
      refine c_seq ?_
      refine c_block ?_
      refine c_seq ?_
      refine c_region ?_
      obtain ⟨t103, h_t103, H95⟩ := bnd_some H94; clear H94
      refine l_val rfl rfl rfl (r_indexF Tryz.underlying23 Tryz.sizeOf42 rfl rfl f0_3 h_t103) ?_
      refine l_read (fun w hF hS => run_loadGN (f := e_tag_Ratio) (i := x101_2) (sz := 2) (j := 0) (vs := [.int .i64 t103.Num, .int .i64 t103.Den]) Tryz.isAgg42 Tryz.sizeOf42 rfl rfl (f0_3.row (hw.now hF)) h_t103 rfl) rfl rfl rfl ?_
      refine l_alloc (cs := [.int .i64 0, .int .i64 0]) Tryz.zeroValue42 rfl rfl rfl (fun b3 => ?_)
      refine l_store (i := 1) (vs := [.int .i64 t103.Num, .int .i64 t103.Den]) (cs' := [.int .i64 t103.Num, .int .i64 t103.Den]) Tryz.sizeOf42 rfl rfl rfl rfl rfl rfl rfl rfl rfl ?_
      refine l_nil ?_
      refine c_seq ?_
      refine c_region ?_
      refine l_val rfl rfl rfl (r_field Tryz.runUnderlying42 rfl Tryz.sizeOf3 rfl rfl) ?_
      refine l_load1 (i := 1) (v := .int .i64 t103.Num) Tryz.isAgg3 rfl rfl rfl rfl rfl ?_
      refine l_val rfl rfl rfl (r_lss rfl rfl) ?_
      refine l_val rfl rfl rfl (r_move (v := .bool (decide (t103.Num < 0))) rfl) ?_
      refine split (fun hb => ?_) (fun hb => ?_)
      ·have H96 := cnd_t hb H95; clear H95
       refine l_passed rfl rfl rfl ?_
       refine l_passed rfl rfl rfl ?_
       refine l_passed rfl rfl rfl ?_
       refine l_val rfl rfl rfl (r_pickT (v := .bool true) rfl rfl) ?_
       refine l_val rfl rfl rfl (r_move (v := .bool true) rfl) ?_
       refine l_passed rfl rfl rfl ?_
       refine l_passed rfl rfl rfl ?_
       refine l_passed rfl rfl rfl ?_
       refine l_val rfl rfl rfl (r_pickT (v := .bool true) rfl rfl) ?_
       refine l_val rfl rfl rfl (r_move (v := .bool true) rfl) ?_
       refine l_passed rfl rfl rfl ?_
       refine l_passed rfl rfl rfl ?_
       refine l_passed rfl rfl rfl ?_
       refine l_val rfl rfl rfl (r_pickT (v := .bool true) rfl rfl) ?_
       refine l_nil ?_
       refine c_true rfl ?_
       refine c_seq ?_
       refine c_region ?_
       refine l_val rfl rfl rfl (r_assign (v := .int .i64 2) rfl) ?_
       refine l_nil ?_
       refine c_ret ?_
       obtain rfl := Option.some.inj H96
       refine ret1 (v := .int .i64 2) rfl rfl (fin rfl)
      ·have H97 := cnd_f hb H95; clear H95
       refine l_val rfl rfl rfl (r_field Tryz.runUnderlying42 rfl Tryz.sizeOf3 rfl rfl) ?_
       refine l_load1 (i := 1) (v := .int .i64 t103.Num) Tryz.isAgg3 rfl rfl rfl rfl rfl ?_
       refine l_val rfl rfl rfl (r_gtr rfl rfl) ?_
       refine l_val rfl rfl rfl (r_pickF (v := .bool (decide (4294967295 < t103.Num))) rfl rfl) ?_
       refine l_val rfl rfl rfl (r_move (v := .bool (decide (4294967295 < t103.Num))) rfl) ?_
       refine split (fun hb => ?_) (fun hb => ?_)
       ·have H98 := cnd_t hb H97; clear H97
        refine l_passed rfl rfl rfl ?_
        refine l_passed rfl rfl rfl ?_
        refine l_passed rfl rfl rfl ?_
        refine l_val rfl rfl rfl (r_pickT (v := .bool true) rfl rfl) ?_
        refine l_val rfl rfl rfl (r_move (v := .bool true) rfl) ?_
        refine l_passed rfl rfl rfl ?_
        refine l_passed rfl rfl rfl ?_
        refine l_passed rfl rfl rfl ?_
        refine l_val rfl rfl rfl (r_pickT (v := .bool true) rfl rfl) ?_
        refine l_nil ?_
        refine c_true rfl ?_
        refine c_seq ?_
        refine c_region ?_
        refine l_val rfl rfl rfl (r_assign (v := .int .i64 2) rfl) ?_
        refine l_nil ?_
        refine c_ret ?_
        obtain rfl := Option.some.inj H98
        refine ret1 (v := .int .i64 2) rfl rfl (fin rfl)
       ·have H99 := cnd_f hb H97; clear H97
        refine l_val rfl rfl rfl (r_field Tryz.runUnderlying42 rfl Tryz.sizeOf3 rfl rfl) ?_
        refine l_load1 (i := 1) (v := .int .i64 t103.Den) Tryz.isAgg3 rfl rfl rfl rfl rfl ?_
        refine l_val rfl rfl rfl (r_lss rfl rfl) ?_
        refine l_val rfl rfl rfl (r_pickF (v := .bool (decide (t103.Den < 0))) rfl rfl) ?_
        refine l_val rfl rfl rfl (r_move (v := .bool (decide (t103.Den < 0))) rfl) ?_
        refine split (fun hb => ?_) (fun hb => ?_)
        ·have H100 := cnd_t hb H99; clear H99
         refine l_passed rfl rfl rfl ?_
         refine l_passed rfl rfl rfl ?_
         refine l_passed rfl rfl rfl ?_
         refine l_val rfl rfl rfl (r_pickT (v := .bool true) rfl rfl) ?_
         refine l_nil ?_
         refine c_true rfl ?_
         refine c_seq ?_
         refine c_region ?_
         refine l_val rfl rfl rfl (r_assign (v := .int .i64 2) rfl) ?_
         refine l_nil ?_
         refine c_ret ?_
         obtain rfl := Option.some.inj H100
         refine ret1 (v := .int .i64 2) rfl rfl (fin rfl)
        ·have H101 := cnd_f hb H99; clear H99
         refine l_val rfl rfl rfl (r_field Tryz.runUnderlying42 rfl Tryz.sizeOf3 rfl rfl) ?_
         refine l_load1 (i := 1) (v := .int .i64 t103.Den) Tryz.isAgg3 rfl rfl rfl rfl rfl ?_
         refine l_val rfl rfl rfl (r_gtr rfl rfl) ?_
         refine l_val rfl rfl rfl (r_pickF (v := .bool (decide (4294967295 < t103.Den))) rfl rfl) ?_
         refine l_nil ?_
         refine c_if (b := (decide (4294967295 < t103.Den))) rfl (fun hb => ?_) (fun hb => ?_)
         ·have H102 := cnd_t hb H101; clear H101
          refine c_seq ?_
          refine c_region ?_
          refine l_val rfl rfl rfl (r_assign (v := .int .i64 2) rfl) ?_
          refine l_nil ?_
          refine c_ret ?_
          obtain rfl := Option.some.inj H102
          refine ret1 (v := .int .i64 2) rfl rfl (fin rfl)
         ·have H103 := cnd_f hb H101; clear H101
          refine c_skip ?_
          refine c_region ?_
          obtain ⟨t123, h_t123, H104⟩ := bnd_some H103; clear H103
          refine l_val rfl rfl rfl (r_addG rfl rfl h_t123) ?_
          refine l_val rfl rfl rfl (r_move (v := .int .i64 t123) rfl) ?_
          refine l_nil ?_
          refine c_close t123 () m6 [0] (by exact ⟨rfl, rfl, rfl, rfl, trivial⟩) (by decide) rfl (by exact ⟨(by subst hn6; exact H104), trivial⟩) (Nat.lt_succ_self _)
     ·have H105 := cnd_f hb H93; clear H93
      refine c_exit ?_
      refine c_close () () 0 [0] (by exact ⟨rfl, trivial⟩) (by decide) rfl (by exact ⟨H105, trivial⟩) (Nat.lt_succ_self _)
    ·rintro _ _ gg H83 _
     replace H83 : R_ValueFault_j4 a0 = some r := H83
     refine c_tidyF [(1, .pointer (some ⟨b2, 0, none⟩))] [cellsC b2 [.int .i64 a0.Kind, str a0.Text, v0_2, v0_3, v0_4] 26] rfl rfl ?_
     refine c_meet (r := r) (σ := Unit) (τ := Unit) (fun s => R_ValueFault_j5 a0) (fun s t => [(1, .pointer (some ⟨b2, 0, none⟩))]) (fun s t => [cellsC b2 [.int .i64 a0.Kind, str a0.Text, v0_2, v0_3, v0_4] 26]) (fun s t => True) ?_ ?_
     ·refine c_seq ?_
      refine c_region ?_
      refine l_val rfl rfl rfl (r_field Tryz.runUnderlying26 rfl Tryz.sizeOf3 rfl rfl) ?_
      refine l_load1 (i := 0) (v := .int .i64 a0.Kind) Tryz.isAgg3 rfl rfl rfl rfl rfl ?_
      refine l_val rfl rfl rfl (r_eql rfl rfl) ?_
      refine l_val rfl rfl rfl (r_move (v := .bool (decide (a0.Kind = 2))) rfl) ?_
      refine split (fun hb => ?_) (fun hb => ?_)
      ·have H88 := cnd_t hb H83; clear H83
       refine l_val rfl rfl rfl (r_field Tryz.runUnderlying26 rfl Tryz.sizeOf9 rfl rfl) ?_
       refine l_load1 (i := 0) (v := str a0.Text) Tryz.isAgg9 rfl rfl rfl rfl rfl ?_
       obtain ⟨t130, h_t130, H89⟩ := bnd_some H88; clear H88
       refine l_call (k14 h_t130) Tryz.call14 rfl rfl rfl ?_
       refine l_val rfl rfl rfl (r_geq rfl rfl) ?_
       refine l_val rfl rfl rfl (r_pickT (v := .bool (decide (0 ≤ t130))) rfl rfl) ?_
       refine l_nil ?_
       refine c_if (b := (decide (0 ≤ t130))) rfl (fun hb => ?_) (fun hb => ?_)
       ·have H90 := cnd_t hb H89; clear H89
        refine c_seq ?_
        refine c_region ?_
        refine l_val rfl rfl rfl (r_assign (v := .int .i64 9) rfl) ?_
        refine l_nil ?_
        refine c_ret ?_
        obtain rfl := Option.some.inj H90
        refine ret1 (v := .int .i64 9) rfl rfl (fin rfl)
       ·have H91 := cnd_f hb H89; clear H89
        refine c_skip ?_
        refine c_close () () 0 [0] (by exact ⟨rfl, trivial⟩) (by decide) rfl (by exact ⟨H91, trivial⟩) (Nat.lt_succ_self _)
      ·have H92 := cnd_f hb H83; clear H83
       refine l_passed rfl rfl rfl ?_
       refine l_passed rfl rfl rfl ?_
       refine l_passed rfl rfl rfl ?_
       refine l_passed rfl rfl rfl ?_
       refine l_val rfl rfl rfl (r_pickF (v := .bool false) rfl rfl) ?_
       refine l_nil ?_
       refine c_false rfl ?_
       refine c_skip ?_
       refine c_close () () 0 [0] (by exact ⟨rfl, trivial⟩) (by decide) rfl (by exact ⟨H92, trivial⟩) (Nat.lt_succ_self _)
     ·rintro _ _ gg H84 _
      replace H84 : R_ValueFault_j5 a0 = some r := H84
      refine c_tidyF [(1, .pointer (some ⟨b2, 0, none⟩))] [cellsC b2 [.int .i64 a0.Kind, str a0.Text, v0_2, v0_3, v0_4] 26] rfl rfl ?_
      refine c_seq ?_
      refine c_seq ?_
      refine c_region ?_
      refine l_val rfl rfl rfl (r_field Tryz.runUnderlying26 rfl Tryz.sizeOf3 rfl rfl) ?_
      refine l_load1 (i := 0) (v := .int .i64 a0.Kind) Tryz.isAgg3 rfl rfl rfl rfl rfl ?_
      refine l_val rfl rfl rfl (r_eql rfl rfl) ?_
      refine l_nil ?_
      refine c_if (b := (decide (a0.Kind = 13))) rfl (fun hb => ?_) (fun hb => ?_)
      ·have H85 := cnd_t hb H84; clear H84
       refine c_seq ?_
       refine c_region ?_
       refine l_val rfl rfl rfl (r_field Tryz.runUnderlying26 rfl Tryz.sizeOf24 rfl rfl) ?_
       refine l_load1 (i := 0) (v := v0_4) Tryz.isAgg24 rfl rfl rfl rfl rfl ?_
       obtain ⟨t138, h_t138, H86⟩ := bnd_some H85; clear H85
       refine l_callG (fun w hF hS => k15 (know_all w) (f0_4.mono (hw.now hF)) h_t138) Tryz.call15 rfl rfl rfl ?_
       refine l_val rfl rfl rfl (r_assign (v := .int .i64 t138) rfl) ?_
       refine l_nil ?_
       refine c_ret ?_
       obtain rfl := Option.some.inj H86
       refine ret1 (v := .int .i64 t138) rfl rfl (fin rfl)
      ·have H87 := cnd_f hb H84; clear H84
       refine c_skip ?_
       refine c_seq ?_
       refine c_region ?_
       refine l_val rfl rfl rfl (r_assign (v := .int .i64 0) rfl) ?_
       refine l_nil ?_
       refine c_ret ?_
       obtain rfl := Option.some.inj H87
       refine ret1 (v := .int .i64 0) rfl rfl (fin rfl)
theorem k37 {a0 : Int} {r : Int} (H : tag_sizeOf a0 = some r) : Ret Tryz.prog 37 [.int .i64 a0] (.int .i64 r) := by
 refine enterRet (n := 16) Tryz.func37 rfl rfl rfl (fun wd => ?_)
 refine c_seq ?_
 refine c_region ?_
 refine l_val rfl rfl rfl (r_assign (v := .int .i64 0) rfl) ?_
 refine l_nil ?_
 refine c_seq ?_
 refine c_seq ?_
 refine c_region ?_
 refine l_val rfl rfl rfl (r_move (v := .int .i64 a0) rfl) ?_
 refine l_nil ?_
 refine c_block ?_
 refine c_meet (r := r) (σ := Bool) (τ := Unit) (fun s => tag_sizeOf_j1 a0 s) (fun s t => [(3, .int .i64 a0), (4, .bool s)]) (fun s t => []) (fun s t => True) ?_ ?_
 ·refine c_seq ?_
  refine c_region ?_
  refine l_val rfl rfl rfl (r_eql rfl rfl) ?_
  refine l_val rfl rfl rfl (r_assign (v := .bool (decide (a0 = 1))) rfl) ?_
  refine l_nil ?_
  refine c_if (b := (decide (a0 = 1))) rfl (fun hb => ?_) (fun hb => ?_)
  ·have H37 := cnd_t hb H; clear H
   refine c_skip ?_
   refine c_close (decide (a0 = 1)) () 0 [] (by exact ⟨rfl, rfl, trivial⟩) (by decide) rfl (by exact ⟨H37, trivial⟩) (Nat.lt_succ_self _)
  ·have H38 := cnd_f hb H; clear H
   refine c_seq ?_
   refine c_region ?_
   refine l_val rfl rfl rfl (r_eql rfl rfl) ?_
   refine l_val rfl rfl rfl (r_assign (v := .bool (decide (a0 = 2))) rfl) ?_
   refine l_nil ?_
   refine c_if (b := (decide (a0 = 2))) rfl (fun hb => ?_) (fun hb => ?_)
   ·have H39 := cnd_t hb H38; clear H38
    refine c_skip ?_
    refine c_close (decide (a0 = 2)) () 0 [] (by exact ⟨rfl, rfl, trivial⟩) (by decide) rfl (by exact ⟨H39, trivial⟩) (Nat.lt_succ_self _)
   ·have H40 := cnd_f hb H38; clear H38
    refine c_seq ?_
    refine c_region ?_
    refine l_val rfl rfl rfl (r_eql rfl rfl) ?_
    refine l_val rfl rfl rfl (r_assign (v := .bool (decide (a0 = 7))) rfl) ?_
    refine l_nil ?_
    refine c_if (b := (decide (a0 = 7))) rfl (fun hb => ?_) (fun hb => ?_)
    ·have H41 := cnd_t hb H40; clear H40
     refine c_skip ?_
     refine c_close (decide (a0 = 7)) () 0 [] (by exact ⟨rfl, rfl, trivial⟩) (by decide) rfl (by exact ⟨H41, trivial⟩) (Nat.lt_succ_self _)
    ·have H42 := cnd_f hb H40; clear H40
     refine c_region ?_
     refine l_val rfl rfl rfl (r_eql rfl rfl) ?_
     refine l_val rfl rfl rfl (r_assign (v := .bool (decide (a0 = 13))) rfl) ?_
     refine l_nil ?_
     refine c_close (decide (a0 = 13)) () 0 [] (by exact ⟨rfl, rfl, trivial⟩) (by decide) rfl (by exact ⟨H42, trivial⟩) (Nat.lt_succ_self _)
 ·rintro x4 _ gg H22 _
  replace H22 : tag_sizeOf_j1 a0 x4 = some r := H22
  refine c_tidyF [(3, .int .i64 a0), (4, .bool x4)] [] rfl rfl ?_
  refine c_if (b := x4) rfl (fun hb => ?_) (fun hb => ?_)
  ·have H23 := cnd_t hb H22; clear H22
   refine c_seq ?_
   refine c_region ?_
   refine l_val rfl rfl rfl (r_assign (v := .int .i64 1) rfl) ?_
   refine l_nil ?_
   refine c_ret ?_
   obtain rfl := Option.some.inj H23
   refine ret1 (v := .int .i64 1) rfl rfl (fin rfl)
  ·have H24 := cnd_f hb H22; clear H22
   refine c_seq ?_
   refine c_region ?_
   refine l_val rfl rfl rfl (r_eql rfl rfl) ?_
   refine l_val rfl rfl rfl (r_assign (v := .bool (decide (a0 = 3))) rfl) ?_
   refine l_nil ?_
   refine c_if (b := (decide (a0 = 3))) rfl (fun hb => ?_) (fun hb => ?_)
   ·have H25 := cnd_t hb H24; clear H24
    refine c_seq ?_
    refine c_region ?_
    refine l_val rfl rfl rfl (r_assign (v := .int .i64 2) rfl) ?_
    refine l_nil ?_
    refine c_ret ?_
    obtain rfl := Option.some.inj H25
    refine ret1 (v := .int .i64 2) rfl rfl (fin rfl)
   ·have H26 := cnd_f hb H24; clear H24
    refine c_seq ?_
    refine c_seq ?_
    refine c_region ?_
    refine l_val rfl rfl rfl (r_eql rfl rfl) ?_
    refine l_val rfl rfl rfl (r_assign (v := .bool (decide (a0 = 4))) rfl) ?_
    refine l_nil ?_
    refine c_if (b := (decide (a0 = 4))) rfl (fun hb => ?_) (fun hb => ?_)
    ·have H27 := cnd_t hb H26; clear H26
     refine c_skip ?_
     refine c_if (b := (decide (a0 = 4))) rfl (fun hb => ?_) (fun hb => ?_)
     ·have H28 := cnd_t hb H27; clear H27
      refine c_seq ?_
      refine c_region ?_
      refine l_val rfl rfl rfl (r_assign (v := .int .i64 4) rfl) ?_
      refine l_nil ?_
      refine c_ret ?_
      obtain rfl := Option.some.inj H28
      refine ret1 (v := .int .i64 4) rfl rfl (fin rfl)
     ·have H29 := cnd_f hb H27; clear H27
      refine c_seq ?_
      refine c_region ?_
      refine l_val rfl rfl rfl (r_eql rfl rfl) ?_
      refine l_val rfl rfl rfl (r_assign (v := .bool (decide (a0 = 5))) rfl) ?_
      refine l_nil ?_
      refine c_if (b := (decide (a0 = 5))) rfl (fun hb => ?_) (fun hb => ?_)
      ·have H30 := cnd_t hb H29; clear H29
       refine c_seq ?_
       refine c_region ?_
       refine l_val rfl rfl rfl (r_assign (v := .int .i64 8) rfl) ?_
       refine l_nil ?_
       refine c_ret ?_
       obtain rfl := Option.some.inj H30
       refine ret1 (v := .int .i64 8) rfl rfl (fin rfl)
      ·have H31 := cnd_f hb H29; clear H29
       refine c_skip ?_
       refine c_seq ?_
       refine c_region ?_
       refine l_val rfl rfl rfl (r_assign (v := .int .i64 0) rfl) ?_
       refine l_nil ?_
       refine c_ret ?_
       obtain rfl := Option.some.inj H31
       refine ret1 (v := .int .i64 0) rfl rfl (fin rfl)
    ·have H32 := cnd_f hb H26; clear H26
     refine c_region ?_
     refine l_val rfl rfl rfl (r_eql rfl rfl) ?_
     refine l_val rfl rfl rfl (r_assign (v := .bool (decide (a0 = 9))) rfl) ?_
     refine l_nil ?_
     refine c_if (b := (decide (a0 = 9))) rfl (fun hb => ?_) (fun hb => ?_)
     ·have H33 := cnd_t hb H32; clear H32
      refine c_seq ?_
      refine c_region ?_
      refine l_val rfl rfl rfl (r_assign (v := .int .i64 4) rfl) ?_
      refine l_nil ?_
      refine c_ret ?_
      obtain rfl := Option.some.inj H33
      refine ret1 (v := .int .i64 4) rfl rfl (fin rfl)
     ·have H34 := cnd_f hb H32; clear H32
      refine c_seq ?_
      refine c_region ?_
      refine l_val rfl rfl rfl (r_eql rfl rfl) ?_
      refine l_val rfl rfl rfl (r_assign (v := .bool (decide (a0 = 5))) rfl) ?_
      refine l_nil ?_
      refine c_if (b := (decide (a0 = 5))) rfl (fun hb => ?_) (fun hb => ?_)
      ·have H35 := cnd_t hb H34; clear H34
       refine c_seq ?_
       refine c_region ?_
       refine l_val rfl rfl rfl (r_assign (v := .int .i64 8) rfl) ?_
       refine l_nil ?_
       refine c_ret ?_
       obtain rfl := Option.some.inj H35
       refine ret1 (v := .int .i64 8) rfl rfl (fin rfl)
      ·have H36 := cnd_f hb H34; clear H34
       refine c_skip ?_
       refine c_seq ?_
       refine c_region ?_
       refine l_val rfl rfl rfl (r_assign (v := .int .i64 0) rfl) ?_
       refine l_nil ?_
       refine c_ret ?_
       obtain rfl := Option.some.inj H36
       refine ret1 (v := .int .i64 0) rfl rfl (fin rfl)
theorem k38 {a0 : Int} {r : Bool} (H : tag_isInts a0 = some r) : Ret Tryz.prog 38 [.int .i64 a0] (.bool r) := by
 refine enterRet (n := 17) Tryz.func38 rfl rfl rfl (fun wd => ?_)
 refine c_seq ?_
 refine c_region ?_
 refine l_val rfl rfl rfl (r_assign (v := .bool false) rfl) ?_
 refine l_nil ?_
 refine c_seq ?_
 refine c_region ?_
 refine l_val rfl rfl rfl (r_move (v := .int .i64 a0) rfl) ?_
 refine l_val rfl rfl rfl (r_eql rfl rfl) ?_
 refine l_val rfl rfl rfl (r_move (v := .bool (decide (a0 = 1))) rfl) ?_
 refine split (fun hb => ?_) (fun hb => ?_)
 ·have H7 := cnd_t hb H; clear H
  refine l_passed rfl rfl rfl ?_
  refine l_passed rfl rfl rfl ?_
  refine l_val rfl rfl rfl (r_pickT (v := .bool true) rfl rfl) ?_
  refine l_val rfl rfl rfl (r_move (v := .bool true) rfl) ?_
  refine l_passed rfl rfl rfl ?_
  refine l_passed rfl rfl rfl ?_
  refine l_val rfl rfl rfl (r_pickT (v := .bool true) rfl rfl) ?_
  refine l_val rfl rfl rfl (r_move (v := .bool true) rfl) ?_
  refine l_passed rfl rfl rfl ?_
  refine l_passed rfl rfl rfl ?_
  refine l_val rfl rfl rfl (r_pickT (v := .bool true) rfl rfl) ?_
  refine l_val rfl rfl rfl (r_assign (v := .bool true) rfl) ?_
  refine l_nil ?_
  refine c_ret ?_
  obtain rfl := Option.some.inj H7
  refine ret1 (v := .bool true) rfl rfl (fin rfl)
 ·have H8 := cnd_f hb H; clear H
  refine l_val rfl rfl rfl (r_move (v := .int .i64 a0) rfl) ?_
  refine l_val rfl rfl rfl (r_eql rfl rfl) ?_
  refine l_val rfl rfl rfl (r_pickF (v := .bool (decide (a0 = 3))) rfl rfl) ?_
  refine l_val rfl rfl rfl (r_move (v := .bool (decide (a0 = 3))) rfl) ?_
  refine split (fun hb => ?_) (fun hb => ?_)
  ·have H9 := cnd_t hb H8; clear H8
   refine l_passed rfl rfl rfl ?_
   refine l_passed rfl rfl rfl ?_
   refine l_val rfl rfl rfl (r_pickT (v := .bool true) rfl rfl) ?_
   refine l_val rfl rfl rfl (r_move (v := .bool true) rfl) ?_
   refine l_passed rfl rfl rfl ?_
   refine l_passed rfl rfl rfl ?_
   refine l_val rfl rfl rfl (r_pickT (v := .bool true) rfl rfl) ?_
   refine l_val rfl rfl rfl (r_assign (v := .bool true) rfl) ?_
   refine l_nil ?_
   refine c_ret ?_
   obtain rfl := Option.some.inj H9
   refine ret1 (v := .bool true) rfl rfl (fin rfl)
  ·have H10 := cnd_f hb H8; clear H8
   refine l_val rfl rfl rfl (r_move (v := .int .i64 a0) rfl) ?_
   refine l_val rfl rfl rfl (r_eql rfl rfl) ?_
   refine l_val rfl rfl rfl (r_pickF (v := .bool (decide (a0 = 4))) rfl rfl) ?_
   refine l_val rfl rfl rfl (r_move (v := .bool (decide (a0 = 4))) rfl) ?_
   refine split (fun hb => ?_) (fun hb => ?_)
   ·have H11 := cnd_t hb H10; clear H10
    refine l_passed rfl rfl rfl ?_
    refine l_passed rfl rfl rfl ?_
    refine l_val rfl rfl rfl (r_pickT (v := .bool true) rfl rfl) ?_
    refine l_val rfl rfl rfl (r_assign (v := .bool true) rfl) ?_
    refine l_nil ?_
    refine c_ret ?_
    obtain rfl := Option.some.inj H11
    refine ret1 (v := .bool true) rfl rfl (fin rfl)
   ·have H12 := cnd_f hb H10; clear H10
    refine l_val rfl rfl rfl (r_move (v := .int .i64 a0) rfl) ?_
    refine l_val rfl rfl rfl (r_eql rfl rfl) ?_
    refine l_val rfl rfl rfl (r_pickF (v := .bool (decide (a0 = 9))) rfl rfl) ?_
    refine l_val rfl rfl rfl (r_assign (v := .bool (decide (a0 = 9))) rfl) ?_
    refine l_nil ?_
    refine c_ret ?_
    obtain rfl := Option.some.inj H12
    refine ret1 (v := .bool (decide (a0 = 9))) rfl rfl (fin rfl)
theorem k39 {a0 : Int} {r : Bool} (H : tag_isText a0 = some r) : Ret Tryz.prog 39 [.int .i64 a0] (.bool r) := by
 refine enterRet (n := 9) Tryz.func39 rfl rfl rfl (fun wd => ?_)
 refine c_seq ?_
 refine c_region ?_
 refine l_val rfl rfl rfl (r_assign (v := .bool false) rfl) ?_
 refine l_nil ?_
 refine c_seq ?_
 refine c_region ?_
 refine l_val rfl rfl rfl (r_move (v := .int .i64 a0) rfl) ?_
 refine l_val rfl rfl rfl (r_eql rfl rfl) ?_
 refine l_val rfl rfl rfl (r_move (v := .bool (decide (a0 = 2))) rfl) ?_
 refine split (fun hb => ?_) (fun hb => ?_)
 ·have H3 := cnd_t hb H; clear H
  refine l_passed rfl rfl rfl ?_
  refine l_passed rfl rfl rfl ?_
  refine l_val rfl rfl rfl (r_pickT (v := .bool true) rfl rfl) ?_
  refine l_val rfl rfl rfl (r_assign (v := .bool true) rfl) ?_
  refine l_nil ?_
  refine c_ret ?_
  obtain rfl := Option.some.inj H3
  refine ret1 (v := .bool true) rfl rfl (fin rfl)
 ·have H4 := cnd_f hb H; clear H
  refine l_val rfl rfl rfl (r_move (v := .int .i64 a0) rfl) ?_
  refine l_val rfl rfl rfl (r_eql rfl rfl) ?_
  refine l_val rfl rfl rfl (r_pickF (v := .bool (decide (a0 = 7))) rfl rfl) ?_
  refine l_val rfl rfl rfl (r_assign (v := .bool (decide (a0 = 7))) rfl) ?_
  refine l_nil ?_
  refine c_ret ?_
  obtain rfl := Option.some.inj H4
  refine ret1 (v := .bool (decide (a0 = 7))) rfl rfl (fin rfl)
theorem k17 {a0 : T_tag_Value} {v0_2 : Value} {v0_3 : Value} {v0_4 : Value} {r : Int} {w : World} {h : Heap} (hw : Know h w noS) (f0_2 : FrS h 1 v0_2 (a0.Ints.map e_i64)) (f0_3 : FrS h 2 v0_3 (a0.Ratios.map e_tag_Ratio)) (f0_4 : FrN h 6 v0_4 g_tag_Entry a0.Entries) (H : tag_checkFields a0 = some r) : Does Tryz.prog 17 (List.toArray [.agg #[.int .i64 a0.Kind, str a0.Text, v0_2, v0_3, v0_4]]) w (fun v w' => v = (.int .i64 r) ∧ Grow w w') := by
 refine enter (n := 46) Tryz.func17 rfl rfl rfl noS [] (Sat.nil _ _) ?_
 refine c_seq ?_
 refine c_region ?_
 refine l_box (cs := [.int .i64 a0.Kind, str a0.Text, v0_2, v0_3, v0_4]) rfl rfl rfl rfl (fun b1 => ?_)
 refine l_val rfl rfl rfl (r_assign (v := .int .i64 0) rfl) ?_
 refine l_nil ?_
 refine c_seq ?_
 refine c_block ?_
 refine c_seq ?_
 refine c_region ?_
 refine l_val rfl rfl rfl (r_field Tryz.runUnderlying26 rfl Tryz.sizeOf3 rfl rfl) ?_
 refine l_load1 (i := 0) (v := .int .i64 a0.Kind) Tryz.isAgg3 rfl rfl rfl rfl rfl ?_
 obtain ⟨t6, h_t6, H31⟩ := bnd_some H; clear H
 refine l_call (k37 h_t6) Tryz.call37 rfl rfl rfl ?_
 refine l_val rfl rfl rfl (r_eql rfl rfl) ?_
 refine l_val rfl rfl rfl (r_assign (v := .bool (decide (t6 = 0))) rfl) ?_
 refine l_nil ?_
 refine c_if (b := (decide (t6 = 0))) rfl (fun hb => ?_) (fun hb => ?_)
 ·have H32 := cnd_t hb H31; clear H31
  refine c_seq ?_
  refine c_region ?_
  refine l_val rfl rfl rfl (r_assign (v := .int .i64 10) rfl) ?_
  refine l_nil ?_
  refine c_ret ?_
  obtain rfl := Option.some.inj H32
  refine ret1 (v := .int .i64 10) rfl rfl (fin rfl)
 ·have H33 := cnd_f hb H31; clear H31
  refine c_seq ?_
  refine c_meet (r := r) (σ := Bool) (τ := Unit) (fun s => tag_checkFields_j1 a0 s) (fun s t => [(1, .pointer (some ⟨b1, 0, none⟩)), (8, .bool s)]) (fun s t => [cellsC b1 [.int .i64 a0.Kind, str a0.Text, v0_2, v0_3, v0_4] 26]) (fun s t => True) ?_ ?_
  ·refine c_region ?_
   refine l_val rfl rfl rfl (r_field Tryz.runUnderlying26 rfl Tryz.sizeOf3 rfl rfl) ?_
   refine l_load1 (i := 0) (v := .int .i64 a0.Kind) Tryz.isAgg3 rfl rfl rfl rfl rfl ?_
   obtain ⟨t11, h_t11, H58⟩ := bnd_some H33; clear H33
   refine l_call (k38 h_t11) Tryz.call38 rfl rfl rfl ?_
   refine l_val rfl rfl rfl (r_not rfl) ?_
   refine l_val rfl rfl rfl (r_move (v := .bool (!t11)) rfl) ?_
   refine split (fun hb => ?_) (fun hb => ?_)
   ·have H59 := cnd_t hb H58; clear H58
    refine l_val rfl rfl rfl (r_field Tryz.runUnderlying26 rfl Tryz.sizeOf22 rfl rfl) ?_
    refine l_load1 (i := 0) (v := v0_2) Tryz.isAgg22 rfl rfl rfl rfl rfl ?_
    refine l_val rfl rfl rfl (r_lenF Tryz.underlying22 rfl f0_2 rfl) ?_
    refine l_val rfl rfl rfl (r_gtr rfl rfl) ?_
    refine l_val rfl rfl rfl (r_pickT (v := .bool (decide (0 < (a0.Ints.length : Int)))) rfl rfl) ?_
    refine l_val rfl rfl rfl (r_assign (v := .bool (decide (0 < (a0.Ints.length : Int)))) rfl) ?_
    refine l_nil ?_
    refine c_close (decide (0 < (a0.Ints.length : Int))) () 0 [0] (by exact ⟨rfl, rfl, trivial⟩) (by decide) rfl (by exact ⟨H59, trivial⟩) (Nat.lt_succ_self _)
   ·have H60 := cnd_f hb H58; clear H58
    refine l_passed rfl rfl rfl ?_
    refine l_passed rfl rfl rfl ?_
    refine l_passed rfl rfl rfl ?_
    refine l_passed rfl rfl rfl ?_
    refine l_val rfl rfl rfl (r_pickF (v := .bool false) rfl rfl) ?_
    refine l_val rfl rfl rfl (r_assign (v := .bool false) rfl) ?_
    refine l_nil ?_
    refine c_close false () 0 [0] (by exact ⟨rfl, rfl, trivial⟩) (by decide) rfl (by exact ⟨H60, trivial⟩) (Nat.lt_succ_self _)
  ·rintro x8 _ gg H34 _
   replace H34 : tag_checkFields_j1 a0 x8 = some r := H34
   refine c_tidyF [(1, .pointer (some ⟨b1, 0, none⟩)), (8, .bool x8)] [cellsC b1 [.int .i64 a0.Kind, str a0.Text, v0_2, v0_3, v0_4] 26] rfl rfl ?_
   refine c_if (b := x8) rfl (fun hb => ?_) (fun hb => ?_)
   ·have H35 := cnd_t hb H34; clear H34
    refine c_skip ?_
    refine c_if (b := x8) rfl (fun hb => ?_) (fun hb => ?_)
    ·have H36 := cnd_t hb H35; clear H35
     refine c_seq ?_
     refine c_region ?_
     refine l_val rfl rfl rfl (r_assign (v := .int .i64 1) rfl) ?_
     refine l_nil ?_
     refine c_ret ?_
     obtain rfl := Option.some.inj H36
     refine ret1 (v := .int .i64 1) rfl rfl (fin rfl)
    ·have H37 := cnd_f hb H35; clear H35
     refine c_skip ?_
     refine c_seq ?_
     refine c_region ?_
     refine l_val rfl rfl rfl (r_assign (v := .int .i64 0) rfl) ?_
     refine l_nil ?_
     refine c_ret ?_
     obtain rfl := Option.some.inj H37
     refine ret1 (v := .int .i64 0) rfl rfl (fin rfl)
   ·have H38 := cnd_f hb H34; clear H34
    refine c_meet (r := r) (σ := Bool) (τ := Unit) (fun s => tag_checkFields_j2 a0 s) (fun s t => [(1, .pointer (some ⟨b1, 0, none⟩)), (8, .bool s)]) (fun s t => [cellsC b1 [.int .i64 a0.Kind, str a0.Text, v0_2, v0_3, v0_4] 26]) (fun s t => True) ?_ ?_
    ·refine c_region ?_
     refine l_val rfl rfl rfl (r_field Tryz.runUnderlying26 rfl Tryz.sizeOf3 rfl rfl) ?_
     refine l_load1 (i := 0) (v := .int .i64 a0.Kind) Tryz.isAgg3 rfl rfl rfl rfl rfl ?_
     obtain ⟨t21, h_t21, H55⟩ := bnd_some H38; clear H38
     refine l_call (k39 h_t21) Tryz.call39 rfl rfl rfl ?_
     refine l_val rfl rfl rfl (r_not rfl) ?_
     refine l_val rfl rfl rfl (r_move (v := .bool (!t21)) rfl) ?_
     refine split (fun hb => ?_) (fun hb => ?_)
     ·have H56 := cnd_t hb H55; clear H55
      refine l_val rfl rfl rfl (r_field Tryz.runUnderlying26 rfl Tryz.sizeOf9 rfl rfl) ?_
      refine l_load1 (i := 0) (v := str a0.Text) Tryz.isAgg9 rfl rfl rfl rfl rfl ?_
      refine l_val rfl rfl rfl (r_neqT rfl rfl) ?_
      refine l_val rfl rfl rfl (r_pickT (v := .bool (decide (a0.Text ≠ []))) rfl rfl) ?_
      refine l_val rfl rfl rfl (r_assign (v := .bool (decide (a0.Text ≠ []))) rfl) ?_
      refine l_nil ?_
      refine c_close (decide (a0.Text ≠ [])) () 0 [0] (by exact ⟨rfl, rfl, trivial⟩) (by decide) rfl (by exact ⟨H56, trivial⟩) (Nat.lt_succ_self _)
     ·have H57 := cnd_f hb H55; clear H55
      refine l_passed rfl rfl rfl ?_
      refine l_passed rfl rfl rfl ?_
      refine l_passed rfl rfl rfl ?_
      refine l_val rfl rfl rfl (r_pickF (v := .bool false) rfl rfl) ?_
      refine l_val rfl rfl rfl (r_assign (v := .bool false) rfl) ?_
      refine l_nil ?_
      refine c_close false () 0 [0] (by exact ⟨rfl, rfl, trivial⟩) (by decide) rfl (by exact ⟨H57, trivial⟩) (Nat.lt_succ_self _)
    ·rintro x8_2 _ gg H39 _
     replace H39 : tag_checkFields_j2 a0 x8_2 = some r := H39
     refine c_tidyF [(1, .pointer (some ⟨b1, 0, none⟩)), (8, .bool x8_2)] [cellsC b1 [.int .i64 a0.Kind, str a0.Text, v0_2, v0_3, v0_4] 26] rfl rfl ?_
     refine c_if (b := x8_2) rfl (fun hb => ?_) (fun hb => ?_)
     ·have H40 := cnd_t hb H39; clear H39
      refine c_skip ?_
      refine c_if (b := x8_2) rfl (fun hb => ?_) (fun hb => ?_)
      ·have H41 := cnd_t hb H40; clear H40
       refine c_seq ?_
       refine c_region ?_
       refine l_val rfl rfl rfl (r_assign (v := .int .i64 1) rfl) ?_
       refine l_nil ?_
       refine c_ret ?_
       obtain rfl := Option.some.inj H41
       refine ret1 (v := .int .i64 1) rfl rfl (fin rfl)
      ·have H42 := cnd_f hb H40; clear H40
       refine c_skip ?_
       refine c_seq ?_
       refine c_region ?_
       refine l_val rfl rfl rfl (r_assign (v := .int .i64 0) rfl) ?_
       refine l_nil ?_
       refine c_ret ?_
       obtain rfl := Option.some.inj H42
       refine ret1 (v := .int .i64 0) rfl rfl (fin rfl)
     ·have H43 := cnd_f hb H39; clear H39
      refine c_meet (r := r) (σ := Bool) (τ := Unit) (fun s => tag_checkFields_j3 a0 s) (fun s t => [(1, .pointer (some ⟨b1, 0, none⟩)), (8, .bool s)]) (fun s t => [cellsC b1 [.int .i64 a0.Kind, str a0.Text, v0_2, v0_3, v0_4] 26]) (fun s t => True) ?_ ?_
      ·refine c_region ?_
       refine l_val rfl rfl rfl (r_field Tryz.runUnderlying26 rfl Tryz.sizeOf3 rfl rfl) ?_
       refine l_load1 (i := 0) (v := .int .i64 a0.Kind) Tryz.isAgg3 rfl rfl rfl rfl rfl ?_
       refine l_val rfl rfl rfl (r_neq rfl rfl) ?_
       refine l_val rfl rfl rfl (r_move (v := .bool (decide (a0.Kind ≠ 5))) rfl) ?_
       refine split (fun hb => ?_) (fun hb => ?_)
       ·have H53 := cnd_t hb H43; clear H43
        refine l_val rfl rfl rfl (r_field Tryz.runUnderlying26 rfl Tryz.sizeOf23 rfl rfl) ?_
        refine l_load1 (i := 0) (v := v0_3) Tryz.isAgg23 rfl rfl rfl rfl rfl ?_
        refine l_val rfl rfl rfl (r_lenF Tryz.underlying23 rfl f0_3 rfl) ?_
        refine l_val rfl rfl rfl (r_gtr rfl rfl) ?_
        refine l_val rfl rfl rfl (r_pickT (v := .bool (decide (0 < (a0.Ratios.length : Int)))) rfl rfl) ?_
        refine l_val rfl rfl rfl (r_assign (v := .bool (decide (0 < (a0.Ratios.length : Int)))) rfl) ?_
        refine l_nil ?_
        refine c_close (decide (0 < (a0.Ratios.length : Int))) () 0 [0] (by exact ⟨rfl, rfl, trivial⟩) (by decide) rfl (by exact ⟨H53, trivial⟩) (Nat.lt_succ_self _)
       ·have H54 := cnd_f hb H43; clear H43
        refine l_passed rfl rfl rfl ?_
        refine l_passed rfl rfl rfl ?_
        refine l_passed rfl rfl rfl ?_
        refine l_passed rfl rfl rfl ?_
        refine l_val rfl rfl rfl (r_pickF (v := .bool false) rfl rfl) ?_
        refine l_val rfl rfl rfl (r_assign (v := .bool false) rfl) ?_
        refine l_nil ?_
        refine c_close false () 0 [0] (by exact ⟨rfl, rfl, trivial⟩) (by decide) rfl (by exact ⟨H54, trivial⟩) (Nat.lt_succ_self _)
      ·rintro x8_3 _ gg H44 _
       replace H44 : tag_checkFields_j3 a0 x8_3 = some r := H44
       refine c_tidyF [(1, .pointer (some ⟨b1, 0, none⟩)), (8, .bool x8_3)] [cellsC b1 [.int .i64 a0.Kind, str a0.Text, v0_2, v0_3, v0_4] 26] rfl rfl ?_
       refine c_if (b := x8_3) rfl (fun hb => ?_) (fun hb => ?_)
       ·have H45 := cnd_t hb H44; clear H44
        refine c_skip ?_
        refine c_if (b := x8_3) rfl (fun hb => ?_) (fun hb => ?_)
        ·have H46 := cnd_t hb H45; clear H45
         refine c_seq ?_
         refine c_region ?_
         refine l_val rfl rfl rfl (r_assign (v := .int .i64 1) rfl) ?_
         refine l_nil ?_
         refine c_ret ?_
         obtain rfl := Option.some.inj H46
         refine ret1 (v := .int .i64 1) rfl rfl (fin rfl)
        ·have H47 := cnd_f hb H45; clear H45
         refine c_skip ?_
         refine c_seq ?_
         refine c_region ?_
         refine l_val rfl rfl rfl (r_assign (v := .int .i64 0) rfl) ?_
         refine l_nil ?_
         refine c_ret ?_
         obtain rfl := Option.some.inj H47
         refine ret1 (v := .int .i64 0) rfl rfl (fin rfl)
       ·have H48 := cnd_f hb H44; clear H44
        refine c_region ?_
        refine l_val rfl rfl rfl (r_field Tryz.runUnderlying26 rfl Tryz.sizeOf3 rfl rfl) ?_
        refine l_load1 (i := 0) (v := .int .i64 a0.Kind) Tryz.isAgg3 rfl rfl rfl rfl rfl ?_
        refine l_val rfl rfl rfl (r_neq rfl rfl) ?_
        refine l_val rfl rfl rfl (r_move (v := .bool (decide (a0.Kind ≠ 13))) rfl) ?_
        refine split (fun hb => ?_) (fun hb => ?_)
        ·have H49 := cnd_t hb H48; clear H48
         refine l_val rfl rfl rfl (r_field Tryz.runUnderlying26 rfl Tryz.sizeOf24 rfl rfl) ?_
         refine l_load1 (i := 0) (v := v0_4) Tryz.isAgg24 rfl rfl rfl rfl rfl ?_
         refine l_val rfl rfl rfl (r_lenFN Tryz.underlying24 rfl f0_4) ?_
         refine l_val rfl rfl rfl (r_gtr rfl rfl) ?_
         refine l_val rfl rfl rfl (r_pickT (v := .bool (decide (0 < (a0.Entries.length : Int)))) rfl rfl) ?_
         refine l_val rfl rfl rfl (r_assign (v := .bool (decide (0 < (a0.Entries.length : Int)))) rfl) ?_
         refine l_nil ?_
         refine c_if (b := (decide (0 < (a0.Entries.length : Int)))) rfl (fun hb => ?_) (fun hb => ?_)
         ·have H50 := cnd_t hb H49; clear H49
          refine c_seq ?_
          refine c_region ?_
          refine l_val rfl rfl rfl (r_assign (v := .int .i64 1) rfl) ?_
          refine l_nil ?_
          refine c_ret ?_
          obtain rfl := Option.some.inj H50
          refine ret1 (v := .int .i64 1) rfl rfl (fin rfl)
         ·have H51 := cnd_f hb H49; clear H49
          refine c_skip ?_
          refine c_seq ?_
          refine c_region ?_
          refine l_val rfl rfl rfl (r_assign (v := .int .i64 0) rfl) ?_
          refine l_nil ?_
          refine c_ret ?_
          obtain rfl := Option.some.inj H51
          refine ret1 (v := .int .i64 0) rfl rfl (fin rfl)
        ·have H52 := cnd_f hb H48; clear H48
         refine l_passed rfl rfl rfl ?_
         refine l_passed rfl rfl rfl ?_
         refine l_passed rfl rfl rfl ?_
         refine l_passed rfl rfl rfl ?_
         refine l_val rfl rfl rfl (r_pickF (v := .bool false) rfl rfl) ?_
         refine l_val rfl rfl rfl (r_assign (v := .bool false) rfl) ?_
         refine l_nil ?_
         refine c_false rfl ?_
         refine c_skip ?_
         refine c_seq ?_
         refine c_region ?_
         refine l_val rfl rfl rfl (r_assign (v := .int .i64 0) rfl) ?_
         refine l_nil ?_
         refine c_ret ?_
         obtain rfl := Option.some.inj H52
         refine ret1 (v := .int .i64 0) rfl rfl (fin rfl)
theorem k35 {a0 : Int} {r : Int × Int} (H : tag_bounds a0 = some r) : Ret Tryz.prog 35 [.int .i64 a0] (.tuple #[.int .i64 r.1, .int .i64 r.2]) := by
 refine enterRet (n := 11) Tryz.func35 rfl rfl rfl (fun wd => ?_)
 refine c_seq ?_
 refine c_region ?_
 refine l_val rfl rfl rfl (r_assign (v := .int .i64 0) rfl) ?_
 refine l_val rfl rfl rfl (r_assign (v := .int .i64 0) rfl) ?_
 refine l_nil ?_
 refine c_seq ?_
 refine c_seq ?_
 refine c_region ?_
 refine l_val rfl rfl rfl (r_move (v := .int .i64 a0) rfl) ?_
 refine l_nil ?_
 refine c_block ?_
 refine c_seq ?_
 refine c_region ?_
 refine l_val rfl rfl rfl (r_eql rfl rfl) ?_
 refine l_val rfl rfl rfl (r_assign (v := .bool (decide (a0 = 1))) rfl) ?_
 refine l_nil ?_
 refine c_if (b := (decide (a0 = 1))) rfl (fun hb => ?_) (fun hb => ?_)
 ·have H7 := cnd_t hb H; clear H
  refine c_seq ?_
  refine c_region ?_
  refine l_val rfl rfl rfl (r_assign (v := .int .i64 0) rfl) ?_
  refine l_val rfl rfl rfl (r_assign (v := .int .i64 255) rfl) ?_
  refine l_nil ?_
  refine c_ret ?_
  obtain rfl := Option.some.inj H7
  refine ret2 (v1 := .int .i64 0) (v2 := .int .i64 255) rfl rfl rfl (fin rfl)
 ·have H8 := cnd_f hb H; clear H
  refine c_seq ?_
  refine c_region ?_
  refine l_val rfl rfl rfl (r_eql rfl rfl) ?_
  refine l_val rfl rfl rfl (r_assign (v := .bool (decide (a0 = 3))) rfl) ?_
  refine l_nil ?_
  refine c_if (b := (decide (a0 = 3))) rfl (fun hb => ?_) (fun hb => ?_)
  ·have H9 := cnd_t hb H8; clear H8
   refine c_seq ?_
   refine c_region ?_
   refine l_val rfl rfl rfl (r_assign (v := .int .i64 0) rfl) ?_
   refine l_val rfl rfl rfl (r_assign (v := .int .i64 65535) rfl) ?_
   refine l_nil ?_
   refine c_ret ?_
   obtain rfl := Option.some.inj H9
   refine ret2 (v1 := .int .i64 0) (v2 := .int .i64 65535) rfl rfl rfl (fin rfl)
  ·have H10 := cnd_f hb H8; clear H8
   refine c_seq ?_
   refine c_region ?_
   refine l_val rfl rfl rfl (r_eql rfl rfl) ?_
   refine l_val rfl rfl rfl (r_assign (v := .bool (decide (a0 = 9))) rfl) ?_
   refine l_nil ?_
   refine c_if (b := (decide (a0 = 9))) rfl (fun hb => ?_) (fun hb => ?_)
   ·have H11 := cnd_t hb H10; clear H10
    refine c_seq ?_
    refine c_region ?_
    refine l_val rfl rfl rfl (r_assign (v := .int .i64 (-2147483648)) rfl) ?_
    refine l_val rfl rfl rfl (r_assign (v := .int .i64 2147483647) rfl) ?_
    refine l_nil ?_
    refine c_ret ?_
    obtain rfl := Option.some.inj H11
    refine ret2 (v1 := .int .i64 (-2147483648)) (v2 := .int .i64 2147483647) rfl rfl rfl (fin rfl)
   ·have H12 := cnd_f hb H10; clear H10
    refine c_skip ?_
    refine c_seq ?_
    refine c_region ?_
    refine l_val rfl rfl rfl (r_assign (v := .int .i64 0) rfl) ?_
    refine l_val rfl rfl rfl (r_assign (v := .int .i64 4294967295) rfl) ?_
    refine l_nil ?_
    refine c_ret ?_
    obtain rfl := Option.some.inj H12
    refine ret2 (v1 := .int .i64 0) (v2 := .int .i64 4294967295) rfl rfl rfl (fin rfl)
theorem k36 {a0 : Int} {a1 : Int} {a2 : Int} {r : Bool} (H : tag_outside a0 a1 a2 = some r) : Ret Tryz.prog 36 [.int .i64 a0, .int .i64 a1, .int .i64 a2] (.bool r) := by
 refine enterRet (n := 15) Tryz.func36 rfl rfl rfl (fun wd => ?_)
 refine c_seq ?_
 refine c_region ?_
 refine l_val rfl rfl rfl (r_assign (v := .bool false) rfl) ?_
 refine l_nil ?_
 refine c_seq ?_
 refine c_region ?_
 refine l_val rfl rfl rfl (r_move (v := .int .i64 a0) rfl) ?_
 refine l_val rfl rfl rfl (r_move (v := .int .i64 a1) rfl) ?_
 refine l_val rfl rfl rfl (r_lss rfl rfl) ?_
 refine l_val rfl rfl rfl (r_move (v := .bool (decide (a0 < a1))) rfl) ?_
 refine split (fun hb => ?_) (fun hb => ?_)
 ·have H3 := cnd_t hb H; clear H
  refine l_passed rfl rfl rfl ?_
  refine l_passed rfl rfl rfl ?_
  refine l_passed rfl rfl rfl ?_
  refine l_val rfl rfl rfl (r_pickT (v := .bool true) rfl rfl) ?_
  refine l_val rfl rfl rfl (r_assign (v := .bool true) rfl) ?_
  refine l_nil ?_
  refine c_ret ?_
  obtain rfl := Option.some.inj H3
  refine ret1 (v := .bool true) rfl rfl (fin rfl)
 ·have H4 := cnd_f hb H; clear H
  refine l_val rfl rfl rfl (r_move (v := .int .i64 a0) rfl) ?_
  refine l_val rfl rfl rfl (r_move (v := .int .i64 a2) rfl) ?_
  refine l_val rfl rfl rfl (r_gtr rfl rfl) ?_
  refine l_val rfl rfl rfl (r_pickF (v := .bool (decide (a2 < a0))) rfl rfl) ?_
  refine l_val rfl rfl rfl (r_assign (v := .bool (decide (a2 < a0))) rfl) ?_
  refine l_nil ?_
  refine c_ret ?_
  obtain rfl := Option.some.inj H4
  refine ret1 (v := .bool (decide (a2 < a0))) rfl rfl (fin rfl)
theorem k16 {a0 : T_tag_Value} {v0_2 : Value} {v0_3 : Value} {v0_4 : Value} {r : Int} {w : World} {h : Heap} (hw : Know h w noS) (f0_2 : FrS h 1 v0_2 (a0.Ints.map e_i64)) (f0_3 : FrS h 2 v0_3 (a0.Ratios.map e_tag_Ratio)) (f0_4 : FrN h 6 v0_4 g_tag_Entry a0.Entries) (H : tag_checkPlain a0 = some r) : Does Tryz.prog 16 (List.toArray [.agg #[.int .i64 a0.Kind, str a0.Text, v0_2, v0_3, v0_4]]) w (fun v w' => v = (.int .i64 r) ∧ Grow w w') := by
 refine enter (n := 65) Tryz.func16 rfl rfl rfl noS [] (Sat.nil _ _) ?_
 refine c_seq ?_
 refine c_region ?_
 refine l_box (cs := [.int .i64 a0.Kind, str a0.Text, v0_2, v0_3, v0_4]) rfl rfl rfl rfl (fun b2 => ?_)
 refine l_val rfl rfl rfl (r_assign (v := .int .i64 0) rfl) ?_
 refine l_nil ?_
 refine c_seq ?_
 refine c_seq ?_
 refine c_region ?_
 refine l_loadN (i := 0) (vs := [.int .i64 a0.Kind, str a0.Text, v0_2, v0_3, v0_4]) Tryz.isAgg26 Tryz.sizeOf26 rfl rfl rfl rfl rfl ?_
 obtain ⟨t12, h_t12, H35⟩ := bnd_some H; clear H
 refine l_callG (fun w hF hS => k17 (know_all w) (f0_2.mono (hw.now hF)) (f0_3.mono (hw.now hF)) (f0_4.mono (hw.now hF)) h_t12) Tryz.call17 rfl rfl rfl ?_
 refine l_val rfl rfl rfl (r_assign (v := .int .i64 t12) rfl) ?_
 refine l_nil ?_
 refine c_seq ?_
 refine c_region ?_
 refine l_val rfl rfl rfl (r_move (v := .int .i64 t12) rfl) ?_
 refine l_val rfl rfl rfl (r_neq rfl rfl) ?_
 refine l_nil ?_
 refine c_if (b := (decide (t12 ≠ 0))) rfl (fun hb => ?_) (fun hb => ?_)
 ·have H36 := cnd_t hb H35; clear H35
  refine c_seq ?_
  refine c_region ?_
  refine l_val rfl rfl rfl (r_move (v := .int .i64 t12) rfl) ?_
  refine l_val rfl rfl rfl (r_assign (v := .int .i64 t12) rfl) ?_
  refine l_nil ?_
  refine c_ret ?_
  obtain rfl := Option.some.inj H36
  refine ret1 (v := .int .i64 t12) rfl rfl (fin rfl)
 ·have H37 := cnd_f hb H35; clear H35
  refine c_skip ?_
  refine c_seq ?_
  refine c_region ?_
  refine l_val rfl rfl rfl (r_field Tryz.runUnderlying26 rfl Tryz.sizeOf3 rfl rfl) ?_
  refine l_load1 (i := 0) (v := .int .i64 a0.Kind) Tryz.isAgg3 rfl rfl rfl rfl rfl ?_
  obtain ⟨t19, h_t19, H38⟩ := bnd_some H37; clear H37
  refine l_call (k35 h_t19) Tryz.call35 rfl rfl rfl ?_
  refine l_val rfl rfl rfl (r_move (v := .tuple #[.int .i64 t19.1, .int .i64 t19.2]) rfl) ?_
  refine l_val rfl rfl rfl (r_extract (v := .int .i64 t19.1) rfl rfl) ?_
  refine l_val rfl rfl rfl (r_extract (v := .int .i64 t19.2) rfl rfl) ?_
  refine l_val rfl rfl rfl (r_assign (v := .int .i64 t19.1) rfl) ?_
  refine l_val rfl rfl rfl (r_assign (v := .int .i64 t19.2) rfl) ?_
  refine l_nil ?_
  refine c_meet (r := r) (σ := Unit) (τ := Unit) (fun s => tag_checkPlain_j1 a0) (fun s t => [(1, .pointer (some ⟨b2, 0, none⟩))]) (fun s t => [cellsC b2 [.int .i64 a0.Kind, str a0.Text, v0_2, v0_3, v0_4] 26]) (fun s t => True) ?_ ?_
  ·refine c_seq ?_
   refine c_region ?_
   refine l_val rfl rfl rfl (r_field Tryz.runUnderlying26 rfl Tryz.sizeOf22 rfl rfl) ?_
   refine l_load1 (i := 0) (v := v0_2) Tryz.isAgg22 rfl rfl rfl rfl rfl ?_
   refine l_val rfl rfl rfl (r_lenF Tryz.underlying22 rfl f0_2 rfl) ?_
   refine l_val rfl rfl rfl (r_move (v := .int .i64 0) rfl) ?_
   refine l_nil ?_
   refine c_block ?_
   refine c_fix (σ := Int) (τ := Unit) (fun next5 s => tag_checkPlain_l5 a0 t19 next5 s) (fun s t => [(1, .pointer (some ⟨b2, 0, none⟩)), (4, .int .i64 t19.1), (5, .int .i64 t19.2), (23, v0_2), (24, .int .i64 (a0.Ints.length : Int)), (25, .int .i64 s)]) (fun s t => [cellsC b2 [.int .i64 a0.Kind, str a0.Text, v0_2, v0_3, v0_4] 26]) (fun s t => True) 0 () [0] H38 (by exact trivial) (by exact ⟨rfl, rfl, rfl, rfl, rfl, rfl, trivial⟩) (by decide) rfl ?_
   rintro x25_2 _ m5 gg H61 _
   clear H38
   replace H61 : tag_checkPlain_l5 a0 t19 (it (fun next5 s => tag_checkPlain_l5 a0 t19 next5 s) m5) x25_2 = some r := H61
   generalize hn5 : it (fun next5 s => tag_checkPlain_l5 a0 t19 next5 s) m5 = next5 at H61
   refine c_tidyF [(1, .pointer (some ⟨b2, 0, none⟩)), (4, .int .i64 t19.1), (5, .int .i64 t19.2), (23, v0_2), (24, .int .i64 (a0.Ints.length : Int)), (25, .int .i64 x25_2)] [cellsC b2 [.int .i64 a0.Kind, str a0.Text, v0_2, v0_3, v0_4] 26] rfl rfl ?_
   refine c_seq ?_
   refine c_region ?_
   refine l_val rfl rfl rfl (r_lss rfl rfl) ?_
   refine l_nil ?_
   refine c_seq ?_
   refine c_if (b := (decide (x25_2 < (a0.Ints.length : Int)))) rfl (fun hb => ?_) (fun hb => ?_)
   ·have H62 := cnd_t hb H61; clear H61
    refine c_skip ?_
    refine c_seq ?_
    refine c_block ?_
    refine c_seq ?_
    refine c_region ?_
    obtain ⟨t27, h_t27, H63⟩ := bnd_some H62; clear H62
    refine l_val rfl rfl rfl (r_indexF Tryz.underlying22 Tryz.sizeOf3 rfl rfl f0_2 h_t27) ?_
    refine l_read (fun w hF hS => run_loadG1 (f := e_i64) (i := x25_2) (sz := 1) (j := 0) (v := .int .i64 t27) Tryz.isAgg3 rfl rfl (f0_2.row (hw.now hF)) h_t27 rfl) rfl rfl rfl ?_
    refine l_val rfl rfl rfl (r_assign (v := .int .i64 t27) rfl) ?_
    refine l_nil ?_
    refine c_seq ?_
    refine c_region ?_
    refine l_val rfl rfl rfl (r_move (v := .int .i64 t27) rfl) ?_
    refine l_val rfl rfl rfl (r_move (v := .int .i64 t19.1) rfl) ?_
    refine l_val rfl rfl rfl (r_move (v := .int .i64 t19.2) rfl) ?_
    obtain ⟨t32, h_t32, H64⟩ := bnd_some H63; clear H63
    refine l_call (k36 h_t32) Tryz.call36 rfl rfl rfl ?_
    refine l_nil ?_
    refine c_if (b := t32) rfl (fun hb => ?_) (fun hb => ?_)
    ·have H65 := cnd_t hb H64; clear H64
     refine c_seq ?_
     refine c_region ?_
     refine l_val rfl rfl rfl (r_assign (v := .int .i64 2) rfl) ?_
     refine l_nil ?_
     refine c_ret ?_
     obtain rfl := Option.some.inj H65
     refine ret1 (v := .int .i64 2) rfl rfl (fin rfl)
    ·have H66 := cnd_f hb H64; clear H64
     refine c_skip ?_
     refine c_region ?_
     obtain ⟨t33, h_t33, H67⟩ := bnd_some H66; clear H66
     refine l_val rfl rfl rfl (r_addG rfl rfl h_t33) ?_
     refine l_val rfl rfl rfl (r_move (v := .int .i64 t33) rfl) ?_
     refine l_nil ?_
     refine c_close t33 () m5 [0] (by exact ⟨rfl, rfl, rfl, rfl, rfl, rfl, trivial⟩) (by decide) rfl (by exact ⟨(by subst hn5; exact H67), trivial⟩) (Nat.lt_succ_self _)
   ·have H68 := cnd_f hb H61; clear H61
    refine c_exit ?_
    refine c_close () () 0 [0] (by exact ⟨rfl, trivial⟩) (by decide) rfl (by exact ⟨H68, trivial⟩) (Nat.lt_succ_self _)
  ·rintro _ _ gg H39 _
   replace H39 : tag_checkPlain_j1 a0 = some r := H39
   refine c_tidyF [(1, .pointer (some ⟨b2, 0, none⟩))] [cellsC b2 [.int .i64 a0.Kind, str a0.Text, v0_2, v0_3, v0_4] 26] rfl rfl ?_
   refine c_meet (r := r) (σ := Unit) (τ := Unit) (fun s => tag_checkPlain_j2 a0) (fun s t => [(1, .pointer (some ⟨b2, 0, none⟩))]) (fun s t => [cellsC b2 [.int .i64 a0.Kind, str a0.Text, v0_2, v0_3, v0_4] 26]) (fun s t => True) ?_ ?_
   ·refine c_seq ?_
    refine c_region ?_
    refine l_val rfl rfl rfl (r_field Tryz.runUnderlying26 rfl Tryz.sizeOf23 rfl rfl) ?_
    refine l_load1 (i := 0) (v := v0_3) Tryz.isAgg23 rfl rfl rfl rfl rfl ?_
    refine l_val rfl rfl rfl (r_lenF Tryz.underlying23 rfl f0_3 rfl) ?_
    refine l_val rfl rfl rfl (r_move (v := .int .i64 0) rfl) ?_
    refine l_nil ?_
    refine c_block ?_
    refine c_fix (σ := Int) (τ := Unit) (fun next4 s => tag_checkPlain_l4 a0 next4 s) (fun s t => [(1, .pointer (some ⟨b2, 0, none⟩)), (35, v0_3), (36, .int .i64 (a0.Ratios.length : Int)), (37, .int .i64 s)]) (fun s t => [cellsC b2 [.int .i64 a0.Kind, str a0.Text, v0_2, v0_3, v0_4] 26]) (fun s t => True) 0 () [0] H39 (by exact trivial) (by exact ⟨rfl, rfl, rfl, rfl, trivial⟩) (by decide) rfl ?_
    rintro x37_2 _ m4 gg H50 _
    clear H39
    replace H50 : tag_checkPlain_l4 a0 (it (fun next4 s => tag_checkPlain_l4 a0 next4 s) m4) x37_2 = some r := H50
    generalize hn4 : it (fun next4 s => tag_checkPlain_l4 a0 next4 s) m4 = next4 at H50
    refine c_tidyF [(1, .pointer (some ⟨b2, 0, none⟩)), (35, v0_3), (36, .int .i64 (a0.Ratios.length : Int)), (37, .int .i64 x37_2)] [cellsC b2 [.int .i64 a0.Kind, str a0.Text, v0_2, v0_3, v0_4] 26] rfl rfl ?_
    refine c_seq ?_
    refine c_region ?_
    refine l_val rfl rfl rfl (r_lss rfl rfl) ?_
    refine l_nil ?_
    refine c_seq ?_
    refine c_if (b := (decide (x37_2 < (a0.Ratios.length : Int)))) rfl (fun hb => ?_) (fun hb => ?_)
    ·have H51 := cnd_t hb H50; clear H50
     refine c_skip ?_
     refine c_seq ?_
     refine c_block ?_
     refine c_seq ?_
     refine c_region ?_
     obtain ⟨t39, h_t39, H52⟩ := bnd_some H51; clear H51
     refine l_val rfl rfl rfl (r_indexF Tryz.underlying23 Tryz.sizeOf42 rfl rfl f0_3 h_t39) ?_
     refine l_read (fun w hF hS => run_loadGN (f := e_tag_Ratio) (i := x37_2) (sz := 2) (j := 0) (vs := [.int .i64 t39.Num, .int .i64 t39.Den]) Tryz.isAgg42 Tryz.sizeOf42 rfl rfl (f0_3.row (hw.now hF)) h_t39 rfl) rfl rfl rfl ?_
     refine l_alloc (cs := [.int .i64 0, .int .i64 0]) Tryz.zeroValue42 rfl rfl rfl (fun b3 => ?_)
     refine l_store (i := 1) (vs := [.int .i64 t39.Num, .int .i64 t39.Den]) (cs' := [.int .i64 t39.Num, .int .i64 t39.Den]) Tryz.sizeOf42 rfl rfl rfl rfl rfl rfl rfl rfl rfl ?_
     refine l_nil ?_
     refine c_seq ?_
     refine c_region ?_
     refine l_val rfl rfl rfl (r_field Tryz.runUnderlying42 rfl Tryz.sizeOf3 rfl rfl) ?_
     refine l_load1 (i := 1) (v := .int .i64 t39.Num) Tryz.isAgg3 rfl rfl rfl rfl rfl ?_
     obtain ⟨t43, h_t43, H53⟩ := bnd_some H52; clear H52
     refine l_call (k36 h_t43) Tryz.call36 rfl rfl rfl ?_
     refine l_val rfl rfl rfl (r_move (v := .bool t43) rfl) ?_
     refine split (fun hb => ?_) (fun hb => ?_)
     ·have H54 := cnd_t hb H53; clear H53
      refine l_passed rfl rfl rfl ?_
      refine l_passed rfl rfl rfl ?_
      refine l_passed rfl rfl rfl ?_
      refine l_val rfl rfl rfl (r_pickT (v := .bool true) rfl rfl) ?_
      refine l_nil ?_
      refine c_true rfl ?_
      refine c_seq ?_
      refine c_region ?_
      refine l_val rfl rfl rfl (r_assign (v := .int .i64 2) rfl) ?_
      refine l_nil ?_
      refine c_ret ?_
      obtain rfl := Option.some.inj H54
      refine ret1 (v := .int .i64 2) rfl rfl (fin rfl)
     ·have H55 := cnd_f hb H53; clear H53
      refine l_val rfl rfl rfl (r_field Tryz.runUnderlying42 rfl Tryz.sizeOf3 rfl rfl) ?_
      refine l_load1 (i := 1) (v := .int .i64 t39.Den) Tryz.isAgg3 rfl rfl rfl rfl rfl ?_
      obtain ⟨t47, h_t47, H56⟩ := bnd_some H55; clear H55
      refine l_call (k36 h_t47) Tryz.call36 rfl rfl rfl ?_
      refine l_val rfl rfl rfl (r_pickF (v := .bool t47) rfl rfl) ?_
      refine l_nil ?_
      refine c_if (b := t47) rfl (fun hb => ?_) (fun hb => ?_)
      ·have H57 := cnd_t hb H56; clear H56
       refine c_seq ?_
       refine c_region ?_
       refine l_val rfl rfl rfl (r_assign (v := .int .i64 2) rfl) ?_
       refine l_nil ?_
       refine c_ret ?_
       obtain rfl := Option.some.inj H57
       refine ret1 (v := .int .i64 2) rfl rfl (fin rfl)
      ·have H58 := cnd_f hb H56; clear H56
       refine c_skip ?_
       refine c_region ?_
       obtain ⟨t49, h_t49, H59⟩ := bnd_some H58; clear H58
       refine l_val rfl rfl rfl (r_addG rfl rfl h_t49) ?_
       refine l_val rfl rfl rfl (r_move (v := .int .i64 t49) rfl) ?_
       refine l_nil ?_
       refine c_close t49 () m4 [0] (by exact ⟨rfl, rfl, rfl, rfl, trivial⟩) (by decide) rfl (by exact ⟨(by subst hn4; exact H59), trivial⟩) (Nat.lt_succ_self _)
    ·have H60 := cnd_f hb H50; clear H50
     refine c_exit ?_
     refine c_close () () 0 [0] (by exact ⟨rfl, trivial⟩) (by decide) rfl (by exact ⟨H60, trivial⟩) (Nat.lt_succ_self _)
   ·rintro _ _ gg H40 _
    replace H40 : tag_checkPlain_j2 a0 = some r := H40
    refine c_tidyF [(1, .pointer (some ⟨b2, 0, none⟩))] [cellsC b2 [.int .i64 a0.Kind, str a0.Text, v0_2, v0_3, v0_4] 26] rfl rfl ?_
    refine c_seq ?_
    refine c_seq ?_
    refine c_region ?_
    refine l_val rfl rfl rfl (r_field Tryz.runUnderlying26 rfl Tryz.sizeOf3 rfl rfl) ?_
    refine l_load1 (i := 0) (v := .int .i64 a0.Kind) Tryz.isAgg3 rfl rfl rfl rfl rfl ?_
    refine l_val rfl rfl rfl (r_eql rfl rfl) ?_
    refine l_nil ?_
    refine c_if (b := (decide (a0.Kind = 2))) rfl (fun hb => ?_) (fun hb => ?_)
    ·have H41 := cnd_t hb H40; clear H40
     refine c_seq ?_
     refine c_region ?_
     refine l_val rfl rfl rfl (r_field Tryz.runUnderlying26 rfl Tryz.sizeOf9 rfl rfl) ?_
     refine l_load1 (i := 0) (v := str a0.Text) Tryz.isAgg9 rfl rfl rfl rfl rfl ?_
     refine l_val rfl rfl rfl (r_lenT Tryz.underlying9 rfl) ?_
     refine l_val rfl rfl rfl (r_move (v := .int .i64 0) rfl) ?_
     refine l_nil ?_
     refine c_block ?_
     refine c_fix (σ := Int) (τ := Unit) (fun next3 s => tag_checkPlain_l3 a0 next3 s) (fun s t => [(1, .pointer (some ⟨b2, 0, none⟩)), (55, .int .i64 (a0.Text.length : Int)), (56, .int .i64 s)]) (fun s t => [cellsC b2 [.int .i64 a0.Kind, str a0.Text, v0_2, v0_3, v0_4] 26]) (fun s t => True) 0 () [0] H41 (by exact trivial) (by exact ⟨rfl, rfl, rfl, trivial⟩) (by decide) rfl ?_
     rintro x56_2 _ m3 gg H42 _
     clear H41
     replace H42 : tag_checkPlain_l3 a0 (it (fun next3 s => tag_checkPlain_l3 a0 next3 s) m3) x56_2 = some r := H42
     generalize hn3 : it (fun next3 s => tag_checkPlain_l3 a0 next3 s) m3 = next3 at H42
     refine c_tidyF [(1, .pointer (some ⟨b2, 0, none⟩)), (55, .int .i64 (a0.Text.length : Int)), (56, .int .i64 x56_2)] [cellsC b2 [.int .i64 a0.Kind, str a0.Text, v0_2, v0_3, v0_4] 26] rfl rfl ?_
     refine c_seq ?_
     refine c_region ?_
     refine l_val rfl rfl rfl (r_lss rfl rfl) ?_
     refine l_nil ?_
     refine c_seq ?_
     refine c_if (b := (decide (x56_2 < (a0.Text.length : Int)))) rfl (fun hb => ?_) (fun hb => ?_)
     ·have H43 := cnd_t hb H42; clear H42
      refine c_skip ?_
      refine c_seq ?_
      refine c_block ?_
      refine c_seq ?_
      refine c_region ?_
      refine l_val rfl rfl rfl (r_move (v := .int .i64 x56_2) rfl) ?_
      refine l_val rfl rfl rfl (r_assign (v := .int .i64 x56_2) rfl) ?_
      refine l_nil ?_
      refine c_seq ?_
      refine c_region ?_
      refine l_val rfl rfl rfl (r_field Tryz.runUnderlying26 rfl Tryz.sizeOf9 rfl rfl) ?_
      refine l_load1 (i := 0) (v := str a0.Text) Tryz.isAgg9 rfl rfl rfl rfl rfl ?_
      refine l_val rfl rfl rfl (r_move (v := .int .i64 x56_2) rfl) ?_
      obtain ⟨t62, h_t62, H44⟩ := bnd_some H43; clear H43
      refine l_val rfl rfl rfl (r_octG Tryz.underlying9 rfl rfl h_t62) ?_
      refine l_val rfl rfl rfl (r_eql rfl rfl) ?_
      refine l_nil ?_
      refine c_if (b := (decide (t62 = 0))) rfl (fun hb => ?_) (fun hb => ?_)
      ·have H45 := cnd_t hb H44; clear H44
       refine c_seq ?_
       refine c_region ?_
       refine l_val rfl rfl rfl (r_assign (v := .int .i64 9) rfl) ?_
       refine l_nil ?_
       refine c_ret ?_
       obtain rfl := Option.some.inj H45
       refine ret1 (v := .int .i64 9) rfl rfl (fin rfl)
      ·have H46 := cnd_f hb H44; clear H44
       refine c_skip ?_
       refine c_region ?_
       obtain ⟨t64, h_t64, H47⟩ := bnd_some H46; clear H46
       refine l_val rfl rfl rfl (r_addG rfl rfl h_t64) ?_
       refine l_val rfl rfl rfl (r_move (v := .int .i64 t64) rfl) ?_
       refine l_nil ?_
       refine c_close t64 () m3 [0] (by exact ⟨rfl, rfl, rfl, trivial⟩) (by decide) rfl (by exact ⟨(by subst hn3; exact H47), trivial⟩) (Nat.lt_succ_self _)
     ·have H48 := cnd_f hb H42; clear H42
      refine c_exit ?_
      refine c_seq ?_
      refine c_region ?_
      refine l_val rfl rfl rfl (r_assign (v := .int .i64 0) rfl) ?_
      refine l_nil ?_
      refine c_ret ?_
      obtain rfl := Option.some.inj H48
      refine ret1 (v := .int .i64 0) rfl rfl (fin rfl)
    ·have H49 := cnd_f hb H40; clear H40
     refine c_skip ?_
     refine c_seq ?_
     refine c_region ?_
     refine l_val rfl rfl rfl (r_assign (v := .int .i64 0) rfl) ?_
     refine l_nil ?_
     refine c_ret ?_
     obtain rfl := Option.some.inj H49
     refine ret1 (v := .int .i64 0) rfl rfl (fin rfl)
theorem k18_it (mm : Nat) : ∀ {a0 : (List T_tag_Entry)} {v0 : Value} {a1 : Int} {r : Int} {w : World} {h : Heap} (hw : Know h w noS) (f0 : FrN h 6 v0 g_tag_Entry a0) (H : it (fun (self : ((List T_tag_Entry) × Int) → Option (Int)) (s : (List T_tag_Entry) × Int) => tag_checkDir_body self s.1 s.2) mm (a0, a1) = some r), Does Tryz.prog 18 (List.toArray [v0, .int .i64 a1]) w (fun v w' => v = (.int .i64 r) ∧ Grow w w') := by
 induction mm with
 | zero => intros; rename_i H; exact absurd H (by simp [it])
 | succ mm ih =>
  intro a0 v0 a1 r w h hw f0 H
  replace H : tag_checkDir_body (it (fun (self : ((List T_tag_Entry) × Int) → Option (Int)) (s : (List T_tag_Entry) × Int) => tag_checkDir_body self s.1 s.2) mm) a0 a1 = some r := H
  generalize it (fun (self : ((List T_tag_Entry) × Int) → Option (Int)) (s : (List T_tag_Entry) × Int) => tag_checkDir_body self s.1 s.2) mm = self at H ih
  refine enter (n := 62) Tryz.func18 rfl rfl rfl noS [] (Sat.nil _ _) ?_
  refine c_seq ?_
  refine c_region ?_
  refine l_val rfl rfl rfl (r_assign (v := .int .i64 0) rfl) ?_
  refine l_nil ?_
  refine c_seq ?_
  refine c_seq ?_
  refine c_region ?_
  refine l_val rfl rfl rfl (r_move (v := .int .i64 a1) rfl) ?_
  refine l_val rfl rfl rfl (r_gtr rfl rfl) ?_
  refine l_val rfl rfl rfl (r_move (v := .bool (decide (5 < a1))) rfl) ?_
  refine split (fun hb => ?_) (fun hb => ?_)
  ·have H31 := cnd_t hb H; clear H
   refine l_passed rfl rfl rfl ?_
   refine l_passed rfl rfl rfl ?_
   refine l_passed rfl rfl rfl ?_
   refine l_val rfl rfl rfl (r_pickT (v := .bool true) rfl rfl) ?_
   refine l_nil ?_
   refine c_true rfl ?_
   refine c_seq ?_
   refine c_region ?_
   refine l_val rfl rfl rfl (r_assign (v := .int .i64 4) rfl) ?_
   refine l_nil ?_
   refine c_ret ?_
   obtain rfl := Option.some.inj H31
   refine ret1 (v := .int .i64 4) rfl rfl (fin rfl)
  ·have H32 := cnd_f hb H; clear H
   refine l_val rfl rfl rfl (r_move (v := v0) rfl) ?_
   refine l_val rfl rfl rfl (r_lenFN Tryz.underlying24 rfl f0) ?_
   refine l_val rfl rfl rfl (r_gtr rfl rfl) ?_
   refine l_val rfl rfl rfl (r_pickF (v := .bool (decide (200 < (a0.length : Int)))) rfl rfl) ?_
   refine l_nil ?_
   refine c_if (b := (decide (200 < (a0.length : Int)))) rfl (fun hb => ?_) (fun hb => ?_)
   ·have H33 := cnd_t hb H32; clear H32
    refine c_seq ?_
    refine c_region ?_
    refine l_val rfl rfl rfl (r_assign (v := .int .i64 4) rfl) ?_
    refine l_nil ?_
    refine c_ret ?_
    obtain rfl := Option.some.inj H33
    refine ret1 (v := .int .i64 4) rfl rfl (fin rfl)
   ·have H34 := cnd_f hb H32; clear H32
    refine c_skip ?_
    refine c_seq ?_
    refine c_seq ?_
    refine c_region ?_
    refine l_val rfl rfl rfl (r_move (v := v0) rfl) ?_
    refine l_val rfl rfl rfl (r_lenFN Tryz.underlying24 rfl f0) ?_
    refine l_val rfl rfl rfl (r_move (v := .int .i64 0) rfl) ?_
    refine l_nil ?_
    refine c_block ?_
    refine c_fix (σ := Int) (τ := Unit) (fun next1 s => tag_checkDir_l1 a0 a1 self next1 s) (fun s t => [(0, v0), (1, .int .i64 a1), (15, v0), (16, .int .i64 (a0.length : Int)), (17, .int .i64 s)]) (fun s t => []) (fun s t => True) 0 () [] H34 (by exact trivial) (by exact ⟨rfl, rfl, rfl, rfl, rfl, trivial⟩) (by decide) rfl ?_
    rintro x17_2 _ m1 gg H35 _
    clear H34
    replace H35 : tag_checkDir_l1 a0 a1 self (it (fun next1 s => tag_checkDir_l1 a0 a1 self next1 s) m1) x17_2 = some r := H35
    generalize hn1 : it (fun next1 s => tag_checkDir_l1 a0 a1 self next1 s) m1 = next1 at H35
    refine c_tidyF [(0, v0), (1, .int .i64 a1), (15, v0), (16, .int .i64 (a0.length : Int)), (17, .int .i64 x17_2)] [] rfl rfl ?_
    refine c_seq ?_
    refine c_region ?_
    refine l_val rfl rfl rfl (r_lss rfl rfl) ?_
    refine l_nil ?_
    refine c_seq ?_
    refine c_if (b := (decide (x17_2 < (a0.length : Int)))) rfl (fun hb => ?_) (fun hb => ?_)
    ·have H36 := cnd_t hb H35; clear H35
     refine c_skip ?_
     refine c_seq ?_
     refine c_block ?_
     refine c_seq ?_
     refine c_region ?_
     refine l_val rfl rfl rfl (r_move (v := .int .i64 x17_2) rfl) ?_
     obtain ⟨t20, h_t20, H37⟩ := bnd_some H36; clear H36
     refine l_val rfl rfl rfl (r_indexF Tryz.underlying24 Tryz.sizeOf65 rfl rfl f0.frs (f0.ix h_t20)) ?_
     refine l_read (fun w hF hS => run_loadGN (f := (elC h v0 6)) (i := x17_2) (sz := 6) (j := 0) (vs := [.int .i64 t20.Tag, .int .i64 t20.Value.Kind, str t20.Value.Text, (elH h v0 6 (Int.toNat x17_2) 3), (elH h v0 6 (Int.toNat x17_2) 4), (elH h v0 6 (Int.toNat x17_2) 5)]) Tryz.isAgg65 Tryz.sizeOf65 rfl rfl (f0.frs.row (hw.now hF)) (f0.ix h_t20) (rd_of (cg_tag_Entry (f0.at h_t20)) rfl)) rfl rfl rfl ?_
     refine l_alloc (cs := [.int .i64 0, .int .i64 0, str [], .slice none 0 0, .slice none 0 0, .slice none 0 0]) Tryz.zeroValue65 rfl rfl rfl (fun b1 => ?_)
     refine l_val rfl rfl rfl (r_assign (v := .int .i64 x17_2) rfl) ?_
     refine l_store (i := 0) (vs := [.int .i64 t20.Tag, .int .i64 t20.Value.Kind, str t20.Value.Text, (elH h v0 6 (Int.toNat x17_2) 3), (elH h v0 6 (Int.toNat x17_2) 4), (elH h v0 6 (Int.toNat x17_2) 5)]) (cs' := [.int .i64 t20.Tag, .int .i64 t20.Value.Kind, str t20.Value.Text, (elH h v0 6 (Int.toNat x17_2) 3), (elH h v0 6 (Int.toNat x17_2) 4), (elH h v0 6 (Int.toNat x17_2) 5)]) Tryz.sizeOf65 rfl rfl rfl rfl rfl rfl (by simp only [List.all_cons, List.all_nil, (show FrN h 6 (elH h v0 6 (Int.toNat x17_2) 5) g_tag_Entry t20.Value.Entries from (g_tag_Value_p4 (g_tag_Entry_p1 (f0.at h_t20)))).one, (show FrS h 1 (elH h v0 6 (Int.toNat x17_2) 3) (t20.Value.Ints.map e_i64) from (g_tag_Value_p2 (g_tag_Entry_p1 (f0.at h_t20)))).one, (show FrS h 2 (elH h v0 6 (Int.toNat x17_2) 4) (t20.Value.Ratios.map e_tag_Ratio) from (g_tag_Value_p3 (g_tag_Entry_p1 (f0.at h_t20)))).one] <;> rfl) rfl rfl ?_
     refine l_nil ?_
     refine c_meet (r := r) (σ := Unit) (τ := Unit) (fun s => tag_checkDir_j2 a1 self x17_2 next1 t20) (fun s t => [(0, v0), (1, .int .i64 a1), (6, .pointer (some ⟨b1, 0, none⟩)), (15, v0), (16, .int .i64 (a0.length : Int)), (17, .int .i64 x17_2)]) (fun s t => [cellsC b1 [.int .i64 t20.Tag, .int .i64 t20.Value.Kind, str t20.Value.Text, (elH h v0 6 (Int.toNat x17_2) 3), (elH h v0 6 (Int.toNat x17_2) 4), (elH h v0 6 (Int.toNat x17_2) 5)] 65]) (fun s t => True) ?_ ?_
     ·refine c_block ?_
      refine c_seq ?_
      refine c_region ?_
      refine l_val rfl rfl rfl (r_field Tryz.runUnderlying65 rfl Tryz.sizeOf3 rfl rfl) ?_
      refine l_load1 (i := 0) (v := .int .i64 t20.Tag) Tryz.isAgg3 rfl rfl rfl rfl rfl ?_
      obtain ⟨t25, h_t25, H51⟩ := bnd_some H37; clear H37
      refine l_call (k36 h_t25) Tryz.call36 rfl rfl rfl ?_
      refine l_val rfl rfl rfl (r_assign (v := .bool t25) rfl) ?_
      refine l_nil ?_
      refine c_if (b := t25) rfl (fun hb => ?_) (fun hb => ?_)
      ·have H52 := cnd_t hb H51; clear H51
       refine c_seq ?_
       refine c_region ?_
       refine l_val rfl rfl rfl (r_assign (v := .int .i64 2) rfl) ?_
       refine l_nil ?_
       refine c_ret ?_
       obtain rfl := Option.some.inj H52
       refine ret1 (v := .int .i64 2) rfl rfl (fin rfl)
      ·have H53 := cnd_f hb H51; clear H51
       refine c_seq ?_
       exact c_regionD (Kd.p :: Kd.p :: Kd.p :: Kd.p :: Kd.d [0] _ :: Kd.p :: Kd.p :: Kd.p :: Kd.p :: Kd.p :: Kd.d [] _ :: Kd.p :: Kd.p :: Kd.p :: []) 0 mixed (by
        refine d_val rfl rfl (r_move (v := .int .i64 x17_2) rfl) ?_
        refine d_val rfl rfl (r_gtr rfl rfl) ?_
        refine d_val rfl rfl (r_move (v := .bool (decide (0 < x17_2))) rfl) ?_
        refine splitS (fun hb => ?_) (fun hb => ?_)
        ·have H54 := cnd_t hb H53
         refine d_val rfl rfl (r_field Tryz.runUnderlying65 rfl Tryz.sizeOf3 rfl rfl) ?_
         refine d_load1 (i := 0) (v := .int .i64 t20.Tag) Tryz.isAgg3 rfl rfl rfl rfl ?_
         refine d_val rfl rfl (r_move (v := v0) rfl) ?_
         refine d_val rfl rfl (r_move (v := .int .i64 x17_2) rfl) ?_
         have h_t34 := bnd_val H54
         have H55 := bnd_rest H54
         refine d_val rfl rfl (r_subG rfl rfl h_t34) ?_
         have h_t35 := bnd_val H55
         have H56 := bnd_rest H55
         refine d_val rfl rfl (r_indexF Tryz.underlying24 Tryz.sizeOf65 rfl rfl f0.frs (f0.ix h_t35)) ?_
         refine d_val rfl rfl (r_fieldP Tryz.runUnderlying65 rfl Tryz.sizeOf3 rfl rfl (some_of_at f0.frs (f0.ix h_t35))) ?_
         refine d_read (fun w hF => run_loadG1 (f := (elC h v0 6)) (i := (val (gI (x17_2 - 1)))) (sz := 6) (j := 0) (v := .int .i64 (val (gAt a0 (val (gI (x17_2 - 1))))).Tag) Tryz.isAgg3 rfl rfl (f0.frs.row (hw.now hF)) (f0.ix h_t35) (rg_of (cg_tag_Entry (f0.at h_t35)) rfl)) rfl rfl ?_
         refine d_val rfl rfl (r_leq rfl rfl) ?_
         refine d_val rfl rfl (r_pickT (v := .bool (decide (t20.Tag ≤ (val (gAt a0 (val (gI (x17_2 - 1))))).Tag))) rfl rfl) ?_
         refine d_val rfl rfl (r_assign (v := .bool (decide (t20.Tag ≤ (val (gAt a0 (val (gI (x17_2 - 1))))).Tag))) rfl) ?_
         refine d_nil ?_
         refine c_if (b := (decide (t20.Tag ≤ (val (gAt a0 (val (gI (x17_2 - 1))))).Tag))) rfl (fun hb => ?_) (fun hb => ?_)
         ·have H57 := cnd_t hb H56; clear H56
          refine c_seq ?_
          refine c_region ?_
          refine l_val rfl rfl rfl (r_assign (v := .int .i64 5) rfl) ?_
          refine l_nil ?_
          refine c_ret ?_
          obtain rfl := Option.some.inj H57
          refine ret1 (v := .int .i64 5) rfl rfl (fin rfl)
         ·have H58 := cnd_f hb H56; clear H56
          refine c_skip ?_
          refine c_close () () 0 [0] (by exact ⟨rfl, rfl, rfl, rfl, rfl, rfl, trivial⟩) (by decide) rfl (by exact ⟨H58, trivial⟩) (Nat.lt_succ_self _)
        ·have H59 := cnd_f hb H53
         refine d_pass rfl rfl ?_
         refine d_pass rfl rfl ?_
         refine d_pass rfl rfl ?_
         refine d_pass rfl rfl ?_
         refine d_pass rfl rfl ?_
         refine d_pass rfl rfl ?_
         refine d_pass rfl rfl ?_
         refine d_pass rfl rfl ?_
         refine d_pass rfl rfl ?_
         refine d_val rfl rfl (r_pickF (v := .bool false) rfl rfl) ?_
         refine d_val rfl rfl (r_assign (v := .bool false) rfl) ?_
         refine d_nil ?_
         refine c_false rfl ?_
         refine c_skip ?_
         refine c_close () () 0 [0] (by exact ⟨rfl, rfl, rfl, rfl, rfl, rfl, trivial⟩) (by decide) rfl (by exact ⟨H59, trivial⟩) (Nat.lt_succ_self _)
        ) (by kernel_rfl)
     ·rintro _ _ gg H38 _
      replace H38 : tag_checkDir_j2 a1 self x17_2 next1 t20 = some r := H38
      refine c_tidyF [(0, v0), (1, .int .i64 a1), (6, .pointer (some ⟨b1, 0, none⟩)), (15, v0), (16, .int .i64 (a0.length : Int)), (17, .int .i64 x17_2)] [cellsC b1 [.int .i64 t20.Tag, .int .i64 t20.Value.Kind, str t20.Value.Text, (elH h v0 6 (Int.toNat x17_2) 3), (elH h v0 6 (Int.toNat x17_2) 4), (elH h v0 6 (Int.toNat x17_2) 5)] 65] rfl rfl ?_
      refine c_seq ?_
      refine c_region ?_
      refine l_val rfl rfl rfl (r_assign (v := .int .i64 0) rfl) ?_
      refine l_nil ?_
      refine c_meet (r := r) (σ := Int) (τ := Unit) (fun s => tag_checkDir_j3 x17_2 next1 s) (fun s t => [(0, v0), (1, .int .i64 a1), (7, .int .i64 s), (15, v0), (16, .int .i64 (a0.length : Int)), (17, .int .i64 x17_2)]) (fun s t => []) (fun s t => True) ?_ ?_
      ·refine c_seq ?_
       refine c_region ?_
       refine l_val rfl rfl rfl (r_field Tryz.runUnderlying65 rfl Tryz.sizeOf26 rfl rfl) ?_
       refine l_val rfl rfl rfl (r_field Tryz.runUnderlying26 rfl Tryz.sizeOf3 rfl rfl) ?_
       refine l_load1 (i := 0) (v := .int .i64 t20.Value.Kind) Tryz.isAgg3 rfl rfl rfl rfl rfl ?_
       refine l_val rfl rfl rfl (r_neq rfl rfl) ?_
       refine l_nil ?_
       refine c_if (b := (decide (t20.Value.Kind ≠ 13))) rfl (fun hb => ?_) (fun hb => ?_)
       ·have H43 := cnd_t hb H38; clear H38
        refine c_region ?_
        refine l_val rfl rfl rfl (r_field Tryz.runUnderlying65 rfl Tryz.sizeOf26 rfl rfl) ?_
        refine l_loadN (i := 0) (vs := [.int .i64 t20.Value.Kind, str t20.Value.Text, (elH h v0 6 (Int.toNat x17_2) 3), (elH h v0 6 (Int.toNat x17_2) 4), (elH h v0 6 (Int.toNat x17_2) 5)]) Tryz.isAgg26 Tryz.sizeOf26 rfl rfl rfl rfl rfl ?_
        obtain ⟨t46, h_t46, H44⟩ := bnd_some H43; clear H43
        refine l_callG (fun w hF hS => k16 (know_all w) ((show FrS h 1 (elH h v0 6 (Int.toNat x17_2) 3) (t20.Value.Ints.map e_i64) from (g_tag_Value_p2 (g_tag_Entry_p1 (f0.at h_t20)))).mono (hw.now hF)) ((show FrS h 2 (elH h v0 6 (Int.toNat x17_2) 4) (t20.Value.Ratios.map e_tag_Ratio) from (g_tag_Value_p3 (g_tag_Entry_p1 (f0.at h_t20)))).mono (hw.now hF)) ((show FrN h 6 (elH h v0 6 (Int.toNat x17_2) 5) g_tag_Entry t20.Value.Entries from (g_tag_Value_p4 (g_tag_Entry_p1 (f0.at h_t20)))).mono (hw.now hF)) h_t46) Tryz.call16 rfl rfl rfl ?_
        refine l_val rfl rfl rfl (r_assign (v := .int .i64 t46) rfl) ?_
        refine l_nil ?_
        refine c_close t46 () 0 [] (by exact ⟨rfl, rfl, rfl, rfl, rfl, rfl, trivial⟩) (by decide) rfl (by exact ⟨H44, trivial⟩) (Nat.lt_succ_self _)
       ·have H45 := cnd_f hb H38; clear H38
        refine c_seq ?_
        refine c_region ?_
        refine l_val rfl rfl rfl (r_field Tryz.runUnderlying65 rfl Tryz.sizeOf26 rfl rfl) ?_
        refine l_loadN (i := 0) (vs := [.int .i64 t20.Value.Kind, str t20.Value.Text, (elH h v0 6 (Int.toNat x17_2) 3), (elH h v0 6 (Int.toNat x17_2) 4), (elH h v0 6 (Int.toNat x17_2) 5)]) Tryz.isAgg26 Tryz.sizeOf26 rfl rfl rfl rfl rfl ?_
        obtain ⟨t49, h_t49, H46⟩ := bnd_some H45; clear H45
        refine l_callG (fun w hF hS => k17 (know_all w) ((show FrS h 1 (elH h v0 6 (Int.toNat x17_2) 3) (t20.Value.Ints.map e_i64) from (g_tag_Value_p2 (g_tag_Entry_p1 (f0.at h_t20)))).mono (hw.now hF)) ((show FrS h 2 (elH h v0 6 (Int.toNat x17_2) 4) (t20.Value.Ratios.map e_tag_Ratio) from (g_tag_Value_p3 (g_tag_Entry_p1 (f0.at h_t20)))).mono (hw.now hF)) ((show FrN h 6 (elH h v0 6 (Int.toNat x17_2) 5) g_tag_Entry t20.Value.Entries from (g_tag_Value_p4 (g_tag_Entry_p1 (f0.at h_t20)))).mono (hw.now hF)) h_t49) Tryz.call17 rfl rfl rfl ?_
        refine l_val rfl rfl rfl (r_assign (v := .int .i64 t49) rfl) ?_
        refine l_nil ?_
        refine c_seq ?_
        refine c_region ?_
        refine l_val rfl rfl rfl (r_move (v := .int .i64 t49) rfl) ?_
        refine l_val rfl rfl rfl (r_eql rfl rfl) ?_
        refine l_nil ?_
        refine c_if (b := (decide (t49 = 0))) rfl (fun hb => ?_) (fun hb => ?_)
        ·have H47 := cnd_t hb H46; clear H46
         refine c_region ?_
         refine l_val rfl rfl rfl (r_field Tryz.runUnderlying65 rfl Tryz.sizeOf26 rfl rfl) ?_
         refine l_val rfl rfl rfl (r_field Tryz.runUnderlying26 rfl Tryz.sizeOf24 rfl rfl) ?_
         refine l_load1 (i := 0) (v := (elH h v0 6 (Int.toNat x17_2) 5)) Tryz.isAgg24 rfl rfl rfl rfl rfl ?_
         refine l_val rfl rfl rfl (r_move (v := .int .i64 a1) rfl) ?_
         obtain ⟨t56, h_t56, H48⟩ := bnd_some H47; clear H47
         refine l_val rfl rfl rfl (r_addG rfl rfl h_t56) ?_
         obtain ⟨t57, h_t57, H49⟩ := bnd_some H48; clear H48
         refine l_callG (fun w hF hS => ih (know_all w) ((show FrN h 6 (elH h v0 6 (Int.toNat x17_2) 5) g_tag_Entry t20.Value.Entries from (g_tag_Value_p4 (g_tag_Entry_p1 (f0.at h_t20)))).mono (hw.now hF)) h_t57) Tryz.call18 rfl rfl rfl ?_
         refine l_val rfl rfl rfl (r_assign (v := .int .i64 t57) rfl) ?_
         refine l_nil ?_
         refine c_close t57 () 0 [] (by exact ⟨rfl, rfl, rfl, rfl, rfl, rfl, trivial⟩) (by decide) rfl (by exact ⟨H49, trivial⟩) (Nat.lt_succ_self _)
        ·have H50 := cnd_f hb H46; clear H46
         refine c_skip ?_
         refine c_close t49 () 0 [] (by exact ⟨rfl, rfl, rfl, rfl, rfl, rfl, trivial⟩) (by decide) rfl (by exact ⟨H50, trivial⟩) (Nat.lt_succ_self _)
      ·rintro x7 _ gg H39 _
       replace H39 : tag_checkDir_j3 x17_2 next1 x7 = some r := H39
       refine c_tidyF [(0, v0), (1, .int .i64 a1), (7, .int .i64 x7), (15, v0), (16, .int .i64 (a0.length : Int)), (17, .int .i64 x17_2)] [] rfl rfl ?_
       refine c_seq ?_
       refine c_region ?_
       refine l_val rfl rfl rfl (r_move (v := .int .i64 x7) rfl) ?_
       refine l_val rfl rfl rfl (r_neq rfl rfl) ?_
       refine l_nil ?_
       refine c_if (b := (decide (x7 ≠ 0))) rfl (fun hb => ?_) (fun hb => ?_)
       ·have H40 := cnd_t hb H39; clear H39
        refine c_seq ?_
        refine c_region ?_
        refine l_val rfl rfl rfl (r_move (v := .int .i64 x7) rfl) ?_
        refine l_val rfl rfl rfl (r_assign (v := .int .i64 x7) rfl) ?_
        refine l_nil ?_
        refine c_ret ?_
        obtain rfl := Option.some.inj H40
        refine ret1 (v := .int .i64 x7) rfl rfl (fin rfl)
       ·have H41 := cnd_f hb H39; clear H39
        refine c_skip ?_
        refine c_region ?_
        obtain ⟨t61, h_t61, H42⟩ := bnd_some H41; clear H41
        refine l_val rfl rfl rfl (r_addG rfl rfl h_t61) ?_
        refine l_val rfl rfl rfl (r_move (v := .int .i64 t61) rfl) ?_
        refine l_nil ?_
        refine c_close t61 () m1 [] (by exact ⟨rfl, rfl, rfl, rfl, rfl, trivial⟩) (by decide) rfl (by exact ⟨(by subst hn1; exact H42), trivial⟩) (Nat.lt_succ_self _)
    ·have H60 := cnd_f hb H35; clear H35
     refine c_exit ?_
     refine c_seq ?_
     refine c_region ?_
     refine l_val rfl rfl rfl (r_assign (v := .int .i64 0) rfl) ?_
     refine l_nil ?_
     refine c_ret ?_
     obtain rfl := Option.some.inj H60
     refine ret1 (v := .int .i64 0) rfl rfl (fin rfl)
theorem k18 {a0 : (List T_tag_Entry)} {v0 : Value} {a1 : Int} {r : Int} {w : World} {h : Heap} (hw : Know h w noS) (f0 : FrN h 6 v0 g_tag_Entry a0) (H : tag_checkDir a0 a1 = some r) : Does Tryz.prog 18 (List.toArray [v0, .int .i64 a1]) w (fun v w' => v = (.int .i64 r) ∧ Grow w w') := by
 obtain ⟨mm, hm⟩ := fix_it (show fix (fun (self : ((List T_tag_Entry) × Int) → Option (Int)) (s : (List T_tag_Entry) × Int) => tag_checkDir_body self s.1 s.2) (a0, a1) = some r from H)
 exact k18_it mm hw f0 hm
theorem k5 {a0 : T_tag_Value} {v0_2 : Value} {v0_3 : Value} {v0_4 : Value} {r : Int} {w : World} {h : Heap} (hw : Know h w noS) (f0_2 : FrS h 1 v0_2 (a0.Ints.map e_i64)) (f0_3 : FrS h 2 v0_3 (a0.Ratios.map e_tag_Ratio)) (f0_4 : FrN h 6 v0_4 g_tag_Entry a0.Entries) (H : tag_CheckValue a0 = some r) : Does Tryz.prog 5 (List.toArray [.agg #[.int .i64 a0.Kind, str a0.Text, v0_2, v0_3, v0_4]]) w (fun v w' => v = (.int .i64 r) ∧ Grow w w') := by
 refine enter (n := 17) Tryz.func5 rfl rfl rfl noS [] (Sat.nil _ _) ?_
 refine c_seq ?_
 refine c_region ?_
 refine l_box (cs := [.int .i64 a0.Kind, str a0.Text, v0_2, v0_3, v0_4]) rfl rfl rfl rfl (fun b1 => ?_)
 refine l_val rfl rfl rfl (r_assign (v := .int .i64 0) rfl) ?_
 refine l_nil ?_
 refine c_seq ?_
 refine c_seq ?_
 refine c_region ?_
 refine l_val rfl rfl rfl (r_field Tryz.runUnderlying26 rfl Tryz.sizeOf3 rfl rfl) ?_
 refine l_load1 (i := 0) (v := .int .i64 a0.Kind) Tryz.isAgg3 rfl rfl rfl rfl rfl ?_
 refine l_val rfl rfl rfl (r_neq rfl rfl) ?_
 refine l_nil ?_
 refine c_if (b := (decide (a0.Kind ≠ 13))) rfl (fun hb => ?_) (fun hb => ?_)
 ·have H8 := cnd_t hb H; clear H
  refine c_seq ?_
  refine c_region ?_
  refine l_loadN (i := 0) (vs := [.int .i64 a0.Kind, str a0.Text, v0_2, v0_3, v0_4]) Tryz.isAgg26 Tryz.sizeOf26 rfl rfl rfl rfl rfl ?_
  obtain ⟨t8, h_t8, H9⟩ := bnd_some H8; clear H8
  refine l_callG (fun w hF hS => k16 (know_all w) (f0_2.mono (hw.now hF)) (f0_3.mono (hw.now hF)) (f0_4.mono (hw.now hF)) h_t8) Tryz.call16 rfl rfl rfl ?_
  refine l_val rfl rfl rfl (r_assign (v := .int .i64 t8) rfl) ?_
  refine l_nil ?_
  refine c_ret ?_
  obtain rfl := Option.some.inj H9
  refine ret1 (v := .int .i64 t8) rfl rfl (fin rfl)
 ·have H10 := cnd_f hb H; clear H
  refine c_skip ?_
  refine c_seq ?_
  refine c_seq ?_
  refine c_region ?_
  refine l_loadN (i := 0) (vs := [.int .i64 a0.Kind, str a0.Text, v0_2, v0_3, v0_4]) Tryz.isAgg26 Tryz.sizeOf26 rfl rfl rfl rfl rfl ?_
  obtain ⟨t10, h_t10, H11⟩ := bnd_some H10; clear H10
  refine l_callG (fun w hF hS => k17 (know_all w) (f0_2.mono (hw.now hF)) (f0_3.mono (hw.now hF)) (f0_4.mono (hw.now hF)) h_t10) Tryz.call17 rfl rfl rfl ?_
  refine l_val rfl rfl rfl (r_assign (v := .int .i64 t10) rfl) ?_
  refine l_nil ?_
  refine c_seq ?_
  refine c_region ?_
  refine l_val rfl rfl rfl (r_move (v := .int .i64 t10) rfl) ?_
  refine l_val rfl rfl rfl (r_neq rfl rfl) ?_
  refine l_nil ?_
  refine c_if (b := (decide (t10 ≠ 0))) rfl (fun hb => ?_) (fun hb => ?_)
  ·have H12 := cnd_t hb H11; clear H11
   refine c_seq ?_
   refine c_region ?_
   refine l_val rfl rfl rfl (r_move (v := .int .i64 t10) rfl) ?_
   refine l_val rfl rfl rfl (r_assign (v := .int .i64 t10) rfl) ?_
   refine l_nil ?_
   refine c_ret ?_
   obtain rfl := Option.some.inj H12
   refine ret1 (v := .int .i64 t10) rfl rfl (fin rfl)
  ·have H13 := cnd_f hb H11; clear H11
   refine c_skip ?_
   refine c_seq ?_
   refine c_region ?_
   refine l_val rfl rfl rfl (r_field Tryz.runUnderlying26 rfl Tryz.sizeOf24 rfl rfl) ?_
   refine l_load1 (i := 0) (v := v0_4) Tryz.isAgg24 rfl rfl rfl rfl rfl ?_
   obtain ⟨t16, h_t16, H14⟩ := bnd_some H13; clear H13
   refine l_callG (fun w hF hS => k18 (know_all w) (f0_4.mono (hw.now hF)) h_t16) Tryz.call18 rfl rfl rfl ?_
   refine l_val rfl rfl rfl (r_assign (v := .int .i64 t16) rfl) ?_
   refine l_nil ?_
   refine c_ret ?_
   obtain rfl := Option.some.inj H14
   refine ret1 (v := .int .i64 t16) rfl rfl (fin rfl)
theorem k19 {r : (List (Int × (List UInt8)))} {w : World} {h : Heap} (hw : Know h w noS) (H : R_kindWords = some r) : Does Tryz.prog 19 (List.toArray []) w (fun v w' => ∃ x : Nat, v = (.map (some x)) ∧ Turn w w' noS (mapC (fun x_ : Int => .int .i64 x_) (fun x_ : (List UInt8) => str x_) x r)) := by
 refine enter (n := 3) Tryz.func19 rfl rfl rfl noS [] (Sat.nil _ _) ?_
 refine c_seq ?_
 refine c_region ?_
 refine l_val rfl rfl rfl (r_assign (v := .map none) rfl) ?_
 refine l_nil ?_
 refine c_seq ?_
 refine c_region ?_
 refine l_make (rds := []) (makes_map (fk := (fun x_ : Int => .int .i64 x_)) (fv := (fun x_ : (List UInt8) => str x_))) rfl rfl rfl (fun b1 => ?_)
 refine l_turn0 (turns_mset (u := true) (i := 0) (rds := []) (fk := (fun x_ : Int => .int .i64 x_)) (fv := (fun x_ : (List UInt8) => str x_)) (k := 1) (v := [98, 121, 116, 101]) keyF_int (.inl rfl) Tryz.underlying45 Tryz.underlying3 rfl rfl rfl rfl) rfl rfl (fun _ => ?_)
 refine l_turn0 (turns_mset (u := true) (i := 0) (rds := []) (fk := (fun x_ : Int => .int .i64 x_)) (fv := (fun x_ : (List UInt8) => str x_)) (k := 2) (v := [97, 115, 99, 105, 105]) keyF_int (.inl rfl) Tryz.underlying45 Tryz.underlying3 rfl rfl rfl rfl) rfl rfl (fun _ => ?_)
 refine l_turn0 (turns_mset (u := true) (i := 0) (rds := []) (fk := (fun x_ : Int => .int .i64 x_)) (fv := (fun x_ : (List UInt8) => str x_)) (k := 3) (v := [115, 104, 111, 114, 116]) keyF_int (.inl rfl) Tryz.underlying45 Tryz.underlying3 rfl rfl rfl rfl) rfl rfl (fun _ => ?_)
 refine l_turn0 (turns_mset (u := true) (i := 0) (rds := []) (fk := (fun x_ : Int => .int .i64 x_)) (fv := (fun x_ : (List UInt8) => str x_)) (k := 4) (v := [108, 111, 110, 103]) keyF_int (.inl rfl) Tryz.underlying45 Tryz.underlying3 rfl rfl rfl rfl) rfl rfl (fun _ => ?_)
 refine l_turn0 (turns_mset (u := true) (i := 0) (rds := []) (fk := (fun x_ : Int => .int .i64 x_)) (fv := (fun x_ : (List UInt8) => str x_)) (k := 5) (v := [114, 97, 116, 105, 111]) keyF_int (.inl rfl) Tryz.underlying45 Tryz.underlying3 rfl rfl rfl rfl) rfl rfl (fun _ => ?_)
 refine l_turn0 (turns_mset (u := true) (i := 0) (rds := []) (fk := (fun x_ : Int => .int .i64 x_)) (fv := (fun x_ : (List UInt8) => str x_)) (k := 7) (v := [111, 112, 97, 113, 117, 101]) keyF_int (.inl rfl) Tryz.underlying45 Tryz.underlying3 rfl rfl rfl rfl) rfl rfl (fun _ => ?_)
 refine l_turn0 (turns_mset (u := true) (i := 0) (rds := []) (fk := (fun x_ : Int => .int .i64 x_)) (fv := (fun x_ : (List UInt8) => str x_)) (k := 9) (v := [115, 105, 103, 110, 101, 100]) keyF_int (.inl rfl) Tryz.underlying45 Tryz.underlying3 rfl rfl rfl rfl) rfl rfl (fun _ => ?_)
 refine l_val rfl rfl rfl (r_move (v := .map (some b1)) rfl) ?_
 refine l_val rfl rfl rfl (r_assign (v := .map (some b1)) rfl) ?_
 refine l_nil ?_
 refine c_ret ?_
 obtain rfl := Option.some.inj H
 refine ret1 (v := .map (some b1)) rfl rfl (finX b1 (i := 0) rfl rfl (Imp.refl _))
theorem k20 {a0 : (List UInt8)} {r : (List UInt8)} (H : R_base16 a0 = some r) : Ret Tryz.prog 20 [str a0] (str r) := by
 refine enterRet (n := 35) Tryz.func20 rfl rfl rfl (fun wd => ?_)
 refine c_seq ?_
 refine c_region ?_
 refine l_val rfl rfl rfl (r_assign (v := str []) rfl) ?_
 refine l_nil ?_
 refine c_seq ?_
 refine c_region ?_
 refine l_val rfl rfl rfl (r_assign (v := str []) rfl) ?_
 refine l_nil ?_
 refine c_seq ?_
 refine c_seq ?_
 refine c_region ?_
 refine l_val rfl rfl rfl (r_move (v := str a0) rfl) ?_
 refine l_val rfl rfl rfl (r_lenT Tryz.underlying9 rfl) ?_
 refine l_val rfl rfl rfl (r_move (v := .int .i64 0) rfl) ?_
 refine l_nil ?_
 refine c_block ?_
 refine c_fix (σ := (List UInt8) × Int) (τ := Unit) (fun next1 s => R_base16_l1 a0 next1 s.1 s.2) (fun s t => [(0, str a0), (3, str s.1), (6, .int .i64 (a0.length : Int)), (7, .int .i64 s.2)]) (fun s t => []) (fun s t => True) ([], 0) () [] H (by exact trivial) (by exact ⟨rfl, rfl, rfl, rfl, trivial⟩) (by decide) rfl ?_
 rintro ⟨x3_2, x7_2⟩ _ m1 gg H15 _
 clear H
 replace H15 : R_base16_l1 a0 (it (fun next1 s => R_base16_l1 a0 next1 s.1 s.2) m1) x3_2 x7_2 = some r := H15
 generalize hn1 : it (fun next1 s => R_base16_l1 a0 next1 s.1 s.2) m1 = next1 at H15
 refine c_tidyF [(0, str a0), (3, str x3_2), (6, .int .i64 (a0.length : Int)), (7, .int .i64 x7_2)] [] rfl rfl ?_
 refine c_seq ?_
 refine c_region ?_
 refine l_val rfl rfl rfl (r_lss rfl rfl) ?_
 refine l_nil ?_
 refine c_seq ?_
 refine c_if (b := (decide (x7_2 < (a0.length : Int)))) rfl (fun hb => ?_) (fun hb => ?_)
 ·have H16 := cnd_t hb H15; clear H15
  refine c_skip ?_
  refine c_seq ?_
  refine c_block ?_
  refine c_seq ?_
  refine c_region ?_
  refine l_val rfl rfl rfl (r_move (v := .int .i64 x7_2) rfl) ?_
  refine l_val rfl rfl rfl (r_assign (v := .int .i64 x7_2) rfl) ?_
  refine l_nil ?_
  exact c_regionD (Kd.p :: Kd.p :: Kd.p :: Kd.p :: Kd.p :: Kd.p :: Kd.p :: Kd.p :: Kd.p :: Kd.p :: Kd.p :: Kd.p :: Kd.p :: Kd.p :: Kd.p :: Kd.p :: Kd.p :: Kd.p :: Kd.p :: Kd.p :: Kd.p :: Kd.p :: Kd.p :: Kd.p :: []) 0 mixed (by
   refine d_val rfl rfl (r_move (v := str x3_2) rfl) ?_
   refine d_val rfl rfl (r_move (v := str a0) rfl) ?_
   refine d_val rfl rfl (r_move (v := .int .i64 x7_2) rfl) ?_
   have h_t13 := bnd_val H16
   have H17 := bnd_rest H16
   refine d_val rfl rfl (r_octG Tryz.underlying9 rfl rfl h_t13) ?_
   have h_t14 := bnd_val H17
   have H18 := bnd_rest H17
   refine d_val rfl rfl (r_shrG rfl rfl rfl h_t14) ?_
   refine d_val rfl rfl (r_move (v := str a0) rfl) ?_
   refine d_val rfl rfl (r_move (v := .int .i64 x7_2) rfl) ?_
   have h_t17 := bnd_val H18
   have H19 := bnd_rest H18
   refine d_val rfl rfl (r_octG Tryz.underlying9 rfl rfl h_t17) ?_
   have h_t18 := bnd_val H19
   have H20 := bnd_rest H19
   refine d_val rfl rfl (r_shrG rfl rfl rfl h_t18) ?_
   refine d_val rfl rfl (r_addW rfl rfl (wr_u8 _)) ?_
   have h_t20 := bnd_val H20
   have H21 := bnd_rest H20
   refine d_val rfl rfl (r_cutTG Tryz.underlying9 rfl rfl rfl h_t20) ?_
   refine d_val rfl rfl (r_move (v := str a0) rfl) ?_
   refine d_val rfl rfl (r_move (v := .int .i64 x7_2) rfl) ?_
   have h_t23 := bnd_val H21
   have H22 := bnd_rest H21
   refine d_val rfl rfl (r_octG Tryz.underlying9 rfl rfl h_t23) ?_
   refine d_val rfl rfl (r_bitsAnd (bits := 8) rfl rfl rfl (wr_u8 _)) ?_
   refine d_val rfl rfl (r_move (v := str a0) rfl) ?_
   refine d_val rfl rfl (r_move (v := .int .i64 x7_2) rfl) ?_
   have h_t27 := bnd_val H22
   have H23 := bnd_rest H22
   refine d_val rfl rfl (r_octG Tryz.underlying9 rfl rfl h_t27) ?_
   refine d_val rfl rfl (r_bitsAnd (bits := 8) rfl rfl rfl (wr_u8 _)) ?_
   refine d_val rfl rfl (r_addW rfl rfl (wr_u8 _)) ?_
   have h_t30 := bnd_val H23
   have H24 := bnd_rest H23
   refine d_val rfl rfl (r_cutTG Tryz.underlying9 rfl rfl rfl h_t30) ?_
   have h_t31 := bnd_val H24
   have H25 := bnd_rest H24
   refine d_val rfl rfl (r_concatG rfl rfl h_t31) ?_
   have h_t32 := bnd_val H25
   have H26 := bnd_rest H25
   refine d_val rfl rfl (r_concatG rfl rfl h_t32) ?_
   refine d_val rfl rfl (r_assign (v := str (val (gCat x3_2 (val (gCat (val (gCut [48, 49, 50, 51, 52, 53, 54, 55, 56, 57, 97, 98, 99, 100, 101, 102] (val (gShr 8 (val (gOct a0 x7_2)) 4)) (wU8 ((val (gShr 8 (val (gOct a0 x7_2)) 4)) + 1)))) (val (gCut [48, 49, 50, 51, 52, 53, 54, 55, 56, 57, 97, 98, 99, 100, 101, 102] (wU8 (bAnd 8 (val (gOct a0 x7_2)) 15)) (wU8 ((wU8 (bAnd 8 (val (gOct a0 x7_2)) 15)) + 1))))))))) rfl) ?_
   refine d_nil ?_
   refine c_region ?_
   obtain ⟨t33, h_t33, H27⟩ := bnd_some H26; clear H26
   refine l_val rfl rfl rfl (r_addG rfl rfl h_t33) ?_
   refine l_val rfl rfl rfl (r_move (v := .int .i64 t33) rfl) ?_
   refine l_nil ?_
   refine c_close ((val (gCat x3_2 (val (gCat (val (gCut [48, 49, 50, 51, 52, 53, 54, 55, 56, 57, 97, 98, 99, 100, 101, 102] (val (gShr 8 (val (gOct a0 x7_2)) 4)) (wU8 ((val (gShr 8 (val (gOct a0 x7_2)) 4)) + 1)))) (val (gCut [48, 49, 50, 51, 52, 53, 54, 55, 56, 57, 97, 98, 99, 100, 101, 102] (wU8 (bAnd 8 (val (gOct a0 x7_2)) 15)) (wU8 ((wU8 (bAnd 8 (val (gOct a0 x7_2)) 15)) + 1)))))))), t33) () m1 [] (by exact ⟨rfl, rfl, rfl, rfl, trivial⟩) (by decide) rfl (by exact ⟨(by subst hn1; exact H27), trivial⟩) (Nat.lt_succ_self _)
   ) (by kernel_rfl)
 ·have H28 := cnd_f hb H15; clear H15
  refine c_exit ?_
  refine c_seq ?_
  refine c_region ?_
  refine l_val rfl rfl rfl (r_move (v := str x3_2) rfl) ?_
  refine l_val rfl rfl rfl (r_assign (v := str x3_2) rfl) ?_
  refine l_nil ?_
  refine c_ret ?_
  obtain rfl := Option.some.inj H28
  refine ret1 (v := str x3_2) rfl rfl (fin rfl)
theorem k21 {a0 : Int} {r : (List UInt8)} {w : World} {h : Heap} (hw : Know h w noS) (tb_pow10 : TabH Tryz.prog h "internal/strconv.uint64pow10" .u64 Lib.pow10Tab) (H : gItoa a0 = some r) : Does Tryz.prog 21 (List.toArray [.int .i64 a0]) w (fun v w' => v = (str r) ∧ Grow w w') :=
  itoa_does (ρ := Go.Proofs.Tryz.laysM171_ren) Go.Proofs.Tryz.laysM171 hw tb_pow10 H

theorem k22 {a0 : List (List UInt8)} {a1 : (List UInt8)} {v0 : Value} {r : (List UInt8)} {w : World} {h : Heap} (hw : Know h w noS) (f0 : FrS h 1 v0 (a0.map e_string)) (H : gJoin a0 a1 = some r) : Does Tryz.prog 22 (List.toArray [v0, str a1]) w (fun v w' => v = (str r) ∧ Grow w w') :=
  join_does (ρ := Go.Proofs.Tryz.lays156_ren) Go.Proofs.Tryz.lays156 Go.Proofs.Tryz.Builder_Extra_156 hw f0 H

theorem k6 {a0 : T_tag_Value} {v0_2 : Value} {v0_3 : Value} {v0_4 : Value} {r : (List UInt8)} {w : World} {h : Heap} (hw : Know h w noS) (f0_2 : FrS h 1 v0_2 (a0.Ints.map e_i64)) (f0_3 : FrS h 2 v0_3 (a0.Ratios.map e_tag_Ratio)) (f0_4 : FrN h 6 v0_4 g_tag_Entry a0.Entries) (tb_pow10 : TabH Tryz.prog h "internal/strconv.uint64pow10" .u64 Lib.pow10Tab) (H : R_ValueTextOf a0 = some r) : Does Tryz.prog 6 (List.toArray [.agg #[.int .i64 a0.Kind, str a0.Text, v0_2, v0_3, v0_4]]) w (fun v w' => v = (str r) ∧ Grow w w') := by
 refine enter (n := 56) Tryz.func6 rfl rfl rfl noS [] (Sat.nil _ _) ?_
 refine c_seq ?_
 refine c_region ?_
 refine l_box (cs := [.int .i64 a0.Kind, str a0.Text, v0_2, v0_3, v0_4]) rfl rfl rfl rfl (fun b6 => ?_)
 refine l_val rfl rfl rfl (r_assign (v := str []) rfl) ?_
 refine l_nil ?_
 refine c_seq ?_
 exact c_regionD (Kd.t 1 [] _ _ :: Kd.p :: Kd.d [0] _ :: Kd.d [1] _ :: Kd.ns 2 [_] 9 1 :: Kd.p :: []) 2 mixed (by
  have h_t8 := bnd_val H
  have H27 := bnd_rest H
  refine d_make (Cv := fun v => mapC (fun x_ : Int => .int .i64 x_) (fun x_ : (List UInt8) => str x_) (mapB v) (val R_kindWords)) 0 (makes_call (G := fun x : Nat => .map (some x)) (C := fun x : Nat => mapC (fun x_ : Int => .int .i64 x_) (fun x_ : (List UInt8) => str x_) x (val R_kindWords)) (fun w L' hF hS hi => k19 (know_all w)  h_t8) Tryz.call19 rfl) (fun _ => rfl) rfl rfl rfl (fun p => ?_)
  refine d_val rfl rfl (r_field Tryz.runUnderlying26 rfl Tryz.sizeOf3 rfl rfl) ?_
  refine d_load1 (i := 0) (v := .int .i64 a0.Kind) Tryz.isAgg3 rfl rfl rfl rfl ?_
  refine d_readD (fun w L' hF hS hi => run_lookup (i := 1) (fk := (fun x_ : Int => .int .i64 x_)) (fv := (fun x_ : (List UInt8) => str x_)) (k := a0.Kind) (z := []) keyF_int Tryz.underlying45 Tryz.underlying3 Tryz.zeroValue9 rfl rfl hS ((hi 1 (by simp)).trans rfl)) rfl rfl ?_
  refine d_newS rfl rfl (run_buildSlice (vs := [str ((mGet (val R_kindWords) a0.Kind).getD [])]) (cs := [str ((mGet (val R_kindWords) a0.Kind).getD [])]) Tryz.underlying33 Tryz.sizeOf9 Tryz.zeroValue9 rfl rfl rfl rfl rfl) rfl (fun b7 => ?_)
  refine d_val rfl rfl (r_assign (v := .slice (some ⟨b7, 0, none⟩) 1 1) rfl) ?_
  refine d_nil ?_
  refine c_meet (r := r) (σ := (List (List UInt8))) (τ := (Option Addr × Nat)) (fun s => R_ValueTextOf_j1 a0 s) (fun s t => [(1, .pointer (some ⟨b6, 0, none⟩)), (3, .slice t.1 s.length t.2)]) (fun s t => [cellsC b6 [.int .i64 a0.Kind, str a0.Text, v0_2, v0_3, v0_4] 26, rowV 9 1 (.slice t.1 s.length t.2) s.length (s.map e_string)]) (fun s t => True) ?_ ?_
  ·refine c_seq ?_
   refine c_region ?_
   refine l_val rfl rfl rfl (r_field Tryz.runUnderlying26 rfl Tryz.sizeOf9 rfl rfl) ?_
   refine l_load1 (i := 0) (v := str a0.Text) Tryz.isAgg9 rfl rfl rfl rfl rfl ?_
   refine l_val rfl rfl rfl (r_neqT rfl rfl) ?_
   refine l_nil ?_
   refine c_if (b := (decide (a0.Text ≠ []))) rfl (fun hb => ?_) (fun hb => ?_)
   ·have H49 := cnd_t hb H27; clear H27
    refine c_region ?_
    refine l_val rfl rfl rfl (r_move (v := .slice (some ⟨b7, 0, none⟩) 1 1) rfl) ?_
    refine l_val rfl rfl rfl (r_field Tryz.runUnderlying26 rfl Tryz.sizeOf9 rfl rfl) ?_
    refine l_load1 (i := 0) (v := str a0.Text) Tryz.isAgg9 rfl rfl rfl rfl rfl ?_
    obtain ⟨t19, h_t19, H50⟩ := bnd_some H49; clear H49
    refine l_call (k20 h_t19) Tryz.call20 rfl rfl rfl ?_
    refine l_buildSlice (vs := [str t19]) (cs := [str t19]) Tryz.underlying33 Tryz.sizeOf9 Tryz.zeroValue9 rfl rfl rfl rfl rfl rfl rfl (fun b11 => ?_)
    refine c_imp 2 rfl (imp_box (m := 1) (E := 9) (sz := 1) (xs := (([((mGet (val R_kindWords) a0.Kind).getD [])] : List (List UInt8))).map e_string) rfl rfl rfl ⟨rfl, by decide⟩) ?_
    obtain ⟨l21, h_l21, H51⟩ := bnd_some H50; clear H50
    refine l_turn (turns_appG (i := 2) (hn := rfl) (rds := [3]) (p := ((some ⟨b7, 0, none⟩, 1) : Option Addr × Nat)) (sz := 1) (by_ := 16) (f := e_string) (ys := ([((mGet (val R_kindWords) a0.Kind).getD [])] : List (List UInt8))) (ls := ([t19] : List (List UInt8))) (V := .slice (some ⟨b11, 0, none⟩) 1 1) Tryz.underlying33 (info_of Tryz.typeInfo9) rfl rfl rfl rfl rfl rfl rfl rfl rfl rfl (fun w L' hF hS hi => row_box (i := 3) hS ((hi 3 (by simp)).trans rfl) rfl rfl) (fun _ => rfl) (fun _ => rfl) h_l21) rfl rfl rfl (fun p_9 => ?_)
    refine l_val rfl rfl rfl (r_assign (v := .slice p_9.1 l21.length p_9.2) rfl) ?_
    refine l_nil ?_
    refine c_close l21 p_9 0 [0, 2] (by exact ⟨rfl, rfl, trivial⟩) (by decide) rfl (by exact ⟨H51, trivial⟩) (Nat.lt_succ_self _)
   ·have H52 := cnd_f hb H27; clear H27
    refine c_skip ?_
    refine c_imp 2 rfl (imp_box (m := 1) (E := 9) (sz := 1) (xs := (([((mGet (val R_kindWords) a0.Kind).getD [])] : List (List UInt8))).map e_string) rfl rfl rfl ⟨rfl, by decide⟩) ?_
    refine c_close ([((mGet (val R_kindWords) a0.Kind).getD [])] : List (List UInt8)) ((some ⟨b7, 0, none⟩, 1) : Option Addr × Nat) 0 [0, 2] (by exact ⟨rfl, rfl, trivial⟩) (by decide) rfl (by exact ⟨H52, trivial⟩) (Nat.lt_succ_self _)
  ·rintro l p_2 gg H28 _
   replace H28 : R_ValueTextOf_j1 a0 l = some r := H28
   refine c_tidyF [(1, .pointer (some ⟨b6, 0, none⟩)), (3, .slice p_2.1 l.length p_2.2)] [cellsC b6 [.int .i64 a0.Kind, str a0.Text, v0_2, v0_3, v0_4] 26, rowV 9 1 (.slice p_2.1 l.length p_2.2) l.length (l.map e_string)] rfl rfl ?_
   refine c_meet (r := r) (σ := (List (List UInt8))) (τ := (Option Addr × Nat)) (fun s => R_ValueTextOf_j2 a0 s) (fun s t => [(1, .pointer (some ⟨b6, 0, none⟩)), (3, .slice t.1 s.length t.2)]) (fun s t => [cellsC b6 [.int .i64 a0.Kind, str a0.Text, v0_2, v0_3, v0_4] 26, rowV 9 1 (.slice t.1 s.length t.2) s.length (s.map e_string)]) (fun s t => True) ?_ ?_
   ·refine c_seq ?_
    refine c_region ?_
    refine l_val rfl rfl rfl (r_field Tryz.runUnderlying26 rfl Tryz.sizeOf22 rfl rfl) ?_
    refine l_load1 (i := 0) (v := v0_2) Tryz.isAgg22 rfl rfl rfl rfl rfl ?_
    refine l_val rfl rfl rfl (r_lenF Tryz.underlying22 rfl f0_2 rfl) ?_
    refine l_val rfl rfl rfl (r_move (v := .int .i64 0) rfl) ?_
    refine l_nil ?_
    refine c_block ?_
    refine c_fix (σ := Int × (List (List UInt8))) (τ := (Option Addr × Nat)) (fun next5 s => R_ValueTextOf_l5 a0 next5 s.1 s.2) (fun s t => [(1, .pointer (some ⟨b6, 0, none⟩)), (3, .slice t.1 s.2.length t.2), (23, v0_2), (24, .int .i64 (a0.Ints.length : Int)), (25, .int .i64 s.1)]) (fun s t => [cellsC b6 [.int .i64 a0.Kind, str a0.Text, v0_2, v0_3, v0_4] 26, rowV 9 1 (.slice t.1 s.2.length t.2) s.2.length (s.2.map e_string)]) (fun s t => True) (0, l) p_2 [0, 1] H28 (by exact trivial) (by exact ⟨rfl, rfl, rfl, rfl, rfl, trivial⟩) (by decide) rfl ?_
    rintro ⟨x25_2, l_7⟩ p_7 m5 gg H42 _
    clear H28
    replace H42 : R_ValueTextOf_l5 a0 (it (fun next5 s => R_ValueTextOf_l5 a0 next5 s.1 s.2) m5) x25_2 l_7 = some r := H42
    generalize hn5 : it (fun next5 s => R_ValueTextOf_l5 a0 next5 s.1 s.2) m5 = next5 at H42
    refine c_tidyF [(1, .pointer (some ⟨b6, 0, none⟩)), (3, .slice p_7.1 l_7.length p_7.2), (23, v0_2), (24, .int .i64 (a0.Ints.length : Int)), (25, .int .i64 x25_2)] [cellsC b6 [.int .i64 a0.Kind, str a0.Text, v0_2, v0_3, v0_4] 26, rowV 9 1 (.slice p_7.1 l_7.length p_7.2) l_7.length (l_7.map e_string)] rfl rfl ?_
    refine c_seq ?_
    refine c_region ?_
    refine l_val rfl rfl rfl (r_lss rfl rfl) ?_
    refine l_nil ?_
    refine c_seq ?_
    refine c_if (b := (decide (x25_2 < (a0.Ints.length : Int)))) rfl (fun hb => ?_) (fun hb => ?_)
    ·have H43 := cnd_t hb H42; clear H42
     refine c_skip ?_
     refine c_seq ?_
     refine c_block ?_
     refine c_seq ?_
     refine c_region ?_
     obtain ⟨t27, h_t27, H44⟩ := bnd_some H43; clear H43
     refine l_val rfl rfl rfl (r_indexF Tryz.underlying22 Tryz.sizeOf3 rfl rfl f0_2 h_t27) ?_
     refine l_read (fun w hF hS => run_loadG1 (f := e_i64) (i := x25_2) (sz := 1) (j := 0) (v := .int .i64 t27) Tryz.isAgg3 rfl rfl (f0_2.row (hw.now hF)) h_t27 rfl) rfl rfl rfl ?_
     refine l_val rfl rfl rfl (r_assign (v := .int .i64 t27) rfl) ?_
     refine l_nil ?_
     refine c_region ?_
     refine l_val rfl rfl rfl (r_move (v := .slice p_7.1 l_7.length p_7.2) rfl) ?_
     refine l_val rfl rfl rfl (r_move (v := .int .i64 t27) rfl) ?_
     obtain ⟨t31, h_t31, H45⟩ := bnd_some H44; clear H44
     refine l_callG (fun w hF hS => k21 (know_all w) (tb_pow10.mono (hw.now hF)) h_t31) Tryz.call21 rfl rfl rfl ?_
     refine l_buildSlice (vs := [str t31]) (cs := [str t31]) Tryz.underlying33 Tryz.sizeOf9 Tryz.zeroValue9 rfl rfl rfl rfl rfl rfl rfl (fun b10 => ?_)
     obtain ⟨l33, h_l33, H46⟩ := bnd_some H45; clear H45
     refine l_turn (turns_appG (i := 1) (hn := rfl) (rds := [2]) (p := p_7) (sz := 1) (by_ := 16) (f := e_string) (ys := l_7) (ls := ([t31] : List (List UInt8))) (V := .slice (some ⟨b10, 0, none⟩) 1 1) Tryz.underlying33 (info_of Tryz.typeInfo9) rfl rfl rfl rfl rfl rfl rfl rfl rfl rfl (fun w L' hF hS hi => row_box (i := 2) hS ((hi 2 (by simp)).trans rfl) rfl rfl) (fun _ => rfl) (fun _ => rfl) h_l33) rfl rfl rfl (fun p_8 => ?_)
     refine l_val rfl rfl rfl (r_assign (v := .slice p_8.1 l33.length p_8.2) rfl) ?_
     refine l_nil ?_
     refine c_region ?_
     obtain ⟨t34, h_t34, H47⟩ := bnd_some H46; clear H46
     refine l_val rfl rfl rfl (r_addG rfl rfl h_t34) ?_
     refine l_val rfl rfl rfl (r_move (v := .int .i64 t34) rfl) ?_
     refine l_nil ?_
     refine c_close (t34, l33) p_8 m5 [0, 1] (by exact ⟨rfl, rfl, rfl, rfl, rfl, trivial⟩) (by decide) rfl (by exact ⟨(by subst hn5; exact H47), trivial⟩) (Nat.lt_succ_self _)
    ·have H48 := cnd_f hb H42; clear H42
     refine c_exit ?_
     refine c_close l_7 p_7 0 [0, 1] (by exact ⟨rfl, rfl, trivial⟩) (by decide) rfl (by exact ⟨H48, trivial⟩) (Nat.lt_succ_self _)
   ·rintro l_2 p_3 gg H29 _
    replace H29 : R_ValueTextOf_j2 a0 l_2 = some r := H29
    refine c_tidyF [(1, .pointer (some ⟨b6, 0, none⟩)), (3, .slice p_3.1 l_2.length p_3.2)] [cellsC b6 [.int .i64 a0.Kind, str a0.Text, v0_2, v0_3, v0_4] 26, rowV 9 1 (.slice p_3.1 l_2.length p_3.2) l_2.length (l_2.map e_string)] rfl rfl ?_
    refine c_meet (r := r) (σ := (List (List UInt8))) (τ := (Option Addr × Nat)) (fun s => R_ValueTextOf_j3 s) (fun s t => [(3, .slice t.1 s.length t.2)]) (fun s t => [rowV 9 1 (.slice t.1 s.length t.2) s.length (s.map e_string)]) (fun s t => True) ?_ ?_
    ·refine c_seq ?_
     refine c_region ?_
     refine l_val rfl rfl rfl (r_field Tryz.runUnderlying26 rfl Tryz.sizeOf23 rfl rfl) ?_
     refine l_load1 (i := 0) (v := v0_3) Tryz.isAgg23 rfl rfl rfl rfl rfl ?_
     refine l_val rfl rfl rfl (r_lenF Tryz.underlying23 rfl f0_3 rfl) ?_
     refine l_val rfl rfl rfl (r_move (v := .int .i64 0) rfl) ?_
     refine l_nil ?_
     refine c_block ?_
     refine c_sel [1] [rowV 9 1 (.slice p_3.1 l_2.length p_3.2) l_2.length (l_2.map e_string)] rfl (by decide) ?_
     refine c_fix (σ := Int × (List (List UInt8))) (τ := (Option Addr × Nat)) (fun next4 s => R_ValueTextOf_l4 a0 next4 s.1 s.2) (fun s t => [(3, .slice t.1 s.2.length t.2), (36, v0_3), (37, .int .i64 (a0.Ratios.length : Int)), (38, .int .i64 s.1)]) (fun s t => [rowV 9 1 (.slice t.1 s.2.length t.2) s.2.length (s.2.map e_string)]) (fun s t => True) (0, l_2) p_3 [0] H29 (by exact trivial) (by exact ⟨rfl, rfl, rfl, rfl, trivial⟩) (by decide) rfl ?_
     rintro ⟨x38_2, l_5⟩ p_5 m4 gg H32 _
     clear H29
     replace H32 : R_ValueTextOf_l4 a0 (it (fun next4 s => R_ValueTextOf_l4 a0 next4 s.1 s.2) m4) x38_2 l_5 = some r := H32
     generalize hn4 : it (fun next4 s => R_ValueTextOf_l4 a0 next4 s.1 s.2) m4 = next4 at H32
     refine c_tidyF [(3, .slice p_5.1 l_5.length p_5.2), (36, v0_3), (37, .int .i64 (a0.Ratios.length : Int)), (38, .int .i64 x38_2)] [rowV 9 1 (.slice p_5.1 l_5.length p_5.2) l_5.length (l_5.map e_string)] rfl rfl ?_
     refine c_seq ?_
     refine c_region ?_
     refine l_val rfl rfl rfl (r_lss rfl rfl) ?_
     refine l_nil ?_
     refine c_seq ?_
     refine c_if (b := (decide (x38_2 < (a0.Ratios.length : Int)))) rfl (fun hb => ?_) (fun hb => ?_)
     ·have H33 := cnd_t hb H32; clear H32
      refine c_skip ?_
      refine c_seq ?_
      refine c_block ?_
      refine c_seq ?_
      refine c_region ?_
      obtain ⟨t40, h_t40, H34⟩ := bnd_some H33; clear H33
      refine l_val rfl rfl rfl (r_indexF Tryz.underlying23 Tryz.sizeOf42 rfl rfl f0_3 h_t40) ?_
      refine l_read (fun w hF hS => run_loadGN (f := e_tag_Ratio) (i := x38_2) (sz := 2) (j := 0) (vs := [.int .i64 t40.Num, .int .i64 t40.Den]) Tryz.isAgg42 Tryz.sizeOf42 rfl rfl (f0_3.row (hw.now hF)) h_t40 rfl) rfl rfl rfl ?_
      refine l_alloc (cs := [.int .i64 0, .int .i64 0]) Tryz.zeroValue42 rfl rfl rfl (fun b8 => ?_)
      refine l_store (i := 1) (vs := [.int .i64 t40.Num, .int .i64 t40.Den]) (cs' := [.int .i64 t40.Num, .int .i64 t40.Den]) Tryz.sizeOf42 rfl rfl rfl rfl rfl rfl rfl rfl rfl ?_
      refine l_nil ?_
      exact c_regionD (Kd.p :: Kd.p :: Kd.d [1] _ :: Kd.d [] _ :: Kd.p :: Kd.p :: Kd.d [1] _ :: Kd.d [] _ :: Kd.p :: Kd.ns 2 [_] 9 1 :: Kd.t 0 [2] _ _ :: Kd.p :: []) 1 mixed (by
       refine d_val rfl rfl (r_move (v := .slice p_5.1 l_5.length p_5.2) rfl) ?_
       refine d_val rfl rfl (r_field Tryz.runUnderlying42 rfl Tryz.sizeOf3 rfl rfl) ?_
       refine d_load1 (i := 1) (v := .int .i64 t40.Num) Tryz.isAgg3 rfl rfl rfl rfl ?_
       have h_t45 := bnd_val H34
       have H35 := bnd_rest H34
       refine d_callD (fun w L' hF hS hi => k21 (know_all w) (tb_pow10.mono (hw.now hF)) h_t45) Tryz.call21 rfl rfl ?_
       have h_t46 := bnd_val H35
       have H36 := bnd_rest H35
       refine d_val rfl rfl (r_concatG rfl rfl h_t46) ?_
       refine d_val rfl rfl (r_field Tryz.runUnderlying42 rfl Tryz.sizeOf3 rfl rfl) ?_
       refine d_load1 (i := 1) (v := .int .i64 t40.Den) Tryz.isAgg3 rfl rfl rfl rfl ?_
       have h_t49 := bnd_val H36
       have H37 := bnd_rest H36
       refine d_callD (fun w L' hF hS hi => k21 (know_all w) (tb_pow10.mono (hw.now hF)) h_t49) Tryz.call21 rfl rfl ?_
       have h_t50 := bnd_val H37
       have H38 := bnd_rest H37
       refine d_val rfl rfl (r_concatG rfl rfl h_t50) ?_
       refine d_newS rfl rfl (run_buildSlice (vs := [str (val (gCat (val (gCat (val (gItoa t40.Num)) [47])) (val (gItoa t40.Den))))]) (cs := [str (val (gCat (val (gCat (val (gItoa t40.Num)) [47])) (val (gItoa t40.Den))))]) Tryz.underlying33 Tryz.sizeOf9 Tryz.zeroValue9 rfl rfl rfl rfl rfl) rfl (fun b9 => ?_)
       have h_l52 := bnd_val H38
       have H39 := bnd_rest H38
       refine d_turn (Cv := fun v => rowV 9 1 v (val (gApp 16 l_5 ([(val (gCat (val (gCat (val (gItoa t40.Num)) [47])) (val (gItoa t40.Den))))] : List (List UInt8)))).length ((val (gApp 16 l_5 ([(val (gCat (val (gCat (val (gItoa t40.Num)) [47])) (val (gItoa t40.Den))))] : List (List UInt8)))).map e_string)) (none, 0) (turns_appG (i := 0) (hn := rfl) (rds := [2]) (p := p_5) (sz := 1) (by_ := 16) (f := e_string) (ys := l_5) (ls := ([(val (gCat (val (gCat (val (gItoa t40.Num)) [47])) (val (gItoa t40.Den))))] : List (List UInt8))) (V := .slice (some ⟨b9, 0, none⟩) 1 1) Tryz.underlying33 (info_of Tryz.typeInfo9) rfl rfl rfl rfl rfl rfl rfl rfl rfl rfl (fun w L' hF hS hi => row_box (i := 2) hS ((hi 2 (by simp)).trans rfl) rfl rfl) (fun _ => rfl) (fun _ => rfl) h_l52) (fun _ => rfl) rfl rfl (fun p_6 => ?_)
       refine d_val rfl rfl (r_assign (v := .slice p_6.1 (val (gApp 16 l_5 ([(val (gCat (val (gCat (val (gItoa t40.Num)) [47])) (val (gItoa t40.Den))))] : List (List UInt8)))).length p_6.2) rfl) ?_
       refine d_nil ?_
       refine c_region ?_
       obtain ⟨t53, h_t53, H40⟩ := bnd_some H39; clear H39
       refine l_val rfl rfl rfl (r_addG rfl rfl h_t53) ?_
       refine l_val rfl rfl rfl (r_move (v := .int .i64 t53) rfl) ?_
       refine l_nil ?_
       refine c_close (t53, (val (gApp 16 l_5 ([(val (gCat (val (gCat (val (gItoa t40.Num)) [47])) (val (gItoa t40.Den))))] : List (List UInt8))))) p_6 m4 [0] (by exact ⟨rfl, rfl, rfl, rfl, trivial⟩) (by decide) rfl (by exact ⟨(by subst hn4; exact H40), trivial⟩) (Nat.lt_succ_self _)
       ) (by kernel_rfl)
     ·have H41 := cnd_f hb H32; clear H32
      refine c_exit ?_
      refine c_close l_5 p_5 0 [0] (by exact ⟨rfl, trivial⟩) (by decide) rfl (by exact ⟨H41, trivial⟩) (Nat.lt_succ_self _)
    ·rintro l_3 p_4 gg H30 _
     replace H30 : R_ValueTextOf_j3 l_3 = some r := H30
     refine c_tidyF [(3, .slice p_4.1 l_3.length p_4.2)] [rowV 9 1 (.slice p_4.1 l_3.length p_4.2) l_3.length (l_3.map e_string)] rfl rfl ?_
     refine c_seq ?_
     refine c_region ?_
     refine l_val rfl rfl rfl (r_move (v := .slice p_4.1 l_3.length p_4.2) rfl) ?_
     obtain ⟨t55, h_t55, H31⟩ := bnd_some H30; clear H30
     refine l_callG (fun w hF hS => k22 (know_all w) (frs_own (i := 0) rfl hS rfl) h_t55) Tryz.call22 rfl rfl rfl ?_
     refine l_val rfl rfl rfl (r_assign (v := str t55) rfl) ?_
     refine l_nil ?_
     refine c_ret ?_
     obtain rfl := Option.some.inj H31
     refine ret1 (v := str t55) rfl rfl (fin rfl)
  ) (by kernel_rfl)
theorem k44 {a0 : Int} {r : (List UInt8)} (H : tag_word a0 = some r) : Ret Tryz.prog 44 [.int .i64 a0] (str r) := by
 refine enterRet (n := 16) Tryz.func44 rfl rfl rfl (fun wd => ?_)
 refine c_seq ?_
 refine c_region ?_
 refine l_val rfl rfl rfl (r_assign (v := str []) rfl) ?_
 refine l_nil ?_
 refine c_seq ?_
 refine c_seq ?_
 refine c_region ?_
 refine l_val rfl rfl rfl (r_move (v := .int .i64 a0) rfl) ?_
 refine l_nil ?_
 refine c_block ?_
 refine c_seq ?_
 refine c_region ?_
 refine l_val rfl rfl rfl (r_eql rfl rfl) ?_
 refine l_val rfl rfl rfl (r_assign (v := .bool (decide (a0 = 1))) rfl) ?_
 refine l_nil ?_
 refine c_if (b := (decide (a0 = 1))) rfl (fun hb => ?_) (fun hb => ?_)
 ·have H13 := cnd_t hb H; clear H
  refine c_seq ?_
  refine c_region ?_
  refine l_val rfl rfl rfl (r_assign (v := str [98, 121, 116, 101]) rfl) ?_
  refine l_nil ?_
  refine c_ret ?_
  obtain rfl := Option.some.inj H13
  refine ret1 (v := str [98, 121, 116, 101]) rfl rfl (fin rfl)
 ·have H14 := cnd_f hb H; clear H
  refine c_seq ?_
  refine c_region ?_
  refine l_val rfl rfl rfl (r_eql rfl rfl) ?_
  refine l_val rfl rfl rfl (r_assign (v := .bool (decide (a0 = 2))) rfl) ?_
  refine l_nil ?_
  refine c_if (b := (decide (a0 = 2))) rfl (fun hb => ?_) (fun hb => ?_)
  ·have H15 := cnd_t hb H14; clear H14
   refine c_seq ?_
   refine c_region ?_
   refine l_val rfl rfl rfl (r_assign (v := str [97, 115, 99, 105, 105]) rfl) ?_
   refine l_nil ?_
   refine c_ret ?_
   obtain rfl := Option.some.inj H15
   refine ret1 (v := str [97, 115, 99, 105, 105]) rfl rfl (fin rfl)
  ·have H16 := cnd_f hb H14; clear H14
   refine c_seq ?_
   refine c_region ?_
   refine l_val rfl rfl rfl (r_eql rfl rfl) ?_
   refine l_val rfl rfl rfl (r_assign (v := .bool (decide (a0 = 3))) rfl) ?_
   refine l_nil ?_
   refine c_if (b := (decide (a0 = 3))) rfl (fun hb => ?_) (fun hb => ?_)
   ·have H17 := cnd_t hb H16; clear H16
    refine c_seq ?_
    refine c_region ?_
    refine l_val rfl rfl rfl (r_assign (v := str [115, 104, 111, 114, 116]) rfl) ?_
    refine l_nil ?_
    refine c_ret ?_
    obtain rfl := Option.some.inj H17
    refine ret1 (v := str [115, 104, 111, 114, 116]) rfl rfl (fin rfl)
   ·have H18 := cnd_f hb H16; clear H16
    refine c_seq ?_
    refine c_region ?_
    refine l_val rfl rfl rfl (r_eql rfl rfl) ?_
    refine l_val rfl rfl rfl (r_assign (v := .bool (decide (a0 = 4))) rfl) ?_
    refine l_nil ?_
    refine c_if (b := (decide (a0 = 4))) rfl (fun hb => ?_) (fun hb => ?_)
    ·have H19 := cnd_t hb H18; clear H18
     refine c_seq ?_
     refine c_region ?_
     refine l_val rfl rfl rfl (r_assign (v := str [108, 111, 110, 103]) rfl) ?_
     refine l_nil ?_
     refine c_ret ?_
     obtain rfl := Option.some.inj H19
     refine ret1 (v := str [108, 111, 110, 103]) rfl rfl (fin rfl)
    ·have H20 := cnd_f hb H18; clear H18
     refine c_seq ?_
     refine c_region ?_
     refine l_val rfl rfl rfl (r_eql rfl rfl) ?_
     refine l_val rfl rfl rfl (r_assign (v := .bool (decide (a0 = 5))) rfl) ?_
     refine l_nil ?_
     refine c_if (b := (decide (a0 = 5))) rfl (fun hb => ?_) (fun hb => ?_)
     ·have H21 := cnd_t hb H20; clear H20
      refine c_seq ?_
      refine c_region ?_
      refine l_val rfl rfl rfl (r_assign (v := str [114, 97, 116, 105, 111]) rfl) ?_
      refine l_nil ?_
      refine c_ret ?_
      obtain rfl := Option.some.inj H21
      refine ret1 (v := str [114, 97, 116, 105, 111]) rfl rfl (fin rfl)
     ·have H22 := cnd_f hb H20; clear H20
      refine c_seq ?_
      refine c_region ?_
      refine l_val rfl rfl rfl (r_eql rfl rfl) ?_
      refine l_val rfl rfl rfl (r_assign (v := .bool (decide (a0 = 7))) rfl) ?_
      refine l_nil ?_
      refine c_if (b := (decide (a0 = 7))) rfl (fun hb => ?_) (fun hb => ?_)
      ·have H23 := cnd_t hb H22; clear H22
       refine c_seq ?_
       refine c_region ?_
       refine l_val rfl rfl rfl (r_assign (v := str [111, 112, 97, 113, 117, 101]) rfl) ?_
       refine l_nil ?_
       refine c_ret ?_
       obtain rfl := Option.some.inj H23
       refine ret1 (v := str [111, 112, 97, 113, 117, 101]) rfl rfl (fin rfl)
      ·have H24 := cnd_f hb H22; clear H22
       refine c_skip ?_
       refine c_seq ?_
       refine c_region ?_
       refine l_val rfl rfl rfl (r_assign (v := str [115, 105, 103, 110, 101, 100]) rfl) ?_
       refine l_nil ?_
       refine c_ret ?_
       obtain rfl := Option.some.inj H24
       refine ret1 (v := str [115, 105, 103, 110, 101, 100]) rfl rfl (fin rfl)
theorem k43 {a0 : List UInt8} {pb0 : Nat}  {w : World} {h : Heap} {S : Nat → Prop} (hcs : (bldC pb0 72 5 a0).P S w) (hlt : ∀ b, S b → b < w.heap.size) (hw : Know h w S)  : Does Tryz.prog 43 (List.toArray [.pointer (some ⟨pb0, 0, none⟩)]) w (fun v w' => ∃ x : Unit, v = str a0 ∧ Turn w w' S empC) := by
  refine enter (n := 14) Tryz.func43 rfl rfl rfl S [bldC pb0 72 5 a0] (Sat.one hcs hlt) ?_
  refine c_bld 0 rfl (fun q p hq hp => ?_)
  refine c_split 0 rfl ?_
  refine c_seq ?_
  refine c_region ?_
  refine l_val rfl rfl rfl (r_assign (v := str []) rfl) ?_
  refine l_nil ?_
  refine c_seq ?_
  exact c_regionD (Kd.p :: Kd.p :: Kd.p :: Kd.d [0] _ :: Kd.p :: Kd.p :: Kd.p :: Kd.p :: Kd.d [0] _ :: Kd.p :: Kd.t 1 [] _ _ :: Kd.p :: []) 0 mixed (by
    refine d_val rfl rfl (r_move (v := .pointer (some ⟨pb0, 0, none⟩)) rfl) ?_
    refine d_val rfl rfl (r_nilCheck rfl) ?_
    refine d_val rfl rfl (r_field Tryz.runUnderlying72 rfl Tryz.sizeOf70 rfl rfl) ?_
    refine d_load1 (i := 0) (v := .slice p.1 (ofStr a0).length p.2) Tryz.isAgg70 rfl rfl rfl rfl ?_
    refine d_val rfl rfl (r_ssd hp rfl) ?_
    refine d_val rfl rfl (r_move (v := .pointer (some ⟨pb0, 0, none⟩)) rfl) ?_
    refine d_val rfl rfl (r_nilCheck rfl) ?_
    refine d_val rfl rfl (r_field Tryz.runUnderlying72 rfl Tryz.sizeOf70 rfl rfl) ?_
    refine d_load1 (i := 0) (v := .slice p.1 (ofStr a0).length p.2) Tryz.isAgg70 rfl rfl rfl rfl ?_
    refine d_val rfl rfl (r_len Tryz.underlying70 rfl) ?_
    refine d_turn (Cv := fun _ => empC) () (turns_ustr (i := 1) (bs := a0) (p := p) Tryz.underlying90 (by kernel_rfl) rfl rfl rfl) (fun _ => rfl) rfl rfl (fun _ => ?_)
    refine d_val rfl rfl (r_assign (v := str a0) rfl) ?_
    refine d_nil ?_
    refine c_ret ?_
    exact ret1 rfl rfl (finX () (i := 1) rfl rfl (Imp.refl _))
  ) (by kernel_rfl)

theorem ext84 (x : Value) (w : World) : (callFunc 84 (List.toArray [x])).run Tryz.prog w = .ok (.value x) w := by
  have h0 : (callFunc 84 #[x]).run Tryz.prog w = (do pure (.value (← Extern.AbiNoEscape.same #[x])) : Sem Next).run Tryz.prog w := by kernel_rfl
  rw [h0]; rfl

theorem k63 {pb0 : Nat} {q sl : Value} {w : World} {S : Nat → Prop} (hcs : (cellsC pb0 [q, sl] 72).P S w) (hlt : ∀ b, S b → b < w.heap.size) (hq : q = .pointer none ∨ q = .pointer (some ⟨pb0, 0, none⟩)) : Does Tryz.prog 63 (List.toArray [.pointer (some ⟨pb0, 0, none⟩)]) w (fun v w' => ∃ x : Unit, v = .tuple #[] ∧ Turn w w' S (cellsC pb0 [.pointer (some ⟨pb0, 0, none⟩), sl] 72)) := by
  refine enter (n := 20) Tryz.func63 rfl rfl rfl S [cellsC pb0 [q, sl] 72] (Sat.one hcs hlt) ?_
  refine c_seq ?_
  refine c_region ?_
  refine l_val rfl rfl rfl (r_move (v := .pointer (some ⟨pb0, 0, none⟩)) rfl) ?_
  refine l_val rfl rfl rfl (r_nilCheck rfl) ?_
  refine l_val rfl rfl rfl (r_field Tryz.runUnderlying72 rfl Tryz.sizeOf69 rfl rfl) ?_
  refine l_load1 (i := 0) (v := q) Tryz.isAgg69 rfl rfl rfl rfl rfl ?_
  rcases hq with rfl | rfl
  · refine l_val rfl rfl rfl (r_nilP (a := none) Tryz.underlying69 rfl rfl) ?_
    refine l_nil ?_
    refine c_true rfl ?_
    refine c_region ?_
    refine l_val rfl rfl rfl (r_move (v := .pointer (some ⟨pb0, 0, none⟩)) rfl) ?_
    refine l_val rfl rfl rfl (r_move (v := .pointer (some ⟨pb0, 0, none⟩)) rfl) ?_
    refine l_read (fun w hF hS => run_toU (cs := [.pointer none, sl]) (T := 72) Tryz.underlying69 Tryz.underlying108 (info_of Tryz.typeInfo72) (by decide) (sat_cell (i := 0) hS rfl) rfl rfl) rfl rfl rfl ?_
    refine l_val rfl rfl rfl (r_ext (args := [.pointer (some ⟨pb0, 0, none⟩)]) (ext84 _) rfl) ?_
    refine l_read (fun w hF hS => run_fromU (cs := [.pointer none, sl]) (T := 72) Tryz.underlying108 Tryz.underlying69 (info_of Tryz.typeInfo72) (sat_cell (i := 0) hS rfl) (by kernel_rfl) rfl) rfl rfl rfl ?_
    refine l_val rfl rfl rfl (r_nilCheck rfl) ?_
    refine l_val rfl rfl rfl (r_field Tryz.runUnderlying72 rfl Tryz.sizeOf69 rfl rfl) ?_
    refine l_store (i := 0) (vs := [.pointer (some ⟨pb0, 0, none⟩)]) (cs' := [.pointer (some ⟨pb0, 0, none⟩), sl]) Tryz.sizeOf69 rfl rfl rfl rfl rfl rfl rfl rfl rfl ?_
    refine l_nil ?_
    exact ret0n rfl (finX () (i := 0) rfl rfl (Imp.refl _))
  · refine l_val rfl rfl rfl (r_nilP (a := some ⟨pb0, 0, none⟩) Tryz.underlying69 rfl rfl) ?_
    refine l_nil ?_
    refine c_false rfl ?_
    refine c_seq ?_
    refine c_region ?_
    refine l_val rfl rfl rfl (r_move (v := .pointer (some ⟨pb0, 0, none⟩)) rfl) ?_
    refine l_val rfl rfl rfl (r_nilCheck rfl) ?_
    refine l_val rfl rfl rfl (r_field Tryz.runUnderlying72 rfl Tryz.sizeOf69 rfl rfl) ?_
    refine l_load1 (i := 0) (v := .pointer (some ⟨pb0, 0, none⟩)) Tryz.isAgg69 rfl rfl rfl rfl rfl ?_
    refine l_val rfl rfl rfl (r_move (v := .pointer (some ⟨pb0, 0, none⟩)) rfl) ?_
    refine l_val rfl rfl rfl (r_sameP Tryz.underlying69 (info_of Tryz.typeInfo72) rfl rfl) ?_
    refine l_nil ?_
    refine c_false rfl ?_
    refine c_skip ?_
    exact ret0n rfl (finX () (i := 0) rfl rfl (Imp.refl _))

theorem k65 {a0 : List UInt8} {pb0 : Nat} {a1 : Int} {r : List UInt8} {w : World} {h : Heap} {S : Nat → Prop} (hcs : (bldC pb0 72 5 a0).P S w) (hlt : ∀ b, S b → b < w.heap.size) (hw : Know h w S) (H : gBldB a0 a1 = some r) : Does Tryz.prog 65 (List.toArray [.pointer (some ⟨pb0, 0, none⟩), .int .u8 a1]) w (fun v w' => ∃ x : Unit, v = .nilIface ∧ Turn w w' S (bldC pb0 72 5 r)) := by
  obtain ⟨rfl, h0, h1, hbl⟩ := gBldB_some H
  have ha : ofStr (a0 ++ [UInt8.ofNat a1.toNat]) = ofStr a0 ++ [a1] := ofStr_snoc a0 h0 h1
  have hg : gApp 1 (ofStr a0) [a1] = some (ofStr (a0 ++ [UInt8.ofNat a1.toNat])) := by rw [gApp_ok (by simp [ofStr]; omega), ha]
  refine enter (n := 17) Tryz.func65 rfl rfl rfl S [bldC pb0 72 5 a0] (Sat.one hcs hlt) ?_
  refine c_bld 0 rfl (fun q p hq hp => ?_)
  refine c_split 0 rfl ?_
  refine c_seq ?_
  refine c_region ?_
  refine l_val rfl rfl rfl (r_assign (v := .nilIface) rfl) ?_
  refine l_nil ?_
  refine c_seq ?_
  refine c_region ?_
  refine l_val rfl rfl rfl (r_move (v := .pointer (some ⟨pb0, 0, none⟩)) rfl) ?_
  refine l_turn (turns_callB (i := 0) (rds := []) (G := fun _ : Unit => .tuple #[]) (C := fun _ => cellsC pb0 [.pointer (some ⟨pb0, 0, none⟩), .slice p.1 (ofStr a0).length p.2] 72) rfl (fun w L' S hF hS hi hp' hlt ho hA => k63 hp' hlt hq) Tryz.call63 rfl) rfl rfl rfl (fun _ => ?_)
  refine l_nil ?_
  refine c_seq ?_
  refine c_region ?_
  refine l_val rfl rfl rfl (r_move (v := .pointer (some ⟨pb0, 0, none⟩)) rfl) ?_
  refine l_val rfl rfl rfl (r_move (v := .pointer (some ⟨pb0, 0, none⟩)) rfl) ?_
  refine l_val rfl rfl rfl (r_nilCheck rfl) ?_
  refine l_val rfl rfl rfl (r_field Tryz.runUnderlying72 rfl Tryz.sizeOf70 rfl rfl) ?_
  refine l_load1 (i := 0) (v := .slice p.1 (ofStr a0).length p.2) Tryz.isAgg70 rfl rfl rfl rfl rfl ?_
  refine l_val rfl rfl rfl (r_move (v := .int .u8 a1) rfl) ?_
  refine l_buildSlice (vs := [.int .u8 a1]) (cs := [.int .u8 a1]) Tryz.underlying70 Tryz.sizeOf5 Tryz.zeroValue5 rfl rfl rfl rfl rfl rfl rfl (fun b0 => ?_)
  refine l_turn (turns_appG (i := 1) (hn := rfl) (rds := [2]) (p := p) (sz := 1) (by_ := 1) (f := e8) (ys := ofStr a0) (ls := [a1]) (V := .slice (some ⟨b0, 0, none⟩) 1 1) Tryz.underlying70 (info_of Tryz.typeInfo5) rfl rfl rfl rfl rfl rfl rfl rfl rfl rfl (fun w L' hF hS hi => row_box (i := 2) hS ((hi 2 (by simp)).trans rfl) rfl rfl) (fun _ => rfl) (fun _ => rfl) hg) rfl rfl rfl (fun p2 => ?_)
  refine l_val rfl rfl rfl (r_nilCheck rfl) ?_
  refine l_val rfl rfl rfl (r_field Tryz.runUnderlying72 rfl Tryz.sizeOf70 rfl rfl) ?_
  refine l_store (i := 0) (vs := [.slice p2.1 (ofStr (a0 ++ [UInt8.ofNat a1.toNat])).length p2.2]) (cs' := [.pointer (some ⟨pb0, 0, none⟩), .slice p2.1 (ofStr (a0 ++ [UInt8.ofNat a1.toNat])).length p2.2]) Tryz.sizeOf70 rfl rfl rfl rfl rfl rfl rfl rfl rfl ?_
  refine l_nil ?_
  refine c_seq ?_
  refine c_region ?_
  refine l_val rfl rfl rfl (r_assign (v := .nilIface) rfl) ?_
  refine l_nil ?_
  refine c_ret ?_
  refine c_both 0 1 rfl rfl (by decide) ?_
  exact ret1 (v := .nilIface) rfl rfl (finX () (i := 0) rfl rfl (imp_bld (by simp)))

theorem k45 {a0 : (List UInt8)} {r : (List UInt8)} (H : tag_hex a0 = some r) : Ret Tryz.prog 45 [str a0] (str r) := by
 refine enterRet (n := 24) Tryz.func45 rfl rfl rfl (fun wd => ?_)
 refine c_seq ?_
 refine c_region ?_
 refine l_val rfl rfl rfl (r_assign (v := str []) rfl) ?_
 refine l_nil ?_
 refine c_seq ?_
 refine c_region ?_
 refine l_alloc (cs := [.pointer none, .slice none 0 0]) Tryz.zeroValue72 rfl rfl rfl (fun b1 => ?_)
 refine c_imp 0 rfl (imp_bldNew _ _ 5) ?_
 refine l_nil ?_
 refine c_meet (r := r) (σ := (List UInt8)) (τ := Unit) (fun s => tag_hex_j1 s) (fun s t => [(3, .pointer (some ⟨b1, 0, none⟩))]) (fun s t => [bldC b1 72 5 s]) (fun s t => True) ?_ ?_
 ·refine c_seq ?_
  refine c_region ?_
  refine l_val rfl rfl rfl (r_move (v := str a0) rfl) ?_
  refine l_val rfl rfl rfl (r_lenT Tryz.underlying9 rfl) ?_
  refine l_val rfl rfl rfl (r_move (v := .int .i64 0) rfl) ?_
  refine l_nil ?_
  refine c_block ?_
  refine c_fix (σ := Int × (List UInt8)) (τ := Unit) (fun next2 s => tag_hex_l2 a0 next2 s.1 s.2) (fun s t => [(0, str a0), (3, .pointer (some ⟨b1, 0, none⟩)), (6, .int .i64 (a0.length : Int)), (7, .int .i64 s.1)]) (fun s t => [bldC b1 72 5 s.2]) (fun s t => True) (0, []) () [0] H (by exact trivial) (by exact ⟨rfl, rfl, rfl, rfl, trivial⟩) (by decide) rfl ?_
  rintro ⟨x7_2, m_3⟩ _ m2 gg H14 _
  clear H
  replace H14 : tag_hex_l2 a0 (it (fun next2 s => tag_hex_l2 a0 next2 s.1 s.2) m2) x7_2 m_3 = some r := H14
  generalize hn2 : it (fun next2 s => tag_hex_l2 a0 next2 s.1 s.2) m2 = next2 at H14
  refine c_tidyF [(0, str a0), (3, .pointer (some ⟨b1, 0, none⟩)), (6, .int .i64 (a0.length : Int)), (7, .int .i64 x7_2)] [bldC b1 72 5 m_3] rfl rfl ?_
  refine c_seq ?_
  refine c_region ?_
  refine l_val rfl rfl rfl (r_lss rfl rfl) ?_
  refine l_nil ?_
  refine c_seq ?_
  refine c_if (b := (decide (x7_2 < (a0.length : Int)))) rfl (fun hb => ?_) (fun hb => ?_)
  ·have H15 := cnd_t hb H14; clear H14
   refine c_skip ?_
   refine c_seq ?_
   refine c_block ?_
   refine c_seq ?_
   refine c_region ?_
   refine l_val rfl rfl rfl (r_move (v := .int .i64 x7_2) rfl) ?_
   refine l_val rfl rfl rfl (r_assign (v := .int .i64 x7_2) rfl) ?_
   refine l_nil ?_
   refine c_seq ?_
   refine c_region ?_
   refine l_val rfl rfl rfl (r_move (v := str a0) rfl) ?_
   refine l_val rfl rfl rfl (r_move (v := .int .i64 x7_2) rfl) ?_
   obtain ⟨t12, h_t12, H16⟩ := bnd_some H15; clear H15
   refine l_val rfl rfl rfl (r_octG Tryz.underlying9 rfl rfl h_t12) ?_
   obtain ⟨t13, h_t13, H17⟩ := bnd_some H16; clear H16
   refine l_val rfl rfl rfl (r_shrG rfl rfl rfl h_t13) ?_
   obtain ⟨t14, h_t14, H18⟩ := bnd_some H17; clear H17
   refine l_val rfl rfl rfl (r_octG Tryz.underlying9 rfl rfl h_t14) ?_
   obtain ⟨t15, h_t15, H19⟩ := bnd_some H18; clear H18
   refine l_turn (turns_callB (i := 0) (rds := []) (G := fun _ : Unit => .nilIface) (C := fun _ => bldC b1 72 5 t15) rfl (fun w L' S hF hS hi hp hlt ho hA => k65 hp hlt (know_but w S) h_t15) Tryz.call65 rfl) rfl rfl rfl (fun _ => ?_)
   refine l_nil ?_
   refine c_region ?_
   refine l_val rfl rfl rfl (r_move (v := str a0) rfl) ?_
   refine l_val rfl rfl rfl (r_move (v := .int .i64 x7_2) rfl) ?_
   obtain ⟨t18, h_t18, H20⟩ := bnd_some H19; clear H19
   refine l_val rfl rfl rfl (r_octG Tryz.underlying9 rfl rfl h_t18) ?_
   refine l_val rfl rfl rfl (r_bitsAnd (bits := 8) rfl rfl rfl (wr_u8 _)) ?_
   obtain ⟨t20, h_t20, H21⟩ := bnd_some H20; clear H20
   refine l_val rfl rfl rfl (r_octG Tryz.underlying9 rfl rfl h_t20) ?_
   obtain ⟨t21, h_t21, H22⟩ := bnd_some H21; clear H21
   refine l_turn (turns_callB (i := 0) (rds := []) (G := fun _ : Unit => .nilIface) (C := fun _ => bldC b1 72 5 t21) rfl (fun w L' S hF hS hi hp hlt ho hA => k65 hp hlt (know_but w S) h_t21) Tryz.call65 rfl) rfl rfl rfl (fun _ => ?_)
   refine l_nil ?_
   refine c_region ?_
   obtain ⟨t22, h_t22, H23⟩ := bnd_some H22; clear H22
   refine l_val rfl rfl rfl (r_addG rfl rfl h_t22) ?_
   refine l_val rfl rfl rfl (r_move (v := .int .i64 t22) rfl) ?_
   refine l_nil ?_
   refine c_close (t22, t21) () m2 [0] (by exact ⟨rfl, rfl, rfl, rfl, trivial⟩) (by decide) rfl (by exact ⟨(by subst hn2; exact H23), trivial⟩) (Nat.lt_succ_self _)
  ·have H24 := cnd_f hb H14; clear H14
   refine c_exit ?_
   refine c_close m_3 () 0 [0] (by exact ⟨rfl, trivial⟩) (by decide) rfl (by exact ⟨H24, trivial⟩) (Nat.lt_succ_self _)
 ·rintro m _ gg H13 _
  replace H13 : tag_hex_j1 m = some r := H13
  refine c_tidyF [(3, .pointer (some ⟨b1, 0, none⟩))] [bldC b1 72 5 m] rfl rfl ?_
  refine c_seq ?_
  refine c_region ?_
  refine l_turn (turns_callB (i := 0) (rds := []) (G := fun _ : Unit => str m) (C := fun _ => empC) rfl (fun w L' S hF hS hi hp hlt ho hA => k43 hp hlt (know_but w S)) Tryz.call43 rfl) rfl rfl rfl (fun _ => ?_)
  refine l_val rfl rfl rfl (r_assign (v := str m) rfl) ?_
  refine l_nil ?_
  refine c_ret ?_
  obtain rfl := Option.some.inj H13
  refine ret1 (v := str m) rfl rfl (fin rfl)
theorem k23 {a0 : T_tag_Value} {v0_2 : Value} {v0_3 : Value} {v0_4 : Value} {r : (List UInt8)} {w : World} {h : Heap} (hw : Know h w noS) (f0_2 : FrS h 1 v0_2 (a0.Ints.map e_i64)) (f0_3 : FrS h 2 v0_3 (a0.Ratios.map e_tag_Ratio)) (f0_4 : FrN h 6 v0_4 g_tag_Entry a0.Entries) (tb_pow10 : TabH Tryz.prog h "internal/strconv.uint64pow10" .u64 Lib.pow10Tab) (H : tag_valueText a0 = some r) : Does Tryz.prog 23 (List.toArray [.agg #[.int .i64 a0.Kind, str a0.Text, v0_2, v0_3, v0_4]]) w (fun v w' => v = (str r) ∧ Grow w w') := by
 refine enter (n := 55) Tryz.func23 rfl rfl rfl noS [] (Sat.nil _ _) ?_
 refine c_seq ?_
 refine c_region ?_
 refine l_box (cs := [.int .i64 a0.Kind, str a0.Text, v0_2, v0_3, v0_4]) rfl rfl rfl rfl (fun b6 => ?_)
 refine l_val rfl rfl rfl (r_assign (v := str []) rfl) ?_
 refine l_nil ?_
 refine c_seq ?_
 refine c_region ?_
 refine l_val rfl rfl rfl (r_field Tryz.runUnderlying26 rfl Tryz.sizeOf3 rfl rfl) ?_
 refine l_load1 (i := 0) (v := .int .i64 a0.Kind) Tryz.isAgg3 rfl rfl rfl rfl rfl ?_
 obtain ⟨t10, h_t10, H27⟩ := bnd_some H; clear H
 refine l_call (k44 h_t10) Tryz.call44 rfl rfl rfl ?_
 refine l_buildSlice (vs := [str t10]) (cs := [str t10]) Tryz.underlying33 Tryz.sizeOf9 Tryz.zeroValue9 rfl rfl rfl rfl rfl rfl rfl (fun b7 => ?_)
 refine l_val rfl rfl rfl (r_assign (v := .slice (some ⟨b7, 0, none⟩) 1 1) rfl) ?_
 refine l_nil ?_
 refine c_meet (r := r) (σ := (List (List UInt8))) (τ := (Option Addr × Nat) × Nat) (fun s => tag_valueText_j1 a0 s) (fun s t => [(1, .pointer (some ⟨b6, 0, none⟩)), (3, .slice t.1.1 t.2 t.1.2)]) (fun s t => [cellsC b6 [.int .i64 a0.Kind, str a0.Text, v0_2, v0_3, v0_4] 26, rowV 9 1 (.slice t.1.1 t.2 t.1.2) t.2 (s.map e_string)]) (fun s t => t.2 = s.length) ?_ ?_
 ·refine c_seq ?_
  refine c_region ?_
  refine l_val rfl rfl rfl (r_field Tryz.runUnderlying26 rfl Tryz.sizeOf22 rfl rfl) ?_
  refine l_load1 (i := 0) (v := v0_2) Tryz.isAgg22 rfl rfl rfl rfl rfl ?_
  refine l_val rfl rfl rfl (r_lenF Tryz.underlying22 rfl f0_2 rfl) ?_
  refine l_val rfl rfl rfl (r_move (v := .int .i64 0) rfl) ?_
  refine l_nil ?_
  refine c_block ?_
  refine c_imp 1 rfl (imp_box (m := 1) (E := 9) (sz := 1) (xs := (([t10] : List (List UInt8))).map e_string) rfl rfl rfl ⟨rfl, by decide⟩) ?_
  refine c_fix (σ := Int × (List (List UInt8))) (τ := (Option Addr × Nat) × Nat) (fun next5 s => tag_valueText_l5 a0 next5 s.1 s.2) (fun s t => [(1, .pointer (some ⟨b6, 0, none⟩)), (3, .slice t.1.1 t.2 t.1.2), (13, v0_2), (14, .int .i64 (a0.Ints.length : Int)), (15, .int .i64 s.1)]) (fun s t => [cellsC b6 [.int .i64 a0.Kind, str a0.Text, v0_2, v0_3, v0_4] 26, rowV 9 1 (.slice t.1.1 t.2 t.1.2) t.2 (s.2.map e_string)]) (fun s t => t.2 = s.2.length) (0, ([t10] : List (List UInt8))) (((some ⟨b7, 0, none⟩, 1) : Option Addr × Nat), 1) [0, 1] H27 (by exact rfl) (by exact ⟨rfl, rfl, rfl, rfl, rfl, trivial⟩) (by decide) rfl ?_
  rintro ⟨x15_2, l_7⟩ ⟨p_7, n_5⟩ m5 gg H46 hl_7
  clear H27
  replace H46 : tag_valueText_l5 a0 (it (fun next5 s => tag_valueText_l5 a0 next5 s.1 s.2) m5) x15_2 l_7 = some r := H46
  generalize hn5 : it (fun next5 s => tag_valueText_l5 a0 next5 s.1 s.2) m5 = next5 at H46
  refine c_tidyF [(1, .pointer (some ⟨b6, 0, none⟩)), (3, .slice p_7.1 n_5 p_7.2), (13, v0_2), (14, .int .i64 (a0.Ints.length : Int)), (15, .int .i64 x15_2)] [cellsC b6 [.int .i64 a0.Kind, str a0.Text, v0_2, v0_3, v0_4] 26, rowV 9 1 (.slice p_7.1 n_5 p_7.2) n_5 (l_7.map e_string)] rfl rfl ?_
  refine c_seq ?_
  refine c_region ?_
  refine l_val rfl rfl rfl (r_lss rfl rfl) ?_
  refine l_nil ?_
  refine c_seq ?_
  refine c_if (b := (decide (x15_2 < (a0.Ints.length : Int)))) rfl (fun hb => ?_) (fun hb => ?_)
  ·have H47 := cnd_t hb H46; clear H46
   refine c_skip ?_
   refine c_seq ?_
   refine c_block ?_
   refine c_seq ?_
   refine c_region ?_
   obtain ⟨t17, h_t17, H48⟩ := bnd_some H47; clear H47
   refine l_val rfl rfl rfl (r_indexF Tryz.underlying22 Tryz.sizeOf3 rfl rfl f0_2 h_t17) ?_
   refine l_read (fun w hF hS => run_loadG1 (f := e_i64) (i := x15_2) (sz := 1) (j := 0) (v := .int .i64 t17) Tryz.isAgg3 rfl rfl (f0_2.row (hw.now hF)) h_t17 rfl) rfl rfl rfl ?_
   refine l_val rfl rfl rfl (r_assign (v := .int .i64 t17) rfl) ?_
   refine l_nil ?_
   refine c_region ?_
   refine l_val rfl rfl rfl (r_move (v := .slice p_7.1 n_5 p_7.2) rfl) ?_
   refine l_val rfl rfl rfl (r_move (v := .int .i64 t17) rfl) ?_
   obtain ⟨t21, h_t21, H49⟩ := bnd_some H48; clear H48
   refine l_callG (fun w hF hS => k21 (know_all w) (tb_pow10.mono (hw.now hF)) h_t21) Tryz.call21 rfl rfl rfl ?_
   refine l_buildSlice (vs := [str t21]) (cs := [str t21]) Tryz.underlying33 Tryz.sizeOf9 Tryz.zeroValue9 rfl rfl rfl rfl rfl rfl rfl (fun b11 => ?_)
   obtain ⟨l23, h_l23, H50⟩ := bnd_some H49; clear H49
   refine l_turn (turns_appG (i := 1) (hn := hl_7) (rds := [2]) (p := p_7) (sz := 1) (by_ := 16) (f := e_string) (ys := l_7) (ls := ([t21] : List (List UInt8))) (V := .slice (some ⟨b11, 0, none⟩) 1 1) Tryz.underlying33 (info_of Tryz.typeInfo9) rfl rfl rfl rfl rfl rfl rfl rfl rfl rfl (fun w L' hF hS hi => row_box (i := 2) hS ((hi 2 (by simp)).trans rfl) rfl rfl) (fun _ => rfl) (fun _ => rfl) h_l23) rfl rfl rfl (fun p_8 => ?_)
   refine l_val rfl rfl rfl (r_assign (v := .slice p_8.1 l23.length p_8.2) rfl) ?_
   refine l_nil ?_
   refine c_region ?_
   obtain ⟨t24, h_t24, H51⟩ := bnd_some H50; clear H50
   refine l_val rfl rfl rfl (r_addG rfl rfl h_t24) ?_
   refine l_val rfl rfl rfl (r_move (v := .int .i64 t24) rfl) ?_
   refine l_nil ?_
   refine c_close (t24, l23) (p_8, l23.length) m5 [0, 1] (by exact ⟨rfl, rfl, rfl, rfl, rfl, trivial⟩) (by decide) rfl (by exact ⟨(by subst hn5; exact H51), rfl⟩) (Nat.lt_succ_self _)
  ·have H52 := cnd_f hb H46; clear H46
   refine c_exit ?_
   refine c_close l_7 (p_7, n_5) 0 [0, 1] (by exact ⟨rfl, rfl, trivial⟩) (by decide) rfl (by exact ⟨H52, hl_7⟩) (Nat.lt_succ_self _)
 ·rintro l ⟨p, n⟩ gg H28 hl
  replace H28 : tag_valueText_j1 a0 l = some r := H28
  refine c_tidyF [(1, .pointer (some ⟨b6, 0, none⟩)), (3, .slice p.1 n p.2)] [cellsC b6 [.int .i64 a0.Kind, str a0.Text, v0_2, v0_3, v0_4] 26, rowV 9 1 (.slice p.1 n p.2) n (l.map e_string)] rfl rfl ?_
  refine c_meet (r := r) (σ := (List (List UInt8))) (τ := (Option Addr × Nat) × Nat) (fun s => tag_valueText_j2 a0 s) (fun s t => [(1, .pointer (some ⟨b6, 0, none⟩)), (3, .slice t.1.1 t.2 t.1.2)]) (fun s t => [cellsC b6 [.int .i64 a0.Kind, str a0.Text, v0_2, v0_3, v0_4] 26, rowV 9 1 (.slice t.1.1 t.2 t.1.2) t.2 (s.map e_string)]) (fun s t => t.2 = s.length) ?_ ?_
  ·refine c_seq ?_
   refine c_region ?_
   refine l_val rfl rfl rfl (r_field Tryz.runUnderlying26 rfl Tryz.sizeOf23 rfl rfl) ?_
   refine l_load1 (i := 0) (v := v0_3) Tryz.isAgg23 rfl rfl rfl rfl rfl ?_
   refine l_val rfl rfl rfl (r_lenF Tryz.underlying23 rfl f0_3 rfl) ?_
   refine l_val rfl rfl rfl (r_move (v := .int .i64 0) rfl) ?_
   refine l_nil ?_
   refine c_block ?_
   refine c_fix (σ := Int × (List (List UInt8))) (τ := (Option Addr × Nat) × Nat) (fun next4 s => tag_valueText_l4 a0 next4 s.1 s.2) (fun s t => [(1, .pointer (some ⟨b6, 0, none⟩)), (3, .slice t.1.1 t.2 t.1.2), (26, v0_3), (27, .int .i64 (a0.Ratios.length : Int)), (28, .int .i64 s.1)]) (fun s t => [cellsC b6 [.int .i64 a0.Kind, str a0.Text, v0_2, v0_3, v0_4] 26, rowV 9 1 (.slice t.1.1 t.2 t.1.2) t.2 (s.2.map e_string)]) (fun s t => t.2 = s.2.length) (0, l) (p, n) [0, 1] H28 (by exact hl) (by exact ⟨rfl, rfl, rfl, rfl, rfl, trivial⟩) (by decide) rfl ?_
   rintro ⟨x28_2, l_5⟩ ⟨p_5, n_4⟩ m4 gg H36 hl_5
   clear H28
   replace H36 : tag_valueText_l4 a0 (it (fun next4 s => tag_valueText_l4 a0 next4 s.1 s.2) m4) x28_2 l_5 = some r := H36
   generalize hn4 : it (fun next4 s => tag_valueText_l4 a0 next4 s.1 s.2) m4 = next4 at H36
   refine c_tidyF [(1, .pointer (some ⟨b6, 0, none⟩)), (3, .slice p_5.1 n_4 p_5.2), (26, v0_3), (27, .int .i64 (a0.Ratios.length : Int)), (28, .int .i64 x28_2)] [cellsC b6 [.int .i64 a0.Kind, str a0.Text, v0_2, v0_3, v0_4] 26, rowV 9 1 (.slice p_5.1 n_4 p_5.2) n_4 (l_5.map e_string)] rfl rfl ?_
   refine c_seq ?_
   refine c_region ?_
   refine l_val rfl rfl rfl (r_lss rfl rfl) ?_
   refine l_nil ?_
   refine c_seq ?_
   refine c_if (b := (decide (x28_2 < (a0.Ratios.length : Int)))) rfl (fun hb => ?_) (fun hb => ?_)
   ·have H37 := cnd_t hb H36; clear H36
    refine c_skip ?_
    refine c_seq ?_
    refine c_block ?_
    refine c_seq ?_
    refine c_region ?_
    obtain ⟨t30, h_t30, H38⟩ := bnd_some H37; clear H37
    refine l_val rfl rfl rfl (r_indexF Tryz.underlying23 Tryz.sizeOf42 rfl rfl f0_3 h_t30) ?_
    refine l_read (fun w hF hS => run_loadGN (f := e_tag_Ratio) (i := x28_2) (sz := 2) (j := 0) (vs := [.int .i64 t30.Num, .int .i64 t30.Den]) Tryz.isAgg42 Tryz.sizeOf42 rfl rfl (f0_3.row (hw.now hF)) h_t30 rfl) rfl rfl rfl ?_
    refine l_alloc (cs := [.int .i64 0, .int .i64 0]) Tryz.zeroValue42 rfl rfl rfl (fun b9 => ?_)
    refine l_store (i := 2) (vs := [.int .i64 t30.Num, .int .i64 t30.Den]) (cs' := [.int .i64 t30.Num, .int .i64 t30.Den]) Tryz.sizeOf42 rfl rfl rfl rfl rfl rfl rfl rfl rfl ?_
    refine l_nil ?_
    refine c_sel [0, 1, 2] [cellsC b6 [.int .i64 a0.Kind, str a0.Text, v0_2, v0_3, v0_4] 26, rowV 9 1 (.slice p_5.1 n_4 p_5.2) n_4 (l_5.map e_string), cellsC b9 [.int .i64 t30.Num, .int .i64 t30.Den] 42] rfl (by decide) ?_
    exact c_regionD (Kd.p :: Kd.p :: Kd.d [2] _ :: Kd.d [] _ :: Kd.p :: Kd.p :: Kd.d [2] _ :: Kd.d [] _ :: Kd.p :: Kd.ns 3 [_] 9 1 :: Kd.t 1 [3] _ _ :: Kd.p :: []) 1 mixed (by
     refine d_val rfl rfl (r_move (v := .slice p_5.1 n_4 p_5.2) rfl) ?_
     refine d_val rfl rfl (r_field Tryz.runUnderlying42 rfl Tryz.sizeOf3 rfl rfl) ?_
     refine d_load1 (i := 2) (v := .int .i64 t30.Num) Tryz.isAgg3 rfl rfl rfl rfl ?_
     have h_t35 := bnd_val H38
     have H39 := bnd_rest H38
     refine d_callD (fun w L' hF hS hi => k21 (know_all w) (tb_pow10.mono (hw.now hF)) h_t35) Tryz.call21 rfl rfl ?_
     have h_t36 := bnd_val H39
     have H40 := bnd_rest H39
     refine d_val rfl rfl (r_concatG rfl rfl h_t36) ?_
     refine d_val rfl rfl (r_field Tryz.runUnderlying42 rfl Tryz.sizeOf3 rfl rfl) ?_
     refine d_load1 (i := 2) (v := .int .i64 t30.Den) Tryz.isAgg3 rfl rfl rfl rfl ?_
     have h_t39 := bnd_val H40
     have H41 := bnd_rest H40
     refine d_callD (fun w L' hF hS hi => k21 (know_all w) (tb_pow10.mono (hw.now hF)) h_t39) Tryz.call21 rfl rfl ?_
     have h_t40 := bnd_val H41
     have H42 := bnd_rest H41
     refine d_val rfl rfl (r_concatG rfl rfl h_t40) ?_
     refine d_newS rfl rfl (run_buildSlice (vs := [str (val (gCat (val (gCat (val (gItoa t30.Num)) [47])) (val (gItoa t30.Den))))]) (cs := [str (val (gCat (val (gCat (val (gItoa t30.Num)) [47])) (val (gItoa t30.Den))))]) Tryz.underlying33 Tryz.sizeOf9 Tryz.zeroValue9 rfl rfl rfl rfl rfl) rfl (fun b10 => ?_)
     have h_l42 := bnd_val H42
     have H43 := bnd_rest H42
     refine d_turn (Cv := fun v => rowV 9 1 v (val (gApp 16 l_5 ([(val (gCat (val (gCat (val (gItoa t30.Num)) [47])) (val (gItoa t30.Den))))] : List (List UInt8)))).length ((val (gApp 16 l_5 ([(val (gCat (val (gCat (val (gItoa t30.Num)) [47])) (val (gItoa t30.Den))))] : List (List UInt8)))).map e_string)) (none, 0) (turns_appG (i := 1) (hn := hl_5) (rds := [3]) (p := p_5) (sz := 1) (by_ := 16) (f := e_string) (ys := l_5) (ls := ([(val (gCat (val (gCat (val (gItoa t30.Num)) [47])) (val (gItoa t30.Den))))] : List (List UInt8))) (V := .slice (some ⟨b10, 0, none⟩) 1 1) Tryz.underlying33 (info_of Tryz.typeInfo9) rfl rfl rfl rfl rfl rfl rfl rfl rfl rfl (fun w L' hF hS hi => row_box (i := 3) hS ((hi 3 (by simp)).trans rfl) rfl rfl) (fun _ => rfl) (fun _ => rfl) h_l42) (fun _ => rfl) rfl rfl (fun p_6 => ?_)
     refine d_val rfl rfl (r_assign (v := .slice p_6.1 (val (gApp 16 l_5 ([(val (gCat (val (gCat (val (gItoa t30.Num)) [47])) (val (gItoa t30.Den))))] : List (List UInt8)))).length p_6.2) rfl) ?_
     refine d_nil ?_
     refine c_region ?_
     obtain ⟨t43, h_t43, H44⟩ := bnd_some H43; clear H43
     refine l_val rfl rfl rfl (r_addG rfl rfl h_t43) ?_
     refine l_val rfl rfl rfl (r_move (v := .int .i64 t43) rfl) ?_
     refine l_nil ?_
     refine c_close (t43, (val (gApp 16 l_5 ([(val (gCat (val (gCat (val (gItoa t30.Num)) [47])) (val (gItoa t30.Den))))] : List (List UInt8))))) (p_6, (val (gApp 16 l_5 ([(val (gCat (val (gCat (val (gItoa t30.Num)) [47])) (val (gItoa t30.Den))))] : List (List UInt8)))).length) m4 [0, 1] (by exact ⟨rfl, rfl, rfl, rfl, rfl, trivial⟩) (by decide) rfl (by exact ⟨(by subst hn4; exact H44), rfl⟩) (Nat.lt_succ_self _)
     ) (by kernel_rfl)
   ·have H45 := cnd_f hb H36; clear H36
    refine c_exit ?_
    refine c_close l_5 (p_5, n_4) 0 [0, 1] (by exact ⟨rfl, rfl, trivial⟩) (by decide) rfl (by exact ⟨H45, hl_5⟩) (Nat.lt_succ_self _)
  ·rintro l_2 ⟨p_2, n_2⟩ gg H29 hl_2
   replace H29 : tag_valueText_j2 a0 l_2 = some r := H29
   refine c_tidyF [(1, .pointer (some ⟨b6, 0, none⟩)), (3, .slice p_2.1 n_2 p_2.2)] [cellsC b6 [.int .i64 a0.Kind, str a0.Text, v0_2, v0_3, v0_4] 26, rowV 9 1 (.slice p_2.1 n_2 p_2.2) n_2 (l_2.map e_string)] rfl rfl ?_
   refine c_meet (r := r) (σ := (List (List UInt8))) (τ := (Option Addr × Nat) × Nat) (fun s => tag_valueText_j3 s) (fun s t => [(3, .slice t.1.1 t.2 t.1.2)]) (fun s t => [rowV 9 1 (.slice t.1.1 t.2 t.1.2) t.2 (s.map e_string)]) (fun s t => t.2 = s.length) ?_ ?_
   ·refine c_seq ?_
    refine c_region ?_
    refine l_val rfl rfl rfl (r_field Tryz.runUnderlying26 rfl Tryz.sizeOf9 rfl rfl) ?_
    refine l_load1 (i := 0) (v := str a0.Text) Tryz.isAgg9 rfl rfl rfl rfl rfl ?_
    refine l_val rfl rfl rfl (r_neqT rfl rfl) ?_
    refine l_nil ?_
    refine c_if (b := (decide (a0.Text ≠ []))) rfl (fun hb => ?_) (fun hb => ?_)
    ·have H32 := cnd_t hb H29; clear H29
     refine c_region ?_
     refine l_val rfl rfl rfl (r_move (v := .slice p_2.1 n_2 p_2.2) rfl) ?_
     refine l_val rfl rfl rfl (r_field Tryz.runUnderlying26 rfl Tryz.sizeOf9 rfl rfl) ?_
     refine l_load1 (i := 0) (v := str a0.Text) Tryz.isAgg9 rfl rfl rfl rfl rfl ?_
     obtain ⟨t50, h_t50, H33⟩ := bnd_some H32; clear H32
     refine l_call (k45 h_t50) Tryz.call45 rfl rfl rfl ?_
     refine l_buildSlice (vs := [str t50]) (cs := [str t50]) Tryz.underlying33 Tryz.sizeOf9 Tryz.zeroValue9 rfl rfl rfl rfl rfl rfl rfl (fun b8 => ?_)
     obtain ⟨l52, h_l52, H34⟩ := bnd_some H33; clear H33
     refine l_turn (turns_appG (i := 1) (hn := hl_2) (rds := [2]) (p := p_2) (sz := 1) (by_ := 16) (f := e_string) (ys := l_2) (ls := ([t50] : List (List UInt8))) (V := .slice (some ⟨b8, 0, none⟩) 1 1) Tryz.underlying33 (info_of Tryz.typeInfo9) rfl rfl rfl rfl rfl rfl rfl rfl rfl rfl (fun w L' hF hS hi => row_box (i := 2) hS ((hi 2 (by simp)).trans rfl) rfl rfl) (fun _ => rfl) (fun _ => rfl) h_l52) rfl rfl rfl (fun p_4 => ?_)
     refine l_val rfl rfl rfl (r_assign (v := .slice p_4.1 l52.length p_4.2) rfl) ?_
     refine l_nil ?_
     refine c_close l52 (p_4, l52.length) 0 [1] (by exact ⟨rfl, trivial⟩) (by decide) rfl (by exact ⟨H34, rfl⟩) (Nat.lt_succ_self _)
    ·have H35 := cnd_f hb H29; clear H29
     refine c_skip ?_
     refine c_close l_2 (p_2, n_2) 0 [1] (by exact ⟨rfl, trivial⟩) (by decide) rfl (by exact ⟨H35, hl_2⟩) (Nat.lt_succ_self _)
   ·rintro l_3 ⟨p_3, n_3⟩ gg H30 hl_3
    replace H30 : tag_valueText_j3 l_3 = some r := H30
    refine c_tidyF [(3, .slice p_3.1 n_3 p_3.2)] [rowV 9 1 (.slice p_3.1 n_3 p_3.2) n_3 (l_3.map e_string)] rfl rfl ?_
    refine c_seq ?_
    refine c_region ?_
    refine l_val rfl rfl rfl (r_move (v := .slice p_3.1 n_3 p_3.2) rfl) ?_
    obtain ⟨t54, h_t54, H31⟩ := bnd_some H30; clear H30
    refine l_callG (fun w hF hS => k22 (know_all w) (frs_own (i := 0) hl_3 hS rfl) h_t54) Tryz.call22 rfl rfl rfl ?_
    refine l_val rfl rfl rfl (r_assign (v := str t54) rfl) ?_
    refine l_nil ?_
    refine c_ret ?_
    obtain rfl := Option.some.inj H31
    refine ret1 (v := str t54) rfl rfl (fin rfl)
end Go.Proofs.YtohdhdiaahiicaaGreatDoor
