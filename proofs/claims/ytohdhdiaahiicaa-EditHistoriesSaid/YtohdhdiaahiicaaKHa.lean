/- EditHistories, the program: the walks, printed by our generator; each follows its model. Conditions: the model yields a value. -/
import Derived.Test.YtohdhdiaahiicaaMHi
import Derived.Test.YtohdhdiaahiicaaProg
import Derived.Test.YtohdhdiaahiicaaLx26
import Derived.Test.YtohdhdiaahiicaaLx17
import Derived.Test.YtohdhdiaahiicaaLx18
import Derived.Test.YtohdhdiaahiicaaLx19
namespace Go.Proofs.Ytohdhdiaahiicaa
open Go Go.Vc Go.Md Go.M Go.Lx
set_option maxRecDepth 100000
set_option maxHeartbeats 4000000
set_option linter.unusedVariables false

theorem mixed : Try.prog.follows .mixedOrders = true := by kernel_rfl

abbrev e_edit_Step (x : T_edit_Step) : List Value := [.int .i64 x.Kind, .int .i64 x.A, .int .i64 x.B, .int .i64 x.C, .int .i64 x.D]
abbrev e_i64 (x : Int) : List Value := [.int .i64 x]
def fnR_func_int_int_int_bool (m : (Int → Int → Int → Option (Bool))) (w : World) (args : List Value) (post : Value → World → Prop) : Prop :=
  ∃ (a0 : Int) (a1 : Int) (a2 : Int) (r : Bool), args = [.int .i64 a0, .int .i64 a1, .int .i64 a2] ∧ m a0 a1 a2 = some r ∧ post = fun v' w' => v' = (.bool r) ∧ Grow w w'

def gs_edit_Step (h : Heap) (c : Nat → Value) (x : (List T_edit_Step)) : Prop := FrS h 5 (c 0) (x.map e_edit_Step)
instance : Mon gs_edit_Step := ⟨fun k _ _ f => FrS.mono f k⟩
theorem cgs_edit_Step {h : Heap} {c : Nat → Value} {x : (List T_edit_Step)} (_ : gs_edit_Step h c x) : (List.range 1).map c = [c 0] := rfl
def g_tintlaw2_Move (h : Heap) (c : Nat → Value) (x : T_tintlaw2_Move) : Prop := c 0 = .int .i64 x.Kind ∧ c 1 = .int .i64 x.N ∧ c 2 = .int .i64 x.Step.Kind ∧ c 3 = .int .i64 x.Step.A ∧ c 4 = .int .i64 x.Step.B ∧ c 5 = .int .i64 x.Step.C ∧ c 6 = .int .i64 x.Step.D ∧ gs_edit_Step h (fun j => c (7 + j)) x.Steps
instance : Mon g_tintlaw2_Move := ⟨fun k _ _ f => by obtain ⟨h0, h1, h2, h3, h4, h5, h6, h7⟩ := f; exact ⟨h0, h1, h2, h3, h4, h5, h6, Mon.mono k _ _ h7⟩⟩
theorem cg_tintlaw2_Move {h : Heap} {c : Nat → Value} {x : T_tintlaw2_Move} (f : g_tintlaw2_Move h c x) : (List.range 8).map c = [.int .i64 x.Kind, .int .i64 x.N, .int .i64 x.Step.Kind, .int .i64 x.Step.A, .int .i64 x.Step.B, .int .i64 x.Step.C, .int .i64 x.Step.D, c 7] := by
  obtain ⟨h0, h1, h2, h3, h4, h5, h6, h7⟩ := f
  show [c 0, c 1, c 2, c 3, c 4, c 5, c 6, c 7] = _
  simp only [h0, h1, h2, h3, h4, h5, h6]
theorem g_tintlaw2_Move_p3 {h : Heap} {c : Nat → Value} {x : T_tintlaw2_Move} (f : g_tintlaw2_Move h c x) : gs_edit_Step h (fun j => c (7 + j)) x.Steps := by
  obtain ⟨h0, h1, h2, h3, h4, h5, h6, h7⟩ := f; exact h7


theorem run_eqT31 (d : Nat) (w : World) (a0 b0 : Int) (a1 b1 : Int) (a2 b2 : Int) (a3 b3 : Int) (a4 b4 : Int) : (Op.equalIn (d + 2) 31 (.agg #[.int .i64 a0, .int .i64 a1, .int .i64 a2, .int .i64 a3, .int .i64 a4]) (.agg #[.int .i64 b0, .int .i64 b1, .int .i64 b2, .int .i64 b3, .int .i64 b4])).run Try.prog w = .ok (decide (a0 = b0 ∧ a1 = b1 ∧ a2 = b2 ∧ a3 = b3 ∧ a4 = b4)) w := by
  rw [run_equalIn_struct w (d + 1) 31 _ _ (by simp only [Program.fieldsOf, Try.underlying31]) Try.stoodInHeld31]
  simp only [Program.fieldsOf, Try.underlying31, Op.eqFields]
  simp [part, run_equalIn_int, run_equalIn_strL, run_equalIn_bool', Try.underlying3]
  repeat' split
  all_goals simp_all

theorem run_eq_edit_Step (w : World) (x y : T_edit_Step) : (Op.equalIn Op.maxDepth 31 (.agg #[.int .i64 x.Kind, .int .i64 x.A, .int .i64 x.B, .int .i64 x.C, .int .i64 x.D]) (.agg #[.int .i64 y.Kind, .int .i64 y.A, .int .i64 y.B, .int .i64 y.C, .int .i64 y.D])).run Try.prog w = .ok (eq_edit_Step x y) w :=
  run_eqT31 9998 w _ _ _ _ _ _ _ _ _ _

theorem k10 {a0 : (List T_edit_Step)} {v0 : Value} {r : (List T_edit_Step)} {w : World} {h : Heap} (hw : Know h w noS) (f0 : FrS h 5 v0 (a0.map e_edit_Step)) (H : slices_Clone_edit_Step a0 = some r) : Does Try.prog 10 (List.toArray [v0]) w (fun v w' => ∃ x : (Option Addr × Nat), v = (.slice x.1 r.length x.2) ∧ Turn w w' noS (rowV 31 5 (.slice x.1 r.length x.2) r.length (r.map e_edit_Step))) := by
 refine enter (n := 8) Try.func10 rfl rfl rfl noS [] (Sat.nil _ _) ?_
 refine c_seq ?_
 refine c_region ?_
 refine l_val rfl rfl rfl (r_assign (v := .slice none 0 0) rfl) ?_
 refine l_nil ?_
 refine c_seq ?_
 refine c_seq ?_
 refine c_region ?_
 refine l_val rfl rfl rfl (r_move (v := v0) rfl) ?_
 refine l_val rfl rfl rfl (r_eqlNilS Try.underlying22 f0 rfl rfl) ?_
 refine l_nil ?_
 refine c_if (b := isNilV v0) rfl (fun hb => ?_) (fun hb => ?_)
 ·have hn_ : a0 = [] := f0.nilV hb
  have H3 : some ([] : List T_edit_Step) = some r := by have h_ := H; rw [hn_] at h_; exact h_
  refine c_seq ?_
  refine c_region ?_
  refine l_val rfl rfl rfl (r_assign (v := .slice none 0 0) rfl) ?_
  refine l_nil ?_
  refine c_ret ?_
  refine c_nilRow 31 5 ?_
  obtain rfl := Option.some.inj H3
  refine ret1 (v := .slice ((none, 0) : Option Addr × Nat).1 ([] : List T_edit_Step).length ((none, 0) : Option Addr × Nat).2) rfl rfl (finX ((none, 0) : Option Addr × Nat) (i := 0) rfl rfl (Imp.refl _))
 ·skip
  refine c_skip ?_
  refine c_seq ?_
  refine c_region ?_
  refine l_buildSlice (vs := []) (cs := []) Try.underlying22 Try.sizeOf31 Try.zeroValue31 rfl rfl rfl rfl rfl rfl rfl (fun b1 => ?_)
  refine l_val rfl rfl rfl (r_move (v := v0) rfl) ?_
  refine c_imp 0 rfl (imp_box (m := 0) (E := 31) (sz := 5) (xs := (([] : List T_edit_Step)).map e_edit_Step) rfl rfl rfl ⟨rfl, by decide⟩) ?_
  obtain ⟨l7, h_l7, H4⟩ := bnd_some H; clear H
  refine l_turn (turns_appG (i := 0) (hn := rfl) (rds := []) (p := ((some ⟨b1, 0, none⟩, 0) : Option Addr × Nat)) (sz := 5) (by_ := 40) (f := e_edit_Step) (ys := ([] : List T_edit_Step)) (ls := a0) (V := v0) Try.underlying22 (info_of Try.typeInfo31) rfl rfl rfl rfl rfl rfl rfl rfl f0.eq (List.length_map _) (fun w L' hF hS hi => (f0).row (hw.now hF)) (fun _ => rfl) (fun _ => rfl) h_l7) rfl rfl rfl (fun p => ?_)
  refine l_val rfl rfl rfl (r_assign (v := .slice p.1 l7.length p.2) rfl) ?_
  refine l_nil ?_
  refine c_ret ?_
  obtain rfl := Option.some.inj H4
  refine ret1 (v := .slice p.1 l7.length p.2) rfl rfl (finX p (i := 0) rfl rfl (Imp.refl _))
theorem k56 {a0 : Int} {a1 : Int} {a2 : Int} {r : Bool} (H : edit_outside a0 a1 a2 = some r) : Ret Try.prog 56 [.int .i64 a0, .int .i64 a1, .int .i64 a2] (.bool r) := by
 refine enterRet (n := 15) Try.func56 rfl rfl rfl (fun wd => ?_)
 refine c_seq ?_
 refine c_region ?_
 refine l_val rfl rfl rfl (r_assign (v := .bool false) rfl) ?_
 refine l_nil ?_
 refine c_seq ?_
 refine c_region ?_
 refine l_val rfl rfl rfl (r_move (v := .int .i64 a0) rfl) ?_
 refine l_val rfl rfl rfl (r_move (v := .int .i64 a1) rfl) ?_
 refine l_val rfl rfl rfl (r_lss rfl rfl) ?_
 refine l_val rfl rfl rfl (r_move (v := .bool (decide (a0 < a1))) rfl) ?_
 refine split (fun hb => ?_) (fun hb => ?_)
 ·have H3 := cnd_t hb H; clear H
  refine l_passed rfl rfl rfl ?_
  refine l_passed rfl rfl rfl ?_
  refine l_passed rfl rfl rfl ?_
  refine l_val rfl rfl rfl (r_pickT (v := .bool true) rfl rfl) ?_
  refine l_val rfl rfl rfl (r_assign (v := .bool true) rfl) ?_
  refine l_nil ?_
  refine c_ret ?_
  obtain rfl := Option.some.inj H3
  refine ret1 (v := .bool true) rfl rfl (fin rfl)
 ·have H4 := cnd_f hb H; clear H
  refine l_val rfl rfl rfl (r_move (v := .int .i64 a0) rfl) ?_
  refine l_val rfl rfl rfl (r_move (v := .int .i64 a2) rfl) ?_
  refine l_val rfl rfl rfl (r_gtr rfl rfl) ?_
  refine l_val rfl rfl rfl (r_pickF (v := .bool (decide (a2 < a0))) rfl rfl) ?_
  refine l_val rfl rfl rfl (r_assign (v := .bool (decide (a2 < a0))) rfl) ?_
  refine l_nil ?_
  refine c_ret ?_
  obtain rfl := Option.some.inj H4
  refine ret1 (v := .bool (decide (a2 < a0))) rfl rfl (fin rfl)
theorem k114 {a0 : Int} {r : (List UInt8) × Int} (H : edit_word a0 = some r) : Ret Try.prog 114 [.int .i64 a0] (.tuple #[str r.1, .int .i64 r.2]) := by
 refine enterRet (n := 21) Try.func114 rfl rfl rfl (fun wd => ?_)
 refine c_seq ?_
 refine c_region ?_
 refine l_val rfl rfl rfl (r_assign (v := str []) rfl) ?_
 refine l_val rfl rfl rfl (r_assign (v := .int .i64 0) rfl) ?_
 refine l_nil ?_
 refine c_seq ?_
 refine c_seq ?_
 refine c_region ?_
 refine l_val rfl rfl rfl (r_move (v := .int .i64 a0) rfl) ?_
 refine l_nil ?_
 refine c_block ?_
 refine c_seq ?_
 refine c_region ?_
 refine l_val rfl rfl rfl (r_eql rfl rfl) ?_
 refine l_val rfl rfl rfl (r_assign (v := .bool (decide (a0 = 1))) rfl) ?_
 refine l_nil ?_
 refine c_if (b := (decide (a0 = 1))) rfl (fun hb => ?_) (fun hb => ?_)
 ·have H17 := cnd_t hb H; clear H
  refine c_seq ?_
  refine c_region ?_
  refine l_val rfl rfl rfl (r_assign (v := str [116, 117, 114, 110]) rfl) ?_
  refine l_val rfl rfl rfl (r_assign (v := .int .i64 1) rfl) ?_
  refine l_nil ?_
  refine c_ret ?_
  obtain rfl := Option.some.inj H17
  refine ret2 (v1 := str [116, 117, 114, 110]) (v2 := .int .i64 1) rfl rfl rfl (fin rfl)
 ·have H18 := cnd_f hb H; clear H
  refine c_seq ?_
  refine c_region ?_
  refine l_val rfl rfl rfl (r_eql rfl rfl) ?_
  refine l_val rfl rfl rfl (r_assign (v := .bool (decide (a0 = 2))) rfl) ?_
  refine l_nil ?_
  refine c_if (b := (decide (a0 = 2))) rfl (fun hb => ?_) (fun hb => ?_)
  ·have H19 := cnd_t hb H18; clear H18
   refine c_seq ?_
   refine c_region ?_
   refine l_val rfl rfl rfl (r_assign (v := str [99, 114, 111, 112]) rfl) ?_
   refine l_val rfl rfl rfl (r_assign (v := .int .i64 4) rfl) ?_
   refine l_nil ?_
   refine c_ret ?_
   obtain rfl := Option.some.inj H19
   refine ret2 (v1 := str [99, 114, 111, 112]) (v2 := .int .i64 4) rfl rfl rfl (fin rfl)
  ·have H20 := cnd_f hb H18; clear H18
   refine c_seq ?_
   refine c_region ?_
   refine l_val rfl rfl rfl (r_eql rfl rfl) ?_
   refine l_val rfl rfl rfl (r_assign (v := .bool (decide (a0 = 3))) rfl) ?_
   refine l_nil ?_
   refine c_if (b := (decide (a0 = 3))) rfl (fun hb => ?_) (fun hb => ?_)
   ·have H21 := cnd_t hb H20; clear H20
    refine c_seq ?_
    refine c_region ?_
    refine l_val rfl rfl rfl (r_assign (v := str [115, 99, 97, 108, 101]) rfl) ?_
    refine l_val rfl rfl rfl (r_assign (v := .int .i64 2) rfl) ?_
    refine l_nil ?_
    refine c_ret ?_
    obtain rfl := Option.some.inj H21
    refine ret2 (v1 := str [115, 99, 97, 108, 101]) (v2 := .int .i64 2) rfl rfl rfl (fin rfl)
   ·have H22 := cnd_f hb H20; clear H20
    refine c_seq ?_
    refine c_region ?_
    refine l_val rfl rfl rfl (r_eql rfl rfl) ?_
    refine l_val rfl rfl rfl (r_assign (v := .bool (decide (a0 = 4))) rfl) ?_
    refine l_nil ?_
    refine c_if (b := (decide (a0 = 4))) rfl (fun hb => ?_) (fun hb => ?_)
    ·have H23 := cnd_t hb H22; clear H22
     refine c_seq ?_
     refine c_region ?_
     refine l_val rfl rfl rfl (r_assign (v := str [108, 105, 103, 104, 116]) rfl) ?_
     refine l_val rfl rfl rfl (r_assign (v := .int .i64 1) rfl) ?_
     refine l_nil ?_
     refine c_ret ?_
     obtain rfl := Option.some.inj H23
     refine ret2 (v1 := str [108, 105, 103, 104, 116]) (v2 := .int .i64 1) rfl rfl rfl (fin rfl)
    ·have H24 := cnd_f hb H22; clear H22
     refine c_seq ?_
     refine c_region ?_
     refine l_val rfl rfl rfl (r_eql rfl rfl) ?_
     refine l_val rfl rfl rfl (r_assign (v := .bool (decide (a0 = 5))) rfl) ?_
     refine l_nil ?_
     refine c_if (b := (decide (a0 = 5))) rfl (fun hb => ?_) (fun hb => ?_)
     ·have H25 := cnd_t hb H24; clear H24
      refine c_seq ?_
      refine c_region ?_
      refine l_val rfl rfl rfl (r_assign (v := str [115, 112, 114, 101, 97, 100]) rfl) ?_
      refine l_val rfl rfl rfl (r_assign (v := .int .i64 1) rfl) ?_
      refine l_nil ?_
      refine c_ret ?_
      obtain rfl := Option.some.inj H25
      refine ret2 (v1 := str [115, 112, 114, 101, 97, 100]) (v2 := .int .i64 1) rfl rfl rfl (fin rfl)
     ·have H26 := cnd_f hb H24; clear H24
      refine c_seq ?_
      refine c_region ?_
      refine l_val rfl rfl rfl (r_eql rfl rfl) ?_
      refine l_val rfl rfl rfl (r_assign (v := .bool (decide (a0 = 6))) rfl) ?_
      refine l_nil ?_
      refine c_if (b := (decide (a0 = 6))) rfl (fun hb => ?_) (fun hb => ?_)
      ·have H27 := cnd_t hb H26; clear H26
       refine c_seq ?_
       refine c_region ?_
       refine l_val rfl rfl rfl (r_assign (v := str [108, 101, 118, 101, 108, 115]) rfl) ?_
       refine l_val rfl rfl rfl (r_assign (v := .int .i64 2) rfl) ?_
       refine l_nil ?_
       refine c_ret ?_
       obtain rfl := Option.some.inj H27
       refine ret2 (v1 := str [108, 101, 118, 101, 108, 115]) (v2 := .int .i64 2) rfl rfl rfl (fin rfl)
      ·have H28 := cnd_f hb H26; clear H26
       refine c_seq ?_
       refine c_region ?_
       refine l_val rfl rfl rfl (r_eql rfl rfl) ?_
       refine l_val rfl rfl rfl (r_assign (v := .bool (decide (a0 = 7))) rfl) ?_
       refine l_nil ?_
       refine c_if (b := (decide (a0 = 7))) rfl (fun hb => ?_) (fun hb => ?_)
       ·have H29 := cnd_t hb H28; clear H28
        refine c_seq ?_
        refine c_region ?_
        refine l_val rfl rfl rfl (r_assign (v := str [119, 97, 114, 109]) rfl) ?_
        refine l_val rfl rfl rfl (r_assign (v := .int .i64 1) rfl) ?_
        refine l_nil ?_
        refine c_ret ?_
        obtain rfl := Option.some.inj H29
        refine ret2 (v1 := str [119, 97, 114, 109]) (v2 := .int .i64 1) rfl rfl rfl (fin rfl)
       ·have H30 := cnd_f hb H28; clear H28
        refine c_seq ?_
        refine c_region ?_
        refine l_val rfl rfl rfl (r_eql rfl rfl) ?_
        refine l_val rfl rfl rfl (r_assign (v := .bool (decide (a0 = 8))) rfl) ?_
        refine l_nil ?_
        refine c_if (b := (decide (a0 = 8))) rfl (fun hb => ?_) (fun hb => ?_)
        ·have H31 := cnd_t hb H30; clear H30
         refine c_seq ?_
         refine c_region ?_
         refine l_val rfl rfl rfl (r_assign (v := str [109, 117, 116, 101]) rfl) ?_
         refine l_val rfl rfl rfl (r_assign (v := .int .i64 1) rfl) ?_
         refine l_nil ?_
         refine c_ret ?_
         obtain rfl := Option.some.inj H31
         refine ret2 (v1 := str [109, 117, 116, 101]) (v2 := .int .i64 1) rfl rfl rfl (fin rfl)
        ·have H32 := cnd_f hb H30; clear H30
         refine c_skip ?_
         refine c_seq ?_
         refine c_region ?_
         refine l_val rfl rfl rfl (r_assign (v := str [105, 110, 118, 101, 114, 116]) rfl) ?_
         refine l_val rfl rfl rfl (r_assign (v := .int .i64 0) rfl) ?_
         refine l_nil ?_
         refine c_ret ?_
         obtain rfl := Option.some.inj H32
         refine ret2 (v1 := str [105, 110, 118, 101, 114, 116]) (v2 := .int .i64 0) rfl rfl rfl (fin rfl)
theorem k115 {a0 : T_edit_Step} {r : (List Int)} {w : World} {h : Heap} (hw : Know h w noS) (H : edit_Step_numbers a0 = some r) : Does Try.prog 115 (List.toArray [.agg #[.int .i64 a0.Kind, .int .i64 a0.A, .int .i64 a0.B, .int .i64 a0.C, .int .i64 a0.D]]) w (fun v w' => ∃ x : (Option Addr × Nat), v = (.slice x.1 r.length x.2) ∧ Turn w w' noS (rowV 3 1 (.slice x.1 r.length x.2) r.length (r.map e_i64))) := by
 refine enter (n := 12) Try.func115 rfl rfl rfl noS [] (Sat.nil _ _) ?_
 refine c_seq ?_
 refine c_region ?_
 refine l_box (cs := [.int .i64 a0.Kind, .int .i64 a0.A, .int .i64 a0.B, .int .i64 a0.C, .int .i64 a0.D]) rfl rfl rfl rfl (fun b2 => ?_)
 refine l_val rfl rfl rfl (r_assign (v := .slice none 0 0) rfl) ?_
 refine l_nil ?_
 refine c_seq ?_
 refine c_region ?_
 refine l_val rfl rfl rfl (r_field Try.runUnderlying31 rfl Try.sizeOf3 rfl rfl) ?_
 refine l_load1 (i := 0) (v := .int .i64 a0.A) Try.isAgg3 rfl rfl rfl rfl rfl ?_
 refine l_val rfl rfl rfl (r_field Try.runUnderlying31 rfl Try.sizeOf3 rfl rfl) ?_
 refine l_load1 (i := 0) (v := .int .i64 a0.B) Try.isAgg3 rfl rfl rfl rfl rfl ?_
 refine l_val rfl rfl rfl (r_field Try.runUnderlying31 rfl Try.sizeOf3 rfl rfl) ?_
 refine l_load1 (i := 0) (v := .int .i64 a0.C) Try.isAgg3 rfl rfl rfl rfl rfl ?_
 refine l_val rfl rfl rfl (r_field Try.runUnderlying31 rfl Try.sizeOf3 rfl rfl) ?_
 refine l_load1 (i := 0) (v := .int .i64 a0.D) Try.isAgg3 rfl rfl rfl rfl rfl ?_
 refine l_buildSlice (vs := [.int .i64 a0.A, .int .i64 a0.B, .int .i64 a0.C, .int .i64 a0.D]) (cs := [.int .i64 a0.A, .int .i64 a0.B, .int .i64 a0.C, .int .i64 a0.D]) Try.underlying48 Try.sizeOf3 Try.zeroValue3 rfl rfl rfl rfl rfl rfl rfl (fun b3 => ?_)
 refine l_val rfl rfl rfl (r_assign (v := .slice (some ⟨b3, 0, none⟩) 4 4) rfl) ?_
 refine l_nil ?_
 refine c_ret ?_
 refine c_imp 1 rfl (imp_box (m := 4) (E := 3) (sz := 1) (xs := (([a0.A, a0.B, a0.C, a0.D] : List Int)).map e_i64) rfl rfl rfl ⟨rfl, by decide⟩) ?_
 obtain rfl := Option.some.inj H
 refine ret1 (v := .slice ((some ⟨b3, 0, none⟩, 4) : Option Addr × Nat).1 4 ((some ⟨b3, 0, none⟩, 4) : Option Addr × Nat).2) rfl rfl (finX ((some ⟨b3, 0, none⟩, 4) : Option Addr × Nat) (i := 1) rfl rfl (Imp.refl _))
theorem k116 {a0 : Int} {r : (Nat → (Nat → Int))} (H : edit_bounds a0 = some r) : Ret Try.prog 116 [.int .i64 a0] (.agg #[.int .i64 ((r 0) 0), .int .i64 ((r 0) 1), .int .i64 ((r 1) 0), .int .i64 ((r 1) 1), .int .i64 ((r 2) 0), .int .i64 ((r 2) 1), .int .i64 ((r 3) 0), .int .i64 ((r 3) 1)]) := by
 refine enterRet (n := 42) Try.func116 rfl rfl rfl (fun wd => ?_)
 refine c_seq ?_
 refine c_region ?_
 refine l_alloc (cs := [.int .i64 0, .int .i64 0, .int .i64 0, .int .i64 0, .int .i64 0, .int .i64 0, .int .i64 0, .int .i64 0]) Try.zeroValue177 rfl rfl rfl (fun b1 => ?_)
 refine l_nil ?_
 refine c_seq ?_
 refine c_seq ?_
 refine c_region ?_
 refine l_val rfl rfl rfl (r_move (v := .int .i64 a0) rfl) ?_
 refine l_nil ?_
 refine c_block ?_
 refine c_seq ?_
 refine c_region ?_
 refine l_val rfl rfl rfl (r_eql rfl rfl) ?_
 refine l_val rfl rfl rfl (r_assign (v := .bool (decide (a0 = 1))) rfl) ?_
 refine l_nil ?_
 refine c_if (b := (decide (a0 = 1))) rfl (fun hb => ?_) (fun hb => ?_)
 ·have H17 := cnd_t hb H; clear H
  refine c_seq ?_
  refine c_region ?_
  refine l_val rfl rfl rfl (r_buildA (ps := [(0, .int .i64 1), (1, .int .i64 8)]) (cells := #[.int .i64 1, .int .i64 8]) Try.zeroValue84 Try.runUnderlying84 Try.sizeOf3 rfl rfl) ?_
  refine l_val rfl rfl rfl (r_buildA (ps := [(0, .agg #[.int .i64 1, .int .i64 8])]) (cells := #[.int .i64 1, .int .i64 8, .int .i64 0, .int .i64 0, .int .i64 0, .int .i64 0, .int .i64 0, .int .i64 0]) Try.zeroValue177 Try.runUnderlying177 Try.sizeOf84 rfl rfl) ?_
  refine l_store (i := 0) (vs := [.int .i64 1, .int .i64 8, .int .i64 0, .int .i64 0, .int .i64 0, .int .i64 0, .int .i64 0, .int .i64 0]) (cs' := [.int .i64 1, .int .i64 8, .int .i64 0, .int .i64 0, .int .i64 0, .int .i64 0, .int .i64 0, .int .i64 0]) Try.sizeOf177 rfl rfl rfl rfl rfl rfl rfl rfl rfl ?_
  refine l_nil ?_
  refine c_ret ?_
  obtain rfl := Option.some.inj H17
  refine retC (i := 0) (vs := [.int .i64 1, .int .i64 8, .int .i64 0, .int .i64 0, .int .i64 0, .int .i64 0, .int .i64 0, .int .i64 0]) Try.isAgg177 Try.sizeOf177 rfl rfl rfl rfl (fin rfl)
 ·have H18 := cnd_f hb H; clear H
  refine c_seq ?_
  refine c_region ?_
  refine l_val rfl rfl rfl (r_eql rfl rfl) ?_
  refine l_val rfl rfl rfl (r_assign (v := .bool (decide (a0 = 2))) rfl) ?_
  refine l_nil ?_
  refine c_if (b := (decide (a0 = 2))) rfl (fun hb => ?_) (fun hb => ?_)
  ·have H19 := cnd_t hb H18; clear H18
   refine c_seq ?_
   refine c_region ?_
   refine l_val rfl rfl rfl (r_buildA (ps := [(0, .int .i64 0), (1, .int .i64 63)]) (cells := #[.int .i64 0, .int .i64 63]) Try.zeroValue84 Try.runUnderlying84 Try.sizeOf3 rfl rfl) ?_
   refine l_val rfl rfl rfl (r_buildA (ps := [(0, .int .i64 0), (1, .int .i64 63)]) (cells := #[.int .i64 0, .int .i64 63]) Try.zeroValue84 Try.runUnderlying84 Try.sizeOf3 rfl rfl) ?_
   refine l_val rfl rfl rfl (r_buildA (ps := [(0, .int .i64 1), (1, .int .i64 64)]) (cells := #[.int .i64 1, .int .i64 64]) Try.zeroValue84 Try.runUnderlying84 Try.sizeOf3 rfl rfl) ?_
   refine l_val rfl rfl rfl (r_buildA (ps := [(0, .int .i64 1), (1, .int .i64 64)]) (cells := #[.int .i64 1, .int .i64 64]) Try.zeroValue84 Try.runUnderlying84 Try.sizeOf3 rfl rfl) ?_
   refine l_val rfl rfl rfl (r_buildA (ps := [(0, .agg #[.int .i64 0, .int .i64 63]), (1, .agg #[.int .i64 0, .int .i64 63]), (2, .agg #[.int .i64 1, .int .i64 64]), (3, .agg #[.int .i64 1, .int .i64 64])]) (cells := #[.int .i64 0, .int .i64 63, .int .i64 0, .int .i64 63, .int .i64 1, .int .i64 64, .int .i64 1, .int .i64 64]) Try.zeroValue177 Try.runUnderlying177 Try.sizeOf84 rfl rfl) ?_
   refine l_store (i := 0) (vs := [.int .i64 0, .int .i64 63, .int .i64 0, .int .i64 63, .int .i64 1, .int .i64 64, .int .i64 1, .int .i64 64]) (cs' := [.int .i64 0, .int .i64 63, .int .i64 0, .int .i64 63, .int .i64 1, .int .i64 64, .int .i64 1, .int .i64 64]) Try.sizeOf177 rfl rfl rfl rfl rfl rfl rfl rfl rfl ?_
   refine l_nil ?_
   refine c_ret ?_
   obtain rfl := Option.some.inj H19
   refine retC (i := 0) (vs := [.int .i64 0, .int .i64 63, .int .i64 0, .int .i64 63, .int .i64 1, .int .i64 64, .int .i64 1, .int .i64 64]) Try.isAgg177 Try.sizeOf177 rfl rfl rfl rfl (fin rfl)
  ·have H20 := cnd_f hb H18; clear H18
   refine c_seq ?_
   refine c_region ?_
   refine l_val rfl rfl rfl (r_eql rfl rfl) ?_
   refine l_val rfl rfl rfl (r_assign (v := .bool (decide (a0 = 3))) rfl) ?_
   refine l_nil ?_
   refine c_if (b := (decide (a0 = 3))) rfl (fun hb => ?_) (fun hb => ?_)
   ·have H21 := cnd_t hb H20; clear H20
    refine c_seq ?_
    refine c_region ?_
    refine l_val rfl rfl rfl (r_buildA (ps := [(0, .int .i64 1), (1, .int .i64 64)]) (cells := #[.int .i64 1, .int .i64 64]) Try.zeroValue84 Try.runUnderlying84 Try.sizeOf3 rfl rfl) ?_
    refine l_val rfl rfl rfl (r_buildA (ps := [(0, .int .i64 1), (1, .int .i64 64)]) (cells := #[.int .i64 1, .int .i64 64]) Try.zeroValue84 Try.runUnderlying84 Try.sizeOf3 rfl rfl) ?_
    refine l_val rfl rfl rfl (r_buildA (ps := [(0, .agg #[.int .i64 1, .int .i64 64]), (1, .agg #[.int .i64 1, .int .i64 64])]) (cells := #[.int .i64 1, .int .i64 64, .int .i64 1, .int .i64 64, .int .i64 0, .int .i64 0, .int .i64 0, .int .i64 0]) Try.zeroValue177 Try.runUnderlying177 Try.sizeOf84 rfl rfl) ?_
    refine l_store (i := 0) (vs := [.int .i64 1, .int .i64 64, .int .i64 1, .int .i64 64, .int .i64 0, .int .i64 0, .int .i64 0, .int .i64 0]) (cs' := [.int .i64 1, .int .i64 64, .int .i64 1, .int .i64 64, .int .i64 0, .int .i64 0, .int .i64 0, .int .i64 0]) Try.sizeOf177 rfl rfl rfl rfl rfl rfl rfl rfl rfl ?_
    refine l_nil ?_
    refine c_ret ?_
    obtain rfl := Option.some.inj H21
    refine retC (i := 0) (vs := [.int .i64 1, .int .i64 64, .int .i64 1, .int .i64 64, .int .i64 0, .int .i64 0, .int .i64 0, .int .i64 0]) Try.isAgg177 Try.sizeOf177 rfl rfl rfl rfl (fin rfl)
   ·have H22 := cnd_f hb H20; clear H20
    refine c_seq ?_
    refine c_region ?_
    refine l_val rfl rfl rfl (r_eql rfl rfl) ?_
    refine l_val rfl rfl rfl (r_assign (v := .bool (decide (a0 = 4))) rfl) ?_
    refine l_nil ?_
    refine c_if (b := (decide (a0 = 4))) rfl (fun hb => ?_) (fun hb => ?_)
    ·have H23 := cnd_t hb H22; clear H22
     refine c_seq ?_
     refine c_region ?_
     refine l_val rfl rfl rfl (r_buildA (ps := [(0, .int .i64 (-255)), (1, .int .i64 255)]) (cells := #[.int .i64 (-255), .int .i64 255]) Try.zeroValue84 Try.runUnderlying84 Try.sizeOf3 rfl rfl) ?_
     refine l_val rfl rfl rfl (r_buildA (ps := [(0, .agg #[.int .i64 (-255), .int .i64 255])]) (cells := #[.int .i64 (-255), .int .i64 255, .int .i64 0, .int .i64 0, .int .i64 0, .int .i64 0, .int .i64 0, .int .i64 0]) Try.zeroValue177 Try.runUnderlying177 Try.sizeOf84 rfl rfl) ?_
     refine l_store (i := 0) (vs := [.int .i64 (-255), .int .i64 255, .int .i64 0, .int .i64 0, .int .i64 0, .int .i64 0, .int .i64 0, .int .i64 0]) (cs' := [.int .i64 (-255), .int .i64 255, .int .i64 0, .int .i64 0, .int .i64 0, .int .i64 0, .int .i64 0, .int .i64 0]) Try.sizeOf177 rfl rfl rfl rfl rfl rfl rfl rfl rfl ?_
     refine l_nil ?_
     refine c_ret ?_
     obtain rfl := Option.some.inj H23
     refine retC (i := 0) (vs := [.int .i64 (-255), .int .i64 255, .int .i64 0, .int .i64 0, .int .i64 0, .int .i64 0, .int .i64 0, .int .i64 0]) Try.isAgg177 Try.sizeOf177 rfl rfl rfl rfl (fin rfl)
    ·have H24 := cnd_f hb H22; clear H22
     refine c_seq ?_
     refine c_region ?_
     refine l_val rfl rfl rfl (r_eql rfl rfl) ?_
     refine l_val rfl rfl rfl (r_assign (v := .bool (decide (a0 = 5))) rfl) ?_
     refine l_nil ?_
     refine c_if (b := (decide (a0 = 5))) rfl (fun hb => ?_) (fun hb => ?_)
     ·have H25 := cnd_t hb H24; clear H24
      refine c_seq ?_
      refine c_region ?_
      refine l_val rfl rfl rfl (r_buildA (ps := [(0, .int .i64 0), (1, .int .i64 400)]) (cells := #[.int .i64 0, .int .i64 400]) Try.zeroValue84 Try.runUnderlying84 Try.sizeOf3 rfl rfl) ?_
      refine l_val rfl rfl rfl (r_buildA (ps := [(0, .agg #[.int .i64 0, .int .i64 400])]) (cells := #[.int .i64 0, .int .i64 400, .int .i64 0, .int .i64 0, .int .i64 0, .int .i64 0, .int .i64 0, .int .i64 0]) Try.zeroValue177 Try.runUnderlying177 Try.sizeOf84 rfl rfl) ?_
      refine l_store (i := 0) (vs := [.int .i64 0, .int .i64 400, .int .i64 0, .int .i64 0, .int .i64 0, .int .i64 0, .int .i64 0, .int .i64 0]) (cs' := [.int .i64 0, .int .i64 400, .int .i64 0, .int .i64 0, .int .i64 0, .int .i64 0, .int .i64 0, .int .i64 0]) Try.sizeOf177 rfl rfl rfl rfl rfl rfl rfl rfl rfl ?_
      refine l_nil ?_
      refine c_ret ?_
      obtain rfl := Option.some.inj H25
      refine retC (i := 0) (vs := [.int .i64 0, .int .i64 400, .int .i64 0, .int .i64 0, .int .i64 0, .int .i64 0, .int .i64 0, .int .i64 0]) Try.isAgg177 Try.sizeOf177 rfl rfl rfl rfl (fin rfl)
     ·have H26 := cnd_f hb H24; clear H24
      refine c_seq ?_
      refine c_region ?_
      refine l_val rfl rfl rfl (r_eql rfl rfl) ?_
      refine l_val rfl rfl rfl (r_assign (v := .bool (decide (a0 = 6))) rfl) ?_
      refine l_nil ?_
      refine c_if (b := (decide (a0 = 6))) rfl (fun hb => ?_) (fun hb => ?_)
      ·have H27 := cnd_t hb H26; clear H26
       refine c_seq ?_
       refine c_region ?_
       refine l_val rfl rfl rfl (r_buildA (ps := [(0, .int .i64 0), (1, .int .i64 255)]) (cells := #[.int .i64 0, .int .i64 255]) Try.zeroValue84 Try.runUnderlying84 Try.sizeOf3 rfl rfl) ?_
       refine l_val rfl rfl rfl (r_buildA (ps := [(0, .int .i64 0), (1, .int .i64 255)]) (cells := #[.int .i64 0, .int .i64 255]) Try.zeroValue84 Try.runUnderlying84 Try.sizeOf3 rfl rfl) ?_
       refine l_val rfl rfl rfl (r_buildA (ps := [(0, .agg #[.int .i64 0, .int .i64 255]), (1, .agg #[.int .i64 0, .int .i64 255])]) (cells := #[.int .i64 0, .int .i64 255, .int .i64 0, .int .i64 255, .int .i64 0, .int .i64 0, .int .i64 0, .int .i64 0]) Try.zeroValue177 Try.runUnderlying177 Try.sizeOf84 rfl rfl) ?_
       refine l_store (i := 0) (vs := [.int .i64 0, .int .i64 255, .int .i64 0, .int .i64 255, .int .i64 0, .int .i64 0, .int .i64 0, .int .i64 0]) (cs' := [.int .i64 0, .int .i64 255, .int .i64 0, .int .i64 255, .int .i64 0, .int .i64 0, .int .i64 0, .int .i64 0]) Try.sizeOf177 rfl rfl rfl rfl rfl rfl rfl rfl rfl ?_
       refine l_nil ?_
       refine c_ret ?_
       obtain rfl := Option.some.inj H27
       refine retC (i := 0) (vs := [.int .i64 0, .int .i64 255, .int .i64 0, .int .i64 255, .int .i64 0, .int .i64 0, .int .i64 0, .int .i64 0]) Try.isAgg177 Try.sizeOf177 rfl rfl rfl rfl (fin rfl)
      ·have H28 := cnd_f hb H26; clear H26
       refine c_seq ?_
       refine c_region ?_
       refine l_val rfl rfl rfl (r_eql rfl rfl) ?_
       refine l_val rfl rfl rfl (r_assign (v := .bool (decide (a0 = 7))) rfl) ?_
       refine l_nil ?_
       refine c_if (b := (decide (a0 = 7))) rfl (fun hb => ?_) (fun hb => ?_)
       ·have H29 := cnd_t hb H28; clear H28
        refine c_seq ?_
        refine c_region ?_
        refine l_val rfl rfl rfl (r_buildA (ps := [(0, .int .i64 (-100)), (1, .int .i64 100)]) (cells := #[.int .i64 (-100), .int .i64 100]) Try.zeroValue84 Try.runUnderlying84 Try.sizeOf3 rfl rfl) ?_
        refine l_val rfl rfl rfl (r_buildA (ps := [(0, .agg #[.int .i64 (-100), .int .i64 100])]) (cells := #[.int .i64 (-100), .int .i64 100, .int .i64 0, .int .i64 0, .int .i64 0, .int .i64 0, .int .i64 0, .int .i64 0]) Try.zeroValue177 Try.runUnderlying177 Try.sizeOf84 rfl rfl) ?_
        refine l_store (i := 0) (vs := [.int .i64 (-100), .int .i64 100, .int .i64 0, .int .i64 0, .int .i64 0, .int .i64 0, .int .i64 0, .int .i64 0]) (cs' := [.int .i64 (-100), .int .i64 100, .int .i64 0, .int .i64 0, .int .i64 0, .int .i64 0, .int .i64 0, .int .i64 0]) Try.sizeOf177 rfl rfl rfl rfl rfl rfl rfl rfl rfl ?_
        refine l_nil ?_
        refine c_ret ?_
        obtain rfl := Option.some.inj H29
        refine retC (i := 0) (vs := [.int .i64 (-100), .int .i64 100, .int .i64 0, .int .i64 0, .int .i64 0, .int .i64 0, .int .i64 0, .int .i64 0]) Try.isAgg177 Try.sizeOf177 rfl rfl rfl rfl (fin rfl)
       ·have H30 := cnd_f hb H28; clear H28
        refine c_seq ?_
        refine c_region ?_
        refine l_val rfl rfl rfl (r_eql rfl rfl) ?_
        refine l_val rfl rfl rfl (r_assign (v := .bool (decide (a0 = 8))) rfl) ?_
        refine l_nil ?_
        refine c_if (b := (decide (a0 = 8))) rfl (fun hb => ?_) (fun hb => ?_)
        ·have H31 := cnd_t hb H30; clear H30
         refine c_seq ?_
         refine c_region ?_
         refine l_val rfl rfl rfl (r_buildA (ps := [(0, .int .i64 0), (1, .int .i64 100)]) (cells := #[.int .i64 0, .int .i64 100]) Try.zeroValue84 Try.runUnderlying84 Try.sizeOf3 rfl rfl) ?_
         refine l_val rfl rfl rfl (r_buildA (ps := [(0, .agg #[.int .i64 0, .int .i64 100])]) (cells := #[.int .i64 0, .int .i64 100, .int .i64 0, .int .i64 0, .int .i64 0, .int .i64 0, .int .i64 0, .int .i64 0]) Try.zeroValue177 Try.runUnderlying177 Try.sizeOf84 rfl rfl) ?_
         refine l_store (i := 0) (vs := [.int .i64 0, .int .i64 100, .int .i64 0, .int .i64 0, .int .i64 0, .int .i64 0, .int .i64 0, .int .i64 0]) (cs' := [.int .i64 0, .int .i64 100, .int .i64 0, .int .i64 0, .int .i64 0, .int .i64 0, .int .i64 0, .int .i64 0]) Try.sizeOf177 rfl rfl rfl rfl rfl rfl rfl rfl rfl ?_
         refine l_nil ?_
         refine c_ret ?_
         obtain rfl := Option.some.inj H31
         refine retC (i := 0) (vs := [.int .i64 0, .int .i64 100, .int .i64 0, .int .i64 0, .int .i64 0, .int .i64 0, .int .i64 0, .int .i64 0]) Try.isAgg177 Try.sizeOf177 rfl rfl rfl rfl (fin rfl)
        ·have H32 := cnd_f hb H30; clear H30
         refine c_skip ?_
         refine c_seq ?_
         refine c_region ?_
         refine l_val rfl rfl rfl (r_buildA (ps := []) (cells := #[.int .i64 0, .int .i64 0, .int .i64 0, .int .i64 0, .int .i64 0, .int .i64 0, .int .i64 0, .int .i64 0]) Try.zeroValue177 Try.runUnderlying177 Try.sizeOf84 rfl rfl) ?_
         refine l_store (i := 0) (vs := [.int .i64 0, .int .i64 0, .int .i64 0, .int .i64 0, .int .i64 0, .int .i64 0, .int .i64 0, .int .i64 0]) (cs' := [.int .i64 0, .int .i64 0, .int .i64 0, .int .i64 0, .int .i64 0, .int .i64 0, .int .i64 0, .int .i64 0]) Try.sizeOf177 rfl rfl rfl rfl rfl rfl rfl rfl rfl ?_
         refine l_nil ?_
         refine c_ret ?_
         obtain rfl := Option.some.inj H32
         refine retC (i := 0) (vs := [.int .i64 0, .int .i64 0, .int .i64 0, .int .i64 0, .int .i64 0, .int .i64 0, .int .i64 0, .int .i64 0]) Try.isAgg177 Try.sizeOf177 rfl rfl rfl rfl (fin rfl)
theorem k53 {a0 : T_edit_Step} {r : Int} (H : edit_CheckStep a0 = some r) : Ret Try.prog 53 [.agg #[.int .i64 a0.Kind, .int .i64 a0.A, .int .i64 a0.B, .int .i64 a0.C, .int .i64 a0.D]] (.int .i64 r) := by
 refine enterRet (n := 66) Try.func53 rfl rfl rfl (fun wd => ?_)
 refine c_seq ?_
 refine c_region ?_
 refine l_box (cs := [.int .i64 a0.Kind, .int .i64 a0.A, .int .i64 a0.B, .int .i64 a0.C, .int .i64 a0.D]) rfl rfl rfl rfl (fun b2 => ?_)
 refine l_val rfl rfl rfl (r_assign (v := .int .i64 0) rfl) ?_
 refine l_nil ?_
 refine c_seq ?_
 refine c_seq ?_
 refine c_region ?_
 refine l_val rfl rfl rfl (r_field Try.runUnderlying31 rfl Try.sizeOf3 rfl rfl) ?_
 refine l_load1 (i := 0) (v := .int .i64 a0.Kind) Try.isAgg3 rfl rfl rfl rfl rfl ?_
 obtain ⟨t13, h_t13, H32⟩ := bnd_some H; clear H
 refine l_call (k56 h_t13) Try.call56 rfl rfl rfl ?_
 refine l_nil ?_
 refine c_if (b := t13) rfl (fun hb => ?_) (fun hb => ?_)
 ·have H33 := cnd_t hb H32; clear H32
  refine c_seq ?_
  refine c_region ?_
  refine l_val rfl rfl rfl (r_assign (v := .int .i64 10) rfl) ?_
  refine l_nil ?_
  refine c_ret ?_
  obtain rfl := Option.some.inj H33
  refine ret1 (v := .int .i64 10) rfl rfl (fin rfl)
 ·have H34 := cnd_f hb H32; clear H32
  refine c_skip ?_
  refine c_seq ?_
  refine c_region ?_
  refine l_val rfl rfl rfl (r_field Try.runUnderlying31 rfl Try.sizeOf3 rfl rfl) ?_
  refine l_load1 (i := 0) (v := .int .i64 a0.Kind) Try.isAgg3 rfl rfl rfl rfl rfl ?_
  obtain ⟨t17, h_t17, H35⟩ := bnd_some H34; clear H34
  refine l_call (k114 h_t17) Try.call114 rfl rfl rfl ?_
  refine l_val rfl rfl rfl (r_move (v := .tuple #[str t17.1, .int .i64 t17.2]) rfl) ?_
  refine l_val rfl rfl rfl (r_extract (v := str t17.1) rfl rfl) ?_
  refine l_val rfl rfl rfl (r_extract (v := .int .i64 t17.2) rfl rfl) ?_
  refine l_val rfl rfl rfl (r_assign (v := str t17.1) rfl) ?_
  refine l_val rfl rfl rfl (r_assign (v := .int .i64 t17.2) rfl) ?_
  refine l_nil ?_
  refine c_seq ?_
  refine c_region ?_
  refine l_loadN (i := 0) (vs := [.int .i64 a0.Kind, .int .i64 a0.A, .int .i64 a0.B, .int .i64 a0.C, .int .i64 a0.D]) Try.isAgg31 Try.sizeOf31 rfl rfl rfl rfl rfl ?_
  obtain ⟨t21, h_t21, H36⟩ := bnd_some H35; clear H35
  refine l_make (makes_call (rds := []) (G := fun x : (Option Addr × Nat) => .slice x.1 t21.length x.2) (C := fun x : (Option Addr × Nat) => rowV 3 1 (.slice x.1 t21.length x.2) t21.length (t21.map e_i64)) (fun w L' hF hS hi => k115 (know_all w)  h_t21) Try.call115 rfl) rfl rfl rfl (fun p => ?_)
  refine l_val rfl rfl rfl (r_assign (v := .slice p.1 t21.length p.2) rfl) ?_
  refine l_nil ?_
  refine c_meet (r := r) (σ := Unit) (τ := Unit) (fun s => edit_CheckStep_j1 a0 t17 t21) (fun s t => [(1, .pointer (some ⟨b2, 0, none⟩)), (4, .int .i64 t17.2), (5, .slice p.1 t21.length p.2)]) (fun s t => [cellsC b2 [.int .i64 a0.Kind, .int .i64 a0.A, .int .i64 a0.B, .int .i64 a0.C, .int .i64 a0.D] 31, rowV 3 1 (.slice p.1 t21.length p.2) t21.length (t21.map e_i64)]) (fun s t => True) ?_ ?_
  ·refine c_seq ?_
   refine c_region ?_
   refine l_val rfl rfl rfl (r_move (v := .slice p.1 t21.length p.2) rfl) ?_
   refine l_val rfl rfl rfl (r_move (v := .int .i64 t17.2) rfl) ?_
   obtain ⟨t24, h_t24, H55⟩ := bnd_some H36; clear H36
   refine l_read (v := .slice (cutA p.1 (Int.toNat t17.2) p.2 1) t24.length (p.2 - Int.toNat t17.2)) (fun w hF hS => run_sliceLO (xs := t21) Try.underlying48 Try.sizeOf3 rfl rfl rfl (capOf (i := 1) hS rfl) h_t24) rfl rfl rfl ?_
   refine l_val rfl rfl rfl (r_len Try.underlying48 rfl) ?_
   refine l_val rfl rfl rfl (r_move (v := .int .i64 0) rfl) ?_
   refine l_nil ?_
   refine c_block ?_
   refine c_fix (σ := Int) (τ := Unit) (fun next4 s => edit_CheckStep_l4 a0 t17 t21 t24 next4 s) (fun s t => [(1, .pointer (some ⟨b2, 0, none⟩)), (4, .int .i64 t17.2), (5, .slice p.1 t21.length p.2), (24, .slice (cutA p.1 (Int.toNat t17.2) p.2 1) t24.length (p.2 - Int.toNat t17.2)), (25, .int .i64 (t24.length : Int)), (26, .int .i64 s)]) (fun s t => [cellsC b2 [.int .i64 a0.Kind, .int .i64 a0.A, .int .i64 a0.B, .int .i64 a0.C, .int .i64 a0.D] 31, rowV 3 1 (.slice p.1 t21.length p.2) t21.length (t21.map e_i64)]) (fun s t => True) 0 () [0, 1] H55 (by exact trivial) (by exact ⟨rfl, rfl, rfl, rfl, rfl, rfl, trivial⟩) (by decide) rfl ?_
   rintro x26_2 _ m4 gg H56 _
   clear H55
   replace H56 : edit_CheckStep_l4 a0 t17 t21 t24 (it (fun next4 s => edit_CheckStep_l4 a0 t17 t21 t24 next4 s) m4) x26_2 = some r := H56
   generalize hn4 : it (fun next4 s => edit_CheckStep_l4 a0 t17 t21 t24 next4 s) m4 = next4 at H56
   refine c_tidyF [(1, .pointer (some ⟨b2, 0, none⟩)), (4, .int .i64 t17.2), (5, .slice p.1 t21.length p.2), (24, .slice (cutA p.1 (Int.toNat t17.2) p.2 1) t24.length (p.2 - Int.toNat t17.2)), (25, .int .i64 (t24.length : Int)), (26, .int .i64 x26_2)] [cellsC b2 [.int .i64 a0.Kind, .int .i64 a0.A, .int .i64 a0.B, .int .i64 a0.C, .int .i64 a0.D] 31, rowV 3 1 (.slice p.1 t21.length p.2) t21.length (t21.map e_i64)] rfl rfl ?_
   refine c_seq ?_
   refine c_region ?_
   refine l_val rfl rfl rfl (r_lss rfl rfl) ?_
   refine l_nil ?_
   refine c_seq ?_
   refine c_if (b := (decide (x26_2 < (t24.length : Int)))) rfl (fun hb => ?_) (fun hb => ?_)
   ·have H57 := cnd_t hb H56; clear H56
    refine c_skip ?_
    refine c_seq ?_
    refine c_block ?_
    refine c_seq ?_
    refine c_region ?_
    obtain ⟨t28, h_t28, H58⟩ := bnd_some H57; clear H57
    refine l_read (fun w hF hS => run_indexO Try.underlying48 Try.sizeOf3 rfl rfl (Row.cutG (rowOf (i := 1) hS rfl) rfl (capOf (i := 1) hS rfl) h_t24) rfl h_t28) rfl rfl rfl ?_
    refine l_read (fun w hF hS => run_loadG1 (f := e_i64) (i := x26_2) (sz := 1) (j := 0) (v := .int .i64 t28) Try.isAgg3 rfl rfl (Row.cutG (rowOf (i := 1) hS rfl) rfl (capOf (i := 1) hS rfl) h_t24) h_t28 rfl) rfl rfl rfl ?_
    refine l_val rfl rfl rfl (r_assign (v := .int .i64 t28) rfl) ?_
    refine l_nil ?_
    refine c_seq ?_
    refine c_region ?_
    refine l_val rfl rfl rfl (r_move (v := .int .i64 t28) rfl) ?_
    refine l_val rfl rfl rfl (r_neq rfl rfl) ?_
    refine l_nil ?_
    refine c_if (b := (decide (t28 ≠ 0))) rfl (fun hb => ?_) (fun hb => ?_)
    ·have H59 := cnd_t hb H58; clear H58
     refine c_seq ?_
     refine c_region ?_
     refine l_val rfl rfl rfl (r_assign (v := .int .i64 1) rfl) ?_
     refine l_nil ?_
     refine c_ret ?_
     obtain rfl := Option.some.inj H59
     refine ret1 (v := .int .i64 1) rfl rfl (fin rfl)
    ·have H60 := cnd_f hb H58; clear H58
     refine c_skip ?_
     refine c_region ?_
     obtain ⟨t32, h_t32, H61⟩ := bnd_some H60; clear H60
     refine l_val rfl rfl rfl (r_addG rfl rfl h_t32) ?_
     refine l_val rfl rfl rfl (r_move (v := .int .i64 t32) rfl) ?_
     refine l_nil ?_
     refine c_close t32 () m4 [0, 1] (by exact ⟨rfl, rfl, rfl, rfl, rfl, rfl, trivial⟩) (by decide) rfl (by exact ⟨(by subst hn4; exact H61), trivial⟩) (Nat.lt_succ_self _)
   ·have H62 := cnd_f hb H56; clear H56
    refine c_exit ?_
    refine c_close () () 0 [0, 1] (by exact ⟨rfl, rfl, rfl, trivial⟩) (by decide) rfl (by exact ⟨H62, trivial⟩) (Nat.lt_succ_self _)
  ·rintro _ _ gg H37 _
   replace H37 : edit_CheckStep_j1 a0 t17 t21 = some r := H37
   refine c_tidyF [(1, .pointer (some ⟨b2, 0, none⟩)), (4, .int .i64 t17.2), (5, .slice p.1 t21.length p.2)] [cellsC b2 [.int .i64 a0.Kind, .int .i64 a0.A, .int .i64 a0.B, .int .i64 a0.C, .int .i64 a0.D] 31, rowV 3 1 (.slice p.1 t21.length p.2) t21.length (t21.map e_i64)] rfl rfl ?_
   refine c_seq ?_
   refine c_region ?_
   refine l_val rfl rfl rfl (r_field Try.runUnderlying31 rfl Try.sizeOf3 rfl rfl) ?_
   refine l_load1 (i := 0) (v := .int .i64 a0.Kind) Try.isAgg3 rfl rfl rfl rfl rfl ?_
   obtain ⟨t35, h_t35, H38⟩ := bnd_some H37; clear H37
   refine l_call (k116 h_t35) Try.call116 rfl rfl rfl ?_
   refine l_alloc (cs := [.int .i64 0, .int .i64 0, .int .i64 0, .int .i64 0, .int .i64 0, .int .i64 0, .int .i64 0, .int .i64 0]) Try.zeroValue177 rfl rfl rfl (fun b3 => ?_)
   refine l_store (i := 2) (vs := [.int .i64 ((t35 0) 0), .int .i64 ((t35 0) 1), .int .i64 ((t35 1) 0), .int .i64 ((t35 1) 1), .int .i64 ((t35 2) 0), .int .i64 ((t35 2) 1), .int .i64 ((t35 3) 0), .int .i64 ((t35 3) 1)]) (cs' := [.int .i64 ((t35 0) 0), .int .i64 ((t35 0) 1), .int .i64 ((t35 1) 0), .int .i64 ((t35 1) 1), .int .i64 ((t35 2) 0), .int .i64 ((t35 2) 1), .int .i64 ((t35 3) 0), .int .i64 ((t35 3) 1)]) Try.sizeOf177 rfl rfl rfl rfl rfl rfl rfl rfl rfl ?_
   refine l_nil ?_
   refine c_meet (r := r) (σ := Unit) (τ := Unit) (fun s => edit_CheckStep_j2 a0) (fun s t => [(1, .pointer (some ⟨b2, 0, none⟩))]) (fun s t => [cellsC b2 [.int .i64 a0.Kind, .int .i64 a0.A, .int .i64 a0.B, .int .i64 a0.C, .int .i64 a0.D] 31]) (fun s t => True) ?_ ?_
   ·refine c_seq ?_
    refine c_region ?_
    refine l_val rfl rfl rfl (r_move (v := .slice p.1 t21.length p.2) rfl) ?_
    refine l_val rfl rfl rfl (r_move (v := .int .i64 t17.2) rfl) ?_
    obtain ⟨t38, h_t38, H44⟩ := bnd_some H38; clear H38
    refine l_read (v := .slice p.1 t38.length p.2) (fun w hF hS => run_sliceHO0 (xs := t21) Try.underlying48 Try.sizeOf3 rfl rfl rfl (capOf (i := 1) hS rfl) h_t38) rfl rfl rfl ?_
    refine l_val rfl rfl rfl (r_len Try.underlying48 rfl) ?_
    refine l_val rfl rfl rfl (r_move (v := .int .i64 0) rfl) ?_
    refine l_nil ?_
    refine c_block ?_
    refine c_fix (σ := Int) (τ := Unit) (fun next3 s => edit_CheckStep_l3 a0 t35 t38 next3 s) (fun s t => [(1, .pointer (some ⟨b2, 0, none⟩)), (8, .pointer (some ⟨b3, 0, none⟩)), (38, .slice p.1 t38.length p.2), (39, .int .i64 (t38.length : Int)), (40, .int .i64 s)]) (fun s t => [cellsC b2 [.int .i64 a0.Kind, .int .i64 a0.A, .int .i64 a0.B, .int .i64 a0.C, .int .i64 a0.D] 31, rowV 3 1 (.slice p.1 t21.length p.2) t21.length (t21.map e_i64), cellsC b3 [.int .i64 ((t35 0) 0), .int .i64 ((t35 0) 1), .int .i64 ((t35 1) 0), .int .i64 ((t35 1) 1), .int .i64 ((t35 2) 0), .int .i64 ((t35 2) 1), .int .i64 ((t35 3) 0), .int .i64 ((t35 3) 1)] 177]) (fun s t => True) 0 () [0, 1, 2] H44 (by exact trivial) (by exact ⟨rfl, rfl, rfl, rfl, rfl, trivial⟩) (by decide) rfl ?_
    rintro x40_2 _ m3 gg H45 _
    clear H44
    replace H45 : edit_CheckStep_l3 a0 t35 t38 (it (fun next3 s => edit_CheckStep_l3 a0 t35 t38 next3 s) m3) x40_2 = some r := H45
    generalize hn3 : it (fun next3 s => edit_CheckStep_l3 a0 t35 t38 next3 s) m3 = next3 at H45
    refine c_tidyF [(1, .pointer (some ⟨b2, 0, none⟩)), (8, .pointer (some ⟨b3, 0, none⟩)), (38, .slice p.1 t38.length p.2), (39, .int .i64 (t38.length : Int)), (40, .int .i64 x40_2)] [cellsC b2 [.int .i64 a0.Kind, .int .i64 a0.A, .int .i64 a0.B, .int .i64 a0.C, .int .i64 a0.D] 31, rowV 3 1 (.slice p.1 t21.length p.2) t21.length (t21.map e_i64), cellsC b3 [.int .i64 ((t35 0) 0), .int .i64 ((t35 0) 1), .int .i64 ((t35 1) 0), .int .i64 ((t35 1) 1), .int .i64 ((t35 2) 0), .int .i64 ((t35 2) 1), .int .i64 ((t35 3) 0), .int .i64 ((t35 3) 1)] 177] rfl rfl ?_
    refine c_seq ?_
    refine c_region ?_
    refine l_val rfl rfl rfl (r_lss rfl rfl) ?_
    refine l_nil ?_
    refine c_seq ?_
    refine c_if (b := (decide (x40_2 < (t38.length : Int)))) rfl (fun hb => ?_) (fun hb => ?_)
    ·have H46 := cnd_t hb H45; clear H45
     refine c_skip ?_
     refine c_seq ?_
     refine c_block ?_
     refine c_seq ?_
     refine c_region ?_
     refine l_val rfl rfl rfl (r_move (v := .int .i64 x40_2) rfl) ?_
     obtain ⟨t43, h_t43, H47⟩ := bnd_some H46; clear H46
     refine l_read (fun w hF hS => run_indexO Try.underlying48 Try.sizeOf3 rfl rfl (Row.cut0G (rowOf (i := 1) hS rfl) rfl (capOf (i := 1) hS rfl) h_t38) rfl h_t43) rfl rfl rfl ?_
     refine l_read (fun w hF hS => run_loadG1 (f := e_i64) (i := x40_2) (sz := 1) (j := 0) (v := .int .i64 t43) Try.isAgg3 rfl rfl (Row.cut0G (rowOf (i := 1) hS rfl) rfl (capOf (i := 1) hS rfl) h_t38) h_t43 rfl) rfl rfl rfl ?_
     refine l_val rfl rfl rfl (r_assign (v := .int .i64 x40_2) rfl) ?_
     refine l_val rfl rfl rfl (r_assign (v := .int .i64 t43) rfl) ?_
     refine l_nil ?_
     refine c_seq ?_
     exact c_regionD (Kd.p :: Kd.p :: Kd.p :: Kd.p :: Kd.d [2] _ :: Kd.p :: Kd.p :: Kd.p :: Kd.d [2] _ :: Kd.d [] _ :: []) 0 mixed (by
      refine d_val rfl rfl (r_move (v := .int .i64 t43) rfl) ?_
      refine d_val rfl rfl (r_move (v := .int .i64 x40_2) rfl) ?_
      have h_k47 := bnd_val H47
      have H48 := bnd_rest H47
      refine d_val rfl rfl (r_indexPG Try.runUnderlying177 Try.sizeOf84 rfl rfl h_k47) ?_
      refine d_val rfl rfl (r_indexPA0 Try.runUnderlying84 Try.sizeOf3 rfl rfl (by decide)) ?_
      refine d_load1 (i := 2) (v := .int .i64 ((t35 (val (gIx 4 x40_2))) 0)) Try.isAgg3 rfl rfl rfl (rg_arr (pre := []) (post := []) (f := fun j_ => [.int .i64 ((t35 j_) 0), .int .i64 ((t35 j_) 1)]) (n := 4) (sz := 2) (q := 0) rfl rfl (fun _ => rfl) (gIx_lt h_k47) rfl) ?_
      refine d_val rfl rfl (r_move (v := .int .i64 x40_2) rfl) ?_
      have h_k51 := bnd_val H48
      have H49 := bnd_rest H48
      refine d_val rfl rfl (r_indexPG Try.runUnderlying177 Try.sizeOf84 rfl rfl h_k51) ?_
      refine d_val rfl rfl (r_indexPA Try.runUnderlying84 Try.sizeOf3 rfl rfl (by decide) (by decide)) ?_
      refine d_load1 (i := 2) (v := .int .i64 ((t35 (val (gIx 4 x40_2))) 1)) Try.isAgg3 rfl rfl rfl (rg_arr (pre := []) (post := []) (f := fun j_ => [.int .i64 ((t35 j_) 0), .int .i64 ((t35 j_) 1)]) (n := 4) (sz := 2) (q := 1) rfl rfl (fun _ => rfl) (gIx_lt h_k51) rfl) ?_
      have h_t54 := bnd_val H49
      have H50 := bnd_rest H49
      refine d_call (k56 h_t54) Try.call56 rfl rfl ?_
      refine d_nil ?_
      refine c_if (b := (val (edit_outside t43 ((t35 (val (gIx 4 x40_2))) 0) ((t35 (val (gIx 4 x40_2))) 1)))) rfl (fun hb => ?_) (fun hb => ?_)
      ·have H51 := cnd_t hb H50; clear H50
       refine c_seq ?_
       refine c_region ?_
       refine l_val rfl rfl rfl (r_assign (v := .int .i64 2) rfl) ?_
       refine l_nil ?_
       refine c_ret ?_
       obtain rfl := Option.some.inj H51
       refine ret1 (v := .int .i64 2) rfl rfl (fin rfl)
      ·have H52 := cnd_f hb H50; clear H50
       refine c_skip ?_
       refine c_region ?_
       obtain ⟨t55, h_t55, H53⟩ := bnd_some H52; clear H52
       refine l_val rfl rfl rfl (r_addG rfl rfl h_t55) ?_
       refine l_val rfl rfl rfl (r_move (v := .int .i64 t55) rfl) ?_
       refine l_nil ?_
       refine c_close t55 () m3 [0, 1, 2] (by exact ⟨rfl, rfl, rfl, rfl, rfl, trivial⟩) (by decide) rfl (by exact ⟨(by subst hn3; exact H53), trivial⟩) (Nat.lt_succ_self _)
      ) (by kernel_rfl)
    ·have H54 := cnd_f hb H45; clear H45
     refine c_exit ?_
     refine c_close () () 0 [0] (by exact ⟨rfl, trivial⟩) (by decide) rfl (by exact ⟨H54, trivial⟩) (Nat.lt_succ_self _)
   ·rintro _ _ gg H39 _
    replace H39 : edit_CheckStep_j2 a0 = some r := H39
    refine c_tidyF [(1, .pointer (some ⟨b2, 0, none⟩))] [cellsC b2 [.int .i64 a0.Kind, .int .i64 a0.A, .int .i64 a0.B, .int .i64 a0.C, .int .i64 a0.D] 31] rfl rfl ?_
    refine c_seq ?_
    refine c_seq ?_
    refine c_region ?_
    refine l_val rfl rfl rfl (r_field Try.runUnderlying31 rfl Try.sizeOf3 rfl rfl) ?_
    refine l_load1 (i := 0) (v := .int .i64 a0.Kind) Try.isAgg3 rfl rfl rfl rfl rfl ?_
    refine l_val rfl rfl rfl (r_eql rfl rfl) ?_
    refine l_val rfl rfl rfl (r_move (v := .bool (decide (a0.Kind = 6))) rfl) ?_
    refine split (fun hb => ?_) (fun hb => ?_)
    ·have H40 := cnd_t hb H39; clear H39
     refine l_val rfl rfl rfl (r_field Try.runUnderlying31 rfl Try.sizeOf3 rfl rfl) ?_
     refine l_load1 (i := 0) (v := .int .i64 a0.B) Try.isAgg3 rfl rfl rfl rfl rfl ?_
     refine l_val rfl rfl rfl (r_field Try.runUnderlying31 rfl Try.sizeOf3 rfl rfl) ?_
     refine l_load1 (i := 0) (v := .int .i64 a0.A) Try.isAgg3 rfl rfl rfl rfl rfl ?_
     refine l_val rfl rfl rfl (r_leq rfl rfl) ?_
     refine l_val rfl rfl rfl (r_pickT (v := .bool (decide (a0.B ≤ a0.A))) rfl rfl) ?_
     refine l_nil ?_
     refine c_if (b := (decide (a0.B ≤ a0.A))) rfl (fun hb => ?_) (fun hb => ?_)
     ·have H41 := cnd_t hb H40; clear H40
      refine c_seq ?_
      refine c_region ?_
      refine l_val rfl rfl rfl (r_assign (v := .int .i64 5) rfl) ?_
      refine l_nil ?_
      refine c_ret ?_
      obtain rfl := Option.some.inj H41
      refine ret1 (v := .int .i64 5) rfl rfl (fin rfl)
     ·have H42 := cnd_f hb H40; clear H40
      refine c_skip ?_
      refine c_seq ?_
      refine c_region ?_
      refine l_val rfl rfl rfl (r_assign (v := .int .i64 0) rfl) ?_
      refine l_nil ?_
      refine c_ret ?_
      obtain rfl := Option.some.inj H42
      refine ret1 (v := .int .i64 0) rfl rfl (fin rfl)
    ·have H43 := cnd_f hb H39; clear H39
     refine l_passed rfl rfl rfl ?_
     refine l_passed rfl rfl rfl ?_
     refine l_passed rfl rfl rfl ?_
     refine l_passed rfl rfl rfl ?_
     refine l_passed rfl rfl rfl ?_
     refine l_val rfl rfl rfl (r_pickF (v := .bool false) rfl rfl) ?_
     refine l_nil ?_
     refine c_false rfl ?_
     refine c_skip ?_
     refine c_seq ?_
     refine c_region ?_
     refine l_val rfl rfl rfl (r_assign (v := .int .i64 0) rfl) ?_
     refine l_nil ?_
     refine c_ret ?_
     obtain rfl := Option.some.inj H43
     refine ret1 (v := .int .i64 0) rfl rfl (fin rfl)
theorem k50 {a0 : (List T_edit_Step)} {v0 : Value} {r : Int} {w : World} {h : Heap} (hw : Know h w noS) (f0 : FrS h 5 v0 (a0.map e_edit_Step)) (H : edit_Check a0 = some r) : Does Try.prog 50 (List.toArray [v0]) w (fun v w' => v = (.int .i64 r) ∧ Grow w w') := by
 refine enter (n := 21) Try.func50 rfl rfl rfl noS [] (Sat.nil _ _) ?_
 refine c_seq ?_
 refine c_region ?_
 refine l_val rfl rfl rfl (r_assign (v := .int .i64 0) rfl) ?_
 refine l_nil ?_
 refine c_seq ?_
 refine c_seq ?_
 refine c_region ?_
 refine l_val rfl rfl rfl (r_move (v := v0) rfl) ?_
 refine l_val rfl rfl rfl (r_lenF Try.underlying22 rfl f0 rfl) ?_
 refine l_val rfl rfl rfl (r_gtr rfl rfl) ?_
 refine l_nil ?_
 refine c_if (b := (decide (50 < (a0.length : Int)))) rfl (fun hb => ?_) (fun hb => ?_)
 ·have H11 := cnd_t hb H; clear H
  refine c_seq ?_
  refine c_region ?_
  refine l_val rfl rfl rfl (r_assign (v := .int .i64 4) rfl) ?_
  refine l_nil ?_
  refine c_ret ?_
  obtain rfl := Option.some.inj H11
  refine ret1 (v := .int .i64 4) rfl rfl (fin rfl)
 ·have H12 := cnd_f hb H; clear H
  refine c_skip ?_
  refine c_seq ?_
  refine c_seq ?_
  refine c_region ?_
  refine l_val rfl rfl rfl (r_move (v := v0) rfl) ?_
  refine l_val rfl rfl rfl (r_lenF Try.underlying22 rfl f0 rfl) ?_
  refine l_val rfl rfl rfl (r_move (v := .int .i64 0) rfl) ?_
  refine l_nil ?_
  refine c_block ?_
  refine c_fix (σ := Int) (τ := Unit) (fun next1 s => edit_Check_l1 a0 next1 s) (fun s t => [(9, v0), (10, .int .i64 (a0.length : Int)), (11, .int .i64 s)]) (fun s t => []) (fun s t => True) 0 () [] H12 (by exact trivial) (by exact ⟨rfl, rfl, rfl, trivial⟩) (by decide) rfl ?_
  rintro x11_2 _ m1 gg H13 _
  clear H12
  replace H13 : edit_Check_l1 a0 (it (fun next1 s => edit_Check_l1 a0 next1 s) m1) x11_2 = some r := H13
  generalize hn1 : it (fun next1 s => edit_Check_l1 a0 next1 s) m1 = next1 at H13
  refine c_tidyF [(9, v0), (10, .int .i64 (a0.length : Int)), (11, .int .i64 x11_2)] [] rfl rfl ?_
  refine c_seq ?_
  refine c_region ?_
  refine l_val rfl rfl rfl (r_lss rfl rfl) ?_
  refine l_nil ?_
  refine c_seq ?_
  refine c_if (b := (decide (x11_2 < (a0.length : Int)))) rfl (fun hb => ?_) (fun hb => ?_)
  ·have H14 := cnd_t hb H13; clear H13
   refine c_skip ?_
   refine c_seq ?_
   refine c_block ?_
   refine c_seq ?_
   refine c_region ?_
   obtain ⟨t13, h_t13, H15⟩ := bnd_some H14; clear H14
   refine l_val rfl rfl rfl (r_indexF Try.underlying22 Try.sizeOf31 rfl rfl f0 h_t13) ?_
   refine l_read (fun w hF hS => run_loadGN (f := e_edit_Step) (i := x11_2) (sz := 5) (j := 0) (vs := [.int .i64 t13.Kind, .int .i64 t13.A, .int .i64 t13.B, .int .i64 t13.C, .int .i64 t13.D]) Try.isAgg31 Try.sizeOf31 rfl rfl (f0.row (hw.now hF)) h_t13 rfl) rfl rfl rfl ?_
   refine l_alloc (cs := [.int .i64 0, .int .i64 0, .int .i64 0, .int .i64 0, .int .i64 0]) Try.zeroValue31 rfl rfl rfl (fun b1 => ?_)
   refine l_store (i := 0) (vs := [.int .i64 t13.Kind, .int .i64 t13.A, .int .i64 t13.B, .int .i64 t13.C, .int .i64 t13.D]) (cs' := [.int .i64 t13.Kind, .int .i64 t13.A, .int .i64 t13.B, .int .i64 t13.C, .int .i64 t13.D]) Try.sizeOf31 rfl rfl rfl rfl rfl rfl rfl rfl rfl ?_
   refine l_nil ?_
   refine c_seq ?_
   refine c_region ?_
   refine l_loadN (i := 0) (vs := [.int .i64 t13.Kind, .int .i64 t13.A, .int .i64 t13.B, .int .i64 t13.C, .int .i64 t13.D]) Try.isAgg31 Try.sizeOf31 rfl rfl rfl rfl rfl ?_
   obtain ⟨t16, h_t16, H16⟩ := bnd_some H15; clear H15
   refine l_call (k53 h_t16) Try.call53 rfl rfl rfl ?_
   refine l_val rfl rfl rfl (r_assign (v := .int .i64 t16) rfl) ?_
   refine l_nil ?_
   refine c_seq ?_
   refine c_region ?_
   refine l_val rfl rfl rfl (r_move (v := .int .i64 t16) rfl) ?_
   refine l_val rfl rfl rfl (r_neq rfl rfl) ?_
   refine l_nil ?_
   refine c_if (b := (decide (t16 ≠ 0))) rfl (fun hb => ?_) (fun hb => ?_)
   ·have H17 := cnd_t hb H16; clear H16
    refine c_seq ?_
    refine c_region ?_
    refine l_val rfl rfl rfl (r_move (v := .int .i64 t16) rfl) ?_
    refine l_val rfl rfl rfl (r_assign (v := .int .i64 t16) rfl) ?_
    refine l_nil ?_
    refine c_ret ?_
    obtain rfl := Option.some.inj H17
    refine ret1 (v := .int .i64 t16) rfl rfl (fin rfl)
   ·have H18 := cnd_f hb H16; clear H16
    refine c_skip ?_
    refine c_region ?_
    obtain ⟨t20, h_t20, H19⟩ := bnd_some H18; clear H18
    refine l_val rfl rfl rfl (r_addG rfl rfl h_t20) ?_
    refine l_val rfl rfl rfl (r_move (v := .int .i64 t20) rfl) ?_
    refine l_nil ?_
    refine c_close t20 () m1 [] (by exact ⟨rfl, rfl, rfl, trivial⟩) (by decide) rfl (by exact ⟨(by subst hn1; exact H19), trivial⟩) (Nat.lt_succ_self _)
  ·have H20 := cnd_f hb H13; clear H13
   refine c_exit ?_
   refine c_seq ?_
   refine c_region ?_
   refine l_val rfl rfl rfl (r_assign (v := .int .i64 0) rfl) ?_
   refine l_nil ?_
   refine c_ret ?_
   obtain rfl := Option.some.inj H20
   refine ret1 (v := .int .i64 0) rfl rfl (fin rfl)
theorem k8 {a0 : (List T_edit_Step)} {v0 : Value} {r : (Option T_edit_History) × Int} {w : World} {h : Heap} (hw : Know h w noS) (f0 : FrS h 5 v0 (a0.map e_edit_Step)) (H : edit_NewHistory a0 = some r) : Does Try.prog 8 (List.toArray [v0]) w (fun v w' => ∃ x : Nat × (Option Addr × Nat), v = (.tuple #[optP r.1 x.1, .int .i64 r.2]) ∧ Turn w w' noS (obxC (optP r.1 x.1) r.1 x.1 (fun z : T_edit_History => bothC (cellsC x.1 [.slice x.2.1 z.all_.length x.2.2, .int .i64 z.now_] 97) (rowD 22 1 gs_edit_Step (.slice x.2.1 z.all_.length x.2.2) z.all_.length z.all_)))) := by
 refine enter (n := 15) Try.func8 rfl rfl rfl noS [] (Sat.nil _ _) ?_
 refine c_poolNew noH ?_
 refine c_seq ?_
 refine c_region ?_
 refine l_val rfl rfl rfl (r_assign (v := .pointer none) rfl) ?_
 refine l_val rfl rfl rfl (r_assign (v := .int .i64 0) rfl) ?_
 refine l_nil ?_
 refine c_seq ?_
 refine c_seq ?_
 refine c_region ?_
 refine l_val rfl rfl rfl (r_move (v := v0) rfl) ?_
 obtain ⟨t6, h_t6, H5⟩ := bnd_some H; clear H
 refine l_callG (fun w hF hS => k50 (know_all w) (f0.mono (hw.now hF)) h_t6) Try.call50 rfl rfl rfl ?_
 refine l_val rfl rfl rfl (r_assign (v := .int .i64 t6) rfl) ?_
 refine l_nil ?_
 refine c_seq ?_
 refine c_region ?_
 refine l_val rfl rfl rfl (r_move (v := .int .i64 t6) rfl) ?_
 refine l_val rfl rfl rfl (r_neq rfl rfl) ?_
 refine l_nil ?_
 refine c_if (b := (decide (t6 ≠ 0))) rfl (fun hb => ?_) (fun hb => ?_)
 ·have H6 := cnd_t hb H5; clear H5
  refine c_seq ?_
  refine c_region ?_
  refine l_val rfl rfl rfl (r_move (v := .int .i64 t6) rfl) ?_
  refine l_val rfl rfl rfl (r_assign (v := .pointer none) rfl) ?_
  refine l_val rfl rfl rfl (r_assign (v := .int .i64 t6) rfl) ?_
  refine l_nil ?_
  refine c_ret ?_
  refine c_emp ?_
  refine c_imp 1 rfl (imp_obxNil (b := 0) (fun z : T_edit_History => bothC (cellsC 0 [.slice ((none, 0) : Option Addr × Nat).1 z.all_.length ((none, 0) : Option Addr × Nat).2, .int .i64 z.now_] 97) (rowD 22 1 gs_edit_Step (.slice ((none, 0) : Option Addr × Nat).1 z.all_.length ((none, 0) : Option Addr × Nat).2) z.all_.length z.all_))) ?_
  obtain rfl := Option.some.inj H6
  refine ret2 (v1 := optP (none : Option T_edit_History) 0) (v2 := .int .i64 t6) rfl rfl rfl (finX (0, ((none, 0) : Option Addr × Nat)) (i := 1) rfl rfl (Imp.refl _))
 ·have H7 := cnd_f hb H5; clear H5
  refine c_skip ?_
  refine c_seq ?_
  refine c_region ?_
  refine l_val rfl rfl rfl (r_move (v := v0) rfl) ?_
  obtain ⟨t11, h_t11, H8⟩ := bnd_some H7; clear H7
  refine l_make (makes_call (rds := []) (G := fun x : (Option Addr × Nat) => .slice x.1 t11.length x.2) (C := fun x : (Option Addr × Nat) => rowV 31 5 (.slice x.1 t11.length x.2) t11.length (t11.map e_edit_Step)) (fun w L' hF hS hi => k10 (know_all w) (f0.mono (hw.now hF)) h_t11) Try.call10 rfl) rfl rfl rfl (fun p => ?_)
  refine l_buildSlice (vs := [.slice p.1 t11.length p.2]) (cs := [.slice p.1 t11.length p.2]) Try.underlying29 Try.sizeOf22 Try.zeroValue22 rfl rfl rfl rfl rfl rfl rfl (fun b2 => ?_)
  refine l_val rfl rfl rfl (r_build (pl := #[(0, 1), (1, 1)]) (ps := [(0, .slice (some ⟨b2, 0, none⟩) 1 1)]) (cells := #[.slice (some ⟨b2, 0, none⟩) 1 1, .int .i64 0]) Try.zeroValue97 Try.runUnderlying97 (fun w => by kernel_rfl) rfl rfl) ?_
  refine l_box (cs := [.slice (some ⟨b2, 0, none⟩) 1 1, .int .i64 0]) rfl rfl rfl rfl (fun b3 => ?_)
  refine l_val rfl rfl rfl (r_assign (v := .pointer (some ⟨b3, 0, none⟩)) rfl) ?_
  refine l_val rfl rfl rfl (r_assign (v := .int .i64 0) rfl) ?_
  refine l_nil ?_
  refine c_ret ?_
  refine c_freeze (Φ := fun H_ => FrS H_ 5 (.slice p.1 t11.length p.2) (t11.map e_edit_Step)) 0 1 rfl rfl (by decide) (fun _ _ => noH_le) (fz_own _) (fun hp hle hf => ?_)
  refine c_imp 2 rfl (imp_box (m := 1) (E := 22) (sz := 1) (xs := (([[(.slice p.1 t11.length p.2)]] : List (List Value))).map idC) rfl rfl rfl ⟨rfl, by decide⟩) ?_
  have pf : AllC gs_edit_Step hp 1 ([[(.slice p.1 t11.length p.2)]] : List (List Value)) ([t11] : List (List T_edit_Step)) := ((AllC.nil (G := gs_edit_Step) (h := hp) (sz := 1)).snoc rfl (hf))
  refine c_both 0 2 rfl rfl (by decide) ?_
  refine c_imp 0 rfl (imp_rowDx (p := ((some ⟨b2, 0, none⟩, 1) : Option Addr × Nat)) rfl pf) ?_
  (try rw [show 1 = ([t11] : List (List T_edit_Step)).length from rfl])
  refine c_poolNew noH ?_
  refine c_both 3 0 rfl rfl (by decide) ?_
  refine c_imp 3 rfl (imp_obx (b := b3) (z := (⟨([t11] : List (List T_edit_Step)), 0⟩ : T_edit_History)) (fun z : T_edit_History => bothC (cellsC b3 [.slice ((some ⟨b2, 0, none⟩, 1) : Option Addr × Nat).1 z.all_.length ((some ⟨b2, 0, none⟩, 1) : Option Addr × Nat).2, .int .i64 z.now_] 97) (rowD 22 1 gs_edit_Step (.slice ((some ⟨b2, 0, none⟩, 1) : Option Addr × Nat).1 z.all_.length ((some ⟨b2, 0, none⟩, 1) : Option Addr × Nat).2) z.all_.length z.all_))) ?_
  obtain rfl := Option.some.inj H8
  refine ret2 (v1 := optP (some (⟨([t11] : List (List T_edit_Step)), 0⟩ : T_edit_History)) b3) (v2 := .int .i64 0) rfl rfl rfl (finX (b3, ((some ⟨b2, 0, none⟩, 1) : Option Addr × Nat)) (i := 3) rfl rfl (Imp.refl _))
theorem k51 {a0 : Int} {r : Int} (H : R_numbersUsed a0 = some r) : Ret Try.prog 51 [.int .i64 a0] (.int .i64 r) := by
 refine enterRet (n := 7) Try.func51 rfl rfl rfl (fun wd => ?_)
 refine c_seq ?_
 refine c_region ?_
 refine l_val rfl rfl rfl (r_assign (v := .int .i64 0) rfl) ?_
 refine l_nil ?_
 refine c_seq ?_
 refine c_region ?_
 refine l_buildSlice (vs := [.int .i64 0, .int .i64 1, .int .i64 4, .int .i64 2, .int .i64 1, .int .i64 1, .int .i64 2, .int .i64 1, .int .i64 1, .int .i64 0]) (cs := [.int .i64 0, .int .i64 1, .int .i64 4, .int .i64 2, .int .i64 1, .int .i64 1, .int .i64 2, .int .i64 1, .int .i64 1, .int .i64 0]) Try.underlying48 Try.sizeOf3 Try.zeroValue3 rfl rfl rfl rfl rfl rfl rfl (fun b1 => ?_)
 refine l_val rfl rfl rfl (r_move (v := .int .i64 a0) rfl) ?_
 obtain ⟨t5, h_t5, H2⟩ := bnd_some H; clear H
 refine l_val rfl rfl rfl (r_indexS Try.underlying48 Try.sizeOf3 rfl rfl h_t5 rfl) ?_
 refine l_read (fun w hF hS => run_loadG1 (f := e_i64) (i := a0) (sz := 1) (j := 0) (v := .int .i64 t5) Try.isAgg3 rfl rfl (row_box (sz := 1) (xs := ([0, 1, 4, 2, 1, 1, 2, 1, 1, 0] : List Int).map e_i64) (i := 0) hS rfl rfl rfl) h_t5 rfl) rfl rfl rfl ?_
 refine l_val rfl rfl rfl (r_assign (v := .int .i64 t5) rfl) ?_
 refine l_nil ?_
 refine c_ret ?_
 obtain rfl := Option.some.inj H2
 refine ret1 (v := .int .i64 t5) rfl rfl (fin rfl)
theorem k52 {a0 : Int} {a1 : Int} {a2 : Int} {r : Bool} (H : R_StepFault_1 a0 a1 a2 = some r) : Ret Try.prog 52 [.int .i64 a0, .int .i64 a1, .int .i64 a2] (.bool r) := by
 refine enterRet (n := 15) Try.func52 rfl rfl rfl (fun wd => ?_)
 refine c_seq ?_
 refine c_region ?_
 refine l_val rfl rfl rfl (r_assign (v := .bool false) rfl) ?_
 refine l_nil ?_
 refine c_seq ?_
 refine c_region ?_
 refine l_val rfl rfl rfl (r_move (v := .int .i64 a0) rfl) ?_
 refine l_val rfl rfl rfl (r_move (v := .int .i64 a1) rfl) ?_
 refine l_val rfl rfl rfl (r_lss rfl rfl) ?_
 refine l_val rfl rfl rfl (r_move (v := .bool (decide (a0 < a1))) rfl) ?_
 refine split (fun hb => ?_) (fun hb => ?_)
 ·have H3 := cnd_t hb H; clear H
  refine l_passed rfl rfl rfl ?_
  refine l_passed rfl rfl rfl ?_
  refine l_passed rfl rfl rfl ?_
  refine l_val rfl rfl rfl (r_pickT (v := .bool true) rfl rfl) ?_
  refine l_val rfl rfl rfl (r_assign (v := .bool true) rfl) ?_
  refine l_nil ?_
  refine c_ret ?_
  obtain rfl := Option.some.inj H3
  refine ret1 (v := .bool true) rfl rfl (fin rfl)
 ·have H4 := cnd_f hb H; clear H
  refine l_val rfl rfl rfl (r_move (v := .int .i64 a0) rfl) ?_
  refine l_val rfl rfl rfl (r_move (v := .int .i64 a2) rfl) ?_
  refine l_val rfl rfl rfl (r_gtr rfl rfl) ?_
  refine l_val rfl rfl rfl (r_pickF (v := .bool (decide (a2 < a0))) rfl rfl) ?_
  refine l_val rfl rfl rfl (r_assign (v := .bool (decide (a2 < a0))) rfl) ?_
  refine l_nil ?_
  refine c_ret ?_
  obtain rfl := Option.some.inj H4
  refine ret1 (v := .bool (decide (a2 < a0))) rfl rfl (fin rfl)
theorem k12 {a0 : T_edit_Step} {r : Int} (H : R_StepFault a0 = some r) : Ret Try.prog 12 [.agg #[.int .i64 a0.Kind, .int .i64 a0.A, .int .i64 a0.B, .int .i64 a0.C, .int .i64 a0.D]] (.int .i64 r) := by
 refine enterRet (n := 131) Try.func12 rfl rfl rfl (fun wd => ?_)
 refine c_seq ?_
 refine c_region ?_
 refine l_box (cs := [.int .i64 a0.Kind, .int .i64 a0.A, .int .i64 a0.B, .int .i64 a0.C, .int .i64 a0.D]) rfl rfl rfl rfl (fun b2 => ?_)
 refine l_val rfl rfl rfl (r_assign (v := .int .i64 0) rfl) ?_
 refine l_nil ?_
 refine c_seq ?_
 refine c_seq ?_
 refine c_region ?_
 refine l_val rfl rfl rfl (r_field Try.runUnderlying31 rfl Try.sizeOf3 rfl rfl) ?_
 refine l_load1 (i := 0) (v := .int .i64 a0.Kind) Try.isAgg3 rfl rfl rfl rfl rfl ?_
 refine l_val rfl rfl rfl (r_lss rfl rfl) ?_
 refine l_val rfl rfl rfl (r_move (v := .bool (decide (a0.Kind < 1))) rfl) ?_
 refine split (fun hb => ?_) (fun hb => ?_)
 ·have H63 := cnd_t hb H; clear H
  refine l_passed rfl rfl rfl ?_
  refine l_passed rfl rfl rfl ?_
  refine l_passed rfl rfl rfl ?_
  refine l_val rfl rfl rfl (r_pickT (v := .bool true) rfl rfl) ?_
  refine l_nil ?_
  refine c_true rfl ?_
  refine c_seq ?_
  refine c_region ?_
  refine l_val rfl rfl rfl (r_assign (v := .int .i64 10) rfl) ?_
  refine l_nil ?_
  refine c_ret ?_
  obtain rfl := Option.some.inj H63
  refine ret1 (v := .int .i64 10) rfl rfl (fin rfl)
 ·have H64 := cnd_f hb H; clear H
  refine l_val rfl rfl rfl (r_field Try.runUnderlying31 rfl Try.sizeOf3 rfl rfl) ?_
  refine l_load1 (i := 0) (v := .int .i64 a0.Kind) Try.isAgg3 rfl rfl rfl rfl rfl ?_
  refine l_val rfl rfl rfl (r_gtr rfl rfl) ?_
  refine l_val rfl rfl rfl (r_pickF (v := .bool (decide (9 < a0.Kind))) rfl rfl) ?_
  refine l_nil ?_
  refine c_if (b := (decide (9 < a0.Kind))) rfl (fun hb => ?_) (fun hb => ?_)
  ·have H65 := cnd_t hb H64; clear H64
   refine c_seq ?_
   refine c_region ?_
   refine l_val rfl rfl rfl (r_assign (v := .int .i64 10) rfl) ?_
   refine l_nil ?_
   refine c_ret ?_
   obtain rfl := Option.some.inj H65
   refine ret1 (v := .int .i64 10) rfl rfl (fin rfl)
  ·have H66 := cnd_f hb H64; clear H64
   refine c_skip ?_
   refine c_meet (r := r) (σ := Unit) (τ := Unit) (fun s => R_StepFault_j1 a0) (fun s t => [(1, .pointer (some ⟨b2, 0, none⟩))]) (fun s t => [cellsC b2 [.int .i64 a0.Kind, .int .i64 a0.A, .int .i64 a0.B, .int .i64 a0.C, .int .i64 a0.D] 31]) (fun s t => True) ?_ ?_
   ·refine c_seq ?_
    refine c_region ?_
    refine l_val rfl rfl rfl (r_field Try.runUnderlying31 rfl Try.sizeOf3 rfl rfl) ?_
    refine l_load1 (i := 0) (v := .int .i64 a0.A) Try.isAgg3 rfl rfl rfl rfl rfl ?_
    refine l_val rfl rfl rfl (r_field Try.runUnderlying31 rfl Try.sizeOf3 rfl rfl) ?_
    refine l_load1 (i := 0) (v := .int .i64 a0.B) Try.isAgg3 rfl rfl rfl rfl rfl ?_
    refine l_val rfl rfl rfl (r_field Try.runUnderlying31 rfl Try.sizeOf3 rfl rfl) ?_
    refine l_load1 (i := 0) (v := .int .i64 a0.C) Try.isAgg3 rfl rfl rfl rfl rfl ?_
    refine l_val rfl rfl rfl (r_field Try.runUnderlying31 rfl Try.sizeOf3 rfl rfl) ?_
    refine l_load1 (i := 0) (v := .int .i64 a0.D) Try.isAgg3 rfl rfl rfl rfl rfl ?_
    refine l_buildSlice (vs := [.int .i64 a0.A, .int .i64 a0.B, .int .i64 a0.C, .int .i64 a0.D]) (cs := [.int .i64 a0.A, .int .i64 a0.B, .int .i64 a0.C, .int .i64 a0.D]) Try.underlying48 Try.sizeOf3 Try.zeroValue3 rfl rfl rfl rfl rfl rfl rfl (fun b3 => ?_)
    refine l_val rfl rfl rfl (r_len Try.underlying48 rfl) ?_
    refine l_val rfl rfl rfl (r_move (v := .int .i64 0) rfl) ?_
    refine l_nil ?_
    refine c_block ?_
    refine c_fix (σ := Int) (τ := Unit) (fun next3 s => R_StepFault_l3 a0 next3 s) (fun s t => [(1, .pointer (some ⟨b2, 0, none⟩)), (23, .slice (some ⟨b3, 0, none⟩) 4 4), (24, .int .i64 4), (25, .int .i64 s)]) (fun s t => [cellsC b2 [.int .i64 a0.Kind, .int .i64 a0.A, .int .i64 a0.B, .int .i64 a0.C, .int .i64 a0.D] 31, cellsC b3 [.int .i64 a0.A, .int .i64 a0.B, .int .i64 a0.C, .int .i64 a0.D] 3]) (fun s t => True) 0 () [0, 1] H66 (by exact trivial) (by exact ⟨rfl, rfl, rfl, rfl, trivial⟩) (by decide) rfl ?_
    rintro x25_2 _ m3 gg H114 _
    clear H66
    replace H114 : R_StepFault_l3 a0 (it (fun next3 s => R_StepFault_l3 a0 next3 s) m3) x25_2 = some r := H114
    generalize hn3 : it (fun next3 s => R_StepFault_l3 a0 next3 s) m3 = next3 at H114
    refine c_tidyF [(1, .pointer (some ⟨b2, 0, none⟩)), (23, .slice (some ⟨b3, 0, none⟩) 4 4), (24, .int .i64 4), (25, .int .i64 x25_2)] [cellsC b2 [.int .i64 a0.Kind, .int .i64 a0.A, .int .i64 a0.B, .int .i64 a0.C, .int .i64 a0.D] 31, cellsC b3 [.int .i64 a0.A, .int .i64 a0.B, .int .i64 a0.C, .int .i64 a0.D] 3] rfl rfl ?_
    refine c_seq ?_
    refine c_region ?_
    refine l_val rfl rfl rfl (r_lss rfl rfl) ?_
    refine l_nil ?_
    refine c_seq ?_
    refine c_if (b := (decide (x25_2 < 4))) rfl (fun hb => ?_) (fun hb => ?_)
    ·have H115 := cnd_t hb H114; clear H114
     refine c_skip ?_
     refine c_meet (r := r) (σ := Unit) (τ := Unit) (fun s => R_StepFault_j4 x25_2 next3) (fun s t => [(1, .pointer (some ⟨b2, 0, none⟩)), (23, .slice (some ⟨b3, 0, none⟩) 4 4), (24, .int .i64 4), (25, .int .i64 x25_2)]) (fun s t => [cellsC b2 [.int .i64 a0.Kind, .int .i64 a0.A, .int .i64 a0.B, .int .i64 a0.C, .int .i64 a0.D] 31, cellsC b3 [.int .i64 a0.A, .int .i64 a0.B, .int .i64 a0.C, .int .i64 a0.D] 3]) (fun s t => True) ?_ ?_
     ·refine c_block ?_
      refine c_seq ?_
      refine c_region ?_
      refine l_val rfl rfl rfl (r_move (v := .int .i64 x25_2) rfl) ?_
      obtain ⟨t28, h_t28, H118⟩ := bnd_some H115; clear H115
      refine l_val rfl rfl rfl (r_indexS Try.underlying48 Try.sizeOf3 rfl rfl h_t28 rfl) ?_
      refine l_read (fun w hF hS => run_loadG1 (f := e_i64) (i := x25_2) (sz := 1) (j := 0) (v := .int .i64 t28) Try.isAgg3 rfl rfl (row_box (sz := 1) (xs := ([a0.A, a0.B, a0.C, a0.D] : List Int).map e_i64) (i := 1) hS rfl rfl rfl) h_t28 rfl) rfl rfl rfl ?_
      refine l_val rfl rfl rfl (r_assign (v := .int .i64 x25_2) rfl) ?_
      refine l_val rfl rfl rfl (r_assign (v := .int .i64 t28) rfl) ?_
      refine l_nil ?_
      refine c_seq ?_
      refine c_region ?_
      refine l_val rfl rfl rfl (r_move (v := .int .i64 x25_2) rfl) ?_
      refine l_val rfl rfl rfl (r_field Try.runUnderlying31 rfl Try.sizeOf3 rfl rfl) ?_
      refine l_load1 (i := 0) (v := .int .i64 a0.Kind) Try.isAgg3 rfl rfl rfl rfl rfl ?_
      obtain ⟨t33, h_t33, H119⟩ := bnd_some H118; clear H118
      refine l_call (k51 h_t33) Try.call51 rfl rfl rfl ?_
      refine l_val rfl rfl rfl (r_geq rfl rfl) ?_
      refine l_val rfl rfl rfl (r_move (v := .bool (decide (t33 ≤ x25_2))) rfl) ?_
      refine split (fun hb => ?_) (fun hb => ?_)
      ·have H120 := cnd_t hb H119; clear H119
       refine l_val rfl rfl rfl (r_move (v := .int .i64 t28) rfl) ?_
       refine l_val rfl rfl rfl (r_neq rfl rfl) ?_
       refine l_val rfl rfl rfl (r_pickT (v := .bool (decide (t28 ≠ 0))) rfl rfl) ?_
       refine l_nil ?_
       refine c_if (b := (decide (t28 ≠ 0))) rfl (fun hb => ?_) (fun hb => ?_)
       ·have H121 := cnd_t hb H120; clear H120
        refine c_seq ?_
        refine c_region ?_
        refine l_val rfl rfl rfl (r_assign (v := .int .i64 1) rfl) ?_
        refine l_nil ?_
        refine c_ret ?_
        obtain rfl := Option.some.inj H121
        refine ret1 (v := .int .i64 1) rfl rfl (fin rfl)
       ·have H122 := cnd_f hb H120; clear H120
        refine c_skip ?_
        refine c_close () () 0 [0, 1] (by exact ⟨rfl, rfl, rfl, rfl, trivial⟩) (by decide) rfl (by exact ⟨H122, trivial⟩) (Nat.lt_succ_self _)
      ·have H123 := cnd_f hb H119; clear H119
       refine l_passed rfl rfl rfl ?_
       refine l_passed rfl rfl rfl ?_
       refine l_val rfl rfl rfl (r_pickF (v := .bool false) rfl rfl) ?_
       refine l_nil ?_
       refine c_false rfl ?_
       refine c_skip ?_
       refine c_close () () 0 [0, 1] (by exact ⟨rfl, rfl, rfl, rfl, trivial⟩) (by decide) rfl (by exact ⟨H123, trivial⟩) (Nat.lt_succ_self _)
     ·rintro _ _ gg H116 _
      replace H116 : R_StepFault_j4 x25_2 next3 = some r := H116
      refine c_tidyF [(1, .pointer (some ⟨b2, 0, none⟩)), (23, .slice (some ⟨b3, 0, none⟩) 4 4), (24, .int .i64 4), (25, .int .i64 x25_2)] [cellsC b2 [.int .i64 a0.Kind, .int .i64 a0.A, .int .i64 a0.B, .int .i64 a0.C, .int .i64 a0.D] 31, cellsC b3 [.int .i64 a0.A, .int .i64 a0.B, .int .i64 a0.C, .int .i64 a0.D] 3] rfl rfl ?_
      refine c_region ?_
      obtain ⟨t39, h_t39, H117⟩ := bnd_some H116; clear H116
      refine l_val rfl rfl rfl (r_addG rfl rfl h_t39) ?_
      refine l_val rfl rfl rfl (r_move (v := .int .i64 t39) rfl) ?_
      refine l_nil ?_
      refine c_close t39 () m3 [0, 1] (by exact ⟨rfl, rfl, rfl, rfl, trivial⟩) (by decide) rfl (by exact ⟨(by subst hn3; exact H117), trivial⟩) (Nat.lt_succ_self _)
    ·have H124 := cnd_f hb H114; clear H114
     refine c_exit ?_
     refine c_close () () 0 [0] (by exact ⟨rfl, trivial⟩) (by decide) rfl (by exact ⟨H124, trivial⟩) (Nat.lt_succ_self _)
   ·rintro _ _ gg H67 _
    replace H67 : R_StepFault_j1 a0 = some r := H67
    refine c_tidyF [(1, .pointer (some ⟨b2, 0, none⟩))] [cellsC b2 [.int .i64 a0.Kind, .int .i64 a0.A, .int .i64 a0.B, .int .i64 a0.C, .int .i64 a0.D] 31] rfl rfl ?_
    refine c_seq ?_
    refine c_region ?_
    refine l_val rfl rfl rfl (r_assign (v := .func (.func 52) #[] #[]) rfl) ?_
    refine l_nil ?_
    refine c_seq ?_
    refine c_region ?_
    refine l_val rfl rfl rfl (r_assign (v := .bool false) rfl) ?_
    refine l_nil ?_
    refine c_meet (r := r) (σ := Bool) (τ := Unit) (fun s => R_StepFault_j2 a0 s) (fun s t => [(1, .pointer (some ⟨b2, 0, none⟩)), (6, .bool s)]) (fun s t => [cellsC b2 [.int .i64 a0.Kind, .int .i64 a0.A, .int .i64 a0.B, .int .i64 a0.C, .int .i64 a0.D] 31]) (fun s t => True) ?_ ?_
    ·refine c_seq ?_
     refine c_region ?_
     refine l_val rfl rfl rfl (r_field Try.runUnderlying31 rfl Try.sizeOf3 rfl rfl) ?_
     refine l_load1 (i := 0) (v := .int .i64 a0.Kind) Try.isAgg3 rfl rfl rfl rfl rfl ?_
     refine l_nil ?_
     refine c_block ?_
     refine c_seq ?_
     refine c_region ?_
     refine l_val rfl rfl rfl (r_eql rfl rfl) ?_
     refine l_val rfl rfl rfl (r_assign (v := .bool (decide (a0.Kind = 1))) rfl) ?_
     refine l_nil ?_
     refine c_if (b := (decide (a0.Kind = 1))) rfl (fun hb => ?_) (fun hb => ?_)
     ·have H75 := cnd_t hb H67; clear H67
      refine c_region ?_
      refine l_val rfl rfl rfl (r_move (v := .func (.func 52) #[] #[]) rfl) ?_
      refine l_val rfl rfl rfl (r_field Try.runUnderlying31 rfl Try.sizeOf3 rfl rfl) ?_
      refine l_load1 (i := 0) (v := .int .i64 a0.A) Try.isAgg3 rfl rfl rfl rfl rfl ?_
      obtain ⟨t47, h_t47, H76⟩ := bnd_some H75; clear H75
      refine l_callV (R := fnR_func_int_int_int_bool R_StepFault_1) (r := .bool t47) (v := .func (.func 52) #[] #[]) (fun w hF hS => ⟨(FnH.mk ⟨52, #[], #[], rfl, Try.call52, fun args2 post2 w2 hk2 hR2 => by obtain ⟨a0_, a1_, a2_, r_, rfl, H_, rfl⟩ := hR2; exact k52 H_ w2⟩), ⟨a0.A, 1, 8, _, rfl, h_t47, rfl⟩⟩) rfl rfl rfl rfl ?_
      refine l_val rfl rfl rfl (r_assign (v := .bool t47) rfl) ?_
      refine l_nil ?_
      refine c_close t47 () 0 [0] (by exact ⟨rfl, rfl, trivial⟩) (by decide) rfl (by exact ⟨H76, trivial⟩) (Nat.lt_succ_self _)
     ·have H77 := cnd_f hb H67; clear H67
      refine c_seq ?_
      refine c_region ?_
      refine l_val rfl rfl rfl (r_eql rfl rfl) ?_
      refine l_val rfl rfl rfl (r_assign (v := .bool (decide (a0.Kind = 2))) rfl) ?_
      refine l_nil ?_
      refine c_if (b := (decide (a0.Kind = 2))) rfl (fun hb => ?_) (fun hb => ?_)
      ·have H78 := cnd_t hb H77; clear H77
       refine c_region ?_
       refine l_val rfl rfl rfl (r_move (v := .func (.func 52) #[] #[]) rfl) ?_
       refine l_val rfl rfl rfl (r_field Try.runUnderlying31 rfl Try.sizeOf3 rfl rfl) ?_
       refine l_load1 (i := 0) (v := .int .i64 a0.A) Try.isAgg3 rfl rfl rfl rfl rfl ?_
       obtain ⟨t53, h_t53, H79⟩ := bnd_some H78; clear H78
       refine l_callV (R := fnR_func_int_int_int_bool R_StepFault_1) (r := .bool t53) (v := .func (.func 52) #[] #[]) (fun w hF hS => ⟨(FnH.mk ⟨52, #[], #[], rfl, Try.call52, fun args2 post2 w2 hk2 hR2 => by obtain ⟨a0_, a1_, a2_, r_, rfl, H_, rfl⟩ := hR2; exact k52 H_ w2⟩), ⟨a0.A, 0, 63, _, rfl, h_t53, rfl⟩⟩) rfl rfl rfl rfl ?_
       refine l_val rfl rfl rfl (r_move (v := .bool t53) rfl) ?_
       refine split (fun hb => ?_) (fun hb => ?_)
       ·have H80 := cnd_t hb H79; clear H79
        refine l_passed rfl rfl rfl ?_
        refine l_passed rfl rfl rfl ?_
        refine l_passed rfl rfl rfl ?_
        refine l_passed rfl rfl rfl ?_
        refine l_val rfl rfl rfl (r_pickT (v := .bool true) rfl rfl) ?_
        refine l_val rfl rfl rfl (r_move (v := .bool true) rfl) ?_
        refine l_passed rfl rfl rfl ?_
        refine l_passed rfl rfl rfl ?_
        refine l_passed rfl rfl rfl ?_
        refine l_passed rfl rfl rfl ?_
        refine l_val rfl rfl rfl (r_pickT (v := .bool true) rfl rfl) ?_
        refine l_val rfl rfl rfl (r_move (v := .bool true) rfl) ?_
        refine l_passed rfl rfl rfl ?_
        refine l_passed rfl rfl rfl ?_
        refine l_passed rfl rfl rfl ?_
        refine l_passed rfl rfl rfl ?_
        refine l_val rfl rfl rfl (r_pickT (v := .bool true) rfl rfl) ?_
        refine l_val rfl rfl rfl (r_assign (v := .bool true) rfl) ?_
        refine l_nil ?_
        refine c_close true () 0 [0] (by exact ⟨rfl, rfl, trivial⟩) (by decide) rfl (by exact ⟨H80, trivial⟩) (Nat.lt_succ_self _)
       ·have H81 := cnd_f hb H79; clear H79
        refine l_val rfl rfl rfl (r_move (v := .func (.func 52) #[] #[]) rfl) ?_
        refine l_val rfl rfl rfl (r_field Try.runUnderlying31 rfl Try.sizeOf3 rfl rfl) ?_
        refine l_load1 (i := 0) (v := .int .i64 a0.B) Try.isAgg3 rfl rfl rfl rfl rfl ?_
        obtain ⟨t58, h_t58, H82⟩ := bnd_some H81; clear H81
        refine l_callV (R := fnR_func_int_int_int_bool R_StepFault_1) (r := .bool t58) (v := .func (.func 52) #[] #[]) (fun w hF hS => ⟨(FnH.mk ⟨52, #[], #[], rfl, Try.call52, fun args2 post2 w2 hk2 hR2 => by obtain ⟨a0_, a1_, a2_, r_, rfl, H_, rfl⟩ := hR2; exact k52 H_ w2⟩), ⟨a0.B, 0, 63, _, rfl, h_t58, rfl⟩⟩) rfl rfl rfl rfl ?_
        refine l_val rfl rfl rfl (r_pickF (v := .bool t58) rfl rfl) ?_
        refine l_val rfl rfl rfl (r_move (v := .bool t58) rfl) ?_
        refine split (fun hb => ?_) (fun hb => ?_)
        ·have H83 := cnd_t hb H82; clear H82
         refine l_passed rfl rfl rfl ?_
         refine l_passed rfl rfl rfl ?_
         refine l_passed rfl rfl rfl ?_
         refine l_passed rfl rfl rfl ?_
         refine l_val rfl rfl rfl (r_pickT (v := .bool true) rfl rfl) ?_
         refine l_val rfl rfl rfl (r_move (v := .bool true) rfl) ?_
         refine l_passed rfl rfl rfl ?_
         refine l_passed rfl rfl rfl ?_
         refine l_passed rfl rfl rfl ?_
         refine l_passed rfl rfl rfl ?_
         refine l_val rfl rfl rfl (r_pickT (v := .bool true) rfl rfl) ?_
         refine l_val rfl rfl rfl (r_assign (v := .bool true) rfl) ?_
         refine l_nil ?_
         refine c_close true () 0 [0] (by exact ⟨rfl, rfl, trivial⟩) (by decide) rfl (by exact ⟨H83, trivial⟩) (Nat.lt_succ_self _)
        ·have H84 := cnd_f hb H82; clear H82
         refine l_val rfl rfl rfl (r_move (v := .func (.func 52) #[] #[]) rfl) ?_
         refine l_val rfl rfl rfl (r_field Try.runUnderlying31 rfl Try.sizeOf3 rfl rfl) ?_
         refine l_load1 (i := 0) (v := .int .i64 a0.C) Try.isAgg3 rfl rfl rfl rfl rfl ?_
         obtain ⟨t64, h_t64, H85⟩ := bnd_some H84; clear H84
         refine l_callV (R := fnR_func_int_int_int_bool R_StepFault_1) (r := .bool t64) (v := .func (.func 52) #[] #[]) (fun w hF hS => ⟨(FnH.mk ⟨52, #[], #[], rfl, Try.call52, fun args2 post2 w2 hk2 hR2 => by obtain ⟨a0_, a1_, a2_, r_, rfl, H_, rfl⟩ := hR2; exact k52 H_ w2⟩), ⟨a0.C, 1, 64, _, rfl, h_t64, rfl⟩⟩) rfl rfl rfl rfl ?_
         refine l_val rfl rfl rfl (r_pickF (v := .bool t64) rfl rfl) ?_
         refine l_val rfl rfl rfl (r_move (v := .bool t64) rfl) ?_
         refine split (fun hb => ?_) (fun hb => ?_)
         ·have H86 := cnd_t hb H85; clear H85
          refine l_passed rfl rfl rfl ?_
          refine l_passed rfl rfl rfl ?_
          refine l_passed rfl rfl rfl ?_
          refine l_passed rfl rfl rfl ?_
          refine l_val rfl rfl rfl (r_pickT (v := .bool true) rfl rfl) ?_
          refine l_val rfl rfl rfl (r_assign (v := .bool true) rfl) ?_
          refine l_nil ?_
          refine c_close true () 0 [0] (by exact ⟨rfl, rfl, trivial⟩) (by decide) rfl (by exact ⟨H86, trivial⟩) (Nat.lt_succ_self _)
         ·have H87 := cnd_f hb H85; clear H85
          refine l_val rfl rfl rfl (r_move (v := .func (.func 52) #[] #[]) rfl) ?_
          refine l_val rfl rfl rfl (r_field Try.runUnderlying31 rfl Try.sizeOf3 rfl rfl) ?_
          refine l_load1 (i := 0) (v := .int .i64 a0.D) Try.isAgg3 rfl rfl rfl rfl rfl ?_
          obtain ⟨t70, h_t70, H88⟩ := bnd_some H87; clear H87
          refine l_callV (R := fnR_func_int_int_int_bool R_StepFault_1) (r := .bool t70) (v := .func (.func 52) #[] #[]) (fun w hF hS => ⟨(FnH.mk ⟨52, #[], #[], rfl, Try.call52, fun args2 post2 w2 hk2 hR2 => by obtain ⟨a0_, a1_, a2_, r_, rfl, H_, rfl⟩ := hR2; exact k52 H_ w2⟩), ⟨a0.D, 1, 64, _, rfl, h_t70, rfl⟩⟩) rfl rfl rfl rfl ?_
          refine l_val rfl rfl rfl (r_pickF (v := .bool t70) rfl rfl) ?_
          refine l_val rfl rfl rfl (r_assign (v := .bool t70) rfl) ?_
          refine l_nil ?_
          refine c_close t70 () 0 [0] (by exact ⟨rfl, rfl, trivial⟩) (by decide) rfl (by exact ⟨H88, trivial⟩) (Nat.lt_succ_self _)
      ·have H89 := cnd_f hb H77; clear H77
       refine c_seq ?_
       refine c_region ?_
       refine l_val rfl rfl rfl (r_eql rfl rfl) ?_
       refine l_val rfl rfl rfl (r_assign (v := .bool (decide (a0.Kind = 3))) rfl) ?_
       refine l_nil ?_
       refine c_if (b := (decide (a0.Kind = 3))) rfl (fun hb => ?_) (fun hb => ?_)
       ·have H90 := cnd_t hb H89; clear H89
        refine c_region ?_
        refine l_val rfl rfl rfl (r_move (v := .func (.func 52) #[] #[]) rfl) ?_
        refine l_val rfl rfl rfl (r_field Try.runUnderlying31 rfl Try.sizeOf3 rfl rfl) ?_
        refine l_load1 (i := 0) (v := .int .i64 a0.A) Try.isAgg3 rfl rfl rfl rfl rfl ?_
        obtain ⟨t77, h_t77, H91⟩ := bnd_some H90; clear H90
        refine l_callV (R := fnR_func_int_int_int_bool R_StepFault_1) (r := .bool t77) (v := .func (.func 52) #[] #[]) (fun w hF hS => ⟨(FnH.mk ⟨52, #[], #[], rfl, Try.call52, fun args2 post2 w2 hk2 hR2 => by obtain ⟨a0_, a1_, a2_, r_, rfl, H_, rfl⟩ := hR2; exact k52 H_ w2⟩), ⟨a0.A, 1, 64, _, rfl, h_t77, rfl⟩⟩) rfl rfl rfl rfl ?_
        refine l_val rfl rfl rfl (r_move (v := .bool t77) rfl) ?_
        refine split (fun hb => ?_) (fun hb => ?_)
        ·have H92 := cnd_t hb H91; clear H91
         refine l_passed rfl rfl rfl ?_
         refine l_passed rfl rfl rfl ?_
         refine l_passed rfl rfl rfl ?_
         refine l_passed rfl rfl rfl ?_
         refine l_val rfl rfl rfl (r_pickT (v := .bool true) rfl rfl) ?_
         refine l_val rfl rfl rfl (r_assign (v := .bool true) rfl) ?_
         refine l_nil ?_
         refine c_close true () 0 [0] (by exact ⟨rfl, rfl, trivial⟩) (by decide) rfl (by exact ⟨H92, trivial⟩) (Nat.lt_succ_self _)
        ·have H93 := cnd_f hb H91; clear H91
         refine l_val rfl rfl rfl (r_move (v := .func (.func 52) #[] #[]) rfl) ?_
         refine l_val rfl rfl rfl (r_field Try.runUnderlying31 rfl Try.sizeOf3 rfl rfl) ?_
         refine l_load1 (i := 0) (v := .int .i64 a0.B) Try.isAgg3 rfl rfl rfl rfl rfl ?_
         obtain ⟨t82, h_t82, H94⟩ := bnd_some H93; clear H93
         refine l_callV (R := fnR_func_int_int_int_bool R_StepFault_1) (r := .bool t82) (v := .func (.func 52) #[] #[]) (fun w hF hS => ⟨(FnH.mk ⟨52, #[], #[], rfl, Try.call52, fun args2 post2 w2 hk2 hR2 => by obtain ⟨a0_, a1_, a2_, r_, rfl, H_, rfl⟩ := hR2; exact k52 H_ w2⟩), ⟨a0.B, 1, 64, _, rfl, h_t82, rfl⟩⟩) rfl rfl rfl rfl ?_
         refine l_val rfl rfl rfl (r_pickF (v := .bool t82) rfl rfl) ?_
         refine l_val rfl rfl rfl (r_assign (v := .bool t82) rfl) ?_
         refine l_nil ?_
         refine c_close t82 () 0 [0] (by exact ⟨rfl, rfl, trivial⟩) (by decide) rfl (by exact ⟨H94, trivial⟩) (Nat.lt_succ_self _)
       ·have H95 := cnd_f hb H89; clear H89
        refine c_seq ?_
        refine c_region ?_
        refine l_val rfl rfl rfl (r_eql rfl rfl) ?_
        refine l_val rfl rfl rfl (r_assign (v := .bool (decide (a0.Kind = 4))) rfl) ?_
        refine l_nil ?_
        refine c_if (b := (decide (a0.Kind = 4))) rfl (fun hb => ?_) (fun hb => ?_)
        ·have H96 := cnd_t hb H95; clear H95
         refine c_region ?_
         refine l_val rfl rfl rfl (r_move (v := .func (.func 52) #[] #[]) rfl) ?_
         refine l_val rfl rfl rfl (r_field Try.runUnderlying31 rfl Try.sizeOf3 rfl rfl) ?_
         refine l_load1 (i := 0) (v := .int .i64 a0.A) Try.isAgg3 rfl rfl rfl rfl rfl ?_
         obtain ⟨t89, h_t89, H97⟩ := bnd_some H96; clear H96
         refine l_callV (R := fnR_func_int_int_int_bool R_StepFault_1) (r := .bool t89) (v := .func (.func 52) #[] #[]) (fun w hF hS => ⟨(FnH.mk ⟨52, #[], #[], rfl, Try.call52, fun args2 post2 w2 hk2 hR2 => by obtain ⟨a0_, a1_, a2_, r_, rfl, H_, rfl⟩ := hR2; exact k52 H_ w2⟩), ⟨a0.A, (-255), 255, _, rfl, h_t89, rfl⟩⟩) rfl rfl rfl rfl ?_
         refine l_val rfl rfl rfl (r_assign (v := .bool t89) rfl) ?_
         refine l_nil ?_
         refine c_close t89 () 0 [0] (by exact ⟨rfl, rfl, trivial⟩) (by decide) rfl (by exact ⟨H97, trivial⟩) (Nat.lt_succ_self _)
        ·have H98 := cnd_f hb H95; clear H95
         refine c_seq ?_
         refine c_region ?_
         refine l_val rfl rfl rfl (r_eql rfl rfl) ?_
         refine l_val rfl rfl rfl (r_assign (v := .bool (decide (a0.Kind = 5))) rfl) ?_
         refine l_nil ?_
         refine c_if (b := (decide (a0.Kind = 5))) rfl (fun hb => ?_) (fun hb => ?_)
         ·have H99 := cnd_t hb H98; clear H98
          refine c_region ?_
          refine l_val rfl rfl rfl (r_move (v := .func (.func 52) #[] #[]) rfl) ?_
          refine l_val rfl rfl rfl (r_field Try.runUnderlying31 rfl Try.sizeOf3 rfl rfl) ?_
          refine l_load1 (i := 0) (v := .int .i64 a0.A) Try.isAgg3 rfl rfl rfl rfl rfl ?_
          obtain ⟨t95, h_t95, H100⟩ := bnd_some H99; clear H99
          refine l_callV (R := fnR_func_int_int_int_bool R_StepFault_1) (r := .bool t95) (v := .func (.func 52) #[] #[]) (fun w hF hS => ⟨(FnH.mk ⟨52, #[], #[], rfl, Try.call52, fun args2 post2 w2 hk2 hR2 => by obtain ⟨a0_, a1_, a2_, r_, rfl, H_, rfl⟩ := hR2; exact k52 H_ w2⟩), ⟨a0.A, 0, 400, _, rfl, h_t95, rfl⟩⟩) rfl rfl rfl rfl ?_
          refine l_val rfl rfl rfl (r_assign (v := .bool t95) rfl) ?_
          refine l_nil ?_
          refine c_close t95 () 0 [0] (by exact ⟨rfl, rfl, trivial⟩) (by decide) rfl (by exact ⟨H100, trivial⟩) (Nat.lt_succ_self _)
         ·have H101 := cnd_f hb H98; clear H98
          refine c_seq ?_
          refine c_region ?_
          refine l_val rfl rfl rfl (r_eql rfl rfl) ?_
          refine l_val rfl rfl rfl (r_assign (v := .bool (decide (a0.Kind = 6))) rfl) ?_
          refine l_nil ?_
          refine c_if (b := (decide (a0.Kind = 6))) rfl (fun hb => ?_) (fun hb => ?_)
          ·have H102 := cnd_t hb H101; clear H101
           refine c_region ?_
           refine l_val rfl rfl rfl (r_move (v := .func (.func 52) #[] #[]) rfl) ?_
           refine l_val rfl rfl rfl (r_field Try.runUnderlying31 rfl Try.sizeOf3 rfl rfl) ?_
           refine l_load1 (i := 0) (v := .int .i64 a0.A) Try.isAgg3 rfl rfl rfl rfl rfl ?_
           obtain ⟨t101, h_t101, H103⟩ := bnd_some H102; clear H102
           refine l_callV (R := fnR_func_int_int_int_bool R_StepFault_1) (r := .bool t101) (v := .func (.func 52) #[] #[]) (fun w hF hS => ⟨(FnH.mk ⟨52, #[], #[], rfl, Try.call52, fun args2 post2 w2 hk2 hR2 => by obtain ⟨a0_, a1_, a2_, r_, rfl, H_, rfl⟩ := hR2; exact k52 H_ w2⟩), ⟨a0.A, 0, 255, _, rfl, h_t101, rfl⟩⟩) rfl rfl rfl rfl ?_
           refine l_val rfl rfl rfl (r_move (v := .bool t101) rfl) ?_
           refine split (fun hb => ?_) (fun hb => ?_)
           ·have H104 := cnd_t hb H103; clear H103
            refine l_passed rfl rfl rfl ?_
            refine l_passed rfl rfl rfl ?_
            refine l_passed rfl rfl rfl ?_
            refine l_passed rfl rfl rfl ?_
            refine l_val rfl rfl rfl (r_pickT (v := .bool true) rfl rfl) ?_
            refine l_val rfl rfl rfl (r_assign (v := .bool true) rfl) ?_
            refine l_nil ?_
            refine c_close true () 0 [0] (by exact ⟨rfl, rfl, trivial⟩) (by decide) rfl (by exact ⟨H104, trivial⟩) (Nat.lt_succ_self _)
           ·have H105 := cnd_f hb H103; clear H103
            refine l_val rfl rfl rfl (r_move (v := .func (.func 52) #[] #[]) rfl) ?_
            refine l_val rfl rfl rfl (r_field Try.runUnderlying31 rfl Try.sizeOf3 rfl rfl) ?_
            refine l_load1 (i := 0) (v := .int .i64 a0.B) Try.isAgg3 rfl rfl rfl rfl rfl ?_
            obtain ⟨t106, h_t106, H106⟩ := bnd_some H105; clear H105
            refine l_callV (R := fnR_func_int_int_int_bool R_StepFault_1) (r := .bool t106) (v := .func (.func 52) #[] #[]) (fun w hF hS => ⟨(FnH.mk ⟨52, #[], #[], rfl, Try.call52, fun args2 post2 w2 hk2 hR2 => by obtain ⟨a0_, a1_, a2_, r_, rfl, H_, rfl⟩ := hR2; exact k52 H_ w2⟩), ⟨a0.B, 0, 255, _, rfl, h_t106, rfl⟩⟩) rfl rfl rfl rfl ?_
            refine l_val rfl rfl rfl (r_pickF (v := .bool t106) rfl rfl) ?_
            refine l_val rfl rfl rfl (r_assign (v := .bool t106) rfl) ?_
            refine l_nil ?_
            refine c_close t106 () 0 [0] (by exact ⟨rfl, rfl, trivial⟩) (by decide) rfl (by exact ⟨H106, trivial⟩) (Nat.lt_succ_self _)
          ·have H107 := cnd_f hb H101; clear H101
           refine c_seq ?_
           refine c_region ?_
           refine l_val rfl rfl rfl (r_eql rfl rfl) ?_
           refine l_val rfl rfl rfl (r_assign (v := .bool (decide (a0.Kind = 7))) rfl) ?_
           refine l_nil ?_
           refine c_if (b := (decide (a0.Kind = 7))) rfl (fun hb => ?_) (fun hb => ?_)
           ·have H108 := cnd_t hb H107; clear H107
            refine c_region ?_
            refine l_val rfl rfl rfl (r_move (v := .func (.func 52) #[] #[]) rfl) ?_
            refine l_val rfl rfl rfl (r_field Try.runUnderlying31 rfl Try.sizeOf3 rfl rfl) ?_
            refine l_load1 (i := 0) (v := .int .i64 a0.A) Try.isAgg3 rfl rfl rfl rfl rfl ?_
            obtain ⟨t113, h_t113, H109⟩ := bnd_some H108; clear H108
            refine l_callV (R := fnR_func_int_int_int_bool R_StepFault_1) (r := .bool t113) (v := .func (.func 52) #[] #[]) (fun w hF hS => ⟨(FnH.mk ⟨52, #[], #[], rfl, Try.call52, fun args2 post2 w2 hk2 hR2 => by obtain ⟨a0_, a1_, a2_, r_, rfl, H_, rfl⟩ := hR2; exact k52 H_ w2⟩), ⟨a0.A, (-100), 100, _, rfl, h_t113, rfl⟩⟩) rfl rfl rfl rfl ?_
            refine l_val rfl rfl rfl (r_assign (v := .bool t113) rfl) ?_
            refine l_nil ?_
            refine c_close t113 () 0 [0] (by exact ⟨rfl, rfl, trivial⟩) (by decide) rfl (by exact ⟨H109, trivial⟩) (Nat.lt_succ_self _)
           ·have H110 := cnd_f hb H107; clear H107
            refine c_seq ?_
            refine c_region ?_
            refine l_val rfl rfl rfl (r_eql rfl rfl) ?_
            refine l_val rfl rfl rfl (r_assign (v := .bool (decide (a0.Kind = 8))) rfl) ?_
            refine l_nil ?_
            refine c_if (b := (decide (a0.Kind = 8))) rfl (fun hb => ?_) (fun hb => ?_)
            ·have H111 := cnd_t hb H110; clear H110
             refine c_region ?_
             refine l_val rfl rfl rfl (r_move (v := .func (.func 52) #[] #[]) rfl) ?_
             refine l_val rfl rfl rfl (r_field Try.runUnderlying31 rfl Try.sizeOf3 rfl rfl) ?_
             refine l_load1 (i := 0) (v := .int .i64 a0.A) Try.isAgg3 rfl rfl rfl rfl rfl ?_
             obtain ⟨t119, h_t119, H112⟩ := bnd_some H111; clear H111
             refine l_callV (R := fnR_func_int_int_int_bool R_StepFault_1) (r := .bool t119) (v := .func (.func 52) #[] #[]) (fun w hF hS => ⟨(FnH.mk ⟨52, #[], #[], rfl, Try.call52, fun args2 post2 w2 hk2 hR2 => by obtain ⟨a0_, a1_, a2_, r_, rfl, H_, rfl⟩ := hR2; exact k52 H_ w2⟩), ⟨a0.A, 0, 100, _, rfl, h_t119, rfl⟩⟩) rfl rfl rfl rfl ?_
             refine l_val rfl rfl rfl (r_assign (v := .bool t119) rfl) ?_
             refine l_nil ?_
             refine c_close t119 () 0 [0] (by exact ⟨rfl, rfl, trivial⟩) (by decide) rfl (by exact ⟨H112, trivial⟩) (Nat.lt_succ_self _)
            ·have H113 := cnd_f hb H110; clear H110
             refine c_skip ?_
             refine c_close false () 0 [0] (by exact ⟨rfl, rfl, trivial⟩) (by decide) rfl (by exact ⟨H113, trivial⟩) (Nat.lt_succ_self _)
    ·rintro x6 _ gg H68 _
     replace H68 : R_StepFault_j2 a0 x6 = some r := H68
     refine c_tidyF [(1, .pointer (some ⟨b2, 0, none⟩)), (6, .bool x6)] [cellsC b2 [.int .i64 a0.Kind, .int .i64 a0.A, .int .i64 a0.B, .int .i64 a0.C, .int .i64 a0.D] 31] rfl rfl ?_
     refine c_seq ?_
     refine c_seq ?_
     refine c_region ?_
     refine l_val rfl rfl rfl (r_move (v := .bool x6) rfl) ?_
     refine l_nil ?_
     refine c_if (b := x6) rfl (fun hb => ?_) (fun hb => ?_)
     ·have H69 := cnd_t hb H68; clear H68
      refine c_seq ?_
      refine c_region ?_
      refine l_val rfl rfl rfl (r_assign (v := .int .i64 2) rfl) ?_
      refine l_nil ?_
      refine c_ret ?_
      obtain rfl := Option.some.inj H69
      refine ret1 (v := .int .i64 2) rfl rfl (fin rfl)
     ·have H70 := cnd_f hb H68; clear H68
      refine c_skip ?_
      refine c_seq ?_
      refine c_seq ?_
      refine c_region ?_
      refine l_val rfl rfl rfl (r_field Try.runUnderlying31 rfl Try.sizeOf3 rfl rfl) ?_
      refine l_load1 (i := 0) (v := .int .i64 a0.Kind) Try.isAgg3 rfl rfl rfl rfl rfl ?_
      refine l_val rfl rfl rfl (r_eql rfl rfl) ?_
      refine l_val rfl rfl rfl (r_move (v := .bool (decide (a0.Kind = 6))) rfl) ?_
      refine split (fun hb => ?_) (fun hb => ?_)
      ·have H71 := cnd_t hb H70; clear H70
       refine l_val rfl rfl rfl (r_field Try.runUnderlying31 rfl Try.sizeOf3 rfl rfl) ?_
       refine l_load1 (i := 0) (v := .int .i64 a0.B) Try.isAgg3 rfl rfl rfl rfl rfl ?_
       refine l_val rfl rfl rfl (r_field Try.runUnderlying31 rfl Try.sizeOf3 rfl rfl) ?_
       refine l_load1 (i := 0) (v := .int .i64 a0.A) Try.isAgg3 rfl rfl rfl rfl rfl ?_
       refine l_val rfl rfl rfl (r_leq rfl rfl) ?_
       refine l_val rfl rfl rfl (r_pickT (v := .bool (decide (a0.B ≤ a0.A))) rfl rfl) ?_
       refine l_nil ?_
       refine c_if (b := (decide (a0.B ≤ a0.A))) rfl (fun hb => ?_) (fun hb => ?_)
       ·have H72 := cnd_t hb H71; clear H71
        refine c_seq ?_
        refine c_region ?_
        refine l_val rfl rfl rfl (r_assign (v := .int .i64 5) rfl) ?_
        refine l_nil ?_
        refine c_ret ?_
        obtain rfl := Option.some.inj H72
        refine ret1 (v := .int .i64 5) rfl rfl (fin rfl)
       ·have H73 := cnd_f hb H71; clear H71
        refine c_skip ?_
        refine c_seq ?_
        refine c_region ?_
        refine l_val rfl rfl rfl (r_assign (v := .int .i64 0) rfl) ?_
        refine l_nil ?_
        refine c_ret ?_
        obtain rfl := Option.some.inj H73
        refine ret1 (v := .int .i64 0) rfl rfl (fin rfl)
      ·have H74 := cnd_f hb H70; clear H70
       refine l_passed rfl rfl rfl ?_
       refine l_passed rfl rfl rfl ?_
       refine l_passed rfl rfl rfl ?_
       refine l_passed rfl rfl rfl ?_
       refine l_passed rfl rfl rfl ?_
       refine l_val rfl rfl rfl (r_pickF (v := .bool false) rfl rfl) ?_
       refine l_nil ?_
       refine c_false rfl ?_
       refine c_skip ?_
       refine c_seq ?_
       refine c_region ?_
       refine l_val rfl rfl rfl (r_assign (v := .int .i64 0) rfl) ?_
       refine l_nil ?_
       refine c_ret ?_
       obtain rfl := Option.some.inj H74
       refine ret1 (v := .int .i64 0) rfl rfl (fin rfl)
theorem k9 {a0 : (List T_edit_Step)} {v0 : Value} {r : Int} {w : World} {h : Heap} (hw : Know h w noS) (f0 : FrS h 5 v0 (a0.map e_edit_Step)) (H : R_StepsFault a0 = some r) : Does Try.prog 9 (List.toArray [v0]) w (fun v w' => v = (.int .i64 r) ∧ Grow w w') := by
 refine enter (n := 21) Try.func9 rfl rfl rfl noS [] (Sat.nil _ _) ?_
 refine c_seq ?_
 refine c_region ?_
 refine l_val rfl rfl rfl (r_assign (v := .int .i64 0) rfl) ?_
 refine l_nil ?_
 refine c_seq ?_
 refine c_seq ?_
 refine c_region ?_
 refine l_val rfl rfl rfl (r_move (v := v0) rfl) ?_
 refine l_val rfl rfl rfl (r_lenF Try.underlying22 rfl f0 rfl) ?_
 refine l_val rfl rfl rfl (r_gtr rfl rfl) ?_
 refine l_nil ?_
 refine c_if (b := (decide (50 < (a0.length : Int)))) rfl (fun hb => ?_) (fun hb => ?_)
 ·have H11 := cnd_t hb H; clear H
  refine c_seq ?_
  refine c_region ?_
  refine l_val rfl rfl rfl (r_assign (v := .int .i64 4) rfl) ?_
  refine l_nil ?_
  refine c_ret ?_
  obtain rfl := Option.some.inj H11
  refine ret1 (v := .int .i64 4) rfl rfl (fin rfl)
 ·have H12 := cnd_f hb H; clear H
  refine c_skip ?_
  refine c_seq ?_
  refine c_seq ?_
  refine c_region ?_
  refine l_val rfl rfl rfl (r_move (v := v0) rfl) ?_
  refine l_val rfl rfl rfl (r_lenF Try.underlying22 rfl f0 rfl) ?_
  refine l_val rfl rfl rfl (r_move (v := .int .i64 0) rfl) ?_
  refine l_nil ?_
  refine c_block ?_
  refine c_fix (σ := Int) (τ := Unit) (fun next1 s => R_StepsFault_l1 a0 next1 s) (fun s t => [(9, v0), (10, .int .i64 (a0.length : Int)), (11, .int .i64 s)]) (fun s t => []) (fun s t => True) 0 () [] H12 (by exact trivial) (by exact ⟨rfl, rfl, rfl, trivial⟩) (by decide) rfl ?_
  rintro x11_2 _ m1 gg H13 _
  clear H12
  replace H13 : R_StepsFault_l1 a0 (it (fun next1 s => R_StepsFault_l1 a0 next1 s) m1) x11_2 = some r := H13
  generalize hn1 : it (fun next1 s => R_StepsFault_l1 a0 next1 s) m1 = next1 at H13
  refine c_tidyF [(9, v0), (10, .int .i64 (a0.length : Int)), (11, .int .i64 x11_2)] [] rfl rfl ?_
  refine c_seq ?_
  refine c_region ?_
  refine l_val rfl rfl rfl (r_lss rfl rfl) ?_
  refine l_nil ?_
  refine c_seq ?_
  refine c_if (b := (decide (x11_2 < (a0.length : Int)))) rfl (fun hb => ?_) (fun hb => ?_)
  ·have H14 := cnd_t hb H13; clear H13
   refine c_skip ?_
   refine c_seq ?_
   refine c_block ?_
   refine c_seq ?_
   refine c_region ?_
   obtain ⟨t13, h_t13, H15⟩ := bnd_some H14; clear H14
   refine l_val rfl rfl rfl (r_indexF Try.underlying22 Try.sizeOf31 rfl rfl f0 h_t13) ?_
   refine l_read (fun w hF hS => run_loadGN (f := e_edit_Step) (i := x11_2) (sz := 5) (j := 0) (vs := [.int .i64 t13.Kind, .int .i64 t13.A, .int .i64 t13.B, .int .i64 t13.C, .int .i64 t13.D]) Try.isAgg31 Try.sizeOf31 rfl rfl (f0.row (hw.now hF)) h_t13 rfl) rfl rfl rfl ?_
   refine l_alloc (cs := [.int .i64 0, .int .i64 0, .int .i64 0, .int .i64 0, .int .i64 0]) Try.zeroValue31 rfl rfl rfl (fun b1 => ?_)
   refine l_store (i := 0) (vs := [.int .i64 t13.Kind, .int .i64 t13.A, .int .i64 t13.B, .int .i64 t13.C, .int .i64 t13.D]) (cs' := [.int .i64 t13.Kind, .int .i64 t13.A, .int .i64 t13.B, .int .i64 t13.C, .int .i64 t13.D]) Try.sizeOf31 rfl rfl rfl rfl rfl rfl rfl rfl rfl ?_
   refine l_nil ?_
   refine c_seq ?_
   refine c_region ?_
   refine l_loadN (i := 0) (vs := [.int .i64 t13.Kind, .int .i64 t13.A, .int .i64 t13.B, .int .i64 t13.C, .int .i64 t13.D]) Try.isAgg31 Try.sizeOf31 rfl rfl rfl rfl rfl ?_
   obtain ⟨t16, h_t16, H16⟩ := bnd_some H15; clear H15
   refine l_call (k12 h_t16) Try.call12 rfl rfl rfl ?_
   refine l_val rfl rfl rfl (r_assign (v := .int .i64 t16) rfl) ?_
   refine l_nil ?_
   refine c_seq ?_
   refine c_region ?_
   refine l_val rfl rfl rfl (r_move (v := .int .i64 t16) rfl) ?_
   refine l_val rfl rfl rfl (r_neq rfl rfl) ?_
   refine l_nil ?_
   refine c_if (b := (decide (t16 ≠ 0))) rfl (fun hb => ?_) (fun hb => ?_)
   ·have H17 := cnd_t hb H16; clear H16
    refine c_seq ?_
    refine c_region ?_
    refine l_val rfl rfl rfl (r_move (v := .int .i64 t16) rfl) ?_
    refine l_val rfl rfl rfl (r_assign (v := .int .i64 t16) rfl) ?_
    refine l_nil ?_
    refine c_ret ?_
    obtain rfl := Option.some.inj H17
    refine ret1 (v := .int .i64 t16) rfl rfl (fin rfl)
   ·have H18 := cnd_f hb H16; clear H16
    refine c_skip ?_
    refine c_region ?_
    obtain ⟨t20, h_t20, H19⟩ := bnd_some H18; clear H18
    refine l_val rfl rfl rfl (r_addG rfl rfl h_t20) ?_
    refine l_val rfl rfl rfl (r_move (v := .int .i64 t20) rfl) ?_
    refine l_nil ?_
    refine c_close t20 () m1 [] (by exact ⟨rfl, rfl, rfl, trivial⟩) (by decide) rfl (by exact ⟨(by subst hn1; exact H19), trivial⟩) (Nat.lt_succ_self _)
  ·have H20 := cnd_f hb H13; clear H13
   refine c_exit ?_
   refine c_seq ?_
   refine c_region ?_
   refine l_val rfl rfl rfl (r_assign (v := .int .i64 0) rfl) ?_
   refine l_nil ?_
   refine c_ret ?_
   obtain rfl := Option.some.inj H20
   refine ret1 (v := .int .i64 0) rfl rfl (fin rfl)
theorem k11 {a0 : (List Int)} {v0 : Value} {r : Int} {w : World} {h : Heap} (hw : Know h w noS) (f0 : FrS h 1 v0 (a0.map e_i64)) (H : Law_first a0 = some r) : Does Try.prog 11 (List.toArray [v0]) w (fun v w' => v = (.int .i64 r) ∧ Grow w w') := by
 refine enter (n := 15) Try.func11 rfl rfl rfl noS [] (Sat.nil _ _) ?_
 refine c_seq ?_
 refine c_region ?_
 refine l_val rfl rfl rfl (r_assign (v := .int .i64 0) rfl) ?_
 refine l_nil ?_
 refine c_seq ?_
 refine c_seq ?_
 refine c_region ?_
 refine l_val rfl rfl rfl (r_move (v := v0) rfl) ?_
 refine l_val rfl rfl rfl (r_lenF Try.underlying98 rfl f0 rfl) ?_
 refine l_val rfl rfl rfl (r_move (v := .int .i64 0) rfl) ?_
 refine l_nil ?_
 refine c_block ?_
 refine c_fix (σ := Int) (τ := Unit) (fun next1 s => Law_first_l1 a0 next1 s) (fun s t => [(5, v0), (6, .int .i64 (a0.length : Int)), (7, .int .i64 s)]) (fun s t => []) (fun s t => True) 0 () [] H (by exact trivial) (by exact ⟨rfl, rfl, rfl, trivial⟩) (by decide) rfl ?_
 rintro x7_2 _ m1 gg H8 _
 clear H
 replace H8 : Law_first_l1 a0 (it (fun next1 s => Law_first_l1 a0 next1 s) m1) x7_2 = some r := H8
 generalize hn1 : it (fun next1 s => Law_first_l1 a0 next1 s) m1 = next1 at H8
 refine c_tidyF [(5, v0), (6, .int .i64 (a0.length : Int)), (7, .int .i64 x7_2)] [] rfl rfl ?_
 refine c_seq ?_
 refine c_region ?_
 refine l_val rfl rfl rfl (r_lss rfl rfl) ?_
 refine l_nil ?_
 refine c_seq ?_
 refine c_if (b := (decide (x7_2 < (a0.length : Int)))) rfl (fun hb => ?_) (fun hb => ?_)
 ·have H9 := cnd_t hb H8; clear H8
  refine c_skip ?_
  refine c_seq ?_
  refine c_block ?_
  refine c_seq ?_
  refine c_region ?_
  obtain ⟨t9, h_t9, H10⟩ := bnd_some H9; clear H9
  refine l_val rfl rfl rfl (r_indexF Try.underlying98 Try.sizeOf25 rfl rfl f0 h_t9) ?_
  refine l_read (fun w hF hS => run_loadG1 (f := e_i64) (i := x7_2) (sz := 1) (j := 0) (v := .int .i64 t9) Try.isAgg25 rfl rfl (f0.row (hw.now hF)) h_t9 rfl) rfl rfl rfl ?_
  refine l_val rfl rfl rfl (r_assign (v := .int .i64 t9) rfl) ?_
  refine l_nil ?_
  refine c_seq ?_
  refine c_region ?_
  refine l_val rfl rfl rfl (r_move (v := .int .i64 t9) rfl) ?_
  refine l_val rfl rfl rfl (r_neq rfl rfl) ?_
  refine l_nil ?_
  refine c_if (b := (decide (t9 ≠ 0))) rfl (fun hb => ?_) (fun hb => ?_)
  ·have H11 := cnd_t hb H10; clear H10
   refine c_seq ?_
   refine c_region ?_
   refine l_val rfl rfl rfl (r_move (v := .int .i64 t9) rfl) ?_
   refine l_val rfl rfl rfl (r_assign (v := .int .i64 t9) rfl) ?_
   refine l_nil ?_
   refine c_ret ?_
   obtain rfl := Option.some.inj H11
   refine ret1 (v := .int .i64 t9) rfl rfl (fin rfl)
  ·have H12 := cnd_f hb H10; clear H10
   refine c_skip ?_
   refine c_region ?_
   obtain ⟨t14, h_t14, H13⟩ := bnd_some H12; clear H12
   refine l_val rfl rfl rfl (r_addG rfl rfl h_t14) ?_
   refine l_val rfl rfl rfl (r_move (v := .int .i64 t14) rfl) ?_
   refine l_nil ?_
   refine c_close t14 () m1 [] (by exact ⟨rfl, rfl, rfl, trivial⟩) (by decide) rfl (by exact ⟨(by subst hn1; exact H13), trivial⟩) (Nat.lt_succ_self _)
 ·have H14 := cnd_f hb H8; clear H8
  refine c_exit ?_
  refine c_seq ?_
  refine c_region ?_
  refine l_val rfl rfl rfl (r_assign (v := .int .i64 0) rfl) ?_
  refine l_nil ?_
  refine c_ret ?_
  obtain rfl := Option.some.inj H14
  refine ret1 (v := .int .i64 0) rfl rfl (fin rfl)
theorem k13 {a0 : Bool} {a1 : Int} {r : Int} (H : Law_unless a0 a1 = some r) : Ret Try.prog 13 [.bool a0, .int .i64 a1] (.int .i64 r) := by
 refine enterRet (n := 7) Try.func13 rfl rfl rfl (fun wd => ?_)
 refine c_seq ?_
 refine c_region ?_
 refine l_val rfl rfl rfl (r_assign (v := .int .i64 0) rfl) ?_
 refine l_nil ?_
 refine c_seq ?_
 refine c_seq ?_
 refine c_region ?_
 refine l_val rfl rfl rfl (r_move (v := .bool a0) rfl) ?_
 refine l_nil ?_
 refine c_if (b := a0) rfl (fun hb => ?_) (fun hb => ?_)
 ·have H3 := cnd_t hb H; clear H
  refine c_seq ?_
  refine c_region ?_
  refine l_val rfl rfl rfl (r_assign (v := .int .i64 0) rfl) ?_
  refine l_nil ?_
  refine c_ret ?_
  obtain rfl := Option.some.inj H3
  refine ret1 (v := .int .i64 0) rfl rfl (fin rfl)
 ·have H4 := cnd_f hb H; clear H
  refine c_skip ?_
  refine c_seq ?_
  refine c_region ?_
  refine l_val rfl rfl rfl (r_move (v := .int .i64 a1) rfl) ?_
  refine l_val rfl rfl rfl (r_assign (v := .int .i64 a1) rfl) ?_
  refine l_nil ?_
  refine c_ret ?_
  obtain rfl := Option.some.inj H4
  refine ret1 (v := .int .i64 a1) rfl rfl (fin rfl)
theorem k118 {a : Option Addr} {n c : Nat} (hc : n ≤ c) : Ret Try.prog 118 [.slice a n c] (.slice (cutA a 0 n 5) n n) := by
  refine enterRet (n := 9) Try.func118 rfl rfl rfl (fun wd => ?_)
  refine c_seq ?_
  refine c_region ?_
  refine l_val rfl rfl rfl (r_assign (v := .slice none 0 0) rfl) ?_
  refine l_nil ?_
  refine c_seq ?_
  refine c_region ?_
  refine l_val rfl rfl rfl (r_move (v := .slice a n c) rfl) ?_
  refine l_val rfl rfl rfl (r_move (v := .slice a n c) rfl) ?_
  refine l_val rfl rfl rfl (r_len Try.underlying22 rfl) ?_
  refine l_val rfl rfl rfl (r_move (v := .slice a n c) rfl) ?_
  refine l_val rfl rfl rfl (r_len Try.underlying22 rfl) ?_
  refine l_val rfl rfl rfl (r_sliceHM (a := a) (m := n) (c := c) (h := (n : Int)) (q := (n : Int)) Try.underlying22 Try.sizeOf31 rfl rfl rfl (Int.natCast_nonneg n) (Int.le_refl _) (Int.ofNat_le.2 hc)) ?_
  refine l_val rfl rfl rfl (r_assign (v := .slice (cutA a 0 n 5) n n) rfl) ?_
  refine l_nil ?_
  refine c_ret ?_
  exact ret1 (v := .slice (cutA a 0 n 5) n n) rfl rfl (fin rfl)

theorem k57 {a0 : T_edit_History} {v0_0 : Value} {pb0 : Nat} {a1 : Int} {r : (List T_edit_Step)} {w : World} {h : Heap} (hw : Know h w noS) (f0_0 : FrN h 1 v0_0 gs_edit_Step a0.all_) (hb0 : h pb0 = some (.cells (List.toArray [v0_0, .int .i64 a0.now_]) 97 (0, 0))) (H : edit_History_at a0 a1 = some r) : Does Try.prog 57 (List.toArray [.pointer (some ⟨pb0, 0, none⟩), .int .i64 a1]) w (fun v w' => ∃ x : (Option Addr × Nat), v = (.slice x.1 r.length x.2) ∧ Turn w w' noS (rowO 31 5 (.slice x.1 r.length x.2) r.length (r.map e_edit_Step))) := by
 refine enter (n := 14) Try.func57 rfl rfl rfl noS [] (Sat.nil _ _) ?_
 refine c_seq ?_
 refine c_region ?_
 refine l_val rfl rfl rfl (r_assign (v := .slice none 0 0) rfl) ?_
 refine l_nil ?_
 refine c_seq ?_
 refine c_region ?_
 refine l_val rfl rfl rfl (r_move (v := .pointer (some ⟨pb0, 0, none⟩)) rfl) ?_
 refine l_val rfl rfl rfl (r_nilCheck rfl) ?_
 refine l_val rfl rfl rfl (r_field Try.runUnderlying97 rfl Try.sizeOf29 rfl rfl) ?_
 refine l_read (fun w hF hS => run_loadK1 (v := v0_0) Try.isAgg29 rfl (hw.now hF _ _ hb0) rfl) rfl rfl rfl ?_
 refine l_val rfl rfl rfl (r_move (v := .int .i64 a1) rfl) ?_
 obtain ⟨t10, h_t10, H5⟩ := bnd_some H; clear H
 refine l_val rfl rfl rfl (r_indexF Try.underlying29 Try.sizeOf22 rfl rfl f0_0.frs (f0_0.ix h_t10)) ?_
 refine l_read (fun w hF hS => run_loadG1 (f := (elC h v0_0 1)) (i := a1) (sz := 1) (j := 0) (v := (elH h v0_0 1 (Int.toNat a1) 0)) Try.isAgg22 rfl rfl (f0_0.frs.row (hw.now hF)) (f0_0.ix h_t10) (rg_of (cgs_edit_Step (f0_0.at h_t10)) rfl)) rfl rfl rfl ?_
 obtain ⟨t12, h_t12, H6⟩ := bnd_some H5; clear H5
 refine l_make (makes_call (rds := []) (G := fun x : (Option Addr × Nat) => .slice x.1 t12.length x.2) (C := fun x : (Option Addr × Nat) => rowV 31 5 (.slice x.1 t12.length x.2) t12.length (t12.map e_edit_Step)) (fun w L' hF hS hi => k10 (know_all w) ((show FrS h 5 (elH h v0_0 1 (Int.toNat a1) 0) (t10.map e_edit_Step) from (f0_0.at h_t10)).mono (hw.now hF)) h_t12) Try.call10 rfl) rfl rfl rfl (fun p => ?_)
 refine l_callG (fun w hF hS => k118 (capOf (i := 0) hS rfl) w) Try.call118 rfl rfl rfl ?_
 refine l_val rfl rfl rfl (r_assign (v := .slice (cutA p.1 0 t12.length 5) t12.length t12.length) rfl) ?_
 refine l_nil ?_
 refine c_ret ?_
 obtain rfl := Option.some.inj H6
 refine c_imp 0 rfl (imp_clipR _ _ _ _ _ _) ?_
 refine ret1 (v := .slice (cutA p.1 0 t12.length 5) t12.length t12.length) rfl rfl (finX (cutA p.1 0 t12.length 5, t12.length) (i := 0) rfl rfl (Imp.refl _))
theorem k21 {a0 : T_edit_History} {v0_0 : Value} {pb0 : Nat} {r : (List T_edit_Step)} {w : World} {h : Heap} (hw : Know h w noS) (f0_0 : FrN h 1 v0_0 gs_edit_Step a0.all_) (hb0 : h pb0 = some (.cells (List.toArray [v0_0, .int .i64 a0.now_]) 97 (0, 0))) (H : edit_History_Now a0 = some r) : Does Try.prog 21 (List.toArray [.pointer (some ⟨pb0, 0, none⟩)]) w (fun v w' => ∃ x : (Option Addr × Nat), v = (.slice x.1 r.length x.2) ∧ Turn w w' noS (rowO 31 5 (.slice x.1 r.length x.2) r.length (r.map e_edit_Step))) := by
 refine enter (n := 9) Try.func21 rfl rfl rfl noS [] (Sat.nil _ _) ?_
 refine c_seq ?_
 refine c_region ?_
 refine l_val rfl rfl rfl (r_assign (v := .slice none 0 0) rfl) ?_
 refine l_nil ?_
 refine c_seq ?_
 refine c_region ?_
 refine l_val rfl rfl rfl (r_move (v := .pointer (some ⟨pb0, 0, none⟩)) rfl) ?_
 refine l_val rfl rfl rfl (r_move (v := .pointer (some ⟨pb0, 0, none⟩)) rfl) ?_
 refine l_val rfl rfl rfl (r_nilCheck rfl) ?_
 refine l_val rfl rfl rfl (r_field Try.runUnderlying97 rfl Try.sizeOf3 rfl rfl) ?_
 refine l_read (fun w hF hS => run_loadK1 (v := .int .i64 a0.now_) Try.isAgg3 rfl (hw.now hF _ _ hb0) rfl) rfl rfl rfl ?_
 obtain ⟨t8, h_t8, H3⟩ := bnd_some H; clear H
 refine l_make (makes_call (rds := []) (G := fun x : (Option Addr × Nat) => .slice x.1 t8.length x.2) (C := fun x : (Option Addr × Nat) => rowO 31 5 (.slice x.1 t8.length x.2) t8.length (t8.map e_edit_Step)) (fun w L' hF hS hi => k57 (know_all w) (f0_0.mono (hw.now hF)) (hw.now hF _ _ hb0) h_t8) Try.call57 rfl) rfl rfl rfl (fun p => ?_)
 refine l_val rfl rfl rfl (r_assign (v := .slice p.1 t8.length p.2) rfl) ?_
 refine l_nil ?_
 refine c_ret ?_
 obtain rfl := Option.some.inj H3
 refine ret1 (v := .slice p.1 t8.length p.2) rfl rfl (finX p (i := 0) rfl rfl (Imp.refl _))
theorem k117 {a0 : (List SlH)} {p0 : Option Addr × Nat} {n0 : Nat} {a1 : Int} {a2 : Int} {r : (List SlH)} {w : World} {h : Heap} {S : Nat → Prop} (hcs : (rowV 22 1 (.slice p0.1 n0 p0.2) n0 (a0.map e_slh)).P S w) (hlt : ∀ b, S b → b < w.heap.size) (hw : Know h w S) (hn0 : n0 = a0.length) (H : slices_Delete_edit_Step_edit_Step ((none, 0, 0) : SlH) a0 a1 a2 = some r) : Does Try.prog 117 (List.toArray [.slice p0.1 n0 p0.2, .int .i64 a1, .int .i64 a2]) w (fun v w' => ∃ x : (Option Addr × Nat), v = (.slice x.1 r.length x.2) ∧ Turn w w' S (rowV 22 1 (.slice x.1 r.length x.2) r.length (r.map e_slh))) := by
 refine enter (n := 33) Try.func117 rfl rfl rfl S [rowV 22 1 (.slice p0.1 n0 p0.2) n0 (a0.map e_slh)] (Sat.one hcs hlt) ?_
 refine c_seq ?_
 refine c_region ?_
 refine l_val rfl rfl rfl (r_assign (v := .slice none 0 0) rfl) ?_
 refine l_nil ?_
 refine c_seq ?_
 refine c_region ?_
 refine l_val rfl rfl rfl (r_move (v := .slice p0.1 n0 p0.2) rfl) ?_
 refine l_val rfl rfl rfl (r_move (v := .int .i64 a1) rfl) ?_
 refine l_val rfl rfl rfl (r_move (v := .int .i64 a2) rfl) ?_
 refine l_val rfl rfl rfl (r_move (v := .slice p0.1 n0 p0.2) rfl) ?_
 refine l_val rfl rfl rfl (r_lenN Try.underlying29 rfl hn0) ?_
 obtain ⟨t13, h_t13, H8⟩ := bnd_some H; clear H
 refine l_read (fun w hF hS => run_slice3O (xs := a0) Try.underlying29 Try.sizeOf22 rfl rfl rfl rfl hn0 (capOf (i := 0) hS rfl) h_t13) rfl rfl rfl ?_
 refine l_nil ?_
 refine c_seq ?_
 refine c_seq ?_
 refine c_region ?_
 refine l_val rfl rfl rfl (r_move (v := .int .i64 a1) rfl) ?_
 refine l_val rfl rfl rfl (r_move (v := .int .i64 a2) rfl) ?_
 refine l_val rfl rfl rfl (r_eql rfl rfl) ?_
 refine l_nil ?_
 refine c_if (b := (decide (a1 = a2))) rfl (fun hb => ?_) (fun hb => ?_)
 ·have H9 := cnd_t hb H8; clear H8
  refine c_seq ?_
  refine c_region ?_
  refine l_val rfl rfl rfl (r_move (v := .slice p0.1 n0 p0.2) rfl) ?_
  refine l_val rfl rfl rfl (r_assign (v := .slice p0.1 n0 p0.2) rfl) ?_
  refine l_nil ?_
  refine c_ret ?_
  obtain rfl := Option.some.inj H9
  refine ret1 (v := .slice p0.1 n0 p0.2) rfl rfl (finX p0 (i := 0) rfl (by first | rfl | rw [(show n0 = a0.length from hn0)]) (by first | exact Imp.refl _ | exact Imp.of (by rw [(show n0 = a0.length from hn0)])))
 ·have H10 := cnd_f hb H8; clear H8
  refine c_skip ?_
  refine c_seq ?_
  refine c_region ?_
  refine l_val rfl rfl rfl (r_move (v := .slice p0.1 n0 p0.2) rfl) ?_
  refine l_val rfl rfl rfl (r_lenN Try.underlying29 rfl hn0) ?_
  refine l_val rfl rfl rfl (r_assign (v := .int .i64 (a0.length : Int)) rfl) ?_
  refine l_nil ?_
  refine c_seq ?_
  exact c_regionD (Kd.p :: Kd.p :: Kd.d [0] _ :: Kd.p :: Kd.p :: Kd.d [0] _ :: Kd.t 0 [] _ _ :: Kd.p :: []) 0 mixed (by
   refine d_val rfl rfl (r_move (v := .slice p0.1 n0 p0.2) rfl) ?_
   refine d_val rfl rfl (r_move (v := .int .i64 a1) rfl) ?_
   have h_t22 := bnd_val H10
   have H11 := bnd_rest H10
   refine d_readD (v := .slice p0.1 (val (gCut a0 0 a1)).length p0.2) (fun w L' hF hS hi => run_sliceHO0 (xs := a0) Try.underlying29 Try.sizeOf22 rfl rfl hn0 (capOf (i := 0) hS ((hi 0 (by simp)).trans rfl)) h_t22) rfl rfl ?_
   refine d_val rfl rfl (r_move (v := .slice p0.1 n0 p0.2) rfl) ?_
   refine d_val rfl rfl (r_move (v := .int .i64 a2) rfl) ?_
   have h_t25 := bnd_val H11
   have H12 := bnd_rest H11
   refine d_readD (v := .slice (cutA p0.1 (Int.toNat a2) p0.2 1) (val (gCut a0 a2 a0.length)).length (p0.2 - Int.toNat a2)) (fun w L' hF hS hi => run_sliceLO (xs := a0) Try.underlying29 Try.sizeOf22 rfl rfl hn0 (capOf (i := 0) hS ((hi 0 (by simp)).trans rfl)) h_t25) rfl rfl ?_
   have h_l26 := bnd_val H12
   have H13 := bnd_rest H12
   refine d_turn (Cv := fun v => rowC 22 1 v (val (gApR a0 (val (gCut a0 0 a1)) (val (gCut a0 a2 a0.length)))).length ((val (gApR a0 (val (gCut a0 0 a1)) (val (gCut a0 a2 a0.length)))).map e_slh) a0.length) (none, 0) (turns_delG (i := 0) (rds := _) (p := p0) (f := e_slh) (ys := a0) (b := _) (j := a2) (k := a0.length) hn0 Try.underlying29 (info_of Try.typeInfo22) rfl h_t22 h_t25 rfl rfl rfl (fun _ => rfl) (fun _ => rfl) h_l26) (fun _ => rfl) rfl rfl (fun p => ?_)
   refine d_val rfl rfl (r_assign (v := .slice p.1 (val (gApR a0 (val (gCut a0 0 a1)) (val (gCut a0 a2 a0.length)))).length p.2) rfl) ?_
   refine d_nil ?_
   refine c_seq ?_
   refine c_region ?_
   refine l_val rfl rfl rfl (r_move (v := .slice p.1 (val (gApR a0 (val (gCut a0 0 a1)) (val (gCut a0 a2 a0.length)))).length p.2) rfl) ?_
   refine l_val rfl rfl rfl (r_move (v := .slice p.1 (val (gApR a0 (val (gCut a0 0 a1)) (val (gCut a0 a2 a0.length)))).length p.2) rfl) ?_
   refine l_val rfl rfl rfl (r_len Try.underlying29 rfl) ?_
   refine l_val rfl rfl rfl (r_move (v := .int .i64 (a0.length : Int)) rfl) ?_
   obtain ⟨u31, h_u31, H14⟩ := bnd_some H13; clear H13
   refine l_read (v := .slice (cutA p.1 (val (gApR a0 (val (gCut a0 0 a1)) (val (gCut a0 a2 a0.length)))).length p.2 1) (Int.toNat (a0.length : Int) - (val (gApR a0 (val (gCut a0 0 a1)) (val (gCut a0 a2 a0.length)))).length) (p.2 - (val (gApR a0 (val (gCut a0 0 a1)) (val (gCut a0 a2 a0.length)))).length)) (fun w hF hS => run_sliceRoom Try.underlying29 Try.sizeOf22 rfl rfl rfl (gIf_some h_u31).1 (Int.le_trans (gIf_some h_u31).2 (Int.ofNat_le.2 (roomOf (i := 0) hS rfl)))) rfl rfl rfl ?_
   refine l_turn0 (turns_clear (i := 0) (rds := []) Try.underlying29 Try.zeroValue22 rfl rfl rfl rfl (by have := gIf_some h_u31; omega)) rfl rfl (fun _ => ?_)
   refine l_nil ?_
   refine c_seq ?_
   refine c_region ?_
   refine l_val rfl rfl rfl (r_move (v := .slice p.1 (val (gApR a0 (val (gCut a0 0 a1)) (val (gCut a0 a2 a0.length)))).length p.2) rfl) ?_
   refine l_val rfl rfl rfl (r_assign (v := .slice p.1 (val (gApR a0 (val (gCut a0 0 a1)) (val (gCut a0 a2 a0.length)))).length p.2) rfl) ?_
   refine l_nil ?_
   refine c_ret ?_
   obtain rfl := Option.some.inj H14
   refine c_imp 0 rfl (imp_rowC _ _ _ _ _ _) ?_
   refine ret1 (v := .slice p.1 (val (gApR a0 (val (gCut a0 0 a1)) (val (gCut a0 a2 a0.length)))).length p.2) rfl rfl (finX p (i := 0) rfl rfl (Imp.refl _))
   ) (by kernel_rfl)
theorem rel117 {α : Type} {G : Heap → (Nat → Value) → α → Prop} {hp_ : Heap} {hs_ : List SlH} {xs_ t_ : List α} {z_ : α} {a_ b_ : Int} (p : AllC G hp_ 1 (hs_.map e_slh) xs_) (g : slices_Delete_edit_Step_edit_Step z_ xs_ a_ b_ = some t_) : slices_Delete_edit_Step_edit_Step ((none, 0, 0) : SlH) hs_ a_ b_ = some (val (slices_Delete_edit_Step_edit_Step ((none, 0, 0) : SlH) hs_ a_ b_)) ∧ AllC G hp_ 1 ((val (slices_Delete_edit_Step_edit_Step ((none, 0, 0) : SlH) hs_ a_ b_)).map e_slh) t_ := by
 have hl : hs_.length = xs_.length := by have := p.len; simpa using this
 suffices H : ∃ r, slices_Delete_edit_Step_edit_Step ((none, 0, 0) : SlH) hs_ a_ b_ = some r ∧ AllC G hp_ 1 (r.map e_slh) t_ by
  obtain ⟨r, h1, h2⟩ := H; rw [h1]; exact ⟨rfl, h2⟩
 unfold slices_Delete_edit_Step_edit_Step at g ⊢
 obtain ⟨c1, h1, g⟩ := bnd_some g
 obtain ⟨k0, k1, k2, _⟩ := gCut_some h1
 rw [gCut_ok ⟨k0, k1, by rw [hl]; exact k2⟩, bnd_pure, cnd_if]
 rw [cnd_if] at g
 by_cases hab : a_ = b_
 · rw [if_pos hab] at g ⊢
   cases g; exact ⟨_, rfl, p⟩
 · rw [if_neg hab] at g ⊢
   obtain ⟨c2, h2, g⟩ := bnd_some g
   obtain ⟨c3, h3, g⟩ := bnd_some g
   obtain ⟨c4, h4, g⟩ := bnd_some g
   obtain ⟨u_, h5, g⟩ := bnd_some g
   cases g
   have e2 : gCut hs_ 0 a_ = some (cutL hs_ 0 a_) := gCut_ok ⟨by omega, k0, by omega⟩
   have e3 : gCut hs_ b_ hs_.length = some (cutL hs_ b_ hs_.length) := gCut_ok ⟨by omega, by omega, by omega⟩
   have q2 := p.cut h2
   have q3 := p.cut h3
   rw [cutL_map] at q2 q3
   rw [← hl] at q3
   have l2 := q2.len; have l3 := q3.len
   simp only [List.length_map] at l2 l3
   rw [e2, bnd_pure, e3, bnd_pure]
   unfold gApR at h4 ⊢
   split at h4
   · rename_i hc
     cases h4
     rw [if_pos (by rw [l2, l3, hl]; exact hc), bnd_pure]
     have h5' := gIf_some h5
     rw [gIf_ok (by simp only [List.length_append] at h5' ⊢; rw [l2, l3, hl]; exact h5'), bnd_pure]
     exact ⟨_, rfl, by rw [List.map_append]; exact q2.append q3⟩
   · cases h4

theorem k15 {a0 : (List T_edit_Step)} {v0 : Value} {a1 : (List T_edit_Step)} {v1 : Value} {r : Bool} {w : World} {h : Heap} (hw : Know h w noS) (f0 : FrS h 5 v0 (a0.map e_edit_Step)) (f1 : FrS h 5 v1 (a1.map e_edit_Step)) (H : slices_Equal_edit_Step a0 a1 = some r) : Does Try.prog 15 (List.toArray [v0, v1]) w (fun v w' => v = (.bool r) ∧ Grow w w') := by
 refine enter (n := 26) Try.func15 rfl rfl rfl noS [] (Sat.nil _ _) ?_
 refine c_seq ?_
 refine c_region ?_
 refine l_val rfl rfl rfl (r_assign (v := .bool false) rfl) ?_
 refine l_nil ?_
 refine c_seq ?_
 refine c_seq ?_
 refine c_region ?_
 refine l_val rfl rfl rfl (r_move (v := v0) rfl) ?_
 refine l_val rfl rfl rfl (r_lenF Try.underlying22 rfl f0 rfl) ?_
 refine l_val rfl rfl rfl (r_move (v := v1) rfl) ?_
 refine l_val rfl rfl rfl (r_lenF Try.underlying22 rfl f1 rfl) ?_
 refine l_val rfl rfl rfl (r_neq rfl rfl) ?_
 refine l_nil ?_
 refine c_if (b := (decide ((a0.length : Int) ≠ (a1.length : Int)))) rfl (fun hb => ?_) (fun hb => ?_)
 ·have H11 := cnd_t hb H; clear H
  refine c_seq ?_
  refine c_region ?_
  refine l_val rfl rfl rfl (r_assign (v := .bool false) rfl) ?_
  refine l_nil ?_
  refine c_ret ?_
  obtain rfl := Option.some.inj H11
  refine ret1 (v := .bool false) rfl rfl (fin rfl)
 ·have H12 := cnd_f hb H; clear H
  refine c_skip ?_
  refine c_seq ?_
  refine c_seq ?_
  refine c_region ?_
  refine l_val rfl rfl rfl (r_move (v := v0) rfl) ?_
  refine l_val rfl rfl rfl (r_lenF Try.underlying22 rfl f0 rfl) ?_
  refine l_val rfl rfl rfl (r_move (v := .int .i64 0) rfl) ?_
  refine l_nil ?_
  refine c_block ?_
  refine c_fix (σ := Int) (τ := Unit) (fun next1 s => slices_Equal_edit_Step_l1 a0 a1 next1 s) (fun s t => [(0, v0), (1, v1), (12, .int .i64 (a0.length : Int)), (13, .int .i64 s)]) (fun s t => []) (fun s t => True) 0 () [] H12 (by exact trivial) (by exact ⟨rfl, rfl, rfl, rfl, trivial⟩) (by decide) rfl ?_
  rintro x13_2 _ m1 gg H13 _
  clear H12
  replace H13 : slices_Equal_edit_Step_l1 a0 a1 (it (fun next1 s => slices_Equal_edit_Step_l1 a0 a1 next1 s) m1) x13_2 = some r := H13
  generalize hn1 : it (fun next1 s => slices_Equal_edit_Step_l1 a0 a1 next1 s) m1 = next1 at H13
  refine c_tidyF [(0, v0), (1, v1), (12, .int .i64 (a0.length : Int)), (13, .int .i64 x13_2)] [] rfl rfl ?_
  refine c_seq ?_
  refine c_region ?_
  refine l_val rfl rfl rfl (r_lss rfl rfl) ?_
  refine l_nil ?_
  refine c_seq ?_
  refine c_if (b := (decide (x13_2 < (a0.length : Int)))) rfl (fun hb => ?_) (fun hb => ?_)
  ·have H14 := cnd_t hb H13; clear H13
   refine c_skip ?_
   refine c_seq ?_
   refine c_block ?_
   refine c_seq ?_
   refine c_region ?_
   refine l_val rfl rfl rfl (r_move (v := .int .i64 x13_2) rfl) ?_
   refine l_val rfl rfl rfl (r_assign (v := .int .i64 x13_2) rfl) ?_
   refine l_nil ?_
   refine c_seq ?_
   exact c_regionD (Kd.p :: Kd.p :: Kd.p :: Kd.d [] _ :: Kd.p :: Kd.p :: Kd.p :: Kd.d [] _ :: Kd.p :: []) 0 mixed (by
    refine d_val rfl rfl (r_move (v := v0) rfl) ?_
    refine d_val rfl rfl (r_move (v := .int .i64 x13_2) rfl) ?_
    have h_t18 := bnd_val H14
    have H15 := bnd_rest H14
    refine d_val rfl rfl (r_indexF Try.underlying22 Try.sizeOf31 rfl rfl f0 h_t18) ?_
    refine d_read (fun w hF => run_loadGN (f := e_edit_Step) (i := x13_2) (sz := 5) (j := 0) (vs := [.int .i64 (val (gAt a0 x13_2)).Kind, .int .i64 (val (gAt a0 x13_2)).A, .int .i64 (val (gAt a0 x13_2)).B, .int .i64 (val (gAt a0 x13_2)).C, .int .i64 (val (gAt a0 x13_2)).D]) Try.isAgg31 Try.sizeOf31 rfl rfl (f0.row (hw.now hF)) h_t18 rfl) rfl rfl ?_
    refine d_val rfl rfl (r_move (v := v1) rfl) ?_
    refine d_val rfl rfl (r_move (v := .int .i64 x13_2) rfl) ?_
    have h_t22 := bnd_val H15
    have H16 := bnd_rest H15
    refine d_val rfl rfl (r_indexF Try.underlying22 Try.sizeOf31 rfl rfl f1 h_t22) ?_
    refine d_read (fun w hF => run_loadGN (f := e_edit_Step) (i := x13_2) (sz := 5) (j := 0) (vs := [.int .i64 (val (gAt a1 x13_2)).Kind, .int .i64 (val (gAt a1 x13_2)).A, .int .i64 (val (gAt a1 x13_2)).B, .int .i64 (val (gAt a1 x13_2)).C, .int .i64 (val (gAt a1 x13_2)).D]) Try.isAgg31 Try.sizeOf31 rfl rfl (f1.row (hw.now hF)) h_t22 rfl) rfl rfl ?_
    refine d_val rfl rfl (r_neqA (xs := #[.int .i64 (val (gAt a0 x13_2)).Kind, .int .i64 (val (gAt a0 x13_2)).A, .int .i64 (val (gAt a0 x13_2)).B, .int .i64 (val (gAt a0 x13_2)).C, .int .i64 (val (gAt a0 x13_2)).D]) (ys := #[.int .i64 (val (gAt a1 x13_2)).Kind, .int .i64 (val (gAt a1 x13_2)).A, .int .i64 (val (gAt a1 x13_2)).B, .int .i64 (val (gAt a1 x13_2)).C, .int .i64 (val (gAt a1 x13_2)).D]) Try.eqGuardType31 (fun w => run_eq_edit_Step w (val (gAt a0 x13_2)) (val (gAt a1 x13_2))) rfl rfl) ?_
    refine d_nil ?_
    refine c_if (b := (!(eq_edit_Step (val (gAt a0 x13_2)) (val (gAt a1 x13_2))))) rfl (fun hb => ?_) (fun hb => ?_)
    ·have H17 := cnd_t hb H16; clear H16
     refine c_seq ?_
     refine c_region ?_
     refine l_val rfl rfl rfl (r_assign (v := .bool false) rfl) ?_
     refine l_nil ?_
     refine c_ret ?_
     obtain rfl := Option.some.inj H17
     refine ret1 (v := .bool false) rfl rfl (fin rfl)
    ·have H18 := cnd_f hb H16; clear H16
     refine c_skip ?_
     refine c_region ?_
     obtain ⟨t25, h_t25, H19⟩ := bnd_some H18; clear H18
     refine l_val rfl rfl rfl (r_addG rfl rfl h_t25) ?_
     refine l_val rfl rfl rfl (r_move (v := .int .i64 t25) rfl) ?_
     refine l_nil ?_
     refine c_close t25 () m1 [] (by exact ⟨rfl, rfl, rfl, rfl, trivial⟩) (by decide) rfl (by exact ⟨(by subst hn1; exact H19), trivial⟩) (Nat.lt_succ_self _)
    ) (by kernel_rfl)
  ·have H20 := cnd_f hb H13; clear H13
   refine c_exit ?_
   refine c_seq ?_
   refine c_region ?_
   refine l_val rfl rfl rfl (r_assign (v := .bool true) rfl) ?_
   refine l_nil ?_
   refine c_ret ?_
   obtain rfl := Option.some.inj H20
   refine ret1 (v := .bool true) rfl rfl (fin rfl)
theorem k55 {a0 : (List T_edit_Step)} {v0 : Value} {a1 : (List T_edit_Step)} {v1 : Value} {r : Bool} {w : World} {h : Heap} (hw : Know h w noS) (f0 : FrS h 5 v0 (a0.map e_edit_Step)) (f1 : FrS h 5 v1 (a1.map e_edit_Step)) (H : edit_Same a0 a1 = some r) : Does Try.prog 55 (List.toArray [v0, v1]) w (fun v w' => v = (.bool r) ∧ Grow w w') := by
 refine enter (n := 8) Try.func55 rfl rfl rfl noS [] (Sat.nil _ _) ?_
 refine c_seq ?_
 refine c_region ?_
 refine l_val rfl rfl rfl (r_assign (v := .bool false) rfl) ?_
 refine l_nil ?_
 refine c_seq ?_
 refine c_region ?_
 refine l_val rfl rfl rfl (r_move (v := v0) rfl) ?_
 refine l_val rfl rfl rfl (r_move (v := v1) rfl) ?_
 obtain ⟨t7, h_t7, H2⟩ := bnd_some H; clear H
 refine l_callG (fun w hF hS => k15 (know_all w) (f0.mono (hw.now hF)) (f1.mono (hw.now hF)) h_t7) Try.call15 rfl rfl rfl ?_
 refine l_val rfl rfl rfl (r_assign (v := .bool t7) rfl) ?_
 refine l_nil ?_
 refine c_ret ?_
 obtain rfl := Option.some.inj H2
 refine ret1 (v := .bool t7) rfl rfl (fin rfl)
theorem k20 {a0 : (List SlH)} {v0 : Value} {r : (List SlH)} {w : World} {h : Heap} (hw : Know h w noS) (f0 : FrS h 1 v0 (a0.map e_slh)) (H : slices_Clone_edit_Step_edit_Step ((none, 0, 0) : SlH) a0 = some r) : Does Try.prog 20 (List.toArray [v0]) w (fun v w' => ∃ x : (Option Addr × Nat), v = (.slice x.1 r.length x.2) ∧ Turn w w' noS (rowV 22 1 (.slice x.1 r.length x.2) r.length (r.map e_slh))) := by
 refine enter (n := 8) Try.func20 rfl rfl rfl noS [] (Sat.nil _ _) ?_
 refine c_seq ?_
 refine c_region ?_
 refine l_val rfl rfl rfl (r_assign (v := .slice none 0 0) rfl) ?_
 refine l_nil ?_
 refine c_seq ?_
 refine c_seq ?_
 refine c_region ?_
 refine l_val rfl rfl rfl (r_move (v := v0) rfl) ?_
 refine l_val rfl rfl rfl (r_eqlNilS Try.underlying29 f0 rfl rfl) ?_
 refine l_nil ?_
 refine c_if (b := isNilV v0) rfl (fun hb => ?_) (fun hb => ?_)
 ·have hn_ : a0 = [] := f0.nilV hb
  have H3 : some ([] : List SlH) = some r := by have h_ := H; rw [hn_] at h_; exact h_
  refine c_seq ?_
  refine c_region ?_
  refine l_val rfl rfl rfl (r_assign (v := .slice none 0 0) rfl) ?_
  refine l_nil ?_
  refine c_ret ?_
  refine c_nilRow 22 1 ?_
  obtain rfl := Option.some.inj H3
  refine ret1 (v := .slice ((none, 0) : Option Addr × Nat).1 ([] : List SlH).length ((none, 0) : Option Addr × Nat).2) rfl rfl (finX ((none, 0) : Option Addr × Nat) (i := 0) rfl rfl (Imp.refl _))
 ·skip
  refine c_skip ?_
  refine c_seq ?_
  refine c_region ?_
  refine l_buildSlice (vs := []) (cs := []) Try.underlying29 Try.sizeOf22 Try.zeroValue22 rfl rfl rfl rfl rfl rfl rfl (fun b1 => ?_)
  refine l_val rfl rfl rfl (r_move (v := v0) rfl) ?_
  refine c_imp 0 rfl (imp_box (m := 0) (E := 22) (sz := 1) (xs := (([] : List SlH)).map e_slh) rfl rfl rfl ⟨rfl, by decide⟩) ?_
  obtain ⟨l7, h_l7, H4⟩ := bnd_some H; clear H
  refine l_turn (turns_appG (i := 0) (hn := rfl) (rds := []) (p := ((some ⟨b1, 0, none⟩, 0) : Option Addr × Nat)) (sz := 1) (by_ := 24) (f := e_slh) (ys := ([] : List SlH)) (ls := a0) (V := v0) Try.underlying29 (info_of Try.typeInfo22) rfl rfl rfl rfl rfl rfl rfl rfl f0.eq (List.length_map _) (fun w L' hF hS hi => (f0).row (hw.now hF)) (fun _ => rfl) (fun _ => rfl) h_l7) rfl rfl rfl (fun p => ?_)
  refine l_val rfl rfl rfl (r_assign (v := .slice p.1 l7.length p.2) rfl) ?_
  refine l_nil ?_
  refine c_ret ?_
  obtain rfl := Option.some.inj H4
  refine ret1 (v := .slice p.1 l7.length p.2) rfl rfl (finX p (i := 0) rfl rfl (Imp.refl _))
theorem rel20 {α : Type} {G : Heap → (Nat → Value) → α → Prop} {hp_ : Heap} {hs_ : List SlH} {xs_ t_ : List α} {z_ : α} (p : AllC G hp_ 1 (hs_.map e_slh) xs_) (g : slices_Clone_edit_Step_edit_Step z_ xs_ = some t_) : slices_Clone_edit_Step_edit_Step ((none, 0, 0) : SlH) hs_ = some (val (slices_Clone_edit_Step_edit_Step ((none, 0, 0) : SlH) hs_)) ∧ AllC G hp_ 1 ((val (slices_Clone_edit_Step_edit_Step ((none, 0, 0) : SlH) hs_)).map e_slh) t_ := by
 unfold slices_Clone_edit_Step_edit_Step at g ⊢
 obtain ⟨l_, h1, h2⟩ := bnd_some g
 cases h2
 have hl : hs_.length = xs_.length := by have := p.len; simpa using this
 obtain ⟨e0, b1, b2⟩ := gApp_some h1
 have e0' : t_ = xs_ := e0
 have e_ : gApp 24 ([] : List SlH) hs_ = some hs_ := by rw [gApp_ok (by simp only [List.length_nil, Nat.zero_add] at b1 b2 ⊢; rw [hl]; exact ⟨b1, b2⟩)]; rfl
 rw [e_, bnd_pure]
 exact ⟨rfl, by rw [e0']; simpa [val] using p⟩

end Go.Proofs.Ytohdhdiaahiicaa
