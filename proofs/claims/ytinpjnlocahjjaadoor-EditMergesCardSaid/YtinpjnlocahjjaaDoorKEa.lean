/- Recipes, in common: the walks, printed by our generator; each follows its model. Conditions: the model yields a value. -/
import Derived.Test.YtinpjnlocahjjaaDoorMEt
import Derived.Test.YtinpjnlocahjjaaDoorProg
import Derived.Test.YtinpjnlocahjjaaDoorLx14
namespace Go.Proofs.YtinpjnlocahjjaaDoor
open Go Go.Vc Go.Md Go.M Go.Lx
set_option maxRecDepth 100000
set_option maxHeartbeats 4000000
set_option linter.unusedVariables false

theorem mixed : Tryd.prog.follows .mixedOrders = true := by kernel_rfl

abbrev e_edit_Step (x : T_edit_Step) : List Value := [.int .i64 x.Kind, .int .i64 x.A, .int .i64 x.B, .int .i64 x.C, .int .i64 x.D]
def fnR_func_edit_Step_bool (m : (T_edit_Step → Option (Bool))) (w : World) (args : List Value) (post : Value → World → Prop) : Prop :=
  ∃ (a0 : T_edit_Step) (r : Bool), args = [.agg #[.int .i64 a0.Kind, .int .i64 a0.A, .int .i64 a0.B, .int .i64 a0.C, .int .i64 a0.D]] ∧ m a0 = some r ∧ post = fun v' w' => v' = (.bool r) ∧ Grow w w'
abbrev e_i64 (x : Int) : List Value := [.int .i64 x]
abbrev e_u8 (x : Int) : List Value := [.int .u8 x]
def fnR_func_int_int_int_int_int_int (m : (Int → Int → Int → Int → Option (Int × Int))) (w : World) (args : List Value) (post : Value → World → Prop) : Prop :=
  ∃ (a0 : Int) (a1 : Int) (a2 : Int) (a3 : Int) (r : Int × Int), args = [.int .i64 a0, .int .i64 a1, .int .i64 a2, .int .i64 a3] ∧ m a0 a1 a2 a3 = some r ∧ post = fun v' w' => v' = (.tuple #[.int .i64 r.1, .int .i64 r.2]) ∧ Grow w w'
abbrev e_pix_share (x : T_pix_share) : List Value := [.int .i64 x.at_, .int .i64 x.parts_]
def fnR_func_uint8_uint8 (m : (Int → Option (Int))) (w : World) (args : List Value) (post : Value → World → Prop) : Prop :=
  ∃ (a0 : Int) (r : Int), args = [.int .u8 a0] ∧ m a0 = some r ∧ post = fun v' w' => v' = (.int .u8 r) ∧ Grow w w'
def fnR_func_3_uint8_3_uint8 (m : ((Nat → Int) → Option ((Nat → Int)))) (w : World) (args : List Value) (post : Value → World → Prop) : Prop :=
  ∃ (a0 : (Nat → Int)) (r : (Nat → Int)), args = [.agg #[.int .u8 (a0 0), .int .u8 (a0 1), .int .u8 (a0 2)]] ∧ m a0 = some r ∧ post = fun v' w' => v' = (.agg #[.int .u8 (r 0), .int .u8 (r 1), .int .u8 (r 2)]) ∧ Grow w w'

def gs_edit_Step (h : Heap) (c : Nat → Value) (x : (List T_edit_Step)) : Prop := FrS h 5 (c 0) (x.map e_edit_Step)
instance : Mon gs_edit_Step := ⟨fun k _ _ f => FrS.mono f k⟩
theorem cgs_edit_Step {h : Heap} {c : Nat → Value} {x : (List T_edit_Step)} (_ : gs_edit_Step h c x) : (List.range 1).map c = [c 0] := rfl

theorem run_eqT35 (d : Nat) (w : World) (a0 b0 : Int) (a1 b1 : Int) (a2 b2 : Int) (a3 b3 : Int) (a4 b4 : Int) : (Op.equalIn (d + 2) 35 (.agg #[.int .i64 a0, .int .i64 a1, .int .i64 a2, .int .i64 a3, .int .i64 a4]) (.agg #[.int .i64 b0, .int .i64 b1, .int .i64 b2, .int .i64 b3, .int .i64 b4])).run Tryd.prog w = .ok (decide (a0 = b0 ∧ a1 = b1 ∧ a2 = b2 ∧ a3 = b3 ∧ a4 = b4)) w := by
  rw [run_equalIn_struct w (d + 1) 35 _ _ (by simp only [Program.fieldsOf, Tryd.underlying35]) Tryd.stoodInHeld35]
  simp only [Program.fieldsOf, Tryd.underlying35, Op.eqFields]
  simp [part, run_equalIn_int, run_equalIn_strL, run_equalIn_bool', Tryd.underlying3]
  repeat' split
  all_goals simp_all

theorem run_eq_edit_Step (w : World) (x y : T_edit_Step) : (Op.equalIn Op.maxDepth 35 (.agg #[.int .i64 x.Kind, .int .i64 x.A, .int .i64 x.B, .int .i64 x.C, .int .i64 x.D]) (.agg #[.int .i64 y.Kind, .int .i64 y.A, .int .i64 y.B, .int .i64 y.C, .int .i64 y.D])).run Tryd.prog w = .ok (eq_edit_Step x y) w :=
  run_eqT35 9998 w _ _ _ _ _ _ _ _ _ _

theorem k81 {a0 : Int} {a1 : Int} {a2 : Int} {r : Bool} (H : edit_outside a0 a1 a2 = some r) : Ret Tryd.prog 81 [.int .i64 a0, .int .i64 a1, .int .i64 a2] (.bool r) := by
  refine enterRet (n := 15) Tryd.func81 rfl rfl rfl (fun wd => ?_)
  refine c_seq ?_
  refine c_region ?_
  refine l_val rfl rfl rfl (r_assign (v := .bool false) rfl) ?_
  refine l_nil ?_
  refine c_seq ?_
  refine c_region ?_
  refine l_val rfl rfl rfl (r_move (v := .int .i64 a0) rfl) ?_
  refine l_val rfl rfl rfl (r_move (v := .int .i64 a1) rfl) ?_
  refine l_val rfl rfl rfl (r_lss rfl rfl) ?_
  refine l_val rfl rfl rfl (r_move (v := .bool (decide (a0 < a1))) rfl) ?_
  refine split (fun hb => ?_) (fun hb => ?_)
  · have H3 := cnd_t hb H; clear H
    refine l_passed rfl rfl rfl ?_
    refine l_passed rfl rfl rfl ?_
    refine l_passed rfl rfl rfl ?_
    refine l_val rfl rfl rfl (r_pickT (v := .bool true) rfl rfl) ?_
    refine l_val rfl rfl rfl (r_assign (v := .bool true) rfl) ?_
    refine l_nil ?_
    refine c_ret ?_
    obtain rfl := Option.some.inj H3
    refine ret1 (v := .bool true) rfl rfl (fin rfl)
  · have H4 := cnd_f hb H; clear H
    refine l_val rfl rfl rfl (r_move (v := .int .i64 a0) rfl) ?_
    refine l_val rfl rfl rfl (r_move (v := .int .i64 a2) rfl) ?_
    refine l_val rfl rfl rfl (r_gtr rfl rfl) ?_
    refine l_val rfl rfl rfl (r_pickF (v := .bool (decide (a2 < a0))) rfl rfl) ?_
    refine l_val rfl rfl rfl (r_assign (v := .bool (decide (a2 < a0))) rfl) ?_
    refine l_nil ?_
    refine c_ret ?_
    obtain rfl := Option.some.inj H4
    refine ret1 (v := .bool (decide (a2 < a0))) rfl rfl (fin rfl)
theorem k107 {a0 : Int} {r : (List UInt8) × Int} (H : edit_word a0 = some r) : Ret Tryd.prog 107 [.int .i64 a0] (.tuple #[str r.1, .int .i64 r.2]) := by
  refine enterRet (n := 21) Tryd.func107 rfl rfl rfl (fun wd => ?_)
  refine c_seq ?_
  refine c_region ?_
  refine l_val rfl rfl rfl (r_assign (v := str []) rfl) ?_
  refine l_val rfl rfl rfl (r_assign (v := .int .i64 0) rfl) ?_
  refine l_nil ?_
  refine c_seq ?_
  refine c_seq ?_
  refine c_region ?_
  refine l_val rfl rfl rfl (r_move (v := .int .i64 a0) rfl) ?_
  refine l_nil ?_
  refine c_block ?_
  refine c_seq ?_
  refine c_region ?_
  refine l_val rfl rfl rfl (r_eql rfl rfl) ?_
  refine l_val rfl rfl rfl (r_assign (v := .bool (decide (a0 = 1))) rfl) ?_
  refine l_nil ?_
  refine c_if (b := (decide (a0 = 1))) rfl (fun hb => ?_) (fun hb => ?_)
  · have H17 := cnd_t hb H; clear H
    refine c_seq ?_
    refine c_region ?_
    refine l_val rfl rfl rfl (r_assign (v := str [116, 117, 114, 110]) rfl) ?_
    refine l_val rfl rfl rfl (r_assign (v := .int .i64 1) rfl) ?_
    refine l_nil ?_
    refine c_ret ?_
    obtain rfl := Option.some.inj H17
    refine ret2 (v1 := str [116, 117, 114, 110]) (v2 := .int .i64 1) rfl rfl rfl (fin rfl)
  · have H18 := cnd_f hb H; clear H
    refine c_seq ?_
    refine c_region ?_
    refine l_val rfl rfl rfl (r_eql rfl rfl) ?_
    refine l_val rfl rfl rfl (r_assign (v := .bool (decide (a0 = 2))) rfl) ?_
    refine l_nil ?_
    refine c_if (b := (decide (a0 = 2))) rfl (fun hb => ?_) (fun hb => ?_)
    · have H19 := cnd_t hb H18; clear H18
      refine c_seq ?_
      refine c_region ?_
      refine l_val rfl rfl rfl (r_assign (v := str [99, 114, 111, 112]) rfl) ?_
      refine l_val rfl rfl rfl (r_assign (v := .int .i64 4) rfl) ?_
      refine l_nil ?_
      refine c_ret ?_
      obtain rfl := Option.some.inj H19
      refine ret2 (v1 := str [99, 114, 111, 112]) (v2 := .int .i64 4) rfl rfl rfl (fin rfl)
    · have H20 := cnd_f hb H18; clear H18
      refine c_seq ?_
      refine c_region ?_
      refine l_val rfl rfl rfl (r_eql rfl rfl) ?_
      refine l_val rfl rfl rfl (r_assign (v := .bool (decide (a0 = 3))) rfl) ?_
      refine l_nil ?_
      refine c_if (b := (decide (a0 = 3))) rfl (fun hb => ?_) (fun hb => ?_)
      · have H21 := cnd_t hb H20; clear H20
        refine c_seq ?_
        refine c_region ?_
        refine l_val rfl rfl rfl (r_assign (v := str [115, 99, 97, 108, 101]) rfl) ?_
        refine l_val rfl rfl rfl (r_assign (v := .int .i64 2) rfl) ?_
        refine l_nil ?_
        refine c_ret ?_
        obtain rfl := Option.some.inj H21
        refine ret2 (v1 := str [115, 99, 97, 108, 101]) (v2 := .int .i64 2) rfl rfl rfl (fin rfl)
      · have H22 := cnd_f hb H20; clear H20
        refine c_seq ?_
        refine c_region ?_
        refine l_val rfl rfl rfl (r_eql rfl rfl) ?_
        refine l_val rfl rfl rfl (r_assign (v := .bool (decide (a0 = 4))) rfl) ?_
        refine l_nil ?_
        refine c_if (b := (decide (a0 = 4))) rfl (fun hb => ?_) (fun hb => ?_)
        · have H23 := cnd_t hb H22; clear H22
          refine c_seq ?_
          refine c_region ?_
          refine l_val rfl rfl rfl (r_assign (v := str [108, 105, 103, 104, 116]) rfl) ?_
          refine l_val rfl rfl rfl (r_assign (v := .int .i64 1) rfl) ?_
          refine l_nil ?_
          refine c_ret ?_
          obtain rfl := Option.some.inj H23
          refine ret2 (v1 := str [108, 105, 103, 104, 116]) (v2 := .int .i64 1) rfl rfl rfl (fin rfl)
        · have H24 := cnd_f hb H22; clear H22
          refine c_seq ?_
          refine c_region ?_
          refine l_val rfl rfl rfl (r_eql rfl rfl) ?_
          refine l_val rfl rfl rfl (r_assign (v := .bool (decide (a0 = 5))) rfl) ?_
          refine l_nil ?_
          refine c_if (b := (decide (a0 = 5))) rfl (fun hb => ?_) (fun hb => ?_)
          · have H25 := cnd_t hb H24; clear H24
            refine c_seq ?_
            refine c_region ?_
            refine l_val rfl rfl rfl (r_assign (v := str [115, 112, 114, 101, 97, 100]) rfl) ?_
            refine l_val rfl rfl rfl (r_assign (v := .int .i64 1) rfl) ?_
            refine l_nil ?_
            refine c_ret ?_
            obtain rfl := Option.some.inj H25
            refine ret2 (v1 := str [115, 112, 114, 101, 97, 100]) (v2 := .int .i64 1) rfl rfl rfl (fin rfl)
          · have H26 := cnd_f hb H24; clear H24
            refine c_seq ?_
            refine c_region ?_
            refine l_val rfl rfl rfl (r_eql rfl rfl) ?_
            refine l_val rfl rfl rfl (r_assign (v := .bool (decide (a0 = 6))) rfl) ?_
            refine l_nil ?_
            refine c_if (b := (decide (a0 = 6))) rfl (fun hb => ?_) (fun hb => ?_)
            · have H27 := cnd_t hb H26; clear H26
              refine c_seq ?_
              refine c_region ?_
              refine l_val rfl rfl rfl (r_assign (v := str [108, 101, 118, 101, 108, 115]) rfl) ?_
              refine l_val rfl rfl rfl (r_assign (v := .int .i64 2) rfl) ?_
              refine l_nil ?_
              refine c_ret ?_
              obtain rfl := Option.some.inj H27
              refine ret2 (v1 := str [108, 101, 118, 101, 108, 115]) (v2 := .int .i64 2) rfl rfl rfl (fin rfl)
            · have H28 := cnd_f hb H26; clear H26
              refine c_seq ?_
              refine c_region ?_
              refine l_val rfl rfl rfl (r_eql rfl rfl) ?_
              refine l_val rfl rfl rfl (r_assign (v := .bool (decide (a0 = 7))) rfl) ?_
              refine l_nil ?_
              refine c_if (b := (decide (a0 = 7))) rfl (fun hb => ?_) (fun hb => ?_)
              · have H29 := cnd_t hb H28; clear H28
                refine c_seq ?_
                refine c_region ?_
                refine l_val rfl rfl rfl (r_assign (v := str [119, 97, 114, 109]) rfl) ?_
                refine l_val rfl rfl rfl (r_assign (v := .int .i64 1) rfl) ?_
                refine l_nil ?_
                refine c_ret ?_
                obtain rfl := Option.some.inj H29
                refine ret2 (v1 := str [119, 97, 114, 109]) (v2 := .int .i64 1) rfl rfl rfl (fin rfl)
              · have H30 := cnd_f hb H28; clear H28
                refine c_seq ?_
                refine c_region ?_
                refine l_val rfl rfl rfl (r_eql rfl rfl) ?_
                refine l_val rfl rfl rfl (r_assign (v := .bool (decide (a0 = 8))) rfl) ?_
                refine l_nil ?_
                refine c_if (b := (decide (a0 = 8))) rfl (fun hb => ?_) (fun hb => ?_)
                · have H31 := cnd_t hb H30; clear H30
                  refine c_seq ?_
                  refine c_region ?_
                  refine l_val rfl rfl rfl (r_assign (v := str [109, 117, 116, 101]) rfl) ?_
                  refine l_val rfl rfl rfl (r_assign (v := .int .i64 1) rfl) ?_
                  refine l_nil ?_
                  refine c_ret ?_
                  obtain rfl := Option.some.inj H31
                  refine ret2 (v1 := str [109, 117, 116, 101]) (v2 := .int .i64 1) rfl rfl rfl (fin rfl)
                · have H32 := cnd_f hb H30; clear H30
                  refine c_skip ?_
                  refine c_seq ?_
                  refine c_region ?_
                  refine l_val rfl rfl rfl (r_assign (v := str [105, 110, 118, 101, 114, 116]) rfl) ?_
                  refine l_val rfl rfl rfl (r_assign (v := .int .i64 0) rfl) ?_
                  refine l_nil ?_
                  refine c_ret ?_
                  obtain rfl := Option.some.inj H32
                  refine ret2 (v1 := str [105, 110, 118, 101, 114, 116]) (v2 := .int .i64 0) rfl rfl rfl (fin rfl)
theorem k108 {a0 : T_edit_Step} {r : (List Int)} {w : World} {h : Heap} (hw : Know h w noS) (H : edit_Step_numbers a0 = some r) : Does Tryd.prog 108 (List.toArray [.agg #[.int .i64 a0.Kind, .int .i64 a0.A, .int .i64 a0.B, .int .i64 a0.C, .int .i64 a0.D]]) w (fun v w' => ∃ x : (Option Addr × Nat), v = (.slice x.1 r.length x.2) ∧ Turn w w' noS (rowV 3 1 (.slice x.1 r.length x.2) r.length (r.map e_i64))) := by
  refine enter (n := 12) Tryd.func108 rfl rfl rfl noS [] (Sat.nil _ _) ?_
  refine c_seq ?_
  refine c_region ?_
  refine l_box (cs := [.int .i64 a0.Kind, .int .i64 a0.A, .int .i64 a0.B, .int .i64 a0.C, .int .i64 a0.D]) rfl rfl rfl rfl (fun b2 => ?_)
  refine l_val rfl rfl rfl (r_assign (v := .slice none 0 0) rfl) ?_
  refine l_nil ?_
  refine c_seq ?_
  refine c_region ?_
  refine l_val rfl rfl rfl (r_field Tryd.runUnderlying35 rfl Tryd.sizeOf3 rfl rfl) ?_
  refine l_load1 (i := 0) (v := .int .i64 a0.A) Tryd.isAgg3 rfl rfl rfl rfl rfl ?_
  refine l_val rfl rfl rfl (r_field Tryd.runUnderlying35 rfl Tryd.sizeOf3 rfl rfl) ?_
  refine l_load1 (i := 0) (v := .int .i64 a0.B) Tryd.isAgg3 rfl rfl rfl rfl rfl ?_
  refine l_val rfl rfl rfl (r_field Tryd.runUnderlying35 rfl Tryd.sizeOf3 rfl rfl) ?_
  refine l_load1 (i := 0) (v := .int .i64 a0.C) Tryd.isAgg3 rfl rfl rfl rfl rfl ?_
  refine l_val rfl rfl rfl (r_field Tryd.runUnderlying35 rfl Tryd.sizeOf3 rfl rfl) ?_
  refine l_load1 (i := 0) (v := .int .i64 a0.D) Tryd.isAgg3 rfl rfl rfl rfl rfl ?_
  refine l_buildSlice (vs := [.int .i64 a0.A, .int .i64 a0.B, .int .i64 a0.C, .int .i64 a0.D]) (cs := [.int .i64 a0.A, .int .i64 a0.B, .int .i64 a0.C, .int .i64 a0.D]) Tryd.underlying131 Tryd.sizeOf3 Tryd.zeroValue3 rfl rfl rfl rfl rfl rfl rfl (fun b3 => ?_)
  refine l_val rfl rfl rfl (r_assign (v := .slice (some ⟨b3, 0, none⟩) 4 4) rfl) ?_
  refine l_nil ?_
  refine c_ret ?_
  refine c_imp 1 rfl (imp_box (m := 4) (E := 3) (sz := 1) (xs := (([a0.A, a0.B, a0.C, a0.D] : List Int)).map e_i64) rfl rfl rfl ⟨rfl, by decide⟩) ?_
  obtain rfl := Option.some.inj H
  refine ret1 (v := .slice ((some ⟨b3, 0, none⟩, 4) : Option Addr × Nat).1 4 ((some ⟨b3, 0, none⟩, 4) : Option Addr × Nat).2) rfl rfl (finX ((some ⟨b3, 0, none⟩, 4) : Option Addr × Nat) (i := 1) rfl rfl (Imp.refl _))
theorem k150 {a0 : Int} {r : (Nat → (Nat → Int))} (H : edit_bounds a0 = some r) : Ret Tryd.prog 150 [.int .i64 a0] (.agg #[.int .i64 ((r 0) 0), .int .i64 ((r 0) 1), .int .i64 ((r 1) 0), .int .i64 ((r 1) 1), .int .i64 ((r 2) 0), .int .i64 ((r 2) 1), .int .i64 ((r 3) 0), .int .i64 ((r 3) 1)]) := by
  refine enterRet (n := 42) Tryd.func150 rfl rfl rfl (fun wd => ?_)
  refine c_seq ?_
  refine c_region ?_
  refine l_alloc (cs := [.int .i64 0, .int .i64 0, .int .i64 0, .int .i64 0, .int .i64 0, .int .i64 0, .int .i64 0, .int .i64 0]) Tryd.zeroValue186 rfl rfl rfl (fun b1 => ?_)
  refine l_nil ?_
  refine c_seq ?_
  refine c_seq ?_
  refine c_region ?_
  refine l_val rfl rfl rfl (r_move (v := .int .i64 a0) rfl) ?_
  refine l_nil ?_
  refine c_block ?_
  refine c_seq ?_
  refine c_region ?_
  refine l_val rfl rfl rfl (r_eql rfl rfl) ?_
  refine l_val rfl rfl rfl (r_assign (v := .bool (decide (a0 = 1))) rfl) ?_
  refine l_nil ?_
  refine c_if (b := (decide (a0 = 1))) rfl (fun hb => ?_) (fun hb => ?_)
  · have H17 := cnd_t hb H; clear H
    refine c_seq ?_
    refine c_region ?_
    refine l_val rfl rfl rfl (r_buildA (ps := [(0, .int .i64 1), (1, .int .i64 8)]) (cells := #[.int .i64 1, .int .i64 8]) Tryd.zeroValue185 Tryd.runUnderlying185 Tryd.sizeOf3 rfl rfl) ?_
    refine l_val rfl rfl rfl (r_buildA (ps := [(0, .agg #[.int .i64 1, .int .i64 8])]) (cells := #[.int .i64 1, .int .i64 8, .int .i64 0, .int .i64 0, .int .i64 0, .int .i64 0, .int .i64 0, .int .i64 0]) Tryd.zeroValue186 Tryd.runUnderlying186 Tryd.sizeOf185 rfl rfl) ?_
    refine l_store (i := 0) (vs := [.int .i64 1, .int .i64 8, .int .i64 0, .int .i64 0, .int .i64 0, .int .i64 0, .int .i64 0, .int .i64 0]) (cs' := [.int .i64 1, .int .i64 8, .int .i64 0, .int .i64 0, .int .i64 0, .int .i64 0, .int .i64 0, .int .i64 0]) Tryd.sizeOf186 rfl rfl rfl rfl rfl rfl rfl rfl rfl ?_
    refine l_nil ?_
    refine c_ret ?_
    obtain rfl := Option.some.inj H17
    refine retC (i := 0) (vs := [.int .i64 1, .int .i64 8, .int .i64 0, .int .i64 0, .int .i64 0, .int .i64 0, .int .i64 0, .int .i64 0]) Tryd.isAgg186 Tryd.sizeOf186 rfl rfl rfl rfl (fin rfl)
  · have H18 := cnd_f hb H; clear H
    refine c_seq ?_
    refine c_region ?_
    refine l_val rfl rfl rfl (r_eql rfl rfl) ?_
    refine l_val rfl rfl rfl (r_assign (v := .bool (decide (a0 = 2))) rfl) ?_
    refine l_nil ?_
    refine c_if (b := (decide (a0 = 2))) rfl (fun hb => ?_) (fun hb => ?_)
    · have H19 := cnd_t hb H18; clear H18
      refine c_seq ?_
      refine c_region ?_
      refine l_val rfl rfl rfl (r_buildA (ps := [(0, .int .i64 0), (1, .int .i64 63)]) (cells := #[.int .i64 0, .int .i64 63]) Tryd.zeroValue185 Tryd.runUnderlying185 Tryd.sizeOf3 rfl rfl) ?_
      refine l_val rfl rfl rfl (r_buildA (ps := [(0, .int .i64 0), (1, .int .i64 63)]) (cells := #[.int .i64 0, .int .i64 63]) Tryd.zeroValue185 Tryd.runUnderlying185 Tryd.sizeOf3 rfl rfl) ?_
      refine l_val rfl rfl rfl (r_buildA (ps := [(0, .int .i64 1), (1, .int .i64 64)]) (cells := #[.int .i64 1, .int .i64 64]) Tryd.zeroValue185 Tryd.runUnderlying185 Tryd.sizeOf3 rfl rfl) ?_
      refine l_val rfl rfl rfl (r_buildA (ps := [(0, .int .i64 1), (1, .int .i64 64)]) (cells := #[.int .i64 1, .int .i64 64]) Tryd.zeroValue185 Tryd.runUnderlying185 Tryd.sizeOf3 rfl rfl) ?_
      refine l_val rfl rfl rfl (r_buildA (ps := [(0, .agg #[.int .i64 0, .int .i64 63]), (1, .agg #[.int .i64 0, .int .i64 63]), (2, .agg #[.int .i64 1, .int .i64 64]), (3, .agg #[.int .i64 1, .int .i64 64])]) (cells := #[.int .i64 0, .int .i64 63, .int .i64 0, .int .i64 63, .int .i64 1, .int .i64 64, .int .i64 1, .int .i64 64]) Tryd.zeroValue186 Tryd.runUnderlying186 Tryd.sizeOf185 rfl rfl) ?_
      refine l_store (i := 0) (vs := [.int .i64 0, .int .i64 63, .int .i64 0, .int .i64 63, .int .i64 1, .int .i64 64, .int .i64 1, .int .i64 64]) (cs' := [.int .i64 0, .int .i64 63, .int .i64 0, .int .i64 63, .int .i64 1, .int .i64 64, .int .i64 1, .int .i64 64]) Tryd.sizeOf186 rfl rfl rfl rfl rfl rfl rfl rfl rfl ?_
      refine l_nil ?_
      refine c_ret ?_
      obtain rfl := Option.some.inj H19
      refine retC (i := 0) (vs := [.int .i64 0, .int .i64 63, .int .i64 0, .int .i64 63, .int .i64 1, .int .i64 64, .int .i64 1, .int .i64 64]) Tryd.isAgg186 Tryd.sizeOf186 rfl rfl rfl rfl (fin rfl)
    · have H20 := cnd_f hb H18; clear H18
      refine c_seq ?_
      refine c_region ?_
      refine l_val rfl rfl rfl (r_eql rfl rfl) ?_
      refine l_val rfl rfl rfl (r_assign (v := .bool (decide (a0 = 3))) rfl) ?_
      refine l_nil ?_
      refine c_if (b := (decide (a0 = 3))) rfl (fun hb => ?_) (fun hb => ?_)
      · have H21 := cnd_t hb H20; clear H20
        refine c_seq ?_
        refine c_region ?_
        refine l_val rfl rfl rfl (r_buildA (ps := [(0, .int .i64 1), (1, .int .i64 64)]) (cells := #[.int .i64 1, .int .i64 64]) Tryd.zeroValue185 Tryd.runUnderlying185 Tryd.sizeOf3 rfl rfl) ?_
        refine l_val rfl rfl rfl (r_buildA (ps := [(0, .int .i64 1), (1, .int .i64 64)]) (cells := #[.int .i64 1, .int .i64 64]) Tryd.zeroValue185 Tryd.runUnderlying185 Tryd.sizeOf3 rfl rfl) ?_
        refine l_val rfl rfl rfl (r_buildA (ps := [(0, .agg #[.int .i64 1, .int .i64 64]), (1, .agg #[.int .i64 1, .int .i64 64])]) (cells := #[.int .i64 1, .int .i64 64, .int .i64 1, .int .i64 64, .int .i64 0, .int .i64 0, .int .i64 0, .int .i64 0]) Tryd.zeroValue186 Tryd.runUnderlying186 Tryd.sizeOf185 rfl rfl) ?_
        refine l_store (i := 0) (vs := [.int .i64 1, .int .i64 64, .int .i64 1, .int .i64 64, .int .i64 0, .int .i64 0, .int .i64 0, .int .i64 0]) (cs' := [.int .i64 1, .int .i64 64, .int .i64 1, .int .i64 64, .int .i64 0, .int .i64 0, .int .i64 0, .int .i64 0]) Tryd.sizeOf186 rfl rfl rfl rfl rfl rfl rfl rfl rfl ?_
        refine l_nil ?_
        refine c_ret ?_
        obtain rfl := Option.some.inj H21
        refine retC (i := 0) (vs := [.int .i64 1, .int .i64 64, .int .i64 1, .int .i64 64, .int .i64 0, .int .i64 0, .int .i64 0, .int .i64 0]) Tryd.isAgg186 Tryd.sizeOf186 rfl rfl rfl rfl (fin rfl)
      · have H22 := cnd_f hb H20; clear H20
        refine c_seq ?_
        refine c_region ?_
        refine l_val rfl rfl rfl (r_eql rfl rfl) ?_
        refine l_val rfl rfl rfl (r_assign (v := .bool (decide (a0 = 4))) rfl) ?_
        refine l_nil ?_
        refine c_if (b := (decide (a0 = 4))) rfl (fun hb => ?_) (fun hb => ?_)
        · have H23 := cnd_t hb H22; clear H22
          refine c_seq ?_
          refine c_region ?_
          refine l_val rfl rfl rfl (r_buildA (ps := [(0, .int .i64 (-255)), (1, .int .i64 255)]) (cells := #[.int .i64 (-255), .int .i64 255]) Tryd.zeroValue185 Tryd.runUnderlying185 Tryd.sizeOf3 rfl rfl) ?_
          refine l_val rfl rfl rfl (r_buildA (ps := [(0, .agg #[.int .i64 (-255), .int .i64 255])]) (cells := #[.int .i64 (-255), .int .i64 255, .int .i64 0, .int .i64 0, .int .i64 0, .int .i64 0, .int .i64 0, .int .i64 0]) Tryd.zeroValue186 Tryd.runUnderlying186 Tryd.sizeOf185 rfl rfl) ?_
          refine l_store (i := 0) (vs := [.int .i64 (-255), .int .i64 255, .int .i64 0, .int .i64 0, .int .i64 0, .int .i64 0, .int .i64 0, .int .i64 0]) (cs' := [.int .i64 (-255), .int .i64 255, .int .i64 0, .int .i64 0, .int .i64 0, .int .i64 0, .int .i64 0, .int .i64 0]) Tryd.sizeOf186 rfl rfl rfl rfl rfl rfl rfl rfl rfl ?_
          refine l_nil ?_
          refine c_ret ?_
          obtain rfl := Option.some.inj H23
          refine retC (i := 0) (vs := [.int .i64 (-255), .int .i64 255, .int .i64 0, .int .i64 0, .int .i64 0, .int .i64 0, .int .i64 0, .int .i64 0]) Tryd.isAgg186 Tryd.sizeOf186 rfl rfl rfl rfl (fin rfl)
        · have H24 := cnd_f hb H22; clear H22
          refine c_seq ?_
          refine c_region ?_
          refine l_val rfl rfl rfl (r_eql rfl rfl) ?_
          refine l_val rfl rfl rfl (r_assign (v := .bool (decide (a0 = 5))) rfl) ?_
          refine l_nil ?_
          refine c_if (b := (decide (a0 = 5))) rfl (fun hb => ?_) (fun hb => ?_)
          · have H25 := cnd_t hb H24; clear H24
            refine c_seq ?_
            refine c_region ?_
            refine l_val rfl rfl rfl (r_buildA (ps := [(0, .int .i64 0), (1, .int .i64 400)]) (cells := #[.int .i64 0, .int .i64 400]) Tryd.zeroValue185 Tryd.runUnderlying185 Tryd.sizeOf3 rfl rfl) ?_
            refine l_val rfl rfl rfl (r_buildA (ps := [(0, .agg #[.int .i64 0, .int .i64 400])]) (cells := #[.int .i64 0, .int .i64 400, .int .i64 0, .int .i64 0, .int .i64 0, .int .i64 0, .int .i64 0, .int .i64 0]) Tryd.zeroValue186 Tryd.runUnderlying186 Tryd.sizeOf185 rfl rfl) ?_
            refine l_store (i := 0) (vs := [.int .i64 0, .int .i64 400, .int .i64 0, .int .i64 0, .int .i64 0, .int .i64 0, .int .i64 0, .int .i64 0]) (cs' := [.int .i64 0, .int .i64 400, .int .i64 0, .int .i64 0, .int .i64 0, .int .i64 0, .int .i64 0, .int .i64 0]) Tryd.sizeOf186 rfl rfl rfl rfl rfl rfl rfl rfl rfl ?_
            refine l_nil ?_
            refine c_ret ?_
            obtain rfl := Option.some.inj H25
            refine retC (i := 0) (vs := [.int .i64 0, .int .i64 400, .int .i64 0, .int .i64 0, .int .i64 0, .int .i64 0, .int .i64 0, .int .i64 0]) Tryd.isAgg186 Tryd.sizeOf186 rfl rfl rfl rfl (fin rfl)
          · have H26 := cnd_f hb H24; clear H24
            refine c_seq ?_
            refine c_region ?_
            refine l_val rfl rfl rfl (r_eql rfl rfl) ?_
            refine l_val rfl rfl rfl (r_assign (v := .bool (decide (a0 = 6))) rfl) ?_
            refine l_nil ?_
            refine c_if (b := (decide (a0 = 6))) rfl (fun hb => ?_) (fun hb => ?_)
            · have H27 := cnd_t hb H26; clear H26
              refine c_seq ?_
              refine c_region ?_
              refine l_val rfl rfl rfl (r_buildA (ps := [(0, .int .i64 0), (1, .int .i64 255)]) (cells := #[.int .i64 0, .int .i64 255]) Tryd.zeroValue185 Tryd.runUnderlying185 Tryd.sizeOf3 rfl rfl) ?_
              refine l_val rfl rfl rfl (r_buildA (ps := [(0, .int .i64 0), (1, .int .i64 255)]) (cells := #[.int .i64 0, .int .i64 255]) Tryd.zeroValue185 Tryd.runUnderlying185 Tryd.sizeOf3 rfl rfl) ?_
              refine l_val rfl rfl rfl (r_buildA (ps := [(0, .agg #[.int .i64 0, .int .i64 255]), (1, .agg #[.int .i64 0, .int .i64 255])]) (cells := #[.int .i64 0, .int .i64 255, .int .i64 0, .int .i64 255, .int .i64 0, .int .i64 0, .int .i64 0, .int .i64 0]) Tryd.zeroValue186 Tryd.runUnderlying186 Tryd.sizeOf185 rfl rfl) ?_
              refine l_store (i := 0) (vs := [.int .i64 0, .int .i64 255, .int .i64 0, .int .i64 255, .int .i64 0, .int .i64 0, .int .i64 0, .int .i64 0]) (cs' := [.int .i64 0, .int .i64 255, .int .i64 0, .int .i64 255, .int .i64 0, .int .i64 0, .int .i64 0, .int .i64 0]) Tryd.sizeOf186 rfl rfl rfl rfl rfl rfl rfl rfl rfl ?_
              refine l_nil ?_
              refine c_ret ?_
              obtain rfl := Option.some.inj H27
              refine retC (i := 0) (vs := [.int .i64 0, .int .i64 255, .int .i64 0, .int .i64 255, .int .i64 0, .int .i64 0, .int .i64 0, .int .i64 0]) Tryd.isAgg186 Tryd.sizeOf186 rfl rfl rfl rfl (fin rfl)
            · have H28 := cnd_f hb H26; clear H26
              refine c_seq ?_
              refine c_region ?_
              refine l_val rfl rfl rfl (r_eql rfl rfl) ?_
              refine l_val rfl rfl rfl (r_assign (v := .bool (decide (a0 = 7))) rfl) ?_
              refine l_nil ?_
              refine c_if (b := (decide (a0 = 7))) rfl (fun hb => ?_) (fun hb => ?_)
              · have H29 := cnd_t hb H28; clear H28
                refine c_seq ?_
                refine c_region ?_
                refine l_val rfl rfl rfl (r_buildA (ps := [(0, .int .i64 (-100)), (1, .int .i64 100)]) (cells := #[.int .i64 (-100), .int .i64 100]) Tryd.zeroValue185 Tryd.runUnderlying185 Tryd.sizeOf3 rfl rfl) ?_
                refine l_val rfl rfl rfl (r_buildA (ps := [(0, .agg #[.int .i64 (-100), .int .i64 100])]) (cells := #[.int .i64 (-100), .int .i64 100, .int .i64 0, .int .i64 0, .int .i64 0, .int .i64 0, .int .i64 0, .int .i64 0]) Tryd.zeroValue186 Tryd.runUnderlying186 Tryd.sizeOf185 rfl rfl) ?_
                refine l_store (i := 0) (vs := [.int .i64 (-100), .int .i64 100, .int .i64 0, .int .i64 0, .int .i64 0, .int .i64 0, .int .i64 0, .int .i64 0]) (cs' := [.int .i64 (-100), .int .i64 100, .int .i64 0, .int .i64 0, .int .i64 0, .int .i64 0, .int .i64 0, .int .i64 0]) Tryd.sizeOf186 rfl rfl rfl rfl rfl rfl rfl rfl rfl ?_
                refine l_nil ?_
                refine c_ret ?_
                obtain rfl := Option.some.inj H29
                refine retC (i := 0) (vs := [.int .i64 (-100), .int .i64 100, .int .i64 0, .int .i64 0, .int .i64 0, .int .i64 0, .int .i64 0, .int .i64 0]) Tryd.isAgg186 Tryd.sizeOf186 rfl rfl rfl rfl (fin rfl)
              · have H30 := cnd_f hb H28; clear H28
                refine c_seq ?_
                refine c_region ?_
                refine l_val rfl rfl rfl (r_eql rfl rfl) ?_
                refine l_val rfl rfl rfl (r_assign (v := .bool (decide (a0 = 8))) rfl) ?_
                refine l_nil ?_
                refine c_if (b := (decide (a0 = 8))) rfl (fun hb => ?_) (fun hb => ?_)
                · have H31 := cnd_t hb H30; clear H30
                  refine c_seq ?_
                  refine c_region ?_
                  refine l_val rfl rfl rfl (r_buildA (ps := [(0, .int .i64 0), (1, .int .i64 100)]) (cells := #[.int .i64 0, .int .i64 100]) Tryd.zeroValue185 Tryd.runUnderlying185 Tryd.sizeOf3 rfl rfl) ?_
                  refine l_val rfl rfl rfl (r_buildA (ps := [(0, .agg #[.int .i64 0, .int .i64 100])]) (cells := #[.int .i64 0, .int .i64 100, .int .i64 0, .int .i64 0, .int .i64 0, .int .i64 0, .int .i64 0, .int .i64 0]) Tryd.zeroValue186 Tryd.runUnderlying186 Tryd.sizeOf185 rfl rfl) ?_
                  refine l_store (i := 0) (vs := [.int .i64 0, .int .i64 100, .int .i64 0, .int .i64 0, .int .i64 0, .int .i64 0, .int .i64 0, .int .i64 0]) (cs' := [.int .i64 0, .int .i64 100, .int .i64 0, .int .i64 0, .int .i64 0, .int .i64 0, .int .i64 0, .int .i64 0]) Tryd.sizeOf186 rfl rfl rfl rfl rfl rfl rfl rfl rfl ?_
                  refine l_nil ?_
                  refine c_ret ?_
                  obtain rfl := Option.some.inj H31
                  refine retC (i := 0) (vs := [.int .i64 0, .int .i64 100, .int .i64 0, .int .i64 0, .int .i64 0, .int .i64 0, .int .i64 0, .int .i64 0]) Tryd.isAgg186 Tryd.sizeOf186 rfl rfl rfl rfl (fin rfl)
                · have H32 := cnd_f hb H30; clear H30
                  refine c_skip ?_
                  refine c_seq ?_
                  refine c_region ?_
                  refine l_val rfl rfl rfl (r_buildA (ps := []) (cells := #[.int .i64 0, .int .i64 0, .int .i64 0, .int .i64 0, .int .i64 0, .int .i64 0, .int .i64 0, .int .i64 0]) Tryd.zeroValue186 Tryd.runUnderlying186 Tryd.sizeOf185 rfl rfl) ?_
                  refine l_store (i := 0) (vs := [.int .i64 0, .int .i64 0, .int .i64 0, .int .i64 0, .int .i64 0, .int .i64 0, .int .i64 0, .int .i64 0]) (cs' := [.int .i64 0, .int .i64 0, .int .i64 0, .int .i64 0, .int .i64 0, .int .i64 0, .int .i64 0, .int .i64 0]) Tryd.sizeOf186 rfl rfl rfl rfl rfl rfl rfl rfl rfl ?_
                  refine l_nil ?_
                  refine c_ret ?_
                  obtain rfl := Option.some.inj H32
                  refine retC (i := 0) (vs := [.int .i64 0, .int .i64 0, .int .i64 0, .int .i64 0, .int .i64 0, .int .i64 0, .int .i64 0, .int .i64 0]) Tryd.isAgg186 Tryd.sizeOf186 rfl rfl rfl rfl (fin rfl)
theorem k113 {a0 : T_edit_Step} {r : Int} (H : edit_CheckStep a0 = some r) : Ret Tryd.prog 113 [.agg #[.int .i64 a0.Kind, .int .i64 a0.A, .int .i64 a0.B, .int .i64 a0.C, .int .i64 a0.D]] (.int .i64 r) := by
  refine enterRet (n := 66) Tryd.func113 rfl rfl rfl (fun wd => ?_)
  refine c_seq ?_
  refine c_region ?_
  refine l_box (cs := [.int .i64 a0.Kind, .int .i64 a0.A, .int .i64 a0.B, .int .i64 a0.C, .int .i64 a0.D]) rfl rfl rfl rfl (fun b2 => ?_)
  refine l_val rfl rfl rfl (r_assign (v := .int .i64 0) rfl) ?_
  refine l_nil ?_
  refine c_seq ?_
  refine c_seq ?_
  refine c_region ?_
  refine l_val rfl rfl rfl (r_field Tryd.runUnderlying35 rfl Tryd.sizeOf3 rfl rfl) ?_
  refine l_load1 (i := 0) (v := .int .i64 a0.Kind) Tryd.isAgg3 rfl rfl rfl rfl rfl ?_
  obtain ⟨t13, h_t13, H32⟩ := bnd_some H; clear H
  refine l_call (k81 h_t13) Tryd.call81 rfl rfl rfl ?_
  refine l_nil ?_
  refine c_if (b := t13) rfl (fun hb => ?_) (fun hb => ?_)
  · have H33 := cnd_t hb H32; clear H32
    refine c_seq ?_
    refine c_region ?_
    refine l_val rfl rfl rfl (r_assign (v := .int .i64 10) rfl) ?_
    refine l_nil ?_
    refine c_ret ?_
    obtain rfl := Option.some.inj H33
    refine ret1 (v := .int .i64 10) rfl rfl (fin rfl)
  · have H34 := cnd_f hb H32; clear H32
    refine c_skip ?_
    refine c_seq ?_
    refine c_region ?_
    refine l_val rfl rfl rfl (r_field Tryd.runUnderlying35 rfl Tryd.sizeOf3 rfl rfl) ?_
    refine l_load1 (i := 0) (v := .int .i64 a0.Kind) Tryd.isAgg3 rfl rfl rfl rfl rfl ?_
    obtain ⟨t17, h_t17, H35⟩ := bnd_some H34; clear H34
    refine l_call (k107 h_t17) Tryd.call107 rfl rfl rfl ?_
    refine l_val rfl rfl rfl (r_move (v := .tuple #[str t17.1, .int .i64 t17.2]) rfl) ?_
    refine l_val rfl rfl rfl (r_extract (v := str t17.1) rfl rfl) ?_
    refine l_val rfl rfl rfl (r_extract (v := .int .i64 t17.2) rfl rfl) ?_
    refine l_val rfl rfl rfl (r_assign (v := str t17.1) rfl) ?_
    refine l_val rfl rfl rfl (r_assign (v := .int .i64 t17.2) rfl) ?_
    refine l_nil ?_
    refine c_seq ?_
    refine c_region ?_
    refine l_loadN (i := 0) (vs := [.int .i64 a0.Kind, .int .i64 a0.A, .int .i64 a0.B, .int .i64 a0.C, .int .i64 a0.D]) Tryd.isAgg35 Tryd.sizeOf35 rfl rfl rfl rfl rfl ?_
    obtain ⟨t21, h_t21, H36⟩ := bnd_some H35; clear H35
    refine l_make (makes_call (rds := []) (G := fun x : (Option Addr × Nat) => .slice x.1 t21.length x.2) (C := fun x : (Option Addr × Nat) => rowV 3 1 (.slice x.1 t21.length x.2) t21.length (t21.map e_i64)) (fun w L' hF hS hi => k108 (know_all w)  h_t21) Tryd.call108 rfl) rfl rfl rfl (fun p => ?_)
    refine l_val rfl rfl rfl (r_assign (v := .slice p.1 t21.length p.2) rfl) ?_
    refine l_nil ?_
    refine c_meet (r := r) (σ := Unit) (τ := Unit) (fun s => edit_CheckStep_j1 a0 t17 t21) (fun s t => [(1, .pointer (some ⟨b2, 0, none⟩)), (4, .int .i64 t17.2), (5, .slice p.1 t21.length p.2)]) (fun s t => [cellsC b2 [.int .i64 a0.Kind, .int .i64 a0.A, .int .i64 a0.B, .int .i64 a0.C, .int .i64 a0.D] 35, rowV 3 1 (.slice p.1 t21.length p.2) t21.length (t21.map e_i64)]) (fun s t => True) ?_ ?_
    · refine c_seq ?_
      refine c_region ?_
      refine l_val rfl rfl rfl (r_move (v := .slice p.1 t21.length p.2) rfl) ?_
      refine l_val rfl rfl rfl (r_move (v := .int .i64 t17.2) rfl) ?_
      obtain ⟨t24, h_t24, H55⟩ := bnd_some H36; clear H36
      refine l_read (v := .slice (cutA p.1 (Int.toNat t17.2) p.2 1) t24.length (p.2 - Int.toNat t17.2)) (fun w hF hS => run_sliceLO (xs := t21) Tryd.underlying131 Tryd.sizeOf3 rfl rfl rfl (capOf (i := 1) hS rfl) h_t24) rfl rfl rfl ?_
      refine l_val rfl rfl rfl (r_len Tryd.underlying131 rfl) ?_
      refine l_val rfl rfl rfl (r_move (v := .int .i64 0) rfl) ?_
      refine l_nil ?_
      refine c_block ?_
      refine c_fix (σ := Int) (τ := Unit) (fun next4 s => edit_CheckStep_l4 a0 t17 t21 t24 next4 s) (fun s t => [(1, .pointer (some ⟨b2, 0, none⟩)), (4, .int .i64 t17.2), (5, .slice p.1 t21.length p.2), (24, .slice (cutA p.1 (Int.toNat t17.2) p.2 1) t24.length (p.2 - Int.toNat t17.2)), (25, .int .i64 (t24.length : Int)), (26, .int .i64 s)]) (fun s t => [cellsC b2 [.int .i64 a0.Kind, .int .i64 a0.A, .int .i64 a0.B, .int .i64 a0.C, .int .i64 a0.D] 35, rowV 3 1 (.slice p.1 t21.length p.2) t21.length (t21.map e_i64)]) (fun s t => True) 0 () [0, 1] H55 (by exact trivial) (by exact ⟨rfl, rfl, rfl, rfl, rfl, rfl, trivial⟩) (by decide) rfl ?_
      rintro x26_2 _ m4 gg H56 _
      clear H55
      replace H56 : edit_CheckStep_l4 a0 t17 t21 t24 (it (fun next4 s => edit_CheckStep_l4 a0 t17 t21 t24 next4 s) m4) x26_2 = some r := H56
      generalize hn4 : it (fun next4 s => edit_CheckStep_l4 a0 t17 t21 t24 next4 s) m4 = next4 at H56
      refine c_tidyF [(1, .pointer (some ⟨b2, 0, none⟩)), (4, .int .i64 t17.2), (5, .slice p.1 t21.length p.2), (24, .slice (cutA p.1 (Int.toNat t17.2) p.2 1) t24.length (p.2 - Int.toNat t17.2)), (25, .int .i64 (t24.length : Int)), (26, .int .i64 x26_2)] [cellsC b2 [.int .i64 a0.Kind, .int .i64 a0.A, .int .i64 a0.B, .int .i64 a0.C, .int .i64 a0.D] 35, rowV 3 1 (.slice p.1 t21.length p.2) t21.length (t21.map e_i64)] rfl rfl ?_
      refine c_seq ?_
      refine c_region ?_
      refine l_val rfl rfl rfl (r_lss rfl rfl) ?_
      refine l_nil ?_
      refine c_seq ?_
      refine c_if (b := (decide (x26_2 < (t24.length : Int)))) rfl (fun hb => ?_) (fun hb => ?_)
      · have H57 := cnd_t hb H56; clear H56
        refine c_skip ?_
        refine c_seq ?_
        refine c_block ?_
        refine c_seq ?_
        refine c_region ?_
        obtain ⟨t28, h_t28, H58⟩ := bnd_some H57; clear H57
        refine l_read (fun w hF hS => run_indexO Tryd.underlying131 Tryd.sizeOf3 rfl rfl (Row.cutG (rowOf (i := 1) hS rfl) rfl (capOf (i := 1) hS rfl) h_t24) rfl h_t28) rfl rfl rfl ?_
        refine l_read (fun w hF hS => run_loadG1 (f := e_i64) (i := x26_2) (sz := 1) (j := 0) (v := .int .i64 t28) Tryd.isAgg3 rfl rfl (Row.cutG (rowOf (i := 1) hS rfl) rfl (capOf (i := 1) hS rfl) h_t24) h_t28 rfl) rfl rfl rfl ?_
        refine l_val rfl rfl rfl (r_assign (v := .int .i64 t28) rfl) ?_
        refine l_nil ?_
        refine c_seq ?_
        refine c_region ?_
        refine l_val rfl rfl rfl (r_move (v := .int .i64 t28) rfl) ?_
        refine l_val rfl rfl rfl (r_neq rfl rfl) ?_
        refine l_nil ?_
        refine c_if (b := (decide (t28 ≠ 0))) rfl (fun hb => ?_) (fun hb => ?_)
        · have H59 := cnd_t hb H58; clear H58
          refine c_seq ?_
          refine c_region ?_
          refine l_val rfl rfl rfl (r_assign (v := .int .i64 1) rfl) ?_
          refine l_nil ?_
          refine c_ret ?_
          obtain rfl := Option.some.inj H59
          refine ret1 (v := .int .i64 1) rfl rfl (fin rfl)
        · have H60 := cnd_f hb H58; clear H58
          refine c_skip ?_
          refine c_region ?_
          obtain ⟨t32, h_t32, H61⟩ := bnd_some H60; clear H60
          refine l_val rfl rfl rfl (r_addG rfl rfl h_t32) ?_
          refine l_val rfl rfl rfl (r_move (v := .int .i64 t32) rfl) ?_
          refine l_nil ?_
          refine c_close t32 () m4 [0, 1] (by exact ⟨rfl, rfl, rfl, rfl, rfl, rfl, trivial⟩) (by decide) rfl (by exact ⟨(by subst hn4; exact H61), trivial⟩) (Nat.lt_succ_self _)
      · have H62 := cnd_f hb H56; clear H56
        refine c_exit ?_
        refine c_close () () 0 [0, 1] (by exact ⟨rfl, rfl, rfl, trivial⟩) (by decide) rfl (by exact ⟨H62, trivial⟩) (Nat.lt_succ_self _)
    · rintro _ _ gg H37 _
      replace H37 : edit_CheckStep_j1 a0 t17 t21 = some r := H37
      refine c_tidyF [(1, .pointer (some ⟨b2, 0, none⟩)), (4, .int .i64 t17.2), (5, .slice p.1 t21.length p.2)] [cellsC b2 [.int .i64 a0.Kind, .int .i64 a0.A, .int .i64 a0.B, .int .i64 a0.C, .int .i64 a0.D] 35, rowV 3 1 (.slice p.1 t21.length p.2) t21.length (t21.map e_i64)] rfl rfl ?_
      refine c_seq ?_
      refine c_region ?_
      refine l_val rfl rfl rfl (r_field Tryd.runUnderlying35 rfl Tryd.sizeOf3 rfl rfl) ?_
      refine l_load1 (i := 0) (v := .int .i64 a0.Kind) Tryd.isAgg3 rfl rfl rfl rfl rfl ?_
      obtain ⟨t35, h_t35, H38⟩ := bnd_some H37; clear H37
      refine l_call (k150 h_t35) Tryd.call150 rfl rfl rfl ?_
      refine l_alloc (cs := [.int .i64 0, .int .i64 0, .int .i64 0, .int .i64 0, .int .i64 0, .int .i64 0, .int .i64 0, .int .i64 0]) Tryd.zeroValue186 rfl rfl rfl (fun b3 => ?_)
      refine l_store (i := 2) (vs := [.int .i64 ((t35 0) 0), .int .i64 ((t35 0) 1), .int .i64 ((t35 1) 0), .int .i64 ((t35 1) 1), .int .i64 ((t35 2) 0), .int .i64 ((t35 2) 1), .int .i64 ((t35 3) 0), .int .i64 ((t35 3) 1)]) (cs' := [.int .i64 ((t35 0) 0), .int .i64 ((t35 0) 1), .int .i64 ((t35 1) 0), .int .i64 ((t35 1) 1), .int .i64 ((t35 2) 0), .int .i64 ((t35 2) 1), .int .i64 ((t35 3) 0), .int .i64 ((t35 3) 1)]) Tryd.sizeOf186 rfl rfl rfl rfl rfl rfl rfl rfl rfl ?_
      refine l_nil ?_
      refine c_meet (r := r) (σ := Unit) (τ := Unit) (fun s => edit_CheckStep_j2 a0) (fun s t => [(1, .pointer (some ⟨b2, 0, none⟩))]) (fun s t => [cellsC b2 [.int .i64 a0.Kind, .int .i64 a0.A, .int .i64 a0.B, .int .i64 a0.C, .int .i64 a0.D] 35]) (fun s t => True) ?_ ?_
      · refine c_seq ?_
        refine c_region ?_
        refine l_val rfl rfl rfl (r_move (v := .slice p.1 t21.length p.2) rfl) ?_
        refine l_val rfl rfl rfl (r_move (v := .int .i64 t17.2) rfl) ?_
        obtain ⟨t38, h_t38, H44⟩ := bnd_some H38; clear H38
        refine l_read (v := .slice (cutA p.1 (Int.toNat (0 : Int)) p.2 1) t38.length (p.2 - Int.toNat (0 : Int))) (fun w hF hS => run_sliceHO (xs := t21) Tryd.underlying131 Tryd.sizeOf3 rfl rfl rfl (capOf (i := 1) hS rfl) h_t38) rfl rfl rfl ?_
        refine l_val rfl rfl rfl (r_len Tryd.underlying131 rfl) ?_
        refine l_val rfl rfl rfl (r_move (v := .int .i64 0) rfl) ?_
        refine l_nil ?_
        refine c_block ?_
        refine c_fix (σ := Int) (τ := Unit) (fun next3 s => edit_CheckStep_l3 a0 t35 t38 next3 s) (fun s t => [(1, .pointer (some ⟨b2, 0, none⟩)), (8, .pointer (some ⟨b3, 0, none⟩)), (38, .slice (cutA p.1 (Int.toNat (0 : Int)) p.2 1) t38.length (p.2 - Int.toNat (0 : Int))), (39, .int .i64 (t38.length : Int)), (40, .int .i64 s)]) (fun s t => [cellsC b2 [.int .i64 a0.Kind, .int .i64 a0.A, .int .i64 a0.B, .int .i64 a0.C, .int .i64 a0.D] 35, rowV 3 1 (.slice p.1 t21.length p.2) t21.length (t21.map e_i64), cellsC b3 [.int .i64 ((t35 0) 0), .int .i64 ((t35 0) 1), .int .i64 ((t35 1) 0), .int .i64 ((t35 1) 1), .int .i64 ((t35 2) 0), .int .i64 ((t35 2) 1), .int .i64 ((t35 3) 0), .int .i64 ((t35 3) 1)] 186]) (fun s t => True) 0 () [0, 1, 2] H44 (by exact trivial) (by exact ⟨rfl, rfl, rfl, rfl, rfl, trivial⟩) (by decide) rfl ?_
        rintro x40_2 _ m3 gg H45 _
        clear H44
        replace H45 : edit_CheckStep_l3 a0 t35 t38 (it (fun next3 s => edit_CheckStep_l3 a0 t35 t38 next3 s) m3) x40_2 = some r := H45
        generalize hn3 : it (fun next3 s => edit_CheckStep_l3 a0 t35 t38 next3 s) m3 = next3 at H45
        refine c_tidyF [(1, .pointer (some ⟨b2, 0, none⟩)), (8, .pointer (some ⟨b3, 0, none⟩)), (38, .slice (cutA p.1 (Int.toNat (0 : Int)) p.2 1) t38.length (p.2 - Int.toNat (0 : Int))), (39, .int .i64 (t38.length : Int)), (40, .int .i64 x40_2)] [cellsC b2 [.int .i64 a0.Kind, .int .i64 a0.A, .int .i64 a0.B, .int .i64 a0.C, .int .i64 a0.D] 35, rowV 3 1 (.slice p.1 t21.length p.2) t21.length (t21.map e_i64), cellsC b3 [.int .i64 ((t35 0) 0), .int .i64 ((t35 0) 1), .int .i64 ((t35 1) 0), .int .i64 ((t35 1) 1), .int .i64 ((t35 2) 0), .int .i64 ((t35 2) 1), .int .i64 ((t35 3) 0), .int .i64 ((t35 3) 1)] 186] rfl rfl ?_
        refine c_seq ?_
        refine c_region ?_
        refine l_val rfl rfl rfl (r_lss rfl rfl) ?_
        refine l_nil ?_
        refine c_seq ?_
        refine c_if (b := (decide (x40_2 < (t38.length : Int)))) rfl (fun hb => ?_) (fun hb => ?_)
        · have H46 := cnd_t hb H45; clear H45
          refine c_skip ?_
          refine c_seq ?_
          refine c_block ?_
          refine c_seq ?_
          refine c_region ?_
          refine l_val rfl rfl rfl (r_move (v := .int .i64 x40_2) rfl) ?_
          obtain ⟨t43, h_t43, H47⟩ := bnd_some H46; clear H46
          refine l_read (fun w hF hS => run_indexO Tryd.underlying131 Tryd.sizeOf3 rfl rfl (Row.cutG (rowOf (i := 1) hS rfl) rfl (capOf (i := 1) hS rfl) h_t38) rfl h_t43) rfl rfl rfl ?_
          refine l_read (fun w hF hS => run_loadG1 (f := e_i64) (i := x40_2) (sz := 1) (j := 0) (v := .int .i64 t43) Tryd.isAgg3 rfl rfl (Row.cutG (rowOf (i := 1) hS rfl) rfl (capOf (i := 1) hS rfl) h_t38) h_t43 rfl) rfl rfl rfl ?_
          refine l_val rfl rfl rfl (r_assign (v := .int .i64 x40_2) rfl) ?_
          refine l_val rfl rfl rfl (r_assign (v := .int .i64 t43) rfl) ?_
          refine l_nil ?_
          refine c_seq ?_
          exact c_regionD (Kd.p :: Kd.p :: Kd.p :: Kd.p :: Kd.d [2] _ :: Kd.p :: Kd.p :: Kd.p :: Kd.d [2] _ :: Kd.d [] _ :: []) 0 mixed (by
            refine d_val rfl rfl (r_move (v := .int .i64 t43) rfl) ?_
            refine d_val rfl rfl (r_move (v := .int .i64 x40_2) rfl) ?_
            have h_k47 := bnd_val H47
            have H48 := bnd_rest H47
            refine d_val rfl rfl (r_indexPG Tryd.runUnderlying186 Tryd.sizeOf185 rfl rfl h_k47) ?_
            refine d_val rfl rfl (r_indexPA0 Tryd.runUnderlying185 Tryd.sizeOf3 rfl rfl (by decide)) ?_
            refine d_load1 (i := 2) (v := .int .i64 ((t35 (val (gIx 4 x40_2))) 0)) Tryd.isAgg3 rfl rfl rfl (rg_arr (pre := []) (post := []) (f := fun j_ => [.int .i64 ((t35 j_) 0), .int .i64 ((t35 j_) 1)]) (n := 4) (sz := 2) (q := 0) rfl rfl (fun _ => rfl) (gIx_lt h_k47) rfl) ?_
            refine d_val rfl rfl (r_move (v := .int .i64 x40_2) rfl) ?_
            have h_k51 := bnd_val H48
            have H49 := bnd_rest H48
            refine d_val rfl rfl (r_indexPG Tryd.runUnderlying186 Tryd.sizeOf185 rfl rfl h_k51) ?_
            refine d_val rfl rfl (r_indexPA Tryd.runUnderlying185 Tryd.sizeOf3 rfl rfl (by decide) (by decide)) ?_
            refine d_load1 (i := 2) (v := .int .i64 ((t35 (val (gIx 4 x40_2))) 1)) Tryd.isAgg3 rfl rfl rfl (rg_arr (pre := []) (post := []) (f := fun j_ => [.int .i64 ((t35 j_) 0), .int .i64 ((t35 j_) 1)]) (n := 4) (sz := 2) (q := 1) rfl rfl (fun _ => rfl) (gIx_lt h_k51) rfl) ?_
            have h_t54 := bnd_val H49
            have H50 := bnd_rest H49
            refine d_call (k81 h_t54) Tryd.call81 rfl rfl ?_
            refine d_nil ?_
            refine c_if (b := (val (edit_outside t43 ((t35 (val (gIx 4 x40_2))) 0) ((t35 (val (gIx 4 x40_2))) 1)))) rfl (fun hb => ?_) (fun hb => ?_)
            · have H51 := cnd_t hb H50; clear H50
              refine c_seq ?_
              refine c_region ?_
              refine l_val rfl rfl rfl (r_assign (v := .int .i64 2) rfl) ?_
              refine l_nil ?_
              refine c_ret ?_
              obtain rfl := Option.some.inj H51
              refine ret1 (v := .int .i64 2) rfl rfl (fin rfl)
            · have H52 := cnd_f hb H50; clear H50
              refine c_skip ?_
              refine c_region ?_
              obtain ⟨t55, h_t55, H53⟩ := bnd_some H52; clear H52
              refine l_val rfl rfl rfl (r_addG rfl rfl h_t55) ?_
              refine l_val rfl rfl rfl (r_move (v := .int .i64 t55) rfl) ?_
              refine l_nil ?_
              refine c_close t55 () m3 [0, 1, 2] (by exact ⟨rfl, rfl, rfl, rfl, rfl, trivial⟩) (by decide) rfl (by exact ⟨(by subst hn3; exact H53), trivial⟩) (Nat.lt_succ_self _)
            ) (by kernel_rfl)
        · have H54 := cnd_f hb H45; clear H45
          refine c_exit ?_
          refine c_close () () 0 [0] (by exact ⟨rfl, trivial⟩) (by decide) rfl (by exact ⟨H54, trivial⟩) (Nat.lt_succ_self _)
      · rintro _ _ gg H39 _
        replace H39 : edit_CheckStep_j2 a0 = some r := H39
        refine c_tidyF [(1, .pointer (some ⟨b2, 0, none⟩))] [cellsC b2 [.int .i64 a0.Kind, .int .i64 a0.A, .int .i64 a0.B, .int .i64 a0.C, .int .i64 a0.D] 35] rfl rfl ?_
        refine c_seq ?_
        refine c_seq ?_
        refine c_region ?_
        refine l_val rfl rfl rfl (r_field Tryd.runUnderlying35 rfl Tryd.sizeOf3 rfl rfl) ?_
        refine l_load1 (i := 0) (v := .int .i64 a0.Kind) Tryd.isAgg3 rfl rfl rfl rfl rfl ?_
        refine l_val rfl rfl rfl (r_eql rfl rfl) ?_
        refine l_val rfl rfl rfl (r_move (v := .bool (decide (a0.Kind = 6))) rfl) ?_
        refine split (fun hb => ?_) (fun hb => ?_)
        · have H40 := cnd_t hb H39; clear H39
          refine l_val rfl rfl rfl (r_field Tryd.runUnderlying35 rfl Tryd.sizeOf3 rfl rfl) ?_
          refine l_load1 (i := 0) (v := .int .i64 a0.B) Tryd.isAgg3 rfl rfl rfl rfl rfl ?_
          refine l_val rfl rfl rfl (r_field Tryd.runUnderlying35 rfl Tryd.sizeOf3 rfl rfl) ?_
          refine l_load1 (i := 0) (v := .int .i64 a0.A) Tryd.isAgg3 rfl rfl rfl rfl rfl ?_
          refine l_val rfl rfl rfl (r_leq rfl rfl) ?_
          refine l_val rfl rfl rfl (r_pickT (v := .bool (decide (a0.B ≤ a0.A))) rfl rfl) ?_
          refine l_nil ?_
          refine c_if (b := (decide (a0.B ≤ a0.A))) rfl (fun hb => ?_) (fun hb => ?_)
          · have H41 := cnd_t hb H40; clear H40
            refine c_seq ?_
            refine c_region ?_
            refine l_val rfl rfl rfl (r_assign (v := .int .i64 5) rfl) ?_
            refine l_nil ?_
            refine c_ret ?_
            obtain rfl := Option.some.inj H41
            refine ret1 (v := .int .i64 5) rfl rfl (fin rfl)
          · have H42 := cnd_f hb H40; clear H40
            refine c_skip ?_
            refine c_seq ?_
            refine c_region ?_
            refine l_val rfl rfl rfl (r_assign (v := .int .i64 0) rfl) ?_
            refine l_nil ?_
            refine c_ret ?_
            obtain rfl := Option.some.inj H42
            refine ret1 (v := .int .i64 0) rfl rfl (fin rfl)
        · have H43 := cnd_f hb H39; clear H39
          refine l_passed rfl rfl rfl ?_
          refine l_passed rfl rfl rfl ?_
          refine l_passed rfl rfl rfl ?_
          refine l_passed rfl rfl rfl ?_
          refine l_passed rfl rfl rfl ?_
          refine l_val rfl rfl rfl (r_pickF (v := .bool false) rfl rfl) ?_
          refine l_nil ?_
          refine c_false rfl ?_
          refine c_skip ?_
          refine c_seq ?_
          refine c_region ?_
          refine l_val rfl rfl rfl (r_assign (v := .int .i64 0) rfl) ?_
          refine l_nil ?_
          refine c_ret ?_
          obtain rfl := Option.some.inj H43
          refine ret1 (v := .int .i64 0) rfl rfl (fin rfl)
theorem k73 {a0 : (List T_edit_Step)} {v0 : Value} {r : Int} {w : World} {h : Heap} (hw : Know h w noS) (f0 : FrS h 5 v0 (a0.map e_edit_Step)) (H : edit_Check a0 = some r) : Does Tryd.prog 73 (List.toArray [v0]) w (fun v w' => v = (.int .i64 r) ∧ Grow w w') := by
  refine enter (n := 21) Tryd.func73 rfl rfl rfl noS [] (Sat.nil _ _) ?_
  refine c_seq ?_
  refine c_region ?_
  refine l_val rfl rfl rfl (r_assign (v := .int .i64 0) rfl) ?_
  refine l_nil ?_
  refine c_seq ?_
  refine c_seq ?_
  refine c_region ?_
  refine l_val rfl rfl rfl (r_move (v := v0) rfl) ?_
  refine l_val rfl rfl rfl (r_lenF Tryd.underlying22 rfl f0 rfl) ?_
  refine l_val rfl rfl rfl (r_gtr rfl rfl) ?_
  refine l_nil ?_
  refine c_if (b := (decide (50 < (a0.length : Int)))) rfl (fun hb => ?_) (fun hb => ?_)
  · have H11 := cnd_t hb H; clear H
    refine c_seq ?_
    refine c_region ?_
    refine l_val rfl rfl rfl (r_assign (v := .int .i64 4) rfl) ?_
    refine l_nil ?_
    refine c_ret ?_
    obtain rfl := Option.some.inj H11
    refine ret1 (v := .int .i64 4) rfl rfl (fin rfl)
  · have H12 := cnd_f hb H; clear H
    refine c_skip ?_
    refine c_seq ?_
    refine c_seq ?_
    refine c_region ?_
    refine l_val rfl rfl rfl (r_move (v := v0) rfl) ?_
    refine l_val rfl rfl rfl (r_lenF Tryd.underlying22 rfl f0 rfl) ?_
    refine l_val rfl rfl rfl (r_move (v := .int .i64 0) rfl) ?_
    refine l_nil ?_
    refine c_block ?_
    refine c_fix (σ := Int) (τ := Unit) (fun next1 s => edit_Check_l1 a0 next1 s) (fun s t => [(9, v0), (10, .int .i64 (a0.length : Int)), (11, .int .i64 s)]) (fun s t => []) (fun s t => True) 0 () [] H12 (by exact trivial) (by exact ⟨rfl, rfl, rfl, trivial⟩) (by decide) rfl ?_
    rintro x11_2 _ m1 gg H13 _
    clear H12
    replace H13 : edit_Check_l1 a0 (it (fun next1 s => edit_Check_l1 a0 next1 s) m1) x11_2 = some r := H13
    generalize hn1 : it (fun next1 s => edit_Check_l1 a0 next1 s) m1 = next1 at H13
    refine c_tidyF [(9, v0), (10, .int .i64 (a0.length : Int)), (11, .int .i64 x11_2)] [] rfl rfl ?_
    refine c_seq ?_
    refine c_region ?_
    refine l_val rfl rfl rfl (r_lss rfl rfl) ?_
    refine l_nil ?_
    refine c_seq ?_
    refine c_if (b := (decide (x11_2 < (a0.length : Int)))) rfl (fun hb => ?_) (fun hb => ?_)
    · have H14 := cnd_t hb H13; clear H13
      refine c_skip ?_
      refine c_seq ?_
      refine c_block ?_
      refine c_seq ?_
      refine c_region ?_
      obtain ⟨t13, h_t13, H15⟩ := bnd_some H14; clear H14
      refine l_val rfl rfl rfl (r_indexF Tryd.underlying22 Tryd.sizeOf35 rfl rfl f0 h_t13) ?_
      refine l_read (fun w hF hS => run_loadGN (f := e_edit_Step) (i := x11_2) (sz := 5) (j := 0) (vs := [.int .i64 t13.Kind, .int .i64 t13.A, .int .i64 t13.B, .int .i64 t13.C, .int .i64 t13.D]) Tryd.isAgg35 Tryd.sizeOf35 rfl rfl (f0.row (hw.now hF)) h_t13 rfl) rfl rfl rfl ?_
      refine l_alloc (cs := [.int .i64 0, .int .i64 0, .int .i64 0, .int .i64 0, .int .i64 0]) Tryd.zeroValue35 rfl rfl rfl (fun b1 => ?_)
      refine l_store (i := 0) (vs := [.int .i64 t13.Kind, .int .i64 t13.A, .int .i64 t13.B, .int .i64 t13.C, .int .i64 t13.D]) (cs' := [.int .i64 t13.Kind, .int .i64 t13.A, .int .i64 t13.B, .int .i64 t13.C, .int .i64 t13.D]) Tryd.sizeOf35 rfl rfl rfl rfl rfl rfl rfl rfl rfl ?_
      refine l_nil ?_
      refine c_seq ?_
      refine c_region ?_
      refine l_loadN (i := 0) (vs := [.int .i64 t13.Kind, .int .i64 t13.A, .int .i64 t13.B, .int .i64 t13.C, .int .i64 t13.D]) Tryd.isAgg35 Tryd.sizeOf35 rfl rfl rfl rfl rfl ?_
      obtain ⟨t16, h_t16, H16⟩ := bnd_some H15; clear H15
      refine l_call (k113 h_t16) Tryd.call113 rfl rfl rfl ?_
      refine l_val rfl rfl rfl (r_assign (v := .int .i64 t16) rfl) ?_
      refine l_nil ?_
      refine c_seq ?_
      refine c_region ?_
      refine l_val rfl rfl rfl (r_move (v := .int .i64 t16) rfl) ?_
      refine l_val rfl rfl rfl (r_neq rfl rfl) ?_
      refine l_nil ?_
      refine c_if (b := (decide (t16 ≠ 0))) rfl (fun hb => ?_) (fun hb => ?_)
      · have H17 := cnd_t hb H16; clear H16
        refine c_seq ?_
        refine c_region ?_
        refine l_val rfl rfl rfl (r_move (v := .int .i64 t16) rfl) ?_
        refine l_val rfl rfl rfl (r_assign (v := .int .i64 t16) rfl) ?_
        refine l_nil ?_
        refine c_ret ?_
        obtain rfl := Option.some.inj H17
        refine ret1 (v := .int .i64 t16) rfl rfl (fin rfl)
      · have H18 := cnd_f hb H16; clear H16
        refine c_skip ?_
        refine c_region ?_
        obtain ⟨t20, h_t20, H19⟩ := bnd_some H18; clear H18
        refine l_val rfl rfl rfl (r_addG rfl rfl h_t20) ?_
        refine l_val rfl rfl rfl (r_move (v := .int .i64 t20) rfl) ?_
        refine l_nil ?_
        refine c_close t20 () m1 [] (by exact ⟨rfl, rfl, rfl, trivial⟩) (by decide) rfl (by exact ⟨(by subst hn1; exact H19), trivial⟩) (Nat.lt_succ_self _)
    · have H20 := cnd_f hb H13; clear H13
      refine c_exit ?_
      refine c_seq ?_
      refine c_region ?_
      refine l_val rfl rfl rfl (r_assign (v := .int .i64 0) rfl) ?_
      refine l_nil ?_
      refine c_ret ?_
      obtain rfl := Option.some.inj H20
      refine ret1 (v := .int .i64 0) rfl rfl (fin rfl)
theorem k201 {a0 : Int} {r : (List UInt8)} (H : internal_strconv_small a0 = some r) : Ret Tryd.prog 201 [.int .i64 a0] (str r) := by
  refine enterRet (n := 15) Tryd.func201 rfl rfl rfl (fun wd => ?_)
  refine c_seq ?_
  refine c_region ?_
  refine l_val rfl rfl rfl (r_assign (v := str []) rfl) ?_
  refine l_nil ?_
  refine c_seq ?_
  refine c_seq ?_
  refine c_region ?_
  refine l_val rfl rfl rfl (r_move (v := .int .i64 a0) rfl) ?_
  refine l_val rfl rfl rfl (r_lss rfl rfl) ?_
  refine l_nil ?_
  refine c_if (b := (decide (a0 < 10))) rfl (fun hb => ?_) (fun hb => ?_)
  · have H9 := cnd_t hb H; clear H
    refine c_seq ?_
    refine c_region ?_
    refine l_val rfl rfl rfl (r_move (v := .int .i64 a0) rfl) ?_
    refine l_val rfl rfl rfl (r_move (v := .int .i64 a0) rfl) ?_
    obtain ⟨t7, h_t7, H10⟩ := bnd_some H9; clear H9
    refine l_val rfl rfl rfl (r_addG rfl rfl h_t7) ?_
    obtain ⟨t8, h_t8, H11⟩ := bnd_some H10; clear H10
    refine l_val rfl rfl rfl (r_cutTG Tryd.underlying9 rfl rfl rfl h_t8) ?_
    refine l_val rfl rfl rfl (r_assign (v := str t8) rfl) ?_
    refine l_nil ?_
    refine c_ret ?_
    obtain rfl := Option.some.inj H11
    refine ret1 (v := str t8) rfl rfl (fin rfl)
  · have H12 := cnd_f hb H; clear H
    refine c_skip ?_
    refine c_seq ?_
    refine c_region ?_
    refine l_val rfl rfl rfl (r_move (v := .int .i64 a0) rfl) ?_
    obtain ⟨t10, h_t10, H13⟩ := bnd_some H12; clear H12
    refine l_val rfl rfl rfl (r_mulG rfl rfl h_t10) ?_
    refine l_val rfl rfl rfl (r_move (v := .int .i64 a0) rfl) ?_
    obtain ⟨t12, h_t12, H14⟩ := bnd_some H13; clear H13
    refine l_val rfl rfl rfl (r_mulG rfl rfl h_t12) ?_
    obtain ⟨t13, h_t13, H15⟩ := bnd_some H14; clear H14
    refine l_val rfl rfl rfl (r_addG rfl rfl h_t13) ?_
    obtain ⟨t14, h_t14, H16⟩ := bnd_some H15; clear H15
    refine l_val rfl rfl rfl (r_cutTG Tryd.underlying9 rfl rfl rfl h_t14) ?_
    refine l_val rfl rfl rfl (r_assign (v := str t14) rfl) ?_
    refine l_nil ?_
    refine c_ret ?_
    obtain rfl := Option.some.inj H16
    refine ret1 (v := str t14) rfl rfl (fin rfl)
theorem k147 {a0 : Int} {r : Int} (H : math_bits_Len64 a0 = some r) : Ret Tryd.prog 147 [.int .u64 a0] (.int .i64 r) := by
  refine enterRet (n := 25) Tryd.func147 rfl rfl rfl (fun wd => ?_)
  refine c_seq ?_
  refine c_region ?_
  refine l_val rfl rfl rfl (r_assign (v := .int .i64 0) rfl) ?_
  refine l_nil ?_
  refine c_meet (r := r) (σ := Int × Int) (τ := Unit) (fun s => math_bits_Len64_j1 s.1 s.2) (fun s t => [(0, .int .u64 s.1), (2, .int .i64 s.2)]) (fun s t => []) (fun s t => True) ?_ ?_
  · refine c_seq ?_
    refine c_region ?_
    refine l_val rfl rfl rfl (r_move (v := .int .u64 a0) rfl) ?_
    refine l_val rfl rfl rfl (r_geq rfl rfl) ?_
    refine l_nil ?_
    refine c_if (b := (decide (4294967296 ≤ a0))) rfl (fun hb => ?_) (fun hb => ?_)
    · have H32 := cnd_t hb H; clear H
      refine c_seq ?_
      refine c_region ?_
      refine l_val rfl rfl rfl (r_move (v := .int .u64 a0) rfl) ?_
      obtain ⟨t6, h_t6, H33⟩ := bnd_some H32; clear H32
      refine l_val rfl rfl rfl (r_shrG rfl rfl rfl h_t6) ?_
      refine l_val rfl rfl rfl (r_assign (v := .int .u64 t6) rfl) ?_
      refine l_nil ?_
      refine c_region ?_
      refine l_val rfl rfl rfl (r_assign (v := .int .i64 32) rfl) ?_
      refine l_nil ?_
      refine c_close (t6, 32) () 0 [] (by exact ⟨rfl, rfl, trivial⟩) (by decide) rfl (by exact ⟨H33, trivial⟩) (Nat.lt_succ_self _)
    · have H34 := cnd_f hb H; clear H
      refine c_skip ?_
      refine c_close (a0, 0) () 0 [] (by exact ⟨rfl, rfl, trivial⟩) (by decide) rfl (by exact ⟨H34, trivial⟩) (Nat.lt_succ_self _)
  · rintro ⟨x0, x2⟩ _ gg H18 _
    replace H18 : math_bits_Len64_j1 x0 x2 = some r := H18
    refine c_tidyF [(0, .int .u64 x0), (2, .int .i64 x2)] [] rfl rfl ?_
    refine c_meet (r := r) (σ := Int × Int) (τ := Unit) (fun s => math_bits_Len64_j2 s.1 s.2) (fun s t => [(0, .int .u64 s.1), (2, .int .i64 s.2)]) (fun s t => []) (fun s t => True) ?_ ?_
    · refine c_seq ?_
      refine c_region ?_
      refine l_val rfl rfl rfl (r_move (v := .int .u64 x0) rfl) ?_
      refine l_val rfl rfl rfl (r_geq rfl rfl) ?_
      refine l_nil ?_
      refine c_if (b := (decide (65536 ≤ x0))) rfl (fun hb => ?_) (fun hb => ?_)
      · have H28 := cnd_t hb H18; clear H18
        refine c_seq ?_
        refine c_region ?_
        refine l_val rfl rfl rfl (r_move (v := .int .u64 x0) rfl) ?_
        obtain ⟨t10, h_t10, H29⟩ := bnd_some H28; clear H28
        refine l_val rfl rfl rfl (r_shrG rfl rfl rfl h_t10) ?_
        refine l_val rfl rfl rfl (r_assign (v := .int .u64 t10) rfl) ?_
        refine l_nil ?_
        refine c_region ?_
        refine l_val rfl rfl rfl (r_move (v := .int .i64 x2) rfl) ?_
        obtain ⟨t12, h_t12, H30⟩ := bnd_some H29; clear H29
        refine l_val rfl rfl rfl (r_addG rfl rfl h_t12) ?_
        refine l_val rfl rfl rfl (r_assign (v := .int .i64 t12) rfl) ?_
        refine l_nil ?_
        refine c_close (t10, t12) () 0 [] (by exact ⟨rfl, rfl, trivial⟩) (by decide) rfl (by exact ⟨H30, trivial⟩) (Nat.lt_succ_self _)
      · have H31 := cnd_f hb H18; clear H18
        refine c_skip ?_
        refine c_close (x0, x2) () 0 [] (by exact ⟨rfl, rfl, trivial⟩) (by decide) rfl (by exact ⟨H31, trivial⟩) (Nat.lt_succ_self _)
    · rintro ⟨x0_2, x2_2⟩ _ gg H19 _
      replace H19 : math_bits_Len64_j2 x0_2 x2_2 = some r := H19
      refine c_tidyF [(0, .int .u64 x0_2), (2, .int .i64 x2_2)] [] rfl rfl ?_
      refine c_meet (r := r) (σ := Int × Int) (τ := Unit) (fun s => math_bits_Len64_j3 s.1 s.2) (fun s t => [(0, .int .u64 s.1), (2, .int .i64 s.2)]) (fun s t => []) (fun s t => True) ?_ ?_
      · refine c_seq ?_
        refine c_region ?_
        refine l_val rfl rfl rfl (r_move (v := .int .u64 x0_2) rfl) ?_
        refine l_val rfl rfl rfl (r_geq rfl rfl) ?_
        refine l_nil ?_
        refine c_if (b := (decide (256 ≤ x0_2))) rfl (fun hb => ?_) (fun hb => ?_)
        · have H24 := cnd_t hb H19; clear H19
          refine c_seq ?_
          refine c_region ?_
          refine l_val rfl rfl rfl (r_move (v := .int .u64 x0_2) rfl) ?_
          obtain ⟨t16, h_t16, H25⟩ := bnd_some H24; clear H24
          refine l_val rfl rfl rfl (r_shrG rfl rfl rfl h_t16) ?_
          refine l_val rfl rfl rfl (r_assign (v := .int .u64 t16) rfl) ?_
          refine l_nil ?_
          refine c_region ?_
          refine l_val rfl rfl rfl (r_move (v := .int .i64 x2_2) rfl) ?_
          obtain ⟨t18, h_t18, H26⟩ := bnd_some H25; clear H25
          refine l_val rfl rfl rfl (r_addG rfl rfl h_t18) ?_
          refine l_val rfl rfl rfl (r_assign (v := .int .i64 t18) rfl) ?_
          refine l_nil ?_
          refine c_close (t16, t18) () 0 [] (by exact ⟨rfl, rfl, trivial⟩) (by decide) rfl (by exact ⟨H26, trivial⟩) (Nat.lt_succ_self _)
        · have H27 := cnd_f hb H19; clear H19
          refine c_skip ?_
          refine c_close (x0_2, x2_2) () 0 [] (by exact ⟨rfl, rfl, trivial⟩) (by decide) rfl (by exact ⟨H27, trivial⟩) (Nat.lt_succ_self _)
      · rintro ⟨x0_3, x2_3⟩ _ gg H20 _
        replace H20 : math_bits_Len64_j3 x0_3 x2_3 = some r := H20
        refine c_tidyF [(0, .int .u64 x0_3), (2, .int .i64 x2_3)] [] rfl rfl ?_
        refine c_seq ?_
        refine c_region ?_
        refine l_val rfl rfl rfl (r_move (v := .int .i64 x2_3) rfl) ?_
        refine l_val rfl rfl rfl (r_move (v := .int .u64 x0_3) rfl) ?_
        refine l_val rfl rfl rfl (r_convG Tryd.runUnderlying183 Tryd.runUnderlying5 rfl (wr_u8 _)) ?_
        obtain ⟨t22, h_t22, H21⟩ := bnd_some H20; clear H20
        refine l_val rfl rfl rfl (r_octG Tryd.underlying9 rfl rfl h_t22) ?_
        obtain ⟨t23, h_t23, H22⟩ := bnd_some H21; clear H21
        refine l_val rfl rfl rfl (r_convG Tryd.runUnderlying5 Tryd.runUnderlying3 rfl (gK_i64 h_t23)) ?_
        obtain ⟨t24, h_t24, H23⟩ := bnd_some H22; clear H22
        refine l_val rfl rfl rfl (r_addG rfl rfl h_t24) ?_
        refine l_val rfl rfl rfl (r_assign (v := .int .i64 t24) rfl) ?_
        refine l_nil ?_
        refine c_ret ?_
        obtain rfl := Option.some.inj H23
        refine ret1 (v := .int .i64 t24) rfl rfl (fin rfl)
theorem k209 {a0 : Int} {r : Int} (H : internal_strconv_log10Pow2 a0 = some r) : Ret Tryd.prog 209 [.int .i64 a0] (.int .i64 r) := by
  refine enterRet (n := 6) Tryd.func209 rfl rfl rfl (fun wd => ?_)
  refine c_seq ?_
  refine c_region ?_
  refine l_val rfl rfl rfl (r_assign (v := .int .i64 0) rfl) ?_
  refine l_nil ?_
  refine c_seq ?_
  refine c_region ?_
  refine l_val rfl rfl rfl (r_move (v := .int .i64 a0) rfl) ?_
  obtain ⟨t4, h_t4, H3⟩ := bnd_some H; clear H
  refine l_val rfl rfl rfl (r_mulG rfl rfl h_t4) ?_
  obtain ⟨t5, h_t5, H4⟩ := bnd_some H3; clear H3
  refine l_val rfl rfl rfl (r_shrG rfl rfl rfl h_t5) ?_
  refine l_val rfl rfl rfl (r_assign (v := .int .i64 t5) rfl) ?_
  refine l_nil ?_
  refine c_ret ?_
  obtain rfl := Option.some.inj H4
  refine ret1 (v := .int .i64 t5) rfl rfl (fin rfl)
theorem k210 {a0 : Bool} {r : Int} (H : internal_strconv_bool2_int a0 = some r) : Ret Tryd.prog 210 [.bool a0] (.int .i64 r) := by
  refine enterRet (n := 4) Tryd.func210 rfl rfl rfl (fun wd => ?_)
  refine c_seq ?_
  refine c_region ?_
  refine l_val rfl rfl rfl (r_assign (v := .int .i64 0) rfl) ?_
  refine l_nil ?_
  refine c_seq ?_
  refine c_seq ?_
  refine c_region ?_
  refine l_val rfl rfl rfl (r_move (v := .bool a0) rfl) ?_
  refine l_nil ?_
  refine c_if (b := a0) rfl (fun hb => ?_) (fun hb => ?_)
  · have H3 := cnd_t hb H; clear H
    refine c_seq ?_
    refine c_region ?_
    refine l_val rfl rfl rfl (r_assign (v := .int .i64 1) rfl) ?_
    refine l_nil ?_
    refine c_ret ?_
    obtain rfl := Option.some.inj H3
    refine ret1 (v := .int .i64 1) rfl rfl (fin rfl)
  · have H4 := cnd_f hb H; clear H
    refine c_skip ?_
    refine c_seq ?_
    refine c_region ?_
    refine l_val rfl rfl rfl (r_assign (v := .int .i64 0) rfl) ?_
    refine l_nil ?_
    refine c_ret ?_
    obtain rfl := Option.some.inj H4
    refine ret1 (v := .int .i64 0) rfl rfl (fin rfl)
theorem k203 {a0 : (List Int)} {p0 : Option Addr × Nat} {n0 : Nat} {a1 : Int} {r : (List Int)} {w : World} {h : Heap} {S : Nat → Prop} (hcs : (rowV 5 1 (.slice p0.1 n0 p0.2) n0 (a0.map e_u8)).P S w) (hlt : ∀ b, S b → b < w.heap.size) (hw : Know h w S) (hn0 : n0 = a0.length) (H : internal_strconv_formatBase10 a0 a1 = some r) : Does Tryd.prog 203 (List.toArray [.slice p0.1 n0 p0.2, .int .u64 a1]) w (fun v w' => ∃ x : Unit, v = (.tuple #[]) ∧ Turn w w' S (rowV 5 1 (.slice p0.1 n0 p0.2) n0 (r.map e_u8))) := by
  refine enter (n := 167) Tryd.func203 rfl rfl rfl S [rowV 5 1 (.slice p0.1 n0 p0.2) n0 (a0.map e_u8)] (Sat.one hcs hlt) ?_
  refine c_seq ?_
  refine c_region ?_
  refine l_val rfl rfl rfl (r_move (v := .slice p0.1 n0 p0.2) rfl) ?_
  refine l_val rfl rfl rfl (r_lenN Tryd.underlying50 rfl hn0) ?_
  refine l_val rfl rfl rfl (r_assign (v := .int .i64 (a0.length : Int)) rfl) ?_
  refine l_nil ?_
  refine c_meet (r := r) (σ := Int × Int × (List Int)) (τ := Unit) (fun s => internal_strconv_formatBase10_j1 s.1 s.2.1 s.2.2) (fun s t => [(0, .slice p0.1 n0 p0.2), (1, .int .u64 s.1), (4, .int .i64 s.2.1)]) (fun s t => [rowV 5 1 (.slice p0.1 n0 p0.2) n0 (s.2.2.map e_u8)]) (fun s t => n0 = s.2.2.length) ?_ ?_
  · refine c_block ?_
    refine c_fix (σ := Int × Int × (List Int)) (τ := Unit) (fun next4 s => internal_strconv_formatBase10_l4 next4 s.1 s.2.1 s.2.2) (fun s t => [(0, .slice p0.1 n0 p0.2), (1, .int .u64 s.1), (4, .int .i64 s.2.1)]) (fun s t => [rowV 5 1 (.slice p0.1 n0 p0.2) n0 (s.2.2.map e_u8)]) (fun s t => n0 = s.2.2.length) (a1, (a0.length : Int), a0) () [0] H (by exact hn0) (by exact ⟨rfl, rfl, rfl, trivial⟩) (by decide) rfl ?_
    rintro ⟨x1_3, x4_5, l_5⟩ _ m4 gg H131 hl_5
    clear H
    replace H131 : internal_strconv_formatBase10_l4 (it (fun next4 s => internal_strconv_formatBase10_l4 next4 s.1 s.2.1 s.2.2) m4) x1_3 x4_5 l_5 = some r := H131
    generalize hn4 : it (fun next4 s => internal_strconv_formatBase10_l4 next4 s.1 s.2.1 s.2.2) m4 = next4 at H131
    refine c_tidyF [(0, .slice p0.1 n0 p0.2), (1, .int .u64 x1_3), (4, .int .i64 x4_5)] [rowV 5 1 (.slice p0.1 n0 p0.2) n0 (l_5.map e_u8)] rfl rfl ?_
    refine c_seq ?_
    refine c_seq ?_
    refine c_region ?_
    refine l_val rfl rfl rfl (r_move (v := .int .i64 x4_5) rfl) ?_
    refine l_val rfl rfl rfl (r_geq rfl rfl) ?_
    refine l_nil ?_
    refine c_if (b := (decide (8 ≤ x4_5))) rfl (fun hb => ?_) (fun hb => ?_)
    · have H132 := cnd_t hb H131; clear H131
      refine c_skip ?_
      refine c_block ?_
      refine c_seq ?_
      refine c_region ?_
      refine l_val rfl rfl rfl (r_move (v := .int .u64 x1_3) rfl) ?_
      obtain ⟨t22, h_t22, H133⟩ := bnd_some H132; clear H132
      refine l_val rfl rfl rfl (r_remG rfl rfl h_t22) ?_
      refine l_val rfl rfl rfl (r_convG Tryd.runUnderlying183 Tryd.runUnderlying181 rfl (wr_u32 _)) ?_
      refine l_val rfl rfl rfl (r_assign (v := .int .u32 (wU32 t22)) rfl) ?_
      refine l_nil ?_
      refine c_seq ?_
      refine c_region ?_
      refine l_val rfl rfl rfl (r_move (v := .int .u64 x1_3) rfl) ?_
      obtain ⟨t25, h_t25, H134⟩ := bnd_some H133; clear H133
      refine l_val rfl rfl rfl (r_quoU rfl rfl ⟨rfl, rfl⟩ h_t25) ?_
      refine l_val rfl rfl rfl (r_assign (v := .int .u64 t25) rfl) ?_
      refine l_nil ?_
      refine c_seq ?_
      refine c_region ?_
      refine l_val rfl rfl rfl (r_move (v := .int .u32 (wU32 t22)) rfl) ?_
      obtain ⟨t27, h_t27, H135⟩ := bnd_some H134; clear H134
      refine l_val rfl rfl rfl (r_quoU rfl rfl ⟨rfl, rfl⟩ h_t27) ?_
      refine l_val rfl rfl rfl (r_move (v := .int .u32 (wU32 t22)) rfl) ?_
      obtain ⟨t29, h_t29, H136⟩ := bnd_some H135; clear H135
      refine l_val rfl rfl rfl (r_remG rfl rfl h_t29) ?_
      refine l_val rfl rfl rfl (r_assign (v := .int .u32 t27) rfl) ?_
      refine l_val rfl rfl rfl (r_assign (v := .int .u32 t29) rfl) ?_
      refine l_nil ?_
      refine c_seq ?_
      refine c_region ?_
      refine l_val rfl rfl rfl (r_move (v := .int .u32 t29) rfl) ?_
      obtain ⟨t31, h_t31, H137⟩ := bnd_some H136; clear H136
      refine l_val rfl rfl rfl (r_quoU rfl rfl ⟨rfl, rfl⟩ h_t31) ?_
      refine l_val rfl rfl rfl (r_mulW rfl rfl (wr_u32 _)) ?_
      refine l_val rfl rfl rfl (r_move (v := .int .u32 t29) rfl) ?_
      obtain ⟨t34, h_t34, H138⟩ := bnd_some H137; clear H137
      refine l_val rfl rfl rfl (r_remG rfl rfl h_t34) ?_
      refine l_val rfl rfl rfl (r_mulW rfl rfl (wr_u32 _)) ?_
      refine l_val rfl rfl rfl (r_assign (v := .int .u32 (wU32 (t31 * 2))) rfl) ?_
      refine l_val rfl rfl rfl (r_assign (v := .int .u32 (wU32 (t34 * 2))) rfl) ?_
      refine l_nil ?_
      refine c_seq ?_
      refine c_region ?_
      refine l_val rfl rfl rfl (r_move (v := .int .u32 t27) rfl) ?_
      obtain ⟨t37, h_t37, H139⟩ := bnd_some H138; clear H138
      refine l_val rfl rfl rfl (r_quoU rfl rfl ⟨rfl, rfl⟩ h_t37) ?_
      refine l_val rfl rfl rfl (r_mulW rfl rfl (wr_u32 _)) ?_
      refine l_val rfl rfl rfl (r_move (v := .int .u32 t27) rfl) ?_
      obtain ⟨t40, h_t40, H140⟩ := bnd_some H139; clear H139
      refine l_val rfl rfl rfl (r_remG rfl rfl h_t40) ?_
      refine l_val rfl rfl rfl (r_mulW rfl rfl (wr_u32 _)) ?_
      refine l_val rfl rfl rfl (r_assign (v := .int .u32 (wU32 (t37 * 2))) rfl) ?_
      refine l_val rfl rfl rfl (r_assign (v := .int .u32 (wU32 (t40 * 2))) rfl) ?_
      refine l_nil ?_
      refine c_seq ?_
      exact c_regionD (Kd.p :: Kd.p :: Kd.p :: Kd.p :: Kd.p :: Kd.p :: Kd.p :: Kd.p :: Kd.p :: Kd.p :: Kd.p :: Kd.d [0] _ :: Kd.sr 0 _ :: Kd.d [0] _ :: Kd.sr 0 _ :: []) 0 mixed (by
        refine d_val rfl rfl (r_move (v := .slice p0.1 n0 p0.2) rfl) ?_
        refine d_val rfl rfl (r_move (v := .int .i64 x4_5) rfl) ?_
        have h_t44 := bnd_val H140
        have H141 := bnd_rest H140
        refine d_val rfl rfl (r_subG rfl rfl h_t44) ?_
        refine d_val rfl rfl (r_move (v := .slice p0.1 n0 p0.2) rfl) ?_
        refine d_val rfl rfl (r_move (v := .int .i64 x4_5) rfl) ?_
        have h_t47 := bnd_val H141
        have H142 := bnd_rest H141
        refine d_val rfl rfl (r_subG rfl rfl h_t47) ?_
        refine d_val rfl rfl (r_move (v := .int .u32 (wU32 (t34 * 2))) rfl) ?_
        refine d_val rfl rfl (r_addW rfl rfl (wr_u32 _)) ?_
        have h_t50 := bnd_val H142
        have H143 := bnd_rest H142
        refine d_val rfl rfl (r_octG Tryd.underlying9 rfl rfl h_t50) ?_
        refine d_val rfl rfl (r_move (v := .int .u32 (wU32 (t34 * 2))) rfl) ?_
        have h_t52 := bnd_val H143
        have H144 := bnd_rest H143
        refine d_val rfl rfl (r_octG Tryd.underlying9 rfl rfl h_t52) ?_
        have h_t53 := bnd_val H144
        have H145 := bnd_rest H144
        refine d_readD (fun w L' hF hS hi => run_indexO Tryd.underlying50 Tryd.sizeOf5 rfl rfl (rowOf (i := 0) hS ((hi 0 (by simp)).trans rfl)) hl_5 h_t53) rfl rfl ?_
        have h_l0_8 := bnd_val H145
        have H146 := bnd_rest H145
        refine d_storeG (q := 0) (j := 0) (i := (val (gI (x4_5 - 1)))) (sz := 1) (hm := hl_5) (f := e_u8) (vs := [.int .u8 (val (gOct [48, 48, 48, 49, 48, 50, 48, 51, 48, 52, 48, 53, 48, 54, 48, 55, 48, 56, 48, 57, 49, 48, 49, 49, 49, 50, 49, 51, 49, 52, 49, 53, 49, 54, 49, 55, 49, 56, 49, 57, 50, 48, 50, 49, 50, 50, 50, 51, 50, 52, 50, 53, 50, 54, 50, 55, 50, 56, 50, 57, 51, 48, 51, 49, 51, 50, 51, 51, 51, 52, 51, 53, 51, 54, 51, 55, 51, 56, 51, 57, 52, 48, 52, 49, 52, 50, 52, 51, 52, 52, 52, 53, 52, 54, 52, 55, 52, 56, 52, 57, 53, 48, 53, 49, 53, 50, 53, 51, 53, 52, 53, 53, 53, 54, 53, 55, 53, 56, 53, 57, 54, 48, 54, 49, 54, 50, 54, 51, 54, 52, 54, 53, 54, 54, 54, 55, 54, 56, 54, 57, 55, 48, 55, 49, 55, 50, 55, 51, 55, 52, 55, 53, 55, 54, 55, 55, 55, 56, 55, 57, 56, 48, 56, 49, 56, 50, 56, 51, 56, 52, 56, 53, 56, 54, 56, 55, 56, 56, 56, 57, 57, 48, 57, 49, 57, 50, 57, 51, 57, 52, 57, 53, 57, 54, 57, 55, 57, 56, 57, 57] (wU32 ((wU32 (t34 * 2)) + 1))))]) Tryd.sizeOf5 rfl rfl rfl rfl rfl rfl rfl rfl rfl (fun y_ hy_ => by first | rfl | (cases hy_.symm.trans h_t53; rfl)) h_l0_8 ?_
        have h_t54 := bnd_val H146
        have H147 := bnd_rest H146
        refine d_readD (fun w L' hF hS hi => run_indexO Tryd.underlying50 Tryd.sizeOf5 rfl rfl (rowOf (i := 0) hS ((hi 0 (by simp)).trans rfl)) (gSet_n hl_5 h_l0_8) h_t54) rfl rfl ?_
        have h_l0_9 := bnd_val H147
        have H148 := bnd_rest H147
        refine d_storeG (q := 0) (j := 0) (i := (val (gI (x4_5 - 2)))) (sz := 1) (hm := (gSet_n hl_5 h_l0_8)) (f := e_u8) (vs := [.int .u8 (val (gOct [48, 48, 48, 49, 48, 50, 48, 51, 48, 52, 48, 53, 48, 54, 48, 55, 48, 56, 48, 57, 49, 48, 49, 49, 49, 50, 49, 51, 49, 52, 49, 53, 49, 54, 49, 55, 49, 56, 49, 57, 50, 48, 50, 49, 50, 50, 50, 51, 50, 52, 50, 53, 50, 54, 50, 55, 50, 56, 50, 57, 51, 48, 51, 49, 51, 50, 51, 51, 51, 52, 51, 53, 51, 54, 51, 55, 51, 56, 51, 57, 52, 48, 52, 49, 52, 50, 52, 51, 52, 52, 52, 53, 52, 54, 52, 55, 52, 56, 52, 57, 53, 48, 53, 49, 53, 50, 53, 51, 53, 52, 53, 53, 53, 54, 53, 55, 53, 56, 53, 57, 54, 48, 54, 49, 54, 50, 54, 51, 54, 52, 54, 53, 54, 54, 54, 55, 54, 56, 54, 57, 55, 48, 55, 49, 55, 50, 55, 51, 55, 52, 55, 53, 55, 54, 55, 55, 55, 56, 55, 57, 56, 48, 56, 49, 56, 50, 56, 51, 56, 52, 56, 53, 56, 54, 56, 55, 56, 56, 56, 57, 57, 48, 57, 49, 57, 50, 57, 51, 57, 52, 57, 53, 57, 54, 57, 55, 57, 56, 57, 57] (wU32 (t34 * 2))))]) Tryd.sizeOf5 rfl rfl rfl rfl rfl rfl rfl rfl rfl (fun y_ hy_ => by first | rfl | (cases hy_.symm.trans h_t54; rfl)) h_l0_9 ?_
        refine d_nil ?_
        refine c_seq ?_
        exact c_regionD (Kd.p :: Kd.p :: Kd.p :: Kd.p :: Kd.p :: Kd.p :: Kd.p :: Kd.p :: Kd.p :: Kd.p :: Kd.p :: Kd.d [0] _ :: Kd.sr 0 _ :: Kd.d [0] _ :: Kd.sr 0 _ :: []) 0 mixed (by
          refine d_val rfl rfl (r_move (v := .slice p0.1 n0 p0.2) rfl) ?_
          refine d_val rfl rfl (r_move (v := .int .i64 x4_5) rfl) ?_
          have h_t57 := bnd_val H148
          have H149 := bnd_rest H148
          refine d_val rfl rfl (r_subG rfl rfl h_t57) ?_
          refine d_val rfl rfl (r_move (v := .slice p0.1 n0 p0.2) rfl) ?_
          refine d_val rfl rfl (r_move (v := .int .i64 x4_5) rfl) ?_
          have h_t60 := bnd_val H149
          have H150 := bnd_rest H149
          refine d_val rfl rfl (r_subG rfl rfl h_t60) ?_
          refine d_val rfl rfl (r_move (v := .int .u32 (wU32 (t31 * 2))) rfl) ?_
          refine d_val rfl rfl (r_addW rfl rfl (wr_u32 _)) ?_
          have h_t63 := bnd_val H150
          have H151 := bnd_rest H150
          refine d_val rfl rfl (r_octG Tryd.underlying9 rfl rfl h_t63) ?_
          refine d_val rfl rfl (r_move (v := .int .u32 (wU32 (t31 * 2))) rfl) ?_
          have h_t65 := bnd_val H151
          have H152 := bnd_rest H151
          refine d_val rfl rfl (r_octG Tryd.underlying9 rfl rfl h_t65) ?_
          have h_t66 := bnd_val H152
          have H153 := bnd_rest H152
          refine d_readD (fun w L' hF hS hi => run_indexO Tryd.underlying50 Tryd.sizeOf5 rfl rfl (rowOf (i := 0) hS ((hi 0 (by simp)).trans rfl)) (gSet_n (gSet_n hl_5 h_l0_8) h_l0_9) h_t66) rfl rfl ?_
          have h_l0_10 := bnd_val H153
          have H154 := bnd_rest H153
          refine d_storeG (q := 0) (j := 0) (i := (val (gI (x4_5 - 3)))) (sz := 1) (hm := (gSet_n (gSet_n hl_5 h_l0_8) h_l0_9)) (f := e_u8) (vs := [.int .u8 (val (gOct [48, 48, 48, 49, 48, 50, 48, 51, 48, 52, 48, 53, 48, 54, 48, 55, 48, 56, 48, 57, 49, 48, 49, 49, 49, 50, 49, 51, 49, 52, 49, 53, 49, 54, 49, 55, 49, 56, 49, 57, 50, 48, 50, 49, 50, 50, 50, 51, 50, 52, 50, 53, 50, 54, 50, 55, 50, 56, 50, 57, 51, 48, 51, 49, 51, 50, 51, 51, 51, 52, 51, 53, 51, 54, 51, 55, 51, 56, 51, 57, 52, 48, 52, 49, 52, 50, 52, 51, 52, 52, 52, 53, 52, 54, 52, 55, 52, 56, 52, 57, 53, 48, 53, 49, 53, 50, 53, 51, 53, 52, 53, 53, 53, 54, 53, 55, 53, 56, 53, 57, 54, 48, 54, 49, 54, 50, 54, 51, 54, 52, 54, 53, 54, 54, 54, 55, 54, 56, 54, 57, 55, 48, 55, 49, 55, 50, 55, 51, 55, 52, 55, 53, 55, 54, 55, 55, 55, 56, 55, 57, 56, 48, 56, 49, 56, 50, 56, 51, 56, 52, 56, 53, 56, 54, 56, 55, 56, 56, 56, 57, 57, 48, 57, 49, 57, 50, 57, 51, 57, 52, 57, 53, 57, 54, 57, 55, 57, 56, 57, 57] (wU32 ((wU32 (t31 * 2)) + 1))))]) Tryd.sizeOf5 rfl rfl rfl rfl rfl rfl rfl rfl rfl (fun y_ hy_ => by first | rfl | (cases hy_.symm.trans h_t66; rfl)) h_l0_10 ?_
          have h_t67 := bnd_val H154
          have H155 := bnd_rest H154
          refine d_readD (fun w L' hF hS hi => run_indexO Tryd.underlying50 Tryd.sizeOf5 rfl rfl (rowOf (i := 0) hS ((hi 0 (by simp)).trans rfl)) (gSet_n (gSet_n (gSet_n hl_5 h_l0_8) h_l0_9) h_l0_10) h_t67) rfl rfl ?_
          have h_l0_11 := bnd_val H155
          have H156 := bnd_rest H155
          refine d_storeG (q := 0) (j := 0) (i := (val (gI (x4_5 - 4)))) (sz := 1) (hm := (gSet_n (gSet_n (gSet_n hl_5 h_l0_8) h_l0_9) h_l0_10)) (f := e_u8) (vs := [.int .u8 (val (gOct [48, 48, 48, 49, 48, 50, 48, 51, 48, 52, 48, 53, 48, 54, 48, 55, 48, 56, 48, 57, 49, 48, 49, 49, 49, 50, 49, 51, 49, 52, 49, 53, 49, 54, 49, 55, 49, 56, 49, 57, 50, 48, 50, 49, 50, 50, 50, 51, 50, 52, 50, 53, 50, 54, 50, 55, 50, 56, 50, 57, 51, 48, 51, 49, 51, 50, 51, 51, 51, 52, 51, 53, 51, 54, 51, 55, 51, 56, 51, 57, 52, 48, 52, 49, 52, 50, 52, 51, 52, 52, 52, 53, 52, 54, 52, 55, 52, 56, 52, 57, 53, 48, 53, 49, 53, 50, 53, 51, 53, 52, 53, 53, 53, 54, 53, 55, 53, 56, 53, 57, 54, 48, 54, 49, 54, 50, 54, 51, 54, 52, 54, 53, 54, 54, 54, 55, 54, 56, 54, 57, 55, 48, 55, 49, 55, 50, 55, 51, 55, 52, 55, 53, 55, 54, 55, 55, 55, 56, 55, 57, 56, 48, 56, 49, 56, 50, 56, 51, 56, 52, 56, 53, 56, 54, 56, 55, 56, 56, 56, 57, 57, 48, 57, 49, 57, 50, 57, 51, 57, 52, 57, 53, 57, 54, 57, 55, 57, 56, 57, 57] (wU32 (t31 * 2))))]) Tryd.sizeOf5 rfl rfl rfl rfl rfl rfl rfl rfl rfl (fun y_ hy_ => by first | rfl | (cases hy_.symm.trans h_t67; rfl)) h_l0_11 ?_
          refine d_nil ?_
          refine c_seq ?_
          exact c_regionD (Kd.p :: Kd.p :: Kd.p :: Kd.p :: Kd.p :: Kd.p :: Kd.p :: Kd.p :: Kd.p :: Kd.p :: Kd.p :: Kd.d [0] _ :: Kd.sr 0 _ :: Kd.d [0] _ :: Kd.sr 0 _ :: []) 0 mixed (by
            refine d_val rfl rfl (r_move (v := .slice p0.1 n0 p0.2) rfl) ?_
            refine d_val rfl rfl (r_move (v := .int .i64 x4_5) rfl) ?_
            have h_t70 := bnd_val H156
            have H157 := bnd_rest H156
            refine d_val rfl rfl (r_subG rfl rfl h_t70) ?_
            refine d_val rfl rfl (r_move (v := .slice p0.1 n0 p0.2) rfl) ?_
            refine d_val rfl rfl (r_move (v := .int .i64 x4_5) rfl) ?_
            have h_t73 := bnd_val H157
            have H158 := bnd_rest H157
            refine d_val rfl rfl (r_subG rfl rfl h_t73) ?_
            refine d_val rfl rfl (r_move (v := .int .u32 (wU32 (t40 * 2))) rfl) ?_
            refine d_val rfl rfl (r_addW rfl rfl (wr_u32 _)) ?_
            have h_t76 := bnd_val H158
            have H159 := bnd_rest H158
            refine d_val rfl rfl (r_octG Tryd.underlying9 rfl rfl h_t76) ?_
            refine d_val rfl rfl (r_move (v := .int .u32 (wU32 (t40 * 2))) rfl) ?_
            have h_t78 := bnd_val H159
            have H160 := bnd_rest H159
            refine d_val rfl rfl (r_octG Tryd.underlying9 rfl rfl h_t78) ?_
            have h_t79 := bnd_val H160
            have H161 := bnd_rest H160
            refine d_readD (fun w L' hF hS hi => run_indexO Tryd.underlying50 Tryd.sizeOf5 rfl rfl (rowOf (i := 0) hS ((hi 0 (by simp)).trans rfl)) (gSet_n (gSet_n (gSet_n (gSet_n hl_5 h_l0_8) h_l0_9) h_l0_10) h_l0_11) h_t79) rfl rfl ?_
            have h_l0_12 := bnd_val H161
            have H162 := bnd_rest H161
            refine d_storeG (q := 0) (j := 0) (i := (val (gI (x4_5 - 5)))) (sz := 1) (hm := (gSet_n (gSet_n (gSet_n (gSet_n hl_5 h_l0_8) h_l0_9) h_l0_10) h_l0_11)) (f := e_u8) (vs := [.int .u8 (val (gOct [48, 48, 48, 49, 48, 50, 48, 51, 48, 52, 48, 53, 48, 54, 48, 55, 48, 56, 48, 57, 49, 48, 49, 49, 49, 50, 49, 51, 49, 52, 49, 53, 49, 54, 49, 55, 49, 56, 49, 57, 50, 48, 50, 49, 50, 50, 50, 51, 50, 52, 50, 53, 50, 54, 50, 55, 50, 56, 50, 57, 51, 48, 51, 49, 51, 50, 51, 51, 51, 52, 51, 53, 51, 54, 51, 55, 51, 56, 51, 57, 52, 48, 52, 49, 52, 50, 52, 51, 52, 52, 52, 53, 52, 54, 52, 55, 52, 56, 52, 57, 53, 48, 53, 49, 53, 50, 53, 51, 53, 52, 53, 53, 53, 54, 53, 55, 53, 56, 53, 57, 54, 48, 54, 49, 54, 50, 54, 51, 54, 52, 54, 53, 54, 54, 54, 55, 54, 56, 54, 57, 55, 48, 55, 49, 55, 50, 55, 51, 55, 52, 55, 53, 55, 54, 55, 55, 55, 56, 55, 57, 56, 48, 56, 49, 56, 50, 56, 51, 56, 52, 56, 53, 56, 54, 56, 55, 56, 56, 56, 57, 57, 48, 57, 49, 57, 50, 57, 51, 57, 52, 57, 53, 57, 54, 57, 55, 57, 56, 57, 57] (wU32 ((wU32 (t40 * 2)) + 1))))]) Tryd.sizeOf5 rfl rfl rfl rfl rfl rfl rfl rfl rfl (fun y_ hy_ => by first | rfl | (cases hy_.symm.trans h_t79; rfl)) h_l0_12 ?_
            have h_t80 := bnd_val H162
            have H163 := bnd_rest H162
            refine d_readD (fun w L' hF hS hi => run_indexO Tryd.underlying50 Tryd.sizeOf5 rfl rfl (rowOf (i := 0) hS ((hi 0 (by simp)).trans rfl)) (gSet_n (gSet_n (gSet_n (gSet_n (gSet_n hl_5 h_l0_8) h_l0_9) h_l0_10) h_l0_11) h_l0_12) h_t80) rfl rfl ?_
            have h_l0_13 := bnd_val H163
            have H164 := bnd_rest H163
            refine d_storeG (q := 0) (j := 0) (i := (val (gI (x4_5 - 6)))) (sz := 1) (hm := (gSet_n (gSet_n (gSet_n (gSet_n (gSet_n hl_5 h_l0_8) h_l0_9) h_l0_10) h_l0_11) h_l0_12)) (f := e_u8) (vs := [.int .u8 (val (gOct [48, 48, 48, 49, 48, 50, 48, 51, 48, 52, 48, 53, 48, 54, 48, 55, 48, 56, 48, 57, 49, 48, 49, 49, 49, 50, 49, 51, 49, 52, 49, 53, 49, 54, 49, 55, 49, 56, 49, 57, 50, 48, 50, 49, 50, 50, 50, 51, 50, 52, 50, 53, 50, 54, 50, 55, 50, 56, 50, 57, 51, 48, 51, 49, 51, 50, 51, 51, 51, 52, 51, 53, 51, 54, 51, 55, 51, 56, 51, 57, 52, 48, 52, 49, 52, 50, 52, 51, 52, 52, 52, 53, 52, 54, 52, 55, 52, 56, 52, 57, 53, 48, 53, 49, 53, 50, 53, 51, 53, 52, 53, 53, 53, 54, 53, 55, 53, 56, 53, 57, 54, 48, 54, 49, 54, 50, 54, 51, 54, 52, 54, 53, 54, 54, 54, 55, 54, 56, 54, 57, 55, 48, 55, 49, 55, 50, 55, 51, 55, 52, 55, 53, 55, 54, 55, 55, 55, 56, 55, 57, 56, 48, 56, 49, 56, 50, 56, 51, 56, 52, 56, 53, 56, 54, 56, 55, 56, 56, 56, 57, 57, 48, 57, 49, 57, 50, 57, 51, 57, 52, 57, 53, 57, 54, 57, 55, 57, 56, 57, 57] (wU32 (t40 * 2))))]) Tryd.sizeOf5 rfl rfl rfl rfl rfl rfl rfl rfl rfl (fun y_ hy_ => by first | rfl | (cases hy_.symm.trans h_t80; rfl)) h_l0_13 ?_
            refine d_nil ?_
            refine c_seq ?_
            exact c_regionD (Kd.p :: Kd.p :: Kd.p :: Kd.p :: Kd.p :: Kd.p :: Kd.p :: Kd.p :: Kd.p :: Kd.p :: Kd.p :: Kd.d [0] _ :: Kd.sr 0 _ :: Kd.d [0] _ :: Kd.sr 0 _ :: []) 0 mixed (by
              refine d_val rfl rfl (r_move (v := .slice p0.1 n0 p0.2) rfl) ?_
              refine d_val rfl rfl (r_move (v := .int .i64 x4_5) rfl) ?_
              have h_t83 := bnd_val H164
              have H165 := bnd_rest H164
              refine d_val rfl rfl (r_subG rfl rfl h_t83) ?_
              refine d_val rfl rfl (r_move (v := .slice p0.1 n0 p0.2) rfl) ?_
              refine d_val rfl rfl (r_move (v := .int .i64 x4_5) rfl) ?_
              have h_t86 := bnd_val H165
              have H166 := bnd_rest H165
              refine d_val rfl rfl (r_subG rfl rfl h_t86) ?_
              refine d_val rfl rfl (r_move (v := .int .u32 (wU32 (t37 * 2))) rfl) ?_
              refine d_val rfl rfl (r_addW rfl rfl (wr_u32 _)) ?_
              have h_t89 := bnd_val H166
              have H167 := bnd_rest H166
              refine d_val rfl rfl (r_octG Tryd.underlying9 rfl rfl h_t89) ?_
              refine d_val rfl rfl (r_move (v := .int .u32 (wU32 (t37 * 2))) rfl) ?_
              have h_t91 := bnd_val H167
              have H168 := bnd_rest H167
              refine d_val rfl rfl (r_octG Tryd.underlying9 rfl rfl h_t91) ?_
              have h_t92 := bnd_val H168
              have H169 := bnd_rest H168
              refine d_readD (fun w L' hF hS hi => run_indexO Tryd.underlying50 Tryd.sizeOf5 rfl rfl (rowOf (i := 0) hS ((hi 0 (by simp)).trans rfl)) (gSet_n (gSet_n (gSet_n (gSet_n (gSet_n (gSet_n hl_5 h_l0_8) h_l0_9) h_l0_10) h_l0_11) h_l0_12) h_l0_13) h_t92) rfl rfl ?_
              have h_l0_14 := bnd_val H169
              have H170 := bnd_rest H169
              refine d_storeG (q := 0) (j := 0) (i := (val (gI (x4_5 - 7)))) (sz := 1) (hm := (gSet_n (gSet_n (gSet_n (gSet_n (gSet_n (gSet_n hl_5 h_l0_8) h_l0_9) h_l0_10) h_l0_11) h_l0_12) h_l0_13)) (f := e_u8) (vs := [.int .u8 (val (gOct [48, 48, 48, 49, 48, 50, 48, 51, 48, 52, 48, 53, 48, 54, 48, 55, 48, 56, 48, 57, 49, 48, 49, 49, 49, 50, 49, 51, 49, 52, 49, 53, 49, 54, 49, 55, 49, 56, 49, 57, 50, 48, 50, 49, 50, 50, 50, 51, 50, 52, 50, 53, 50, 54, 50, 55, 50, 56, 50, 57, 51, 48, 51, 49, 51, 50, 51, 51, 51, 52, 51, 53, 51, 54, 51, 55, 51, 56, 51, 57, 52, 48, 52, 49, 52, 50, 52, 51, 52, 52, 52, 53, 52, 54, 52, 55, 52, 56, 52, 57, 53, 48, 53, 49, 53, 50, 53, 51, 53, 52, 53, 53, 53, 54, 53, 55, 53, 56, 53, 57, 54, 48, 54, 49, 54, 50, 54, 51, 54, 52, 54, 53, 54, 54, 54, 55, 54, 56, 54, 57, 55, 48, 55, 49, 55, 50, 55, 51, 55, 52, 55, 53, 55, 54, 55, 55, 55, 56, 55, 57, 56, 48, 56, 49, 56, 50, 56, 51, 56, 52, 56, 53, 56, 54, 56, 55, 56, 56, 56, 57, 57, 48, 57, 49, 57, 50, 57, 51, 57, 52, 57, 53, 57, 54, 57, 55, 57, 56, 57, 57] (wU32 ((wU32 (t37 * 2)) + 1))))]) Tryd.sizeOf5 rfl rfl rfl rfl rfl rfl rfl rfl rfl (fun y_ hy_ => by first | rfl | (cases hy_.symm.trans h_t92; rfl)) h_l0_14 ?_
              have h_t93 := bnd_val H170
              have H171 := bnd_rest H170
              refine d_readD (fun w L' hF hS hi => run_indexO Tryd.underlying50 Tryd.sizeOf5 rfl rfl (rowOf (i := 0) hS ((hi 0 (by simp)).trans rfl)) (gSet_n (gSet_n (gSet_n (gSet_n (gSet_n (gSet_n (gSet_n hl_5 h_l0_8) h_l0_9) h_l0_10) h_l0_11) h_l0_12) h_l0_13) h_l0_14) h_t93) rfl rfl ?_
              have h_l0_15 := bnd_val H171
              have H172 := bnd_rest H171
              refine d_storeG (q := 0) (j := 0) (i := (val (gI (x4_5 - 8)))) (sz := 1) (hm := (gSet_n (gSet_n (gSet_n (gSet_n (gSet_n (gSet_n (gSet_n hl_5 h_l0_8) h_l0_9) h_l0_10) h_l0_11) h_l0_12) h_l0_13) h_l0_14)) (f := e_u8) (vs := [.int .u8 (val (gOct [48, 48, 48, 49, 48, 50, 48, 51, 48, 52, 48, 53, 48, 54, 48, 55, 48, 56, 48, 57, 49, 48, 49, 49, 49, 50, 49, 51, 49, 52, 49, 53, 49, 54, 49, 55, 49, 56, 49, 57, 50, 48, 50, 49, 50, 50, 50, 51, 50, 52, 50, 53, 50, 54, 50, 55, 50, 56, 50, 57, 51, 48, 51, 49, 51, 50, 51, 51, 51, 52, 51, 53, 51, 54, 51, 55, 51, 56, 51, 57, 52, 48, 52, 49, 52, 50, 52, 51, 52, 52, 52, 53, 52, 54, 52, 55, 52, 56, 52, 57, 53, 48, 53, 49, 53, 50, 53, 51, 53, 52, 53, 53, 53, 54, 53, 55, 53, 56, 53, 57, 54, 48, 54, 49, 54, 50, 54, 51, 54, 52, 54, 53, 54, 54, 54, 55, 54, 56, 54, 57, 55, 48, 55, 49, 55, 50, 55, 51, 55, 52, 55, 53, 55, 54, 55, 55, 55, 56, 55, 57, 56, 48, 56, 49, 56, 50, 56, 51, 56, 52, 56, 53, 56, 54, 56, 55, 56, 56, 56, 57, 57, 48, 57, 49, 57, 50, 57, 51, 57, 52, 57, 53, 57, 54, 57, 55, 57, 56, 57, 57] (wU32 (t37 * 2))))]) Tryd.sizeOf5 rfl rfl rfl rfl rfl rfl rfl rfl rfl (fun y_ hy_ => by first | rfl | (cases hy_.symm.trans h_t93; rfl)) h_l0_15 ?_
              refine d_nil ?_
              refine c_region ?_
              refine l_val rfl rfl rfl (r_move (v := .int .i64 x4_5) rfl) ?_
              obtain ⟨t95, h_t95, H173⟩ := bnd_some H172; clear H172
              refine l_val rfl rfl rfl (r_subG rfl rfl h_t95) ?_
              refine l_val rfl rfl rfl (r_assign (v := .int .i64 t95) rfl) ?_
              refine l_nil ?_
              refine c_close (t25, t95, (val (gSet (val (gSet (val (gSet (val (gSet (val (gSet (val (gSet (val (gSet (val (gSet l_5 (val (gI (x4_5 - 1))) (val (gOct [48, 48, 48, 49, 48, 50, 48, 51, 48, 52, 48, 53, 48, 54, 48, 55, 48, 56, 48, 57, 49, 48, 49, 49, 49, 50, 49, 51, 49, 52, 49, 53, 49, 54, 49, 55, 49, 56, 49, 57, 50, 48, 50, 49, 50, 50, 50, 51, 50, 52, 50, 53, 50, 54, 50, 55, 50, 56, 50, 57, 51, 48, 51, 49, 51, 50, 51, 51, 51, 52, 51, 53, 51, 54, 51, 55, 51, 56, 51, 57, 52, 48, 52, 49, 52, 50, 52, 51, 52, 52, 52, 53, 52, 54, 52, 55, 52, 56, 52, 57, 53, 48, 53, 49, 53, 50, 53, 51, 53, 52, 53, 53, 53, 54, 53, 55, 53, 56, 53, 57, 54, 48, 54, 49, 54, 50, 54, 51, 54, 52, 54, 53, 54, 54, 54, 55, 54, 56, 54, 57, 55, 48, 55, 49, 55, 50, 55, 51, 55, 52, 55, 53, 55, 54, 55, 55, 55, 56, 55, 57, 56, 48, 56, 49, 56, 50, 56, 51, 56, 52, 56, 53, 56, 54, 56, 55, 56, 56, 56, 57, 57, 48, 57, 49, 57, 50, 57, 51, 57, 52, 57, 53, 57, 54, 57, 55, 57, 56, 57, 57] (wU32 ((wU32 (t34 * 2)) + 1)))))) (val (gI (x4_5 - 2))) (val (gOct [48, 48, 48, 49, 48, 50, 48, 51, 48, 52, 48, 53, 48, 54, 48, 55, 48, 56, 48, 57, 49, 48, 49, 49, 49, 50, 49, 51, 49, 52, 49, 53, 49, 54, 49, 55, 49, 56, 49, 57, 50, 48, 50, 49, 50, 50, 50, 51, 50, 52, 50, 53, 50, 54, 50, 55, 50, 56, 50, 57, 51, 48, 51, 49, 51, 50, 51, 51, 51, 52, 51, 53, 51, 54, 51, 55, 51, 56, 51, 57, 52, 48, 52, 49, 52, 50, 52, 51, 52, 52, 52, 53, 52, 54, 52, 55, 52, 56, 52, 57, 53, 48, 53, 49, 53, 50, 53, 51, 53, 52, 53, 53, 53, 54, 53, 55, 53, 56, 53, 57, 54, 48, 54, 49, 54, 50, 54, 51, 54, 52, 54, 53, 54, 54, 54, 55, 54, 56, 54, 57, 55, 48, 55, 49, 55, 50, 55, 51, 55, 52, 55, 53, 55, 54, 55, 55, 55, 56, 55, 57, 56, 48, 56, 49, 56, 50, 56, 51, 56, 52, 56, 53, 56, 54, 56, 55, 56, 56, 56, 57, 57, 48, 57, 49, 57, 50, 57, 51, 57, 52, 57, 53, 57, 54, 57, 55, 57, 56, 57, 57] (wU32 (t34 * 2)))))) (val (gI (x4_5 - 3))) (val (gOct [48, 48, 48, 49, 48, 50, 48, 51, 48, 52, 48, 53, 48, 54, 48, 55, 48, 56, 48, 57, 49, 48, 49, 49, 49, 50, 49, 51, 49, 52, 49, 53, 49, 54, 49, 55, 49, 56, 49, 57, 50, 48, 50, 49, 50, 50, 50, 51, 50, 52, 50, 53, 50, 54, 50, 55, 50, 56, 50, 57, 51, 48, 51, 49, 51, 50, 51, 51, 51, 52, 51, 53, 51, 54, 51, 55, 51, 56, 51, 57, 52, 48, 52, 49, 52, 50, 52, 51, 52, 52, 52, 53, 52, 54, 52, 55, 52, 56, 52, 57, 53, 48, 53, 49, 53, 50, 53, 51, 53, 52, 53, 53, 53, 54, 53, 55, 53, 56, 53, 57, 54, 48, 54, 49, 54, 50, 54, 51, 54, 52, 54, 53, 54, 54, 54, 55, 54, 56, 54, 57, 55, 48, 55, 49, 55, 50, 55, 51, 55, 52, 55, 53, 55, 54, 55, 55, 55, 56, 55, 57, 56, 48, 56, 49, 56, 50, 56, 51, 56, 52, 56, 53, 56, 54, 56, 55, 56, 56, 56, 57, 57, 48, 57, 49, 57, 50, 57, 51, 57, 52, 57, 53, 57, 54, 57, 55, 57, 56, 57, 57] (wU32 ((wU32 (t31 * 2)) + 1)))))) (val (gI (x4_5 - 4))) (val (gOct [48, 48, 48, 49, 48, 50, 48, 51, 48, 52, 48, 53, 48, 54, 48, 55, 48, 56, 48, 57, 49, 48, 49, 49, 49, 50, 49, 51, 49, 52, 49, 53, 49, 54, 49, 55, 49, 56, 49, 57, 50, 48, 50, 49, 50, 50, 50, 51, 50, 52, 50, 53, 50, 54, 50, 55, 50, 56, 50, 57, 51, 48, 51, 49, 51, 50, 51, 51, 51, 52, 51, 53, 51, 54, 51, 55, 51, 56, 51, 57, 52, 48, 52, 49, 52, 50, 52, 51, 52, 52, 52, 53, 52, 54, 52, 55, 52, 56, 52, 57, 53, 48, 53, 49, 53, 50, 53, 51, 53, 52, 53, 53, 53, 54, 53, 55, 53, 56, 53, 57, 54, 48, 54, 49, 54, 50, 54, 51, 54, 52, 54, 53, 54, 54, 54, 55, 54, 56, 54, 57, 55, 48, 55, 49, 55, 50, 55, 51, 55, 52, 55, 53, 55, 54, 55, 55, 55, 56, 55, 57, 56, 48, 56, 49, 56, 50, 56, 51, 56, 52, 56, 53, 56, 54, 56, 55, 56, 56, 56, 57, 57, 48, 57, 49, 57, 50, 57, 51, 57, 52, 57, 53, 57, 54, 57, 55, 57, 56, 57, 57] (wU32 (t31 * 2)))))) (val (gI (x4_5 - 5))) (val (gOct [48, 48, 48, 49, 48, 50, 48, 51, 48, 52, 48, 53, 48, 54, 48, 55, 48, 56, 48, 57, 49, 48, 49, 49, 49, 50, 49, 51, 49, 52, 49, 53, 49, 54, 49, 55, 49, 56, 49, 57, 50, 48, 50, 49, 50, 50, 50, 51, 50, 52, 50, 53, 50, 54, 50, 55, 50, 56, 50, 57, 51, 48, 51, 49, 51, 50, 51, 51, 51, 52, 51, 53, 51, 54, 51, 55, 51, 56, 51, 57, 52, 48, 52, 49, 52, 50, 52, 51, 52, 52, 52, 53, 52, 54, 52, 55, 52, 56, 52, 57, 53, 48, 53, 49, 53, 50, 53, 51, 53, 52, 53, 53, 53, 54, 53, 55, 53, 56, 53, 57, 54, 48, 54, 49, 54, 50, 54, 51, 54, 52, 54, 53, 54, 54, 54, 55, 54, 56, 54, 57, 55, 48, 55, 49, 55, 50, 55, 51, 55, 52, 55, 53, 55, 54, 55, 55, 55, 56, 55, 57, 56, 48, 56, 49, 56, 50, 56, 51, 56, 52, 56, 53, 56, 54, 56, 55, 56, 56, 56, 57, 57, 48, 57, 49, 57, 50, 57, 51, 57, 52, 57, 53, 57, 54, 57, 55, 57, 56, 57, 57] (wU32 ((wU32 (t40 * 2)) + 1)))))) (val (gI (x4_5 - 6))) (val (gOct [48, 48, 48, 49, 48, 50, 48, 51, 48, 52, 48, 53, 48, 54, 48, 55, 48, 56, 48, 57, 49, 48, 49, 49, 49, 50, 49, 51, 49, 52, 49, 53, 49, 54, 49, 55, 49, 56, 49, 57, 50, 48, 50, 49, 50, 50, 50, 51, 50, 52, 50, 53, 50, 54, 50, 55, 50, 56, 50, 57, 51, 48, 51, 49, 51, 50, 51, 51, 51, 52, 51, 53, 51, 54, 51, 55, 51, 56, 51, 57, 52, 48, 52, 49, 52, 50, 52, 51, 52, 52, 52, 53, 52, 54, 52, 55, 52, 56, 52, 57, 53, 48, 53, 49, 53, 50, 53, 51, 53, 52, 53, 53, 53, 54, 53, 55, 53, 56, 53, 57, 54, 48, 54, 49, 54, 50, 54, 51, 54, 52, 54, 53, 54, 54, 54, 55, 54, 56, 54, 57, 55, 48, 55, 49, 55, 50, 55, 51, 55, 52, 55, 53, 55, 54, 55, 55, 55, 56, 55, 57, 56, 48, 56, 49, 56, 50, 56, 51, 56, 52, 56, 53, 56, 54, 56, 55, 56, 56, 56, 57, 57, 48, 57, 49, 57, 50, 57, 51, 57, 52, 57, 53, 57, 54, 57, 55, 57, 56, 57, 57] (wU32 (t40 * 2)))))) (val (gI (x4_5 - 7))) (val (gOct [48, 48, 48, 49, 48, 50, 48, 51, 48, 52, 48, 53, 48, 54, 48, 55, 48, 56, 48, 57, 49, 48, 49, 49, 49, 50, 49, 51, 49, 52, 49, 53, 49, 54, 49, 55, 49, 56, 49, 57, 50, 48, 50, 49, 50, 50, 50, 51, 50, 52, 50, 53, 50, 54, 50, 55, 50, 56, 50, 57, 51, 48, 51, 49, 51, 50, 51, 51, 51, 52, 51, 53, 51, 54, 51, 55, 51, 56, 51, 57, 52, 48, 52, 49, 52, 50, 52, 51, 52, 52, 52, 53, 52, 54, 52, 55, 52, 56, 52, 57, 53, 48, 53, 49, 53, 50, 53, 51, 53, 52, 53, 53, 53, 54, 53, 55, 53, 56, 53, 57, 54, 48, 54, 49, 54, 50, 54, 51, 54, 52, 54, 53, 54, 54, 54, 55, 54, 56, 54, 57, 55, 48, 55, 49, 55, 50, 55, 51, 55, 52, 55, 53, 55, 54, 55, 55, 55, 56, 55, 57, 56, 48, 56, 49, 56, 50, 56, 51, 56, 52, 56, 53, 56, 54, 56, 55, 56, 56, 56, 57, 57, 48, 57, 49, 57, 50, 57, 51, 57, 52, 57, 53, 57, 54, 57, 55, 57, 56, 57, 57] (wU32 ((wU32 (t37 * 2)) + 1)))))) (val (gI (x4_5 - 8))) (val (gOct [48, 48, 48, 49, 48, 50, 48, 51, 48, 52, 48, 53, 48, 54, 48, 55, 48, 56, 48, 57, 49, 48, 49, 49, 49, 50, 49, 51, 49, 52, 49, 53, 49, 54, 49, 55, 49, 56, 49, 57, 50, 48, 50, 49, 50, 50, 50, 51, 50, 52, 50, 53, 50, 54, 50, 55, 50, 56, 50, 57, 51, 48, 51, 49, 51, 50, 51, 51, 51, 52, 51, 53, 51, 54, 51, 55, 51, 56, 51, 57, 52, 48, 52, 49, 52, 50, 52, 51, 52, 52, 52, 53, 52, 54, 52, 55, 52, 56, 52, 57, 53, 48, 53, 49, 53, 50, 53, 51, 53, 52, 53, 53, 53, 54, 53, 55, 53, 56, 53, 57, 54, 48, 54, 49, 54, 50, 54, 51, 54, 52, 54, 53, 54, 54, 54, 55, 54, 56, 54, 57, 55, 48, 55, 49, 55, 50, 55, 51, 55, 52, 55, 53, 55, 54, 55, 55, 55, 56, 55, 57, 56, 48, 56, 49, 56, 50, 56, 51, 56, 52, 56, 53, 56, 54, 56, 55, 56, 56, 56, 57, 57, 48, 57, 49, 57, 50, 57, 51, 57, 52, 57, 53, 57, 54, 57, 55, 57, 56, 57, 57] (wU32 (t37 * 2))))))) () m4 [0] (by exact ⟨rfl, rfl, rfl, trivial⟩) (by decide) rfl (by exact ⟨(by subst hn4; exact H173), (gSet_n (gSet_n (gSet_n (gSet_n (gSet_n (gSet_n (gSet_n (gSet_n hl_5 h_l0_8) h_l0_9) h_l0_10) h_l0_11) h_l0_12) h_l0_13) h_l0_14) h_l0_15)⟩) (Nat.lt_succ_self _)
              ) (by kernel_rfl)
            ) (by kernel_rfl)
          ) (by kernel_rfl)
        ) (by kernel_rfl)
    · have H174 := cnd_f hb H131; clear H131
      refine c_exit ?_
      refine c_close (x1_3, x4_5, l_5) () 0 [0] (by exact ⟨rfl, rfl, rfl, trivial⟩) (by decide) rfl (by exact ⟨H174, hl_5⟩) (Nat.lt_succ_self _)
  · rintro ⟨x1, x4, l⟩ _ gg H88 hl
    replace H88 : internal_strconv_formatBase10_j1 x1 x4 l = some r := H88
    refine c_tidyF [(0, .slice p0.1 n0 p0.2), (1, .int .u64 x1), (4, .int .i64 x4)] [rowV 5 1 (.slice p0.1 n0 p0.2) n0 (l.map e_u8)] rfl rfl ?_
    refine c_seq ?_
    refine c_region ?_
    refine l_val rfl rfl rfl (r_move (v := .int .u64 x1) rfl) ?_
    refine l_val rfl rfl rfl (r_convG Tryd.runUnderlying183 Tryd.runUnderlying181 rfl (wr_u32 _)) ?_
    refine l_val rfl rfl rfl (r_assign (v := .int .u32 (wU32 x1)) rfl) ?_
    refine l_nil ?_
    refine c_meet (r := r) (σ := Int × Int × (List Int)) (τ := Unit) (fun s => internal_strconv_formatBase10_j2 s.1 s.2.1 s.2.2) (fun s t => [(0, .slice p0.1 n0 p0.2), (4, .int .i64 s.1), (12, .int .u32 s.2.1)]) (fun s t => [rowV 5 1 (.slice p0.1 n0 p0.2) n0 (s.2.2.map e_u8)]) (fun s t => n0 = s.2.2.length) ?_ ?_
    · refine c_seq ?_
      refine c_region ?_
      refine l_val rfl rfl rfl (r_move (v := .int .i64 x4) rfl) ?_
      refine l_val rfl rfl rfl (r_geq rfl rfl) ?_
      refine l_nil ?_
      refine c_if (b := (decide (4 ≤ x4))) rfl (fun hb => ?_) (fun hb => ?_)
      · have H108 := cnd_t hb H88; clear H88
        refine c_seq ?_
        refine c_region ?_
        refine l_val rfl rfl rfl (r_move (v := .int .u32 (wU32 x1)) rfl) ?_
        obtain ⟨t101, h_t101, H109⟩ := bnd_some H108; clear H108
        refine l_val rfl rfl rfl (r_remG rfl rfl h_t101) ?_
        refine l_val rfl rfl rfl (r_assign (v := .int .u32 t101) rfl) ?_
        refine l_nil ?_
        refine c_seq ?_
        refine c_region ?_
        refine l_val rfl rfl rfl (r_move (v := .int .u32 (wU32 x1)) rfl) ?_
        obtain ⟨t103, h_t103, H110⟩ := bnd_some H109; clear H109
        refine l_val rfl rfl rfl (r_quoU rfl rfl ⟨rfl, rfl⟩ h_t103) ?_
        refine l_val rfl rfl rfl (r_assign (v := .int .u32 t103) rfl) ?_
        refine l_nil ?_
        refine c_seq ?_
        refine c_region ?_
        refine l_val rfl rfl rfl (r_move (v := .int .u32 t101) rfl) ?_
        obtain ⟨t105, h_t105, H111⟩ := bnd_some H110; clear H110
        refine l_val rfl rfl rfl (r_quoU rfl rfl ⟨rfl, rfl⟩ h_t105) ?_
        refine l_val rfl rfl rfl (r_mulW rfl rfl (wr_u32 _)) ?_
        refine l_val rfl rfl rfl (r_move (v := .int .u32 t101) rfl) ?_
        obtain ⟨t108, h_t108, H112⟩ := bnd_some H111; clear H111
        refine l_val rfl rfl rfl (r_remG rfl rfl h_t108) ?_
        refine l_val rfl rfl rfl (r_mulW rfl rfl (wr_u32 _)) ?_
        refine l_val rfl rfl rfl (r_assign (v := .int .u32 (wU32 (t105 * 2))) rfl) ?_
        refine l_val rfl rfl rfl (r_assign (v := .int .u32 (wU32 (t108 * 2))) rfl) ?_
        refine l_nil ?_
        refine c_seq ?_
        exact c_regionD (Kd.p :: Kd.p :: Kd.p :: Kd.p :: Kd.p :: Kd.p :: Kd.p :: Kd.p :: Kd.p :: Kd.p :: Kd.p :: Kd.d [0] _ :: Kd.sr 0 _ :: Kd.d [0] _ :: Kd.sr 0 _ :: []) 0 mixed (by
          refine d_val rfl rfl (r_move (v := .slice p0.1 n0 p0.2) rfl) ?_
          refine d_val rfl rfl (r_move (v := .int .i64 x4) rfl) ?_
          have h_t112 := bnd_val H112
          have H113 := bnd_rest H112
          refine d_val rfl rfl (r_subG rfl rfl h_t112) ?_
          refine d_val rfl rfl (r_move (v := .slice p0.1 n0 p0.2) rfl) ?_
          refine d_val rfl rfl (r_move (v := .int .i64 x4) rfl) ?_
          have h_t115 := bnd_val H113
          have H114 := bnd_rest H113
          refine d_val rfl rfl (r_subG rfl rfl h_t115) ?_
          refine d_val rfl rfl (r_move (v := .int .u32 (wU32 (t108 * 2))) rfl) ?_
          refine d_val rfl rfl (r_addW rfl rfl (wr_u32 _)) ?_
          have h_t118 := bnd_val H114
          have H115 := bnd_rest H114
          refine d_val rfl rfl (r_octG Tryd.underlying9 rfl rfl h_t118) ?_
          refine d_val rfl rfl (r_move (v := .int .u32 (wU32 (t108 * 2))) rfl) ?_
          have h_t120 := bnd_val H115
          have H116 := bnd_rest H115
          refine d_val rfl rfl (r_octG Tryd.underlying9 rfl rfl h_t120) ?_
          have h_t121 := bnd_val H116
          have H117 := bnd_rest H116
          refine d_readD (fun w L' hF hS hi => run_indexO Tryd.underlying50 Tryd.sizeOf5 rfl rfl (rowOf (i := 0) hS ((hi 0 (by simp)).trans rfl)) hl h_t121) rfl rfl ?_
          have h_l0_4 := bnd_val H117
          have H118 := bnd_rest H117
          refine d_storeG (q := 0) (j := 0) (i := (val (gI (x4 - 1)))) (sz := 1) (hm := hl) (f := e_u8) (vs := [.int .u8 (val (gOct [48, 48, 48, 49, 48, 50, 48, 51, 48, 52, 48, 53, 48, 54, 48, 55, 48, 56, 48, 57, 49, 48, 49, 49, 49, 50, 49, 51, 49, 52, 49, 53, 49, 54, 49, 55, 49, 56, 49, 57, 50, 48, 50, 49, 50, 50, 50, 51, 50, 52, 50, 53, 50, 54, 50, 55, 50, 56, 50, 57, 51, 48, 51, 49, 51, 50, 51, 51, 51, 52, 51, 53, 51, 54, 51, 55, 51, 56, 51, 57, 52, 48, 52, 49, 52, 50, 52, 51, 52, 52, 52, 53, 52, 54, 52, 55, 52, 56, 52, 57, 53, 48, 53, 49, 53, 50, 53, 51, 53, 52, 53, 53, 53, 54, 53, 55, 53, 56, 53, 57, 54, 48, 54, 49, 54, 50, 54, 51, 54, 52, 54, 53, 54, 54, 54, 55, 54, 56, 54, 57, 55, 48, 55, 49, 55, 50, 55, 51, 55, 52, 55, 53, 55, 54, 55, 55, 55, 56, 55, 57, 56, 48, 56, 49, 56, 50, 56, 51, 56, 52, 56, 53, 56, 54, 56, 55, 56, 56, 56, 57, 57, 48, 57, 49, 57, 50, 57, 51, 57, 52, 57, 53, 57, 54, 57, 55, 57, 56, 57, 57] (wU32 ((wU32 (t108 * 2)) + 1))))]) Tryd.sizeOf5 rfl rfl rfl rfl rfl rfl rfl rfl rfl (fun y_ hy_ => by first | rfl | (cases hy_.symm.trans h_t121; rfl)) h_l0_4 ?_
          have h_t122 := bnd_val H118
          have H119 := bnd_rest H118
          refine d_readD (fun w L' hF hS hi => run_indexO Tryd.underlying50 Tryd.sizeOf5 rfl rfl (rowOf (i := 0) hS ((hi 0 (by simp)).trans rfl)) (gSet_n hl h_l0_4) h_t122) rfl rfl ?_
          have h_l0_5 := bnd_val H119
          have H120 := bnd_rest H119
          refine d_storeG (q := 0) (j := 0) (i := (val (gI (x4 - 2)))) (sz := 1) (hm := (gSet_n hl h_l0_4)) (f := e_u8) (vs := [.int .u8 (val (gOct [48, 48, 48, 49, 48, 50, 48, 51, 48, 52, 48, 53, 48, 54, 48, 55, 48, 56, 48, 57, 49, 48, 49, 49, 49, 50, 49, 51, 49, 52, 49, 53, 49, 54, 49, 55, 49, 56, 49, 57, 50, 48, 50, 49, 50, 50, 50, 51, 50, 52, 50, 53, 50, 54, 50, 55, 50, 56, 50, 57, 51, 48, 51, 49, 51, 50, 51, 51, 51, 52, 51, 53, 51, 54, 51, 55, 51, 56, 51, 57, 52, 48, 52, 49, 52, 50, 52, 51, 52, 52, 52, 53, 52, 54, 52, 55, 52, 56, 52, 57, 53, 48, 53, 49, 53, 50, 53, 51, 53, 52, 53, 53, 53, 54, 53, 55, 53, 56, 53, 57, 54, 48, 54, 49, 54, 50, 54, 51, 54, 52, 54, 53, 54, 54, 54, 55, 54, 56, 54, 57, 55, 48, 55, 49, 55, 50, 55, 51, 55, 52, 55, 53, 55, 54, 55, 55, 55, 56, 55, 57, 56, 48, 56, 49, 56, 50, 56, 51, 56, 52, 56, 53, 56, 54, 56, 55, 56, 56, 56, 57, 57, 48, 57, 49, 57, 50, 57, 51, 57, 52, 57, 53, 57, 54, 57, 55, 57, 56, 57, 57] (wU32 (t108 * 2))))]) Tryd.sizeOf5 rfl rfl rfl rfl rfl rfl rfl rfl rfl (fun y_ hy_ => by first | rfl | (cases hy_.symm.trans h_t122; rfl)) h_l0_5 ?_
          refine d_nil ?_
          refine c_seq ?_
          exact c_regionD (Kd.p :: Kd.p :: Kd.p :: Kd.p :: Kd.p :: Kd.p :: Kd.p :: Kd.p :: Kd.p :: Kd.p :: Kd.p :: Kd.d [0] _ :: Kd.sr 0 _ :: Kd.d [0] _ :: Kd.sr 0 _ :: []) 0 mixed (by
            refine d_val rfl rfl (r_move (v := .slice p0.1 n0 p0.2) rfl) ?_
            refine d_val rfl rfl (r_move (v := .int .i64 x4) rfl) ?_
            have h_t125 := bnd_val H120
            have H121 := bnd_rest H120
            refine d_val rfl rfl (r_subG rfl rfl h_t125) ?_
            refine d_val rfl rfl (r_move (v := .slice p0.1 n0 p0.2) rfl) ?_
            refine d_val rfl rfl (r_move (v := .int .i64 x4) rfl) ?_
            have h_t128 := bnd_val H121
            have H122 := bnd_rest H121
            refine d_val rfl rfl (r_subG rfl rfl h_t128) ?_
            refine d_val rfl rfl (r_move (v := .int .u32 (wU32 (t105 * 2))) rfl) ?_
            refine d_val rfl rfl (r_addW rfl rfl (wr_u32 _)) ?_
            have h_t131 := bnd_val H122
            have H123 := bnd_rest H122
            refine d_val rfl rfl (r_octG Tryd.underlying9 rfl rfl h_t131) ?_
            refine d_val rfl rfl (r_move (v := .int .u32 (wU32 (t105 * 2))) rfl) ?_
            have h_t133 := bnd_val H123
            have H124 := bnd_rest H123
            refine d_val rfl rfl (r_octG Tryd.underlying9 rfl rfl h_t133) ?_
            have h_t134 := bnd_val H124
            have H125 := bnd_rest H124
            refine d_readD (fun w L' hF hS hi => run_indexO Tryd.underlying50 Tryd.sizeOf5 rfl rfl (rowOf (i := 0) hS ((hi 0 (by simp)).trans rfl)) (gSet_n (gSet_n hl h_l0_4) h_l0_5) h_t134) rfl rfl ?_
            have h_l0_6 := bnd_val H125
            have H126 := bnd_rest H125
            refine d_storeG (q := 0) (j := 0) (i := (val (gI (x4 - 3)))) (sz := 1) (hm := (gSet_n (gSet_n hl h_l0_4) h_l0_5)) (f := e_u8) (vs := [.int .u8 (val (gOct [48, 48, 48, 49, 48, 50, 48, 51, 48, 52, 48, 53, 48, 54, 48, 55, 48, 56, 48, 57, 49, 48, 49, 49, 49, 50, 49, 51, 49, 52, 49, 53, 49, 54, 49, 55, 49, 56, 49, 57, 50, 48, 50, 49, 50, 50, 50, 51, 50, 52, 50, 53, 50, 54, 50, 55, 50, 56, 50, 57, 51, 48, 51, 49, 51, 50, 51, 51, 51, 52, 51, 53, 51, 54, 51, 55, 51, 56, 51, 57, 52, 48, 52, 49, 52, 50, 52, 51, 52, 52, 52, 53, 52, 54, 52, 55, 52, 56, 52, 57, 53, 48, 53, 49, 53, 50, 53, 51, 53, 52, 53, 53, 53, 54, 53, 55, 53, 56, 53, 57, 54, 48, 54, 49, 54, 50, 54, 51, 54, 52, 54, 53, 54, 54, 54, 55, 54, 56, 54, 57, 55, 48, 55, 49, 55, 50, 55, 51, 55, 52, 55, 53, 55, 54, 55, 55, 55, 56, 55, 57, 56, 48, 56, 49, 56, 50, 56, 51, 56, 52, 56, 53, 56, 54, 56, 55, 56, 56, 56, 57, 57, 48, 57, 49, 57, 50, 57, 51, 57, 52, 57, 53, 57, 54, 57, 55, 57, 56, 57, 57] (wU32 ((wU32 (t105 * 2)) + 1))))]) Tryd.sizeOf5 rfl rfl rfl rfl rfl rfl rfl rfl rfl (fun y_ hy_ => by first | rfl | (cases hy_.symm.trans h_t134; rfl)) h_l0_6 ?_
            have h_t135 := bnd_val H126
            have H127 := bnd_rest H126
            refine d_readD (fun w L' hF hS hi => run_indexO Tryd.underlying50 Tryd.sizeOf5 rfl rfl (rowOf (i := 0) hS ((hi 0 (by simp)).trans rfl)) (gSet_n (gSet_n (gSet_n hl h_l0_4) h_l0_5) h_l0_6) h_t135) rfl rfl ?_
            have h_l0_7 := bnd_val H127
            have H128 := bnd_rest H127
            refine d_storeG (q := 0) (j := 0) (i := (val (gI (x4 - 4)))) (sz := 1) (hm := (gSet_n (gSet_n (gSet_n hl h_l0_4) h_l0_5) h_l0_6)) (f := e_u8) (vs := [.int .u8 (val (gOct [48, 48, 48, 49, 48, 50, 48, 51, 48, 52, 48, 53, 48, 54, 48, 55, 48, 56, 48, 57, 49, 48, 49, 49, 49, 50, 49, 51, 49, 52, 49, 53, 49, 54, 49, 55, 49, 56, 49, 57, 50, 48, 50, 49, 50, 50, 50, 51, 50, 52, 50, 53, 50, 54, 50, 55, 50, 56, 50, 57, 51, 48, 51, 49, 51, 50, 51, 51, 51, 52, 51, 53, 51, 54, 51, 55, 51, 56, 51, 57, 52, 48, 52, 49, 52, 50, 52, 51, 52, 52, 52, 53, 52, 54, 52, 55, 52, 56, 52, 57, 53, 48, 53, 49, 53, 50, 53, 51, 53, 52, 53, 53, 53, 54, 53, 55, 53, 56, 53, 57, 54, 48, 54, 49, 54, 50, 54, 51, 54, 52, 54, 53, 54, 54, 54, 55, 54, 56, 54, 57, 55, 48, 55, 49, 55, 50, 55, 51, 55, 52, 55, 53, 55, 54, 55, 55, 55, 56, 55, 57, 56, 48, 56, 49, 56, 50, 56, 51, 56, 52, 56, 53, 56, 54, 56, 55, 56, 56, 56, 57, 57, 48, 57, 49, 57, 50, 57, 51, 57, 52, 57, 53, 57, 54, 57, 55, 57, 56, 57, 57] (wU32 (t105 * 2))))]) Tryd.sizeOf5 rfl rfl rfl rfl rfl rfl rfl rfl rfl (fun y_ hy_ => by first | rfl | (cases hy_.symm.trans h_t135; rfl)) h_l0_7 ?_
            refine d_nil ?_
            refine c_region ?_
            refine l_val rfl rfl rfl (r_move (v := .int .i64 x4) rfl) ?_
            obtain ⟨t137, h_t137, H129⟩ := bnd_some H128; clear H128
            refine l_val rfl rfl rfl (r_subG rfl rfl h_t137) ?_
            refine l_val rfl rfl rfl (r_assign (v := .int .i64 t137) rfl) ?_
            refine l_nil ?_
            refine c_close (t137, t103, (val (gSet (val (gSet (val (gSet (val (gSet l (val (gI (x4 - 1))) (val (gOct [48, 48, 48, 49, 48, 50, 48, 51, 48, 52, 48, 53, 48, 54, 48, 55, 48, 56, 48, 57, 49, 48, 49, 49, 49, 50, 49, 51, 49, 52, 49, 53, 49, 54, 49, 55, 49, 56, 49, 57, 50, 48, 50, 49, 50, 50, 50, 51, 50, 52, 50, 53, 50, 54, 50, 55, 50, 56, 50, 57, 51, 48, 51, 49, 51, 50, 51, 51, 51, 52, 51, 53, 51, 54, 51, 55, 51, 56, 51, 57, 52, 48, 52, 49, 52, 50, 52, 51, 52, 52, 52, 53, 52, 54, 52, 55, 52, 56, 52, 57, 53, 48, 53, 49, 53, 50, 53, 51, 53, 52, 53, 53, 53, 54, 53, 55, 53, 56, 53, 57, 54, 48, 54, 49, 54, 50, 54, 51, 54, 52, 54, 53, 54, 54, 54, 55, 54, 56, 54, 57, 55, 48, 55, 49, 55, 50, 55, 51, 55, 52, 55, 53, 55, 54, 55, 55, 55, 56, 55, 57, 56, 48, 56, 49, 56, 50, 56, 51, 56, 52, 56, 53, 56, 54, 56, 55, 56, 56, 56, 57, 57, 48, 57, 49, 57, 50, 57, 51, 57, 52, 57, 53, 57, 54, 57, 55, 57, 56, 57, 57] (wU32 ((wU32 (t108 * 2)) + 1)))))) (val (gI (x4 - 2))) (val (gOct [48, 48, 48, 49, 48, 50, 48, 51, 48, 52, 48, 53, 48, 54, 48, 55, 48, 56, 48, 57, 49, 48, 49, 49, 49, 50, 49, 51, 49, 52, 49, 53, 49, 54, 49, 55, 49, 56, 49, 57, 50, 48, 50, 49, 50, 50, 50, 51, 50, 52, 50, 53, 50, 54, 50, 55, 50, 56, 50, 57, 51, 48, 51, 49, 51, 50, 51, 51, 51, 52, 51, 53, 51, 54, 51, 55, 51, 56, 51, 57, 52, 48, 52, 49, 52, 50, 52, 51, 52, 52, 52, 53, 52, 54, 52, 55, 52, 56, 52, 57, 53, 48, 53, 49, 53, 50, 53, 51, 53, 52, 53, 53, 53, 54, 53, 55, 53, 56, 53, 57, 54, 48, 54, 49, 54, 50, 54, 51, 54, 52, 54, 53, 54, 54, 54, 55, 54, 56, 54, 57, 55, 48, 55, 49, 55, 50, 55, 51, 55, 52, 55, 53, 55, 54, 55, 55, 55, 56, 55, 57, 56, 48, 56, 49, 56, 50, 56, 51, 56, 52, 56, 53, 56, 54, 56, 55, 56, 56, 56, 57, 57, 48, 57, 49, 57, 50, 57, 51, 57, 52, 57, 53, 57, 54, 57, 55, 57, 56, 57, 57] (wU32 (t108 * 2)))))) (val (gI (x4 - 3))) (val (gOct [48, 48, 48, 49, 48, 50, 48, 51, 48, 52, 48, 53, 48, 54, 48, 55, 48, 56, 48, 57, 49, 48, 49, 49, 49, 50, 49, 51, 49, 52, 49, 53, 49, 54, 49, 55, 49, 56, 49, 57, 50, 48, 50, 49, 50, 50, 50, 51, 50, 52, 50, 53, 50, 54, 50, 55, 50, 56, 50, 57, 51, 48, 51, 49, 51, 50, 51, 51, 51, 52, 51, 53, 51, 54, 51, 55, 51, 56, 51, 57, 52, 48, 52, 49, 52, 50, 52, 51, 52, 52, 52, 53, 52, 54, 52, 55, 52, 56, 52, 57, 53, 48, 53, 49, 53, 50, 53, 51, 53, 52, 53, 53, 53, 54, 53, 55, 53, 56, 53, 57, 54, 48, 54, 49, 54, 50, 54, 51, 54, 52, 54, 53, 54, 54, 54, 55, 54, 56, 54, 57, 55, 48, 55, 49, 55, 50, 55, 51, 55, 52, 55, 53, 55, 54, 55, 55, 55, 56, 55, 57, 56, 48, 56, 49, 56, 50, 56, 51, 56, 52, 56, 53, 56, 54, 56, 55, 56, 56, 56, 57, 57, 48, 57, 49, 57, 50, 57, 51, 57, 52, 57, 53, 57, 54, 57, 55, 57, 56, 57, 57] (wU32 ((wU32 (t105 * 2)) + 1)))))) (val (gI (x4 - 4))) (val (gOct [48, 48, 48, 49, 48, 50, 48, 51, 48, 52, 48, 53, 48, 54, 48, 55, 48, 56, 48, 57, 49, 48, 49, 49, 49, 50, 49, 51, 49, 52, 49, 53, 49, 54, 49, 55, 49, 56, 49, 57, 50, 48, 50, 49, 50, 50, 50, 51, 50, 52, 50, 53, 50, 54, 50, 55, 50, 56, 50, 57, 51, 48, 51, 49, 51, 50, 51, 51, 51, 52, 51, 53, 51, 54, 51, 55, 51, 56, 51, 57, 52, 48, 52, 49, 52, 50, 52, 51, 52, 52, 52, 53, 52, 54, 52, 55, 52, 56, 52, 57, 53, 48, 53, 49, 53, 50, 53, 51, 53, 52, 53, 53, 53, 54, 53, 55, 53, 56, 53, 57, 54, 48, 54, 49, 54, 50, 54, 51, 54, 52, 54, 53, 54, 54, 54, 55, 54, 56, 54, 57, 55, 48, 55, 49, 55, 50, 55, 51, 55, 52, 55, 53, 55, 54, 55, 55, 55, 56, 55, 57, 56, 48, 56, 49, 56, 50, 56, 51, 56, 52, 56, 53, 56, 54, 56, 55, 56, 56, 56, 57, 57, 48, 57, 49, 57, 50, 57, 51, 57, 52, 57, 53, 57, 54, 57, 55, 57, 56, 57, 57] (wU32 (t105 * 2))))))) () 0 [0] (by exact ⟨rfl, rfl, rfl, trivial⟩) (by decide) rfl (by exact ⟨H129, (gSet_n (gSet_n (gSet_n (gSet_n hl h_l0_4) h_l0_5) h_l0_6) h_l0_7)⟩) (Nat.lt_succ_self _)
            ) (by kernel_rfl)
          ) (by kernel_rfl)
      · have H130 := cnd_f hb H88; clear H88
        refine c_skip ?_
        refine c_close (x4, (wU32 x1), l) () 0 [0] (by exact ⟨rfl, rfl, rfl, trivial⟩) (by decide) rfl (by exact ⟨H130, hl⟩) (Nat.lt_succ_self _)
    · rintro ⟨x4_2, x12, l_2⟩ _ gg H89 hl_2
      replace H89 : internal_strconv_formatBase10_j2 x4_2 x12 l_2 = some r := H89
      refine c_tidyF [(0, .slice p0.1 n0 p0.2), (4, .int .i64 x4_2), (12, .int .u32 x12)] [rowV 5 1 (.slice p0.1 n0 p0.2) n0 (l_2.map e_u8)] rfl rfl ?_
      refine c_meet (r := r) (σ := Int × Int × (List Int)) (τ := Unit) (fun s => internal_strconv_formatBase10_j3 s.1 s.2.1 s.2.2) (fun s t => [(0, .slice p0.1 n0 p0.2), (4, .int .i64 s.1), (12, .int .u32 s.2.1)]) (fun s t => [rowV 5 1 (.slice p0.1 n0 p0.2) n0 (s.2.2.map e_u8)]) (fun s t => n0 = s.2.2.length) ?_ ?_
      · refine c_seq ?_
        refine c_region ?_
        refine l_val rfl rfl rfl (r_move (v := .int .i64 x4_2) rfl) ?_
        refine l_val rfl rfl rfl (r_geq rfl rfl) ?_
        refine l_nil ?_
        refine c_if (b := (decide (2 ≤ x4_2))) rfl (fun hb => ?_) (fun hb => ?_)
        · have H95 := cnd_t hb H89; clear H89
          refine c_seq ?_
          refine c_region ?_
          refine l_val rfl rfl rfl (r_move (v := .int .u32 x12) rfl) ?_
          obtain ⟨t141, h_t141, H96⟩ := bnd_some H95; clear H95
          refine l_val rfl rfl rfl (r_remG rfl rfl h_t141) ?_
          refine l_val rfl rfl rfl (r_mulW rfl rfl (wr_u32 _)) ?_
          refine l_val rfl rfl rfl (r_assign (v := .int .u32 (wU32 (t141 * 2))) rfl) ?_
          refine l_nil ?_
          refine c_seq ?_
          refine c_region ?_
          refine l_val rfl rfl rfl (r_move (v := .int .u32 x12) rfl) ?_
          obtain ⟨t144, h_t144, H97⟩ := bnd_some H96; clear H96
          refine l_val rfl rfl rfl (r_quoU rfl rfl ⟨rfl, rfl⟩ h_t144) ?_
          refine l_val rfl rfl rfl (r_assign (v := .int .u32 t144) rfl) ?_
          refine l_nil ?_
          refine c_seq ?_
          exact c_regionD (Kd.p :: Kd.p :: Kd.p :: Kd.p :: Kd.p :: Kd.p :: Kd.p :: Kd.p :: Kd.p :: Kd.p :: Kd.p :: Kd.d [0] _ :: Kd.sr 0 _ :: Kd.d [0] _ :: Kd.sr 0 _ :: []) 0 mixed (by
            refine d_val rfl rfl (r_move (v := .slice p0.1 n0 p0.2) rfl) ?_
            refine d_val rfl rfl (r_move (v := .int .i64 x4_2) rfl) ?_
            have h_t147 := bnd_val H97
            have H98 := bnd_rest H97
            refine d_val rfl rfl (r_subG rfl rfl h_t147) ?_
            refine d_val rfl rfl (r_move (v := .slice p0.1 n0 p0.2) rfl) ?_
            refine d_val rfl rfl (r_move (v := .int .i64 x4_2) rfl) ?_
            have h_t150 := bnd_val H98
            have H99 := bnd_rest H98
            refine d_val rfl rfl (r_subG rfl rfl h_t150) ?_
            refine d_val rfl rfl (r_move (v := .int .u32 (wU32 (t141 * 2))) rfl) ?_
            refine d_val rfl rfl (r_addW rfl rfl (wr_u32 _)) ?_
            have h_t153 := bnd_val H99
            have H100 := bnd_rest H99
            refine d_val rfl rfl (r_octG Tryd.underlying9 rfl rfl h_t153) ?_
            refine d_val rfl rfl (r_move (v := .int .u32 (wU32 (t141 * 2))) rfl) ?_
            have h_t155 := bnd_val H100
            have H101 := bnd_rest H100
            refine d_val rfl rfl (r_octG Tryd.underlying9 rfl rfl h_t155) ?_
            have h_t156 := bnd_val H101
            have H102 := bnd_rest H101
            refine d_readD (fun w L' hF hS hi => run_indexO Tryd.underlying50 Tryd.sizeOf5 rfl rfl (rowOf (i := 0) hS ((hi 0 (by simp)).trans rfl)) hl_2 h_t156) rfl rfl ?_
            have h_l0_2 := bnd_val H102
            have H103 := bnd_rest H102
            refine d_storeG (q := 0) (j := 0) (i := (val (gI (x4_2 - 1)))) (sz := 1) (hm := hl_2) (f := e_u8) (vs := [.int .u8 (val (gOct [48, 48, 48, 49, 48, 50, 48, 51, 48, 52, 48, 53, 48, 54, 48, 55, 48, 56, 48, 57, 49, 48, 49, 49, 49, 50, 49, 51, 49, 52, 49, 53, 49, 54, 49, 55, 49, 56, 49, 57, 50, 48, 50, 49, 50, 50, 50, 51, 50, 52, 50, 53, 50, 54, 50, 55, 50, 56, 50, 57, 51, 48, 51, 49, 51, 50, 51, 51, 51, 52, 51, 53, 51, 54, 51, 55, 51, 56, 51, 57, 52, 48, 52, 49, 52, 50, 52, 51, 52, 52, 52, 53, 52, 54, 52, 55, 52, 56, 52, 57, 53, 48, 53, 49, 53, 50, 53, 51, 53, 52, 53, 53, 53, 54, 53, 55, 53, 56, 53, 57, 54, 48, 54, 49, 54, 50, 54, 51, 54, 52, 54, 53, 54, 54, 54, 55, 54, 56, 54, 57, 55, 48, 55, 49, 55, 50, 55, 51, 55, 52, 55, 53, 55, 54, 55, 55, 55, 56, 55, 57, 56, 48, 56, 49, 56, 50, 56, 51, 56, 52, 56, 53, 56, 54, 56, 55, 56, 56, 56, 57, 57, 48, 57, 49, 57, 50, 57, 51, 57, 52, 57, 53, 57, 54, 57, 55, 57, 56, 57, 57] (wU32 ((wU32 (t141 * 2)) + 1))))]) Tryd.sizeOf5 rfl rfl rfl rfl rfl rfl rfl rfl rfl (fun y_ hy_ => by first | rfl | (cases hy_.symm.trans h_t156; rfl)) h_l0_2 ?_
            have h_t157 := bnd_val H103
            have H104 := bnd_rest H103
            refine d_readD (fun w L' hF hS hi => run_indexO Tryd.underlying50 Tryd.sizeOf5 rfl rfl (rowOf (i := 0) hS ((hi 0 (by simp)).trans rfl)) (gSet_n hl_2 h_l0_2) h_t157) rfl rfl ?_
            have h_l0_3 := bnd_val H104
            have H105 := bnd_rest H104
            refine d_storeG (q := 0) (j := 0) (i := (val (gI (x4_2 - 2)))) (sz := 1) (hm := (gSet_n hl_2 h_l0_2)) (f := e_u8) (vs := [.int .u8 (val (gOct [48, 48, 48, 49, 48, 50, 48, 51, 48, 52, 48, 53, 48, 54, 48, 55, 48, 56, 48, 57, 49, 48, 49, 49, 49, 50, 49, 51, 49, 52, 49, 53, 49, 54, 49, 55, 49, 56, 49, 57, 50, 48, 50, 49, 50, 50, 50, 51, 50, 52, 50, 53, 50, 54, 50, 55, 50, 56, 50, 57, 51, 48, 51, 49, 51, 50, 51, 51, 51, 52, 51, 53, 51, 54, 51, 55, 51, 56, 51, 57, 52, 48, 52, 49, 52, 50, 52, 51, 52, 52, 52, 53, 52, 54, 52, 55, 52, 56, 52, 57, 53, 48, 53, 49, 53, 50, 53, 51, 53, 52, 53, 53, 53, 54, 53, 55, 53, 56, 53, 57, 54, 48, 54, 49, 54, 50, 54, 51, 54, 52, 54, 53, 54, 54, 54, 55, 54, 56, 54, 57, 55, 48, 55, 49, 55, 50, 55, 51, 55, 52, 55, 53, 55, 54, 55, 55, 55, 56, 55, 57, 56, 48, 56, 49, 56, 50, 56, 51, 56, 52, 56, 53, 56, 54, 56, 55, 56, 56, 56, 57, 57, 48, 57, 49, 57, 50, 57, 51, 57, 52, 57, 53, 57, 54, 57, 55, 57, 56, 57, 57] (wU32 (t141 * 2))))]) Tryd.sizeOf5 rfl rfl rfl rfl rfl rfl rfl rfl rfl (fun y_ hy_ => by first | rfl | (cases hy_.symm.trans h_t157; rfl)) h_l0_3 ?_
            refine d_nil ?_
            refine c_region ?_
            refine l_val rfl rfl rfl (r_move (v := .int .i64 x4_2) rfl) ?_
            obtain ⟨t159, h_t159, H106⟩ := bnd_some H105; clear H105
            refine l_val rfl rfl rfl (r_subG rfl rfl h_t159) ?_
            refine l_val rfl rfl rfl (r_assign (v := .int .i64 t159) rfl) ?_
            refine l_nil ?_
            refine c_close (t159, t144, (val (gSet (val (gSet l_2 (val (gI (x4_2 - 1))) (val (gOct [48, 48, 48, 49, 48, 50, 48, 51, 48, 52, 48, 53, 48, 54, 48, 55, 48, 56, 48, 57, 49, 48, 49, 49, 49, 50, 49, 51, 49, 52, 49, 53, 49, 54, 49, 55, 49, 56, 49, 57, 50, 48, 50, 49, 50, 50, 50, 51, 50, 52, 50, 53, 50, 54, 50, 55, 50, 56, 50, 57, 51, 48, 51, 49, 51, 50, 51, 51, 51, 52, 51, 53, 51, 54, 51, 55, 51, 56, 51, 57, 52, 48, 52, 49, 52, 50, 52, 51, 52, 52, 52, 53, 52, 54, 52, 55, 52, 56, 52, 57, 53, 48, 53, 49, 53, 50, 53, 51, 53, 52, 53, 53, 53, 54, 53, 55, 53, 56, 53, 57, 54, 48, 54, 49, 54, 50, 54, 51, 54, 52, 54, 53, 54, 54, 54, 55, 54, 56, 54, 57, 55, 48, 55, 49, 55, 50, 55, 51, 55, 52, 55, 53, 55, 54, 55, 55, 55, 56, 55, 57, 56, 48, 56, 49, 56, 50, 56, 51, 56, 52, 56, 53, 56, 54, 56, 55, 56, 56, 56, 57, 57, 48, 57, 49, 57, 50, 57, 51, 57, 52, 57, 53, 57, 54, 57, 55, 57, 56, 57, 57] (wU32 ((wU32 (t141 * 2)) + 1)))))) (val (gI (x4_2 - 2))) (val (gOct [48, 48, 48, 49, 48, 50, 48, 51, 48, 52, 48, 53, 48, 54, 48, 55, 48, 56, 48, 57, 49, 48, 49, 49, 49, 50, 49, 51, 49, 52, 49, 53, 49, 54, 49, 55, 49, 56, 49, 57, 50, 48, 50, 49, 50, 50, 50, 51, 50, 52, 50, 53, 50, 54, 50, 55, 50, 56, 50, 57, 51, 48, 51, 49, 51, 50, 51, 51, 51, 52, 51, 53, 51, 54, 51, 55, 51, 56, 51, 57, 52, 48, 52, 49, 52, 50, 52, 51, 52, 52, 52, 53, 52, 54, 52, 55, 52, 56, 52, 57, 53, 48, 53, 49, 53, 50, 53, 51, 53, 52, 53, 53, 53, 54, 53, 55, 53, 56, 53, 57, 54, 48, 54, 49, 54, 50, 54, 51, 54, 52, 54, 53, 54, 54, 54, 55, 54, 56, 54, 57, 55, 48, 55, 49, 55, 50, 55, 51, 55, 52, 55, 53, 55, 54, 55, 55, 55, 56, 55, 57, 56, 48, 56, 49, 56, 50, 56, 51, 56, 52, 56, 53, 56, 54, 56, 55, 56, 56, 56, 57, 57, 48, 57, 49, 57, 50, 57, 51, 57, 52, 57, 53, 57, 54, 57, 55, 57, 56, 57, 57] (wU32 (t141 * 2))))))) () 0 [0] (by exact ⟨rfl, rfl, rfl, trivial⟩) (by decide) rfl (by exact ⟨H106, (gSet_n (gSet_n hl_2 h_l0_2) h_l0_3)⟩) (Nat.lt_succ_self _)
            ) (by kernel_rfl)
        · have H107 := cnd_f hb H89; clear H89
          refine c_skip ?_
          refine c_close (x4_2, x12, l_2) () 0 [0] (by exact ⟨rfl, rfl, rfl, trivial⟩) (by decide) rfl (by exact ⟨H107, hl_2⟩) (Nat.lt_succ_self _)
      · rintro ⟨x4_3, x12_2, l_3⟩ _ gg H90 hl_3
        replace H90 : internal_strconv_formatBase10_j3 x4_3 x12_2 l_3 = some r := H90
        refine c_tidyF [(0, .slice p0.1 n0 p0.2), (4, .int .i64 x4_3), (12, .int .u32 x12_2)] [rowV 5 1 (.slice p0.1 n0 p0.2) n0 (l_3.map e_u8)] rfl rfl ?_
        refine c_seq ?_
        refine c_region ?_
        refine l_val rfl rfl rfl (r_move (v := .int .i64 x4_3) rfl) ?_
        refine l_val rfl rfl rfl (r_gtr rfl rfl) ?_
        refine l_nil ?_
        refine c_if (b := (decide (0 < x4_3))) rfl (fun hb => ?_) (fun hb => ?_)
        · have H91 := cnd_t hb H90; clear H90
          refine c_region ?_
          refine l_val rfl rfl rfl (r_move (v := .slice p0.1 n0 p0.2) rfl) ?_
          refine l_val rfl rfl rfl (r_move (v := .int .u32 x12_2) rfl) ?_
          refine l_val rfl rfl rfl (r_addW rfl rfl (wr_u32 _)) ?_
          refine l_val rfl rfl rfl (r_convG Tryd.runUnderlying181 Tryd.runUnderlying5 rfl (wr_u8 _)) ?_
          obtain ⟨t166, h_t166, H92⟩ := bnd_some H91; clear H91
          refine l_read (fun w hF hS => run_indexO Tryd.underlying50 Tryd.sizeOf5 rfl rfl (rowOf (i := 0) hS rfl) hl_3 h_t166) rfl rfl rfl ?_
          obtain ⟨l0, h_l0, H93⟩ := bnd_some H92; clear H92
          refine l_storeG (q := 0) (j := 0) (i := 0) (sz := 1) (hm := hl_3) (f := e_u8) (vs := [.int .u8 (wU8 (wU32 (48 + x12_2)))]) Tryd.sizeOf5 rfl rfl rfl rfl rfl rfl rfl rfl rfl (fun y_ hy_ => by first | rfl | (cases hy_.symm.trans h_t166; rfl)) h_l0 ?_
          refine l_nil ?_
          obtain rfl := Option.some.inj H93
          refine ret0n rfl (finX () (i := 0) rfl rfl (Imp.refl _))
        · have H94 := cnd_f hb H90; clear H90
          refine c_skip ?_
          obtain rfl := Option.some.inj H94
          refine ret0n rfl (finX () (i := 0) rfl rfl (Imp.refl _))
theorem k211 {a0 : Int} {r : Bool} (H : internal_strconv_isPowerOfTwo a0 = some r) : Ret Tryd.prog 211 [.int .i64 a0] (.bool r) := by
  refine enterRet (n := 8) Tryd.func211 rfl rfl rfl (fun wd => ?_)
  refine c_seq ?_
  refine c_region ?_
  refine l_val rfl rfl rfl (r_assign (v := .bool false) rfl) ?_
  refine l_nil ?_
  refine c_seq ?_
  refine c_region ?_
  refine l_val rfl rfl rfl (r_move (v := .int .i64 a0) rfl) ?_
  refine l_val rfl rfl rfl (r_move (v := .int .i64 a0) rfl) ?_
  obtain ⟨t5, h_t5, H2⟩ := bnd_some H; clear H
  refine l_val rfl rfl rfl (r_subG rfl rfl h_t5) ?_
  refine l_val rfl rfl rfl (r_bitsAnd (bits := 64) rfl rfl rfl (wr_i64 _)) ?_
  refine l_val rfl rfl rfl (r_eql rfl rfl) ?_
  refine l_val rfl rfl rfl (r_assign (v := .bool (decide ((wI64 (bAnd 64 a0 t5)) = 0))) rfl) ?_
  refine l_nil ?_
  refine c_ret ?_
  obtain rfl := Option.some.inj H2
  refine ret1 (v := .bool (decide ((wI64 (bAnd 64 a0 t5)) = 0))) rfl rfl (fin rfl)
theorem k217 {a0 : Int} {r : Int} (H : math_bits_TrailingZeros32 a0 = some r) : Ret Tryd.prog 217 [.int .u32 a0] (.int .i64 r) := by
  refine enterRet (n := 14) Tryd.func217 rfl rfl rfl (fun wd => ?_)
  refine c_seq ?_
  refine c_region ?_
  refine l_val rfl rfl rfl (r_assign (v := .int .i64 0) rfl) ?_
  refine l_nil ?_
  refine c_seq ?_
  refine c_seq ?_
  refine c_region ?_
  refine l_val rfl rfl rfl (r_move (v := .int .u32 a0) rfl) ?_
  refine l_val rfl rfl rfl (r_eql rfl rfl) ?_
  refine l_nil ?_
  refine c_if (b := (decide (a0 = 0))) rfl (fun hb => ?_) (fun hb => ?_)
  · have H3 := cnd_t hb H; clear H
    refine c_seq ?_
    refine c_region ?_
    refine l_val rfl rfl rfl (r_assign (v := .int .i64 32) rfl) ?_
    refine l_nil ?_
    refine c_ret ?_
    obtain rfl := Option.some.inj H3
    refine ret1 (v := .int .i64 32) rfl rfl (fin rfl)
  · have H4 := cnd_f hb H; clear H
    exact absurd (show (none : Option (Int)) = some r from H4) (fun h => by cases h)
theorem k218 {a0 : Int} {r : Int} (H : math_bits_TrailingZeros64 a0 = some r) : Ret Tryd.prog 218 [.int .u64 a0] (.int .i64 r) := by
  refine enterRet (n := 14) Tryd.func218 rfl rfl rfl (fun wd => ?_)
  refine c_seq ?_
  refine c_region ?_
  refine l_val rfl rfl rfl (r_assign (v := .int .i64 0) rfl) ?_
  refine l_nil ?_
  refine c_seq ?_
  refine c_seq ?_
  refine c_region ?_
  refine l_val rfl rfl rfl (r_move (v := .int .u64 a0) rfl) ?_
  refine l_val rfl rfl rfl (r_eql rfl rfl) ?_
  refine l_nil ?_
  refine c_if (b := (decide (a0 = 0))) rfl (fun hb => ?_) (fun hb => ?_)
  · have H3 := cnd_t hb H; clear H
    refine c_seq ?_
    refine c_region ?_
    refine l_val rfl rfl rfl (r_assign (v := .int .i64 64) rfl) ?_
    refine l_nil ?_
    refine c_ret ?_
    obtain rfl := Option.some.inj H3
    refine ret1 (v := .int .i64 64) rfl rfl (fin rfl)
  · have H4 := cnd_f hb H; clear H
    exact absurd (show (none : Option (Int)) = some r from H4) (fun h => by cases h)
theorem k212 {a0 : Int} {r : Int} (H : math_bits_TrailingZeros a0 = some r) : Ret Tryd.prog 212 [.int .u64 a0] (.int .i64 r) := by
  refine enterRet (n := 8) Tryd.func212 rfl rfl rfl (fun wd => ?_)
  refine c_seq ?_
  refine c_region ?_
  refine l_val rfl rfl rfl (r_assign (v := .int .i64 0) rfl) ?_
  refine l_nil ?_
  refine c_seq ?_
  refine c_false rfl ?_
  refine c_skip ?_
  refine c_seq ?_
  refine c_region ?_
  refine l_val rfl rfl rfl (r_move (v := .int .u64 a0) rfl) ?_
  obtain ⟨t7, h_t7, H2⟩ := bnd_some H; clear H
  refine l_call (k218 h_t7) Tryd.call218 rfl rfl rfl ?_
  refine l_val rfl rfl rfl (r_assign (v := .int .i64 t7) rfl) ?_
  refine l_nil ?_
  refine c_ret ?_
  obtain rfl := Option.some.inj H2
  refine ret1 (v := .int .i64 t7) rfl rfl (fin rfl)
theorem k204 {a0 : (List Int)} {v0 : Value} {a1 : Int} {a2 : Int} {a3 : Bool} {a4 : Bool} {r : (List Int) × (List UInt8)} {w : World} {h : Heap} (hw : Know h w noS) (f0 : FrS h 1 v0 (a0.map e_u8)) (H : internal_strconv_formatBits a0 a1 a2 a3 a4 = some r) : Does Tryd.prog 204 (List.toArray [v0, .int .u64 a1, .int .i64 a2, .bool a3, .bool a4]) w (fun v w' => ∃ x : (Option Addr × Nat), v = (.tuple #[.slice x.1 r.1.length x.2, str r.2]) ∧ Turn w w' noS (rowV 5 1 (.slice x.1 r.1.length x.2) r.1.length (r.1.map e_u8))) := by
  refine enter (n := 102) Tryd.func204 rfl rfl rfl noS [] (Sat.nil _ _) ?_
  refine c_seq ?_
  refine c_region ?_
  refine l_val rfl rfl rfl (r_assign (v := .slice none 0 0) rfl) ?_
  refine l_val rfl rfl rfl (r_assign (v := str []) rfl) ?_
  refine l_nil ?_
  refine c_seq ?_
  refine c_seq ?_
  refine c_region ?_
  refine l_val rfl rfl rfl (r_move (v := .int .i64 a2) rfl) ?_
  refine l_val rfl rfl rfl (r_lss rfl rfl) ?_
  refine l_val rfl rfl rfl (r_move (v := .bool (decide (a2 < 2))) rfl) ?_
  refine split (fun hb => ?_) (fun hb => ?_)
  · have H42 := cnd_t hb H; clear H
    exact absurd (show (none : Option ((List Int) × (List UInt8))) = some r from H42) (fun h => by cases h)
  · have H43 := cnd_f hb H; clear H
    refine l_val rfl rfl rfl (r_move (v := .int .i64 a2) rfl) ?_
    refine l_val rfl rfl rfl (r_eql rfl rfl) ?_
    refine l_val rfl rfl rfl (r_pickF (v := .bool (decide (a2 = 10))) rfl rfl) ?_
    refine l_val rfl rfl rfl (r_move (v := .bool (decide (a2 = 10))) rfl) ?_
    refine split (fun hb => ?_) (fun hb => ?_)
    · have H44 := cnd_t hb H43; clear H43
      exact absurd (show (none : Option ((List Int) × (List UInt8))) = some r from H44) (fun h => by cases h)
    · have H45 := cnd_f hb H43; clear H43
      refine l_val rfl rfl rfl (r_move (v := .int .i64 a2) rfl) ?_
      refine l_val rfl rfl rfl (r_gtr rfl rfl) ?_
      refine l_val rfl rfl rfl (r_pickF (v := .bool (decide (36 < a2))) rfl rfl) ?_
      refine l_nil ?_
      refine c_if (b := (decide (36 < a2))) rfl (fun hb => ?_) (fun hb => ?_)
      · have H46 := cnd_t hb H45; clear H45
        exact absurd (show (none : Option ((List Int) × (List UInt8))) = some r from H46) (fun h => by cases h)
      · have H47 := cnd_f hb H45; clear H45
        refine c_skip ?_
        refine c_seq ?_
        refine c_region ?_
        refine l_alloc (cs := (arrC 65 (fun j_ => [.int .u8 ((fun _ => 0) j_)]))) Tryd.zeroValue238 (by kernel_rfl) rfl rfl (fun b1 => ?_)
        refine l_nil ?_
        refine c_seq ?_
        refine c_region ?_
        refine l_val rfl rfl rfl (r_assign (v := .int .i64 65) rfl) ?_
        refine l_nil ?_
        refine c_meet (r := r) (σ := Int) (τ := Unit) (fun s => internal_strconv_formatBits_j1 a2 a3 s) (fun s t => [(0, v0), (1, .int .u64 s), (2, .int .i64 a2), (3, .bool a3), (4, .bool a4), (10, .slice none 0 0), (11, str []), (12, .pointer (some ⟨b1, 0, none⟩)), (13, .int .i64 65)]) (fun s t => [cellsC b1 (arrC 65 (fun j_ => [.int .u8 ((fun _ => 0) j_)])) 238]) (fun s t => True) ?_ ?_
        · refine c_seq ?_
          refine c_region ?_
          refine l_val rfl rfl rfl (r_move (v := .bool a3) rfl) ?_
          refine l_nil ?_
          refine c_if (b := a3) rfl (fun hb => ?_) (fun hb => ?_)
          · have H81 := cnd_t hb H47; clear H47
            refine c_region ?_
            refine l_val rfl rfl rfl (r_move (v := .int .u64 a1) rfl) ?_
            refine l_val rfl rfl rfl (r_negW rfl (wr_u64 _)) ?_
            refine l_val rfl rfl rfl (r_assign (v := .int .u64 (wU64 (0 - a1))) rfl) ?_
            refine l_nil ?_
            refine c_close (wU64 (0 - a1)) () 0 [0] (by exact ⟨rfl, rfl, rfl, rfl, rfl, rfl, rfl, rfl, rfl, trivial⟩) (by decide) rfl (by exact ⟨H81, trivial⟩) (Nat.lt_succ_self _)
          · have H82 := cnd_f hb H47; clear H47
            refine c_skip ?_
            refine c_close a1 () 0 [0] (by exact ⟨rfl, rfl, rfl, rfl, rfl, rfl, rfl, rfl, rfl, trivial⟩) (by decide) rfl (by exact ⟨H82, trivial⟩) (Nat.lt_succ_self _)
        · rintro x1 _ gg H48 _
          replace H48 : internal_strconv_formatBits_j1 a2 a3 x1 = some r := H48
          refine c_tidyF [(0, v0), (1, .int .u64 x1), (2, .int .i64 a2), (3, .bool a3), (4, .bool a4), (10, .slice none 0 0), (11, str []), (12, .pointer (some ⟨b1, 0, none⟩)), (13, .int .i64 65)] [cellsC b1 (arrC 65 (fun j_ => [.int .u8 ((fun _ => 0) j_)])) 238] rfl rfl ?_
          refine c_meet (r := r) (σ := Int × (Nat → Int)) (τ := Unit) (fun s => internal_strconv_formatBits_j2 a3 s.1 s.2) (fun s t => [(0, v0), (3, .bool a3), (4, .bool a4), (10, .slice none 0 0), (11, str []), (12, .pointer (some ⟨b1, 0, none⟩)), (13, .int .i64 s.1)]) (fun s t => [cellsC b1 (arrC 65 (fun j_ => [.int .u8 (s.2 j_)])) 238]) (fun s t => True) ?_ ?_
          · refine c_seq ?_
            refine c_region ?_
            refine l_val rfl rfl rfl (r_move (v := .int .i64 a2) rfl) ?_
            obtain ⟨t34, h_t34, H55⟩ := bnd_some H48; clear H48
            refine l_call (k211 h_t34) Tryd.call211 rfl rfl rfl ?_
            refine l_nil ?_
            refine c_if (b := t34) rfl (fun hb => ?_) (fun hb => ?_)
            · have H56 := cnd_t hb H55; clear H55
              refine c_seq ?_
              refine c_region ?_
              refine l_val rfl rfl rfl (r_move (v := .int .i64 a2) rfl) ?_
              refine l_val rfl rfl rfl (r_convG Tryd.runUnderlying3 Tryd.runUnderlying139 rfl (wr_u64 _)) ?_
              obtain ⟨t37, h_t37, H57⟩ := bnd_some H56; clear H56
              refine l_call (k212 h_t37) Tryd.call212 rfl rfl rfl ?_
              refine l_val rfl rfl rfl (r_convG Tryd.runUnderlying3 Tryd.runUnderlying139 rfl (wr_u64 _)) ?_
              refine l_val rfl rfl rfl (r_assign (v := .int .u64 (wU64 t37)) rfl) ?_
              refine l_nil ?_
              refine c_seq ?_
              refine c_region ?_
              refine l_val rfl rfl rfl (r_move (v := .int .i64 a2) rfl) ?_
              refine l_val rfl rfl rfl (r_convG Tryd.runUnderlying3 Tryd.runUnderlying183 rfl (wr_u64 _)) ?_
              refine l_val rfl rfl rfl (r_assign (v := .int .u64 (wU64 a2)) rfl) ?_
              refine l_nil ?_
              refine c_seq ?_
              refine c_region ?_
              refine l_val rfl rfl rfl (r_move (v := .int .i64 a2) rfl) ?_
              refine l_val rfl rfl rfl (r_convG Tryd.runUnderlying3 Tryd.runUnderlying139 rfl (wr_u64 _)) ?_
              refine l_val rfl rfl rfl (r_subW rfl rfl (wr_u64 _)) ?_
              refine l_val rfl rfl rfl (r_assign (v := .int .u64 (wU64 ((wU64 a2) - 1))) rfl) ?_
              refine l_nil ?_
              refine c_meet (r := r) (σ := Int × Int × (Nat → Int)) (τ := Unit) (fun s => internal_strconv_formatBits_j4 a3 s.1 s.2.1 s.2.2) (fun s t => [(0, v0), (1, .int .u64 s.1), (3, .bool a3), (4, .bool a4), (10, .slice none 0 0), (11, str []), (12, .pointer (some ⟨b1, 0, none⟩)), (13, .int .i64 s.2.1)]) (fun s t => [cellsC b1 (arrC 65 (fun j_ => [.int .u8 (s.2.2 j_)])) 238]) (fun s t => True) ?_ ?_
              · refine c_block ?_
                refine c_fix (σ := Int × Int × (Nat → Int)) (τ := Unit) (fun next5 s => internal_strconv_formatBits_l5 a2 a3 t37 next5 s.1 s.2.1 s.2.2) (fun s t => [(0, v0), (1, .int .u64 s.1), (3, .bool a3), (4, .bool a4), (10, .slice none 0 0), (11, str []), (12, .pointer (some ⟨b1, 0, none⟩)), (13, .int .i64 s.2.1), (14, .int .u64 (wU64 t37)), (15, .int .u64 (wU64 a2)), (16, .int .u64 (wU64 ((wU64 a2) - 1)))]) (fun s t => [cellsC b1 (arrC 65 (fun j_ => [.int .u8 (s.2.2 j_)])) 238]) (fun s t => True) (x1, 65, (fun _ => 0)) () [0] H57 (by exact trivial) (by exact ⟨rfl, rfl, rfl, rfl, rfl, rfl, rfl, rfl, rfl, rfl, rfl, trivial⟩) (by decide) rfl ?_
                rintro ⟨x1_4, x13_5, m_5⟩ _ m5 gg H62 _
                clear H57
                replace H62 : internal_strconv_formatBits_l5 a2 a3 t37 (it (fun next5 s => internal_strconv_formatBits_l5 a2 a3 t37 next5 s.1 s.2.1 s.2.2) m5) x1_4 x13_5 m_5 = some r := H62
                generalize hn5 : it (fun next5 s => internal_strconv_formatBits_l5 a2 a3 t37 next5 s.1 s.2.1 s.2.2) m5 = next5 at H62
                refine c_tidyF [(0, v0), (1, .int .u64 x1_4), (3, .bool a3), (4, .bool a4), (10, .slice none 0 0), (11, str []), (12, .pointer (some ⟨b1, 0, none⟩)), (13, .int .i64 x13_5), (14, .int .u64 (wU64 t37)), (15, .int .u64 (wU64 a2)), (16, .int .u64 (wU64 ((wU64 a2) - 1)))] [cellsC b1 (arrC 65 (fun j_ => [.int .u8 (m_5 j_)])) 238] rfl rfl ?_
                refine c_seq ?_
                refine c_seq ?_
                refine c_region ?_
                refine l_val rfl rfl rfl (r_move (v := .int .u64 x1_4) rfl) ?_
                refine l_val rfl rfl rfl (r_move (v := .int .u64 (wU64 a2)) rfl) ?_
                refine l_val rfl rfl rfl (r_geq rfl rfl) ?_
                refine l_nil ?_
                refine c_if (b := (decide ((wU64 a2) ≤ x1_4))) rfl (fun hb => ?_) (fun hb => ?_)
                · have H63 := cnd_t hb H62; clear H62
                  refine c_skip ?_
                  refine c_block ?_
                  refine c_seq ?_
                  refine c_region ?_
                  refine l_val rfl rfl rfl (r_move (v := .int .i64 x13_5) rfl) ?_
                  obtain ⟨t48, h_t48, H64⟩ := bnd_some H63; clear H63
                  refine l_val rfl rfl rfl (r_subG rfl rfl h_t48) ?_
                  refine l_val rfl rfl rfl (r_assign (v := .int .i64 t48) rfl) ?_
                  refine l_nil ?_
                  refine c_seq ?_
                  refine c_region ?_
                  refine l_val rfl rfl rfl (r_move (v := .int .i64 t48) rfl) ?_
                  refine l_val rfl rfl rfl (r_move (v := .int .u64 x1_4) rfl) ?_
                  refine l_val rfl rfl rfl (r_move (v := .int .u64 (wU64 ((wU64 a2) - 1))) rfl) ?_
                  refine l_val rfl rfl rfl (r_bitsAnd (bits := 64) rfl rfl rfl (wr_u64 _)) ?_
                  obtain ⟨t53, h_t53, H65⟩ := bnd_some H64; clear H64
                  refine l_val rfl rfl rfl (r_octG Tryd.underlying9 rfl rfl h_t53) ?_
                  obtain ⟨k54, h_k54, H66⟩ := bnd_some H65; clear H65
                  refine l_val rfl rfl rfl (r_indexPG Tryd.runUnderlying238 Tryd.sizeOf5 rfl rfl h_k54) ?_
                  refine l_store (i := 0) (vs := [.int .u8 t53]) (cs' := (arrC 65 (fun j_ => [.int .u8 ((setA m_5 k54 t53) j_)]))) Tryd.sizeOf5 rfl rfl rfl rfl rfl rfl rfl rfl (wr_arr (pre := []) (post := []) (f := fun (j_ : Int) => [.int .u8 j_]) (n := 65) (sz := 1) (a := m_5) (x := t53) (arr_whole _ _) rfl (fun _ => rfl) (gIx_lt h_k54) rfl (arr_whole _ _)) ?_
                  refine l_nil ?_
                  refine c_region ?_
                  refine l_val rfl rfl rfl (r_move (v := .int .u64 x1_4) rfl) ?_
                  refine l_val rfl rfl rfl (r_move (v := .int .u64 (wU64 t37)) rfl) ?_
                  obtain ⟨t57, h_t57, H67⟩ := bnd_some H66; clear H66
                  refine l_val rfl rfl rfl (r_shrG rfl rfl rfl h_t57) ?_
                  refine l_val rfl rfl rfl (r_assign (v := .int .u64 t57) rfl) ?_
                  refine l_nil ?_
                  refine c_close (t57, t48, (setA m_5 k54 t53)) () m5 [0] (by exact ⟨rfl, rfl, rfl, rfl, rfl, rfl, rfl, rfl, rfl, rfl, rfl, trivial⟩) (by decide) rfl (by exact ⟨(by subst hn5; exact H67), trivial⟩) (Nat.lt_succ_self _)
                · have H68 := cnd_f hb H62; clear H62
                  refine c_exit ?_
                  refine c_close (x1_4, x13_5, m_5) () 0 [0] (by exact ⟨rfl, rfl, rfl, rfl, rfl, rfl, rfl, rfl, trivial⟩) (by decide) rfl (by exact ⟨H68, trivial⟩) (Nat.lt_succ_self _)
              · rintro ⟨x1_2, x13_3, m_3⟩ _ gg H58 _
                replace H58 : internal_strconv_formatBits_j4 a3 x1_2 x13_3 m_3 = some r := H58
                refine c_tidyF [(0, v0), (1, .int .u64 x1_2), (3, .bool a3), (4, .bool a4), (10, .slice none 0 0), (11, str []), (12, .pointer (some ⟨b1, 0, none⟩)), (13, .int .i64 x13_3)] [cellsC b1 (arrC 65 (fun j_ => [.int .u8 (m_3 j_)])) 238] rfl rfl ?_
                refine c_seq ?_
                refine c_region ?_
                refine l_val rfl rfl rfl (r_move (v := .int .i64 x13_3) rfl) ?_
                obtain ⟨t59, h_t59, H59⟩ := bnd_some H58; clear H58
                refine l_val rfl rfl rfl (r_subG rfl rfl h_t59) ?_
                refine l_val rfl rfl rfl (r_assign (v := .int .i64 t59) rfl) ?_
                refine l_nil ?_
                refine c_region ?_
                refine l_val rfl rfl rfl (r_move (v := .int .i64 t59) rfl) ?_
                refine l_val rfl rfl rfl (r_move (v := .int .u64 x1_2) rfl) ?_
                obtain ⟨t62, h_t62, H60⟩ := bnd_some H59; clear H59
                refine l_val rfl rfl rfl (r_octG Tryd.underlying9 rfl rfl h_t62) ?_
                obtain ⟨k63, h_k63, H61⟩ := bnd_some H60; clear H60
                refine l_val rfl rfl rfl (r_indexPG Tryd.runUnderlying238 Tryd.sizeOf5 rfl rfl h_k63) ?_
                refine l_store (i := 0) (vs := [.int .u8 t62]) (cs' := (arrC 65 (fun j_ => [.int .u8 ((setA m_3 k63 t62) j_)]))) Tryd.sizeOf5 rfl rfl rfl rfl rfl rfl rfl rfl (wr_arr (pre := []) (post := []) (f := fun (j_ : Int) => [.int .u8 j_]) (n := 65) (sz := 1) (a := m_3) (x := t62) (arr_whole _ _) rfl (fun _ => rfl) (gIx_lt h_k63) rfl (arr_whole _ _)) ?_
                refine l_nil ?_
                refine c_close (t59, (setA m_3 k63 t62)) () 0 [0] (by exact ⟨rfl, rfl, rfl, rfl, rfl, rfl, rfl, trivial⟩) (by decide) rfl (by exact ⟨H61, trivial⟩) (Nat.lt_succ_self _)
            · have H69 := cnd_f hb H55; clear H55
              refine c_seq ?_
              refine c_region ?_
              refine l_val rfl rfl rfl (r_move (v := .int .i64 a2) rfl) ?_
              refine l_val rfl rfl rfl (r_convG Tryd.runUnderlying3 Tryd.runUnderlying183 rfl (wr_u64 _)) ?_
              refine l_val rfl rfl rfl (r_assign (v := .int .u64 (wU64 a2)) rfl) ?_
              refine l_nil ?_
              refine c_meet (r := r) (σ := Int × Int × (Nat → Int)) (τ := Unit) (fun s => internal_strconv_formatBits_j6 a3 s.1 s.2.1 s.2.2) (fun s t => [(0, v0), (1, .int .u64 s.1), (3, .bool a3), (4, .bool a4), (10, .slice none 0 0), (11, str []), (12, .pointer (some ⟨b1, 0, none⟩)), (13, .int .i64 s.2.1)]) (fun s t => [cellsC b1 (arrC 65 (fun j_ => [.int .u8 (s.2.2 j_)])) 238]) (fun s t => True) ?_ ?_
              · refine c_block ?_
                refine c_fix (σ := Int × Int × (Nat → Int)) (τ := Unit) (fun next7 s => internal_strconv_formatBits_l7 a2 a3 next7 s.1 s.2.1 s.2.2) (fun s t => [(0, v0), (1, .int .u64 s.1), (3, .bool a3), (4, .bool a4), (10, .slice none 0 0), (11, str []), (12, .pointer (some ⟨b1, 0, none⟩)), (13, .int .i64 s.2.1), (17, .int .u64 (wU64 a2))]) (fun s t => [cellsC b1 (arrC 65 (fun j_ => [.int .u8 (s.2.2 j_)])) 238]) (fun s t => True) (x1, 65, (fun _ => 0)) () [0] H69 (by exact trivial) (by exact ⟨rfl, rfl, rfl, rfl, rfl, rfl, rfl, rfl, rfl, trivial⟩) (by decide) rfl ?_
                rintro ⟨x1_7, x13_8, m_8⟩ _ m7 gg H74 _
                clear H69
                replace H74 : internal_strconv_formatBits_l7 a2 a3 (it (fun next7 s => internal_strconv_formatBits_l7 a2 a3 next7 s.1 s.2.1 s.2.2) m7) x1_7 x13_8 m_8 = some r := H74
                generalize hn7 : it (fun next7 s => internal_strconv_formatBits_l7 a2 a3 next7 s.1 s.2.1 s.2.2) m7 = next7 at H74
                refine c_tidyF [(0, v0), (1, .int .u64 x1_7), (3, .bool a3), (4, .bool a4), (10, .slice none 0 0), (11, str []), (12, .pointer (some ⟨b1, 0, none⟩)), (13, .int .i64 x13_8), (17, .int .u64 (wU64 a2))] [cellsC b1 (arrC 65 (fun j_ => [.int .u8 (m_8 j_)])) 238] rfl rfl ?_
                refine c_seq ?_
                refine c_seq ?_
                refine c_region ?_
                refine l_val rfl rfl rfl (r_move (v := .int .u64 x1_7) rfl) ?_
                refine l_val rfl rfl rfl (r_move (v := .int .u64 (wU64 a2)) rfl) ?_
                refine l_val rfl rfl rfl (r_geq rfl rfl) ?_
                refine l_nil ?_
                refine c_if (b := (decide ((wU64 a2) ≤ x1_7))) rfl (fun hb => ?_) (fun hb => ?_)
                · have H75 := cnd_t hb H74; clear H74
                  refine c_skip ?_
                  refine c_block ?_
                  refine c_seq ?_
                  refine c_region ?_
                  refine l_val rfl rfl rfl (r_move (v := .int .i64 x13_8) rfl) ?_
                  obtain ⟨t70, h_t70, H76⟩ := bnd_some H75; clear H75
                  refine l_val rfl rfl rfl (r_subG rfl rfl h_t70) ?_
                  refine l_val rfl rfl rfl (r_assign (v := .int .i64 t70) rfl) ?_
                  refine l_nil ?_
                  refine c_seq ?_
                  refine c_region ?_
                  refine l_val rfl rfl rfl (r_move (v := .int .u64 x1_7) rfl) ?_
                  refine l_val rfl rfl rfl (r_move (v := .int .u64 (wU64 a2)) rfl) ?_
                  obtain ⟨t73, h_t73, H77⟩ := bnd_some H76; clear H76
                  refine l_val rfl rfl rfl (r_quoU rfl rfl ⟨rfl, rfl⟩ h_t73) ?_
                  refine l_val rfl rfl rfl (r_assign (v := .int .u64 t73) rfl) ?_
                  refine l_nil ?_
                  refine c_seq ?_
                  refine c_region ?_
                  refine l_val rfl rfl rfl (r_move (v := .int .i64 t70) rfl) ?_
                  refine l_val rfl rfl rfl (r_move (v := .int .u64 x1_7) rfl) ?_
                  refine l_val rfl rfl rfl (r_move (v := .int .u64 t73) rfl) ?_
                  refine l_val rfl rfl rfl (r_move (v := .int .u64 (wU64 a2)) rfl) ?_
                  refine l_val rfl rfl rfl (r_mulW rfl rfl (wr_u64 _)) ?_
                  refine l_val rfl rfl rfl (r_subW rfl rfl (wr_u64 _)) ?_
                  obtain ⟨t80, h_t80, H78⟩ := bnd_some H77; clear H77
                  refine l_val rfl rfl rfl (r_octG Tryd.underlying9 rfl rfl h_t80) ?_
                  obtain ⟨k81, h_k81, H79⟩ := bnd_some H78; clear H78
                  refine l_val rfl rfl rfl (r_indexPG Tryd.runUnderlying238 Tryd.sizeOf5 rfl rfl h_k81) ?_
                  refine l_store (i := 0) (vs := [.int .u8 t80]) (cs' := (arrC 65 (fun j_ => [.int .u8 ((setA m_8 k81 t80) j_)]))) Tryd.sizeOf5 rfl rfl rfl rfl rfl rfl rfl rfl (wr_arr (pre := []) (post := []) (f := fun (j_ : Int) => [.int .u8 j_]) (n := 65) (sz := 1) (a := m_8) (x := t80) (arr_whole _ _) rfl (fun _ => rfl) (gIx_lt h_k81) rfl (arr_whole _ _)) ?_
                  refine l_nil ?_
                  refine c_region ?_
                  refine l_val rfl rfl rfl (r_move (v := .int .u64 t73) rfl) ?_
                  refine l_val rfl rfl rfl (r_assign (v := .int .u64 t73) rfl) ?_
                  refine l_nil ?_
                  refine c_close (t73, t70, (setA m_8 k81 t80)) () m7 [0] (by exact ⟨rfl, rfl, rfl, rfl, rfl, rfl, rfl, rfl, rfl, trivial⟩) (by decide) rfl (by exact ⟨(by subst hn7; exact H79), trivial⟩) (Nat.lt_succ_self _)
                · have H80 := cnd_f hb H74; clear H74
                  refine c_exit ?_
                  refine c_close (x1_7, x13_8, m_8) () 0 [0] (by exact ⟨rfl, rfl, rfl, rfl, rfl, rfl, rfl, rfl, trivial⟩) (by decide) rfl (by exact ⟨H80, trivial⟩) (Nat.lt_succ_self _)
              · rintro ⟨x1_5, x13_6, m_6⟩ _ gg H70 _
                replace H70 : internal_strconv_formatBits_j6 a3 x1_5 x13_6 m_6 = some r := H70
                refine c_tidyF [(0, v0), (1, .int .u64 x1_5), (3, .bool a3), (4, .bool a4), (10, .slice none 0 0), (11, str []), (12, .pointer (some ⟨b1, 0, none⟩)), (13, .int .i64 x13_6)] [cellsC b1 (arrC 65 (fun j_ => [.int .u8 (m_6 j_)])) 238] rfl rfl ?_
                refine c_seq ?_
                refine c_region ?_
                refine l_val rfl rfl rfl (r_move (v := .int .i64 x13_6) rfl) ?_
                obtain ⟨t84, h_t84, H71⟩ := bnd_some H70; clear H70
                refine l_val rfl rfl rfl (r_subG rfl rfl h_t84) ?_
                refine l_val rfl rfl rfl (r_assign (v := .int .i64 t84) rfl) ?_
                refine l_nil ?_
                refine c_region ?_
                refine l_val rfl rfl rfl (r_move (v := .int .i64 t84) rfl) ?_
                refine l_val rfl rfl rfl (r_move (v := .int .u64 x1_5) rfl) ?_
                obtain ⟨t87, h_t87, H72⟩ := bnd_some H71; clear H71
                refine l_val rfl rfl rfl (r_octG Tryd.underlying9 rfl rfl h_t87) ?_
                obtain ⟨k88, h_k88, H73⟩ := bnd_some H72; clear H72
                refine l_val rfl rfl rfl (r_indexPG Tryd.runUnderlying238 Tryd.sizeOf5 rfl rfl h_k88) ?_
                refine l_store (i := 0) (vs := [.int .u8 t87]) (cs' := (arrC 65 (fun j_ => [.int .u8 ((setA m_6 k88 t87) j_)]))) Tryd.sizeOf5 rfl rfl rfl rfl rfl rfl rfl rfl (wr_arr (pre := []) (post := []) (f := fun (j_ : Int) => [.int .u8 j_]) (n := 65) (sz := 1) (a := m_6) (x := t87) (arr_whole _ _) rfl (fun _ => rfl) (gIx_lt h_k88) rfl (arr_whole _ _)) ?_
                refine l_nil ?_
                refine c_close (t84, (setA m_6 k88 t87)) () 0 [0] (by exact ⟨rfl, rfl, rfl, rfl, rfl, rfl, rfl, trivial⟩) (by decide) rfl (by exact ⟨H73, trivial⟩) (Nat.lt_succ_self _)
          · rintro ⟨x13, m⟩ _ gg H49 _
            replace H49 : internal_strconv_formatBits_j2 a3 x13 m = some r := H49
            refine c_tidyF [(0, v0), (3, .bool a3), (4, .bool a4), (10, .slice none 0 0), (11, str []), (12, .pointer (some ⟨b1, 0, none⟩)), (13, .int .i64 x13)] [cellsC b1 (arrC 65 (fun j_ => [.int .u8 (m j_)])) 238] rfl rfl ?_
            refine c_meet (r := r) (σ := Int × (Nat → Int)) (τ := Unit) (fun s => internal_strconv_formatBits_j3 s.1 s.2) (fun s t => [(0, v0), (4, .bool a4), (10, .slice none 0 0), (11, str []), (12, .pointer (some ⟨b1, 0, none⟩)), (13, .int .i64 s.1)]) (fun s t => [cellsC b1 (arrC 65 (fun j_ => [.int .u8 (s.2 j_)])) 238]) (fun s t => True) ?_ ?_
            · refine c_seq ?_
              refine c_region ?_
              refine l_val rfl rfl rfl (r_move (v := .bool a3) rfl) ?_
              refine l_nil ?_
              refine c_if (b := a3) rfl (fun hb => ?_) (fun hb => ?_)
              · have H51 := cnd_t hb H49; clear H49
                refine c_seq ?_
                refine c_region ?_
                refine l_val rfl rfl rfl (r_move (v := .int .i64 x13) rfl) ?_
                obtain ⟨t91, h_t91, H52⟩ := bnd_some H51; clear H51
                refine l_val rfl rfl rfl (r_subG rfl rfl h_t91) ?_
                refine l_val rfl rfl rfl (r_assign (v := .int .i64 t91) rfl) ?_
                refine l_nil ?_
                refine c_region ?_
                refine l_val rfl rfl rfl (r_move (v := .int .i64 t91) rfl) ?_
                obtain ⟨k93, h_k93, H53⟩ := bnd_some H52; clear H52
                refine l_val rfl rfl rfl (r_indexPG Tryd.runUnderlying238 Tryd.sizeOf5 rfl rfl h_k93) ?_
                refine l_store (i := 0) (vs := [.int .u8 45]) (cs' := (arrC 65 (fun j_ => [.int .u8 ((setA m k93 45) j_)]))) Tryd.sizeOf5 rfl rfl rfl rfl rfl rfl rfl rfl (wr_arr (pre := []) (post := []) (f := fun (j_ : Int) => [.int .u8 j_]) (n := 65) (sz := 1) (a := m) (x := 45) (arr_whole _ _) rfl (fun _ => rfl) (gIx_lt h_k93) rfl (arr_whole _ _)) ?_
                refine l_nil ?_
                refine c_close (t91, (setA m k93 45)) () 0 [0] (by exact ⟨rfl, rfl, rfl, rfl, rfl, rfl, trivial⟩) (by decide) rfl (by exact ⟨H53, trivial⟩) (Nat.lt_succ_self _)
              · have H54 := cnd_f hb H49; clear H49
                refine c_skip ?_
                refine c_close (x13, m) () 0 [0] (by exact ⟨rfl, rfl, rfl, rfl, rfl, rfl, trivial⟩) (by decide) rfl (by exact ⟨H54, trivial⟩) (Nat.lt_succ_self _)
            · rintro ⟨x13_2, m_2⟩ _ gg H50 _
              replace H50 : internal_strconv_formatBits_j3 x13_2 m_2 = some r := H50
              refine c_tidyF [(0, v0), (4, .bool a4), (10, .slice none 0 0), (11, str []), (12, .pointer (some ⟨b1, 0, none⟩)), (13, .int .i64 x13_2)] [cellsC b1 (arrC 65 (fun j_ => [.int .u8 (m_2 j_)])) 238] rfl rfl ?_
              exact absurd (show (none : Option ((List Int) × (List UInt8))) = some r from H50) (fun h => by cases h)
theorem k185 {a0 : Int} {a1 : Int} {r : (List UInt8)} (H : internal_strconv_FormatInt a0 a1 = some r) : Ret Tryd.prog 185 [.int .i64 a0, .int .i64 a1] (str r) := by
  refine enterRet (n := 54) Tryd.func185 rfl rfl rfl (fun wd => ?_)
  refine c_seq ?_
  refine c_region ?_
  refine l_val rfl rfl rfl (r_assign (v := str []) rfl) ?_
  refine l_nil ?_
  refine c_seq ?_
  refine c_seq ?_
  refine c_region ?_
  refine l_val rfl rfl rfl (r_move (v := .int .i64 a1) rfl) ?_
  refine l_val rfl rfl rfl (r_eql rfl rfl) ?_
  refine l_nil ?_
  refine c_if (b := (decide (a1 = 10))) rfl (fun hb => ?_) (fun hb => ?_)
  · have H13 := cnd_t hb H; clear H
    refine c_meet (r := r) (σ := Unit) (τ := Unit) (fun s => internal_strconv_FormatInt_j1 a0) (fun s t => [(0, .int .i64 a0), (1, .int .i64 a1)]) (fun s t => []) (fun s t => True) ?_ ?_
    · refine c_seq ?_
      refine c_region ?_
      refine l_val rfl rfl rfl (r_move (v := .int .i64 a0) rfl) ?_
      refine l_val rfl rfl rfl (r_leq rfl rfl) ?_
      refine l_val rfl rfl rfl (r_move (v := .bool (decide (0 ≤ a0))) rfl) ?_
      refine split (fun hb => ?_) (fun hb => ?_)
      · have H18 := cnd_t hb H13; clear H13
        refine l_val rfl rfl rfl (r_move (v := .int .i64 a0) rfl) ?_
        refine l_val rfl rfl rfl (r_lss rfl rfl) ?_
        refine l_val rfl rfl rfl (r_pickT (v := .bool (decide (a0 < 100))) rfl rfl) ?_
        refine l_nil ?_
        refine c_if (b := (decide (a0 < 100))) rfl (fun hb => ?_) (fun hb => ?_)
        · have H19 := cnd_t hb H18; clear H18
          refine c_seq ?_
          refine c_region ?_
          refine l_val rfl rfl rfl (r_move (v := .int .i64 a0) rfl) ?_
          obtain ⟨t19, h_t19, H20⟩ := bnd_some H19; clear H19
          refine l_call (k201 h_t19) Tryd.call201 rfl rfl rfl ?_
          refine l_val rfl rfl rfl (r_assign (v := str t19) rfl) ?_
          refine l_nil ?_
          refine c_ret ?_
          obtain rfl := Option.some.inj H20
          refine ret1 (v := str t19) rfl rfl (fin rfl)
        · have H21 := cnd_f hb H18; clear H18
          refine c_skip ?_
          refine c_close () () 0 [] (by exact ⟨rfl, rfl, trivial⟩) (by decide) rfl (by exact ⟨H21, trivial⟩) (Nat.lt_succ_self _)
      · have H22 := cnd_f hb H13; clear H13
        refine l_passed rfl rfl rfl ?_
        refine l_passed rfl rfl rfl ?_
        refine l_val rfl rfl rfl (r_pickF (v := .bool false) rfl rfl) ?_
        refine l_nil ?_
        refine c_false rfl ?_
        refine c_skip ?_
        refine c_close () () 0 [] (by exact ⟨rfl, rfl, trivial⟩) (by decide) rfl (by exact ⟨H22, trivial⟩) (Nat.lt_succ_self _)
    · rintro _ _ gg H14 _
      replace H14 : internal_strconv_FormatInt_j1 a0 = some r := H14
      refine c_tidyF [(0, .int .i64 a0), (1, .int .i64 a1)] [] rfl rfl ?_
      refine c_seq ?_
      refine c_region ?_
      refine l_alloc (cs := [.int .u8 0, .int .u8 0, .int .u8 0, .int .u8 0, .int .u8 0, .int .u8 0, .int .u8 0, .int .u8 0, .int .u8 0, .int .u8 0, .int .u8 0, .int .u8 0, .int .u8 0, .int .u8 0, .int .u8 0, .int .u8 0, .int .u8 0, .int .u8 0, .int .u8 0, .int .u8 0, .int .u8 0, .int .u8 0, .int .u8 0, .int .u8 0]) Tryd.zeroValue231 rfl rfl rfl (fun b1 => ?_)
      refine l_nil ?_
      refine c_seq ?_
      refine c_region ?_
      refine l_val rfl rfl rfl (r_move (v := .int .i64 a0) rfl) ?_
      refine l_val rfl rfl rfl (r_convG Tryd.runUnderlying2 Tryd.runUnderlying183 rfl (wr_u64 _)) ?_
      refine l_val rfl rfl rfl (r_assign (v := .int .u64 (wU64 a0)) rfl) ?_
      refine l_nil ?_
      refine c_meet (r := r) (σ := Int) (τ := Unit) (fun s => internal_strconv_FormatInt_j2 s) (fun s t => [(0, .int .i64 a0), (1, .int .i64 a1), (5, .pointer (some ⟨b1, 0, none⟩)), (6, .int .u64 s)]) (fun s t => [cellsC b1 [.int .u8 0, .int .u8 0, .int .u8 0, .int .u8 0, .int .u8 0, .int .u8 0, .int .u8 0, .int .u8 0, .int .u8 0, .int .u8 0, .int .u8 0, .int .u8 0, .int .u8 0, .int .u8 0, .int .u8 0, .int .u8 0, .int .u8 0, .int .u8 0, .int .u8 0, .int .u8 0, .int .u8 0, .int .u8 0, .int .u8 0, .int .u8 0] 231]) (fun s t => True) ?_ ?_
      · refine c_seq ?_
        refine c_region ?_
        refine l_val rfl rfl rfl (r_move (v := .int .i64 a0) rfl) ?_
        refine l_val rfl rfl rfl (r_lss rfl rfl) ?_
        refine l_nil ?_
        refine c_if (b := (decide (a0 < 0))) rfl (fun hb => ?_) (fun hb => ?_)
        · have H16 := cnd_t hb H14; clear H14
          refine c_region ?_
          refine l_val rfl rfl rfl (r_move (v := .int .u64 (wU64 a0)) rfl) ?_
          refine l_val rfl rfl rfl (r_negW rfl (wr_u64 _)) ?_
          refine l_val rfl rfl rfl (r_assign (v := .int .u64 (wU64 (0 - (wU64 a0)))) rfl) ?_
          refine l_nil ?_
          refine c_close (wU64 (0 - (wU64 a0))) () 0 [0] (by exact ⟨rfl, rfl, rfl, rfl, trivial⟩) (by decide) rfl (by exact ⟨H16, trivial⟩) (Nat.lt_succ_self _)
        · have H17 := cnd_f hb H14; clear H14
          refine c_skip ?_
          refine c_close (wU64 a0) () 0 [0] (by exact ⟨rfl, rfl, rfl, rfl, trivial⟩) (by decide) rfl (by exact ⟨H17, trivial⟩) (Nat.lt_succ_self _)
      · rintro x6 _ gg H15 _
        replace H15 : internal_strconv_FormatInt_j2 x6 = some r := H15
        refine c_tidyF [(0, .int .i64 a0), (1, .int .i64 a1), (5, .pointer (some ⟨b1, 0, none⟩)), (6, .int .u64 x6)] [cellsC b1 [.int .u8 0, .int .u8 0, .int .u8 0, .int .u8 0, .int .u8 0, .int .u8 0, .int .u8 0, .int .u8 0, .int .u8 0, .int .u8 0, .int .u8 0, .int .u8 0, .int .u8 0, .int .u8 0, .int .u8 0, .int .u8 0, .int .u8 0, .int .u8 0, .int .u8 0, .int .u8 0, .int .u8 0, .int .u8 0, .int .u8 0, .int .u8 0] 231] rfl rfl ?_
        exact absurd (show (none : Option ((List UInt8))) = some r from H15) (fun h => by cases h)
  · have H23 := cnd_f hb H; clear H
    refine c_skip ?_
    refine c_seq ?_
    refine c_region ?_
    refine l_val rfl rfl rfl (r_move (v := .int .i64 a0) rfl) ?_
    refine l_val rfl rfl rfl (r_convG Tryd.runUnderlying2 Tryd.runUnderlying183 rfl (wr_u64 _)) ?_
    refine l_val rfl rfl rfl (r_move (v := .int .i64 a1) rfl) ?_
    refine l_val rfl rfl rfl (r_move (v := .int .i64 a0) rfl) ?_
    refine l_val rfl rfl rfl (r_lss rfl rfl) ?_
    obtain ⟨t50, h_t50, H24⟩ := bnd_some H23; clear H23
    refine l_make (makes_call (rds := []) (G := fun x : (Option Addr × Nat) => .tuple #[.slice x.1 t50.1.length x.2, str t50.2]) (C := fun x : (Option Addr × Nat) => rowV 5 1 (.slice x.1 t50.1.length x.2) t50.1.length (t50.1.map e_u8)) (fun w L' hF hS hi => k204 (know_all w) (FrS.nil _ _) h_t50) Tryd.call204 rfl) rfl rfl rfl (fun p => ?_)
    refine l_val rfl rfl rfl (r_move (v := .tuple #[.slice p.1 t50.1.length p.2, str t50.2]) rfl) ?_
    refine l_val rfl rfl rfl (r_extract (v := .slice p.1 t50.1.length p.2) rfl rfl) ?_
    refine l_val rfl rfl rfl (r_extract (v := str t50.2) rfl rfl) ?_
    refine l_val rfl rfl rfl (r_assign (v := .slice p.1 t50.1.length p.2) rfl) ?_
    refine l_val rfl rfl rfl (r_assign (v := str t50.2) rfl) ?_
    refine l_nil ?_
    refine c_seq ?_
    refine c_region ?_
    refine l_val rfl rfl rfl (r_move (v := str t50.2) rfl) ?_
    refine l_val rfl rfl rfl (r_assign (v := str t50.2) rfl) ?_
    refine l_nil ?_
    refine c_ret ?_
    obtain rfl := Option.some.inj H24
    refine ret1 (v := str t50.2) rfl rfl (fin rfl)
theorem k148 {a0 : Int} {r : (List UInt8)} (H : internal_strconv_Itoa a0 = some r) : Ret Tryd.prog 148 [.int .i64 a0] (str r) := by
  refine enterRet (n := 5) Tryd.func148 rfl rfl rfl (fun wd => ?_)
  refine c_seq ?_
  refine c_region ?_
  refine l_val rfl rfl rfl (r_assign (v := str []) rfl) ?_
  refine l_nil ?_
  refine c_seq ?_
  refine c_region ?_
  refine l_val rfl rfl rfl (r_move (v := .int .i64 a0) rfl) ?_
  obtain ⟨t4, h_t4, H2⟩ := bnd_some H; clear H
  refine l_call (k185 h_t4) Tryd.call185 rfl rfl rfl ?_
  refine l_val rfl rfl rfl (r_assign (v := str t4) rfl) ?_
  refine l_nil ?_
  refine c_ret ?_
  obtain rfl := Option.some.inj H2
  refine ret1 (v := str t4) rfl rfl (fin rfl)
theorem k109 {a0 : Int} {r : (List UInt8)} (H : strconv_Itoa a0 = some r) : Ret Tryd.prog 109 [.int .i64 a0] (str r) := by
  refine enterRet (n := 5) Tryd.func109 rfl rfl rfl (fun wd => ?_)
  refine c_seq ?_
  refine c_region ?_
  refine l_val rfl rfl rfl (r_assign (v := str []) rfl) ?_
  refine l_nil ?_
  refine c_seq ?_
  refine c_region ?_
  refine l_val rfl rfl rfl (r_move (v := .int .i64 a0) rfl) ?_
  obtain ⟨t4, h_t4, H2⟩ := bnd_some H; clear H
  refine l_call (k148 h_t4) Tryd.call148 rfl rfl rfl ?_
  refine l_val rfl rfl rfl (r_assign (v := str t4) rfl) ?_
  refine l_nil ?_
  refine c_ret ?_
  obtain rfl := Option.some.inj H2
  refine ret1 (v := str t4) rfl rfl (fin rfl)
theorem k61 {a0 : T_edit_Step} {r : (List UInt8)} (H : edit_Step_line a0 = some r) : Ret Tryd.prog 61 [.agg #[.int .i64 a0.Kind, .int .i64 a0.A, .int .i64 a0.B, .int .i64 a0.C, .int .i64 a0.D]] (str r) := by
  refine enterRet (n := 29) Tryd.func61 rfl rfl rfl (fun wd => ?_)
  refine c_seq ?_
  refine c_region ?_
  refine l_box (cs := [.int .i64 a0.Kind, .int .i64 a0.A, .int .i64 a0.B, .int .i64 a0.C, .int .i64 a0.D]) rfl rfl rfl rfl (fun b1 => ?_)
  refine l_val rfl rfl rfl (r_assign (v := str []) rfl) ?_
  refine l_nil ?_
  refine c_seq ?_
  refine c_region ?_
  refine l_val rfl rfl rfl (r_field Tryd.runUnderlying35 rfl Tryd.sizeOf3 rfl rfl) ?_
  refine l_load1 (i := 0) (v := .int .i64 a0.Kind) Tryd.isAgg3 rfl rfl rfl rfl rfl ?_
  obtain ⟨t10, h_t10, H12⟩ := bnd_some H; clear H
  refine l_call (k107 h_t10) Tryd.call107 rfl rfl rfl ?_
  refine l_val rfl rfl rfl (r_move (v := .tuple #[str t10.1, .int .i64 t10.2]) rfl) ?_
  refine l_val rfl rfl rfl (r_extract (v := str t10.1) rfl rfl) ?_
  refine l_val rfl rfl rfl (r_extract (v := .int .i64 t10.2) rfl rfl) ?_
  refine l_val rfl rfl rfl (r_assign (v := str t10.1) rfl) ?_
  refine l_val rfl rfl rfl (r_assign (v := .int .i64 t10.2) rfl) ?_
  refine l_nil ?_
  refine c_seq ?_
  refine c_seq ?_
  refine c_region ?_
  refine l_loadN (i := 0) (vs := [.int .i64 a0.Kind, .int .i64 a0.A, .int .i64 a0.B, .int .i64 a0.C, .int .i64 a0.D]) Tryd.isAgg35 Tryd.sizeOf35 rfl rfl rfl rfl rfl ?_
  obtain ⟨t14, h_t14, H13⟩ := bnd_some H12; clear H12
  refine l_make (makes_call (rds := []) (G := fun x : (Option Addr × Nat) => .slice x.1 t14.length x.2) (C := fun x : (Option Addr × Nat) => rowV 3 1 (.slice x.1 t14.length x.2) t14.length (t14.map e_i64)) (fun w L' hF hS hi => k108 (know_all w)  h_t14) Tryd.call108 rfl) rfl rfl rfl (fun p => ?_)
  refine l_val rfl rfl rfl (r_move (v := .int .i64 t10.2) rfl) ?_
  obtain ⟨t16, h_t16, H14⟩ := bnd_some H13; clear H13
  refine l_read (v := .slice (cutA p.1 (Int.toNat (0 : Int)) p.2 1) t16.length (p.2 - Int.toNat (0 : Int))) (fun w hF hS => run_sliceHO (xs := t14) Tryd.underlying131 Tryd.sizeOf3 rfl rfl rfl (capOf (i := 1) hS rfl) h_t16) rfl rfl rfl ?_
  refine l_val rfl rfl rfl (r_len Tryd.underlying131 rfl) ?_
  refine l_val rfl rfl rfl (r_move (v := .int .i64 0) rfl) ?_
  refine l_nil ?_
  refine c_block ?_
  refine c_sel [1] [rowV 3 1 (.slice p.1 t14.length p.2) t14.length (t14.map e_i64)] rfl (by decide) ?_
  refine c_fix (σ := (List UInt8) × Int) (τ := Unit) (fun next1 s => edit_Step_line_l1 t16 next1 s.1 s.2) (fun s t => [(3, str s.1), (16, .slice (cutA p.1 (Int.toNat (0 : Int)) p.2 1) t16.length (p.2 - Int.toNat (0 : Int))), (17, .int .i64 (t16.length : Int)), (18, .int .i64 s.2)]) (fun s t => [rowV 3 1 (.slice p.1 t14.length p.2) t14.length (t14.map e_i64)]) (fun s t => True) (t10.1, 0) () [0] H14 (by exact trivial) (by exact ⟨rfl, rfl, rfl, rfl, trivial⟩) (by decide) rfl ?_
  rintro ⟨x3_2, x18_2⟩ _ m1 gg H15 _
  clear H14
  replace H15 : edit_Step_line_l1 t16 (it (fun next1 s => edit_Step_line_l1 t16 next1 s.1 s.2) m1) x3_2 x18_2 = some r := H15
  generalize hn1 : it (fun next1 s => edit_Step_line_l1 t16 next1 s.1 s.2) m1 = next1 at H15
  refine c_tidyF [(3, str x3_2), (16, .slice (cutA p.1 (Int.toNat (0 : Int)) p.2 1) t16.length (p.2 - Int.toNat (0 : Int))), (17, .int .i64 (t16.length : Int)), (18, .int .i64 x18_2)] [rowV 3 1 (.slice p.1 t14.length p.2) t14.length (t14.map e_i64)] rfl rfl ?_
  refine c_seq ?_
  refine c_region ?_
  refine l_val rfl rfl rfl (r_lss rfl rfl) ?_
  refine l_nil ?_
  refine c_seq ?_
  refine c_if (b := (decide (x18_2 < (t16.length : Int)))) rfl (fun hb => ?_) (fun hb => ?_)
  · have H16 := cnd_t hb H15; clear H15
    refine c_skip ?_
    refine c_seq ?_
    refine c_block ?_
    refine c_seq ?_
    refine c_region ?_
    obtain ⟨t20, h_t20, H17⟩ := bnd_some H16; clear H16
    refine l_read (fun w hF hS => run_indexO Tryd.underlying131 Tryd.sizeOf3 rfl rfl (Row.cutG (rowOf (i := 0) hS rfl) rfl (capOf (i := 0) hS rfl) h_t16) rfl h_t20) rfl rfl rfl ?_
    refine l_read (fun w hF hS => run_loadG1 (f := e_i64) (i := x18_2) (sz := 1) (j := 0) (v := .int .i64 t20) Tryd.isAgg3 rfl rfl (Row.cutG (rowOf (i := 0) hS rfl) rfl (capOf (i := 0) hS rfl) h_t16) h_t20 rfl) rfl rfl rfl ?_
    refine l_val rfl rfl rfl (r_assign (v := .int .i64 t20) rfl) ?_
    refine l_nil ?_
    refine c_region ?_
    refine l_val rfl rfl rfl (r_move (v := str x3_2) rfl) ?_
    refine l_val rfl rfl rfl (r_move (v := .int .i64 t20) rfl) ?_
    obtain ⟨t24, h_t24, H18⟩ := bnd_some H17; clear H17
    refine l_call (k109 h_t24) Tryd.call109 rfl rfl rfl ?_
    obtain ⟨t25, h_t25, H19⟩ := bnd_some H18; clear H18
    refine l_val rfl rfl rfl (r_concatG rfl rfl h_t25) ?_
    obtain ⟨t26, h_t26, H20⟩ := bnd_some H19; clear H19
    refine l_val rfl rfl rfl (r_concatG rfl rfl h_t26) ?_
    refine l_val rfl rfl rfl (r_assign (v := str t26) rfl) ?_
    refine l_nil ?_
    refine c_region ?_
    obtain ⟨t27, h_t27, H21⟩ := bnd_some H20; clear H20
    refine l_val rfl rfl rfl (r_addG rfl rfl h_t27) ?_
    refine l_val rfl rfl rfl (r_move (v := .int .i64 t27) rfl) ?_
    refine l_nil ?_
    refine c_close (t26, t27) () m1 [0] (by exact ⟨rfl, rfl, rfl, rfl, trivial⟩) (by decide) rfl (by exact ⟨(by subst hn1; exact H21), trivial⟩) (Nat.lt_succ_self _)
  · have H22 := cnd_f hb H15; clear H15
    refine c_exit ?_
    refine c_seq ?_
    refine c_region ?_
    refine l_val rfl rfl rfl (r_move (v := str x3_2) rfl) ?_
    refine l_val rfl rfl rfl (r_assign (v := str x3_2) rfl) ?_
    refine l_nil ?_
    refine c_ret ?_
    obtain rfl := Option.some.inj H22
    refine ret1 (v := str x3_2) rfl rfl (fin rfl)
theorem ext186 (x : Value) (w : World) : (callFunc 186 (List.toArray [x])).run Tryd.prog w = .ok (.value x) w := by
  have h0 : (callFunc 186 #[x]).run Tryd.prog w = (do pure (.value (← Extern.AbiNoEscape.same #[x])) : Sem Next).run Tryd.prog w := by kernel_rfl
  rw [h0]; rfl

theorem k149 {pb0 : Nat} {q sl : Value} {w : World} {S : Nat → Prop} (hcs : (cellsC pb0 [q, sl] 148).P S w) (hlt : ∀ b, S b → b < w.heap.size) (hq : q = .pointer none ∨ q = .pointer (some ⟨pb0, 0, none⟩)) : Does Tryd.prog 149 (List.toArray [.pointer (some ⟨pb0, 0, none⟩)]) w (fun v w' => ∃ x : Unit, v = .tuple #[] ∧ Turn w w' S (cellsC pb0 [.pointer (some ⟨pb0, 0, none⟩), sl] 148)) := by
  refine enter (n := 20) Tryd.func149 rfl rfl rfl S [cellsC pb0 [q, sl] 148] (Sat.one hcs hlt) ?_
  refine c_seq ?_
  refine c_region ?_
  refine l_val rfl rfl rfl (r_move (v := .pointer (some ⟨pb0, 0, none⟩)) rfl) ?_
  refine l_val rfl rfl rfl (r_nilCheck rfl) ?_
  refine l_val rfl rfl rfl (r_field Tryd.runUnderlying148 rfl Tryd.sizeOf146 rfl rfl) ?_
  refine l_load1 (i := 0) (v := q) Tryd.isAgg146 rfl rfl rfl rfl rfl ?_
  rcases hq with rfl | rfl
  · refine l_val rfl rfl rfl (r_nilP (a := none) Tryd.underlying146 rfl rfl) ?_
    refine l_nil ?_
    refine c_true rfl ?_
    refine c_region ?_
    refine l_val rfl rfl rfl (r_move (v := .pointer (some ⟨pb0, 0, none⟩)) rfl) ?_
    refine l_val rfl rfl rfl (r_move (v := .pointer (some ⟨pb0, 0, none⟩)) rfl) ?_
    refine l_read (fun w hF hS => run_toU (cs := [.pointer none, sl]) (T := 148) Tryd.underlying146 Tryd.underlying217 (info_of Tryd.typeInfo148) (by decide) (sat_cell (i := 0) hS rfl) rfl rfl) rfl rfl rfl ?_
    refine l_val rfl rfl rfl (r_ext (args := [.pointer (some ⟨pb0, 0, none⟩)]) (ext186 _) rfl) ?_
    refine l_read (fun w hF hS => run_fromU (cs := [.pointer none, sl]) (T := 148) Tryd.underlying217 Tryd.underlying146 (info_of Tryd.typeInfo148) (sat_cell (i := 0) hS rfl) (by kernel_rfl) rfl) rfl rfl rfl ?_
    refine l_val rfl rfl rfl (r_nilCheck rfl) ?_
    refine l_val rfl rfl rfl (r_field Tryd.runUnderlying148 rfl Tryd.sizeOf146 rfl rfl) ?_
    refine l_store (i := 0) (vs := [.pointer (some ⟨pb0, 0, none⟩)]) (cs' := [.pointer (some ⟨pb0, 0, none⟩), sl]) Tryd.sizeOf146 rfl rfl rfl rfl rfl rfl rfl rfl rfl ?_
    refine l_nil ?_
    exact ret0n rfl (finX () (i := 0) rfl rfl (Imp.refl _))
  · refine l_val rfl rfl rfl (r_nilP (a := some ⟨pb0, 0, none⟩) Tryd.underlying146 rfl rfl) ?_
    refine l_nil ?_
    refine c_false rfl ?_
    refine c_seq ?_
    refine c_region ?_
    refine l_val rfl rfl rfl (r_move (v := .pointer (some ⟨pb0, 0, none⟩)) rfl) ?_
    refine l_val rfl rfl rfl (r_nilCheck rfl) ?_
    refine l_val rfl rfl rfl (r_field Tryd.runUnderlying148 rfl Tryd.sizeOf146 rfl rfl) ?_
    refine l_load1 (i := 0) (v := .pointer (some ⟨pb0, 0, none⟩)) Tryd.isAgg146 rfl rfl rfl rfl rfl ?_
    refine l_val rfl rfl rfl (r_move (v := .pointer (some ⟨pb0, 0, none⟩)) rfl) ?_
    refine l_val rfl rfl rfl (r_sameP Tryd.underlying146 (info_of Tryd.typeInfo148) rfl rfl) ?_
    refine l_nil ?_
    refine c_false rfl ?_
    refine c_skip ?_
    exact ret0n rfl (finX () (i := 0) rfl rfl (Imp.refl _))

theorem k111 {a0 : List UInt8} {pb0 : Nat} {a1 r : List UInt8} {w : World} {h : Heap} {S : Nat → Prop} (hcs : (bldC pb0 148 5 a0).P S w) (hlt : ∀ b, S b → b < w.heap.size) (hw : Know h w S) (H : gBld a0 a1 = some r) : Does Tryd.prog 111 (List.toArray [.pointer (some ⟨pb0, 0, none⟩), str a1]) w (fun v w' => ∃ x : Unit, v = .tuple #[.int .i64 (a1.length : Int), .nilIface] ∧ Turn w w' S (bldC pb0 148 5 r)) := by
  obtain ⟨rfl, hne, hbl⟩ := gBld_some H
  have hg : gApL 1 (ofStr a0) (ofStr a1) = some (ofStr (a0 ++ a1)) := by rw [gApL_ok (by simp [ofStr]; omega)]; simp [ofStr]
  refine enter (n := 19) Tryd.func111 rfl rfl rfl S [bldC pb0 148 5 a0] (Sat.one hcs hlt) ?_
  refine c_bld 0 rfl (fun q p hq hp => ?_)
  refine c_split 0 rfl ?_
  refine c_seq ?_
  refine c_region ?_
  refine l_val rfl rfl rfl (r_assign (v := .int .i64 0) rfl) ?_
  refine l_val rfl rfl rfl (r_assign (v := .nilIface) rfl) ?_
  refine l_nil ?_
  refine c_seq ?_
  refine c_region ?_
  refine l_val rfl rfl rfl (r_move (v := .pointer (some ⟨pb0, 0, none⟩)) rfl) ?_
  refine l_turn (turns_callB (i := 0) (rds := []) (G := fun _ : Unit => .tuple #[]) (C := fun _ => cellsC pb0 [.pointer (some ⟨pb0, 0, none⟩), .slice p.1 (ofStr a0).length p.2] 148) rfl (fun w L' S hF hS hi hp' hlt ho hA => k149 hp' hlt hq) Tryd.call149 rfl) rfl rfl rfl (fun _ => ?_)
  refine l_nil ?_
  refine c_seq ?_
  refine c_region ?_
  refine l_val rfl rfl rfl (r_move (v := .pointer (some ⟨pb0, 0, none⟩)) rfl) ?_
  refine l_val rfl rfl rfl (r_move (v := .pointer (some ⟨pb0, 0, none⟩)) rfl) ?_
  refine l_val rfl rfl rfl (r_nilCheck rfl) ?_
  refine l_val rfl rfl rfl (r_field Tryd.runUnderlying148 rfl Tryd.sizeOf50 rfl rfl) ?_
  refine l_load1 (i := 0) (v := .slice p.1 (ofStr a0).length p.2) Tryd.isAgg50 rfl rfl rfl rfl rfl ?_
  refine l_val rfl rfl rfl (r_move (v := str a1) rfl) ?_
  refine l_turn (turns_strG (i := 1) (rds := []) (f := e8) rfl Tryd.underlying50 Tryd.underlying9 (info_of Tryd.typeInfo5) rfl rfl rfl rfl rfl rfl (fun _ => rfl) hg) rfl rfl rfl (fun p2 => ?_)
  refine l_val rfl rfl rfl (r_nilCheck rfl) ?_
  refine l_val rfl rfl rfl (r_field Tryd.runUnderlying148 rfl Tryd.sizeOf50 rfl rfl) ?_
  refine l_store (i := 0) (vs := [.slice p2.1 (ofStr (a0 ++ a1)).length p2.2]) (cs' := [.pointer (some ⟨pb0, 0, none⟩), .slice p2.1 (ofStr (a0 ++ a1)).length p2.2]) Tryd.sizeOf50 rfl rfl rfl rfl rfl rfl rfl rfl rfl ?_
  refine l_nil ?_
  refine c_seq ?_
  refine c_region ?_
  refine l_val rfl rfl rfl (r_move (v := str a1) rfl) ?_
  refine l_val rfl rfl rfl (r_lenT Tryd.underlying9 rfl) ?_
  refine l_val rfl rfl rfl (r_assign (v := .int .i64 (a1.length : Int)) rfl) ?_
  refine l_val rfl rfl rfl (r_assign (v := .nilIface) rfl) ?_
  refine l_nil ?_
  refine c_ret ?_
  refine c_both 0 1 rfl rfl (by decide) ?_
  exact ret2 rfl rfl rfl (finX () (i := 0) rfl rfl (imp_bld (by simp [hne])))

theorem k112 {a0 : List UInt8} {pb0 : Nat}  {w : World} {h : Heap} {S : Nat → Prop} (hcs : (bldC pb0 148 5 a0).P S w) (hlt : ∀ b, S b → b < w.heap.size) (hw : Know h w S)  : Does Tryd.prog 112 (List.toArray [.pointer (some ⟨pb0, 0, none⟩)]) w (fun v w' => ∃ x : Unit, v = str a0 ∧ Turn w w' S empC) := by
  refine enter (n := 14) Tryd.func112 rfl rfl rfl S [bldC pb0 148 5 a0] (Sat.one hcs hlt) ?_
  refine c_bld 0 rfl (fun q p hq hp => ?_)
  refine c_split 0 rfl ?_
  refine c_seq ?_
  refine c_region ?_
  refine l_val rfl rfl rfl (r_assign (v := str []) rfl) ?_
  refine l_nil ?_
  refine c_seq ?_
  exact c_regionD (Kd.p :: Kd.p :: Kd.p :: Kd.d [0] _ :: Kd.p :: Kd.p :: Kd.p :: Kd.p :: Kd.d [0] _ :: Kd.p :: Kd.t 1 [] _ _ :: Kd.p :: []) 0 mixed (by
    refine d_val rfl rfl (r_move (v := .pointer (some ⟨pb0, 0, none⟩)) rfl) ?_
    refine d_val rfl rfl (r_nilCheck rfl) ?_
    refine d_val rfl rfl (r_field Tryd.runUnderlying148 rfl Tryd.sizeOf50 rfl rfl) ?_
    refine d_load1 (i := 0) (v := .slice p.1 (ofStr a0).length p.2) Tryd.isAgg50 rfl rfl rfl rfl ?_
    refine d_val rfl rfl (r_ssd hp rfl) ?_
    refine d_val rfl rfl (r_move (v := .pointer (some ⟨pb0, 0, none⟩)) rfl) ?_
    refine d_val rfl rfl (r_nilCheck rfl) ?_
    refine d_val rfl rfl (r_field Tryd.runUnderlying148 rfl Tryd.sizeOf50 rfl rfl) ?_
    refine d_load1 (i := 0) (v := .slice p.1 (ofStr a0).length p.2) Tryd.isAgg50 rfl rfl rfl rfl ?_
    refine d_val rfl rfl (r_len Tryd.underlying50 rfl) ?_
    refine d_turn (Cv := fun _ => empC) () (turns_ustr (i := 1) (bs := a0) (p := p) Tryd.underlying184 (by kernel_rfl) rfl rfl rfl) (fun _ => rfl) rfl rfl (fun _ => ?_)
    refine d_val rfl rfl (r_assign (v := str a0) rfl) ?_
    refine d_nil ?_
    refine c_ret ?_
    exact ret1 rfl rfl (finX () (i := 1) rfl rfl (Imp.refl _))
  ) (by kernel_rfl)

theorem k71 {a0 : (List T_edit_Step)} {v0 : Value} {r : (List UInt8) × Int} {w : World} {h : Heap} (hw : Know h w noS) (f0 : FrS h 5 v0 (a0.map e_edit_Step)) (H : edit_Text a0 = some r) : Does Tryd.prog 71 (List.toArray [v0]) w (fun v w' => v = (.tuple #[str r.1, .int .i64 r.2]) ∧ Grow w w') := by
  refine enter (n := 25) Tryd.func71 rfl rfl rfl noS [] (Sat.nil _ _) ?_
  refine c_seq ?_
  refine c_region ?_
  refine l_val rfl rfl rfl (r_assign (v := str []) rfl) ?_
  refine l_val rfl rfl rfl (r_assign (v := .int .i64 0) rfl) ?_
  refine l_nil ?_
  refine c_seq ?_
  refine c_seq ?_
  refine c_region ?_
  refine l_val rfl rfl rfl (r_move (v := v0) rfl) ?_
  obtain ⟨t9, h_t9, H13⟩ := bnd_some H; clear H
  refine l_callG (fun w hF hS => k73 (know_all w) (f0.mono (hw.now hF)) h_t9) Tryd.call73 rfl rfl rfl ?_
  refine l_val rfl rfl rfl (r_assign (v := .int .i64 t9) rfl) ?_
  refine l_nil ?_
  refine c_seq ?_
  refine c_region ?_
  refine l_val rfl rfl rfl (r_move (v := .int .i64 t9) rfl) ?_
  refine l_val rfl rfl rfl (r_neq rfl rfl) ?_
  refine l_nil ?_
  refine c_if (b := (decide (t9 ≠ 0))) rfl (fun hb => ?_) (fun hb => ?_)
  · have H14 := cnd_t hb H13; clear H13
    refine c_seq ?_
    refine c_region ?_
    refine l_val rfl rfl rfl (r_move (v := .int .i64 t9) rfl) ?_
    refine l_val rfl rfl rfl (r_assign (v := str []) rfl) ?_
    refine l_val rfl rfl rfl (r_assign (v := .int .i64 t9) rfl) ?_
    refine l_nil ?_
    refine c_ret ?_
    obtain rfl := Option.some.inj H14
    refine ret2 (v1 := str []) (v2 := .int .i64 t9) rfl rfl rfl (fin rfl)
  · have H15 := cnd_f hb H13; clear H13
    refine c_skip ?_
    refine c_seq ?_
    refine c_region ?_
    refine l_alloc (cs := [.pointer none, .slice none 0 0]) Tryd.zeroValue148 rfl rfl rfl (fun b2 => ?_)
    refine c_imp 0 rfl (imp_bldNew _ _ 5) ?_
    refine l_nil ?_
    refine c_meet (r := r) (σ := (List UInt8)) (τ := Unit) (fun s => edit_Text_j1 s) (fun s t => [(5, .pointer (some ⟨b2, 0, none⟩))]) (fun s t => [bldC b2 148 5 s]) (fun s t => True) ?_ ?_
    · refine c_seq ?_
      refine c_region ?_
      refine l_val rfl rfl rfl (r_move (v := v0) rfl) ?_
      refine l_val rfl rfl rfl (r_lenF Tryd.underlying22 rfl f0 rfl) ?_
      refine l_val rfl rfl rfl (r_move (v := .int .i64 0) rfl) ?_
      refine l_nil ?_
      refine c_block ?_
      refine c_fix (σ := Int × (List UInt8)) (τ := Unit) (fun next2 s => edit_Text_l2 a0 next2 s.1 s.2) (fun s t => [(5, .pointer (some ⟨b2, 0, none⟩)), (13, v0), (14, .int .i64 (a0.length : Int)), (15, .int .i64 s.1)]) (fun s t => [bldC b2 148 5 s.2]) (fun s t => True) (0, []) () [0] H15 (by exact trivial) (by exact ⟨rfl, rfl, rfl, rfl, trivial⟩) (by decide) rfl ?_
      rintro ⟨x15_2, m_3⟩ _ m2 gg H17 _
      clear H15
      replace H17 : edit_Text_l2 a0 (it (fun next2 s => edit_Text_l2 a0 next2 s.1 s.2) m2) x15_2 m_3 = some r := H17
      generalize hn2 : it (fun next2 s => edit_Text_l2 a0 next2 s.1 s.2) m2 = next2 at H17
      refine c_tidyF [(5, .pointer (some ⟨b2, 0, none⟩)), (13, v0), (14, .int .i64 (a0.length : Int)), (15, .int .i64 x15_2)] [bldC b2 148 5 m_3] rfl rfl ?_
      refine c_seq ?_
      refine c_region ?_
      refine l_val rfl rfl rfl (r_lss rfl rfl) ?_
      refine l_nil ?_
      refine c_seq ?_
      refine c_if (b := (decide (x15_2 < (a0.length : Int)))) rfl (fun hb => ?_) (fun hb => ?_)
      · have H18 := cnd_t hb H17; clear H17
        refine c_skip ?_
        refine c_seq ?_
        refine c_block ?_
        refine c_seq ?_
        refine c_region ?_
        obtain ⟨t17, h_t17, H19⟩ := bnd_some H18; clear H18
        refine l_val rfl rfl rfl (r_indexF Tryd.underlying22 Tryd.sizeOf35 rfl rfl f0 h_t17) ?_
        refine l_read (fun w hF hS => run_loadGN (f := e_edit_Step) (i := x15_2) (sz := 5) (j := 0) (vs := [.int .i64 t17.Kind, .int .i64 t17.A, .int .i64 t17.B, .int .i64 t17.C, .int .i64 t17.D]) Tryd.isAgg35 Tryd.sizeOf35 rfl rfl (f0.row (hw.now hF)) h_t17 rfl) rfl rfl rfl ?_
        refine l_alloc (cs := [.int .i64 0, .int .i64 0, .int .i64 0, .int .i64 0, .int .i64 0]) Tryd.zeroValue35 rfl rfl rfl (fun b3 => ?_)
        refine l_store (i := 1) (vs := [.int .i64 t17.Kind, .int .i64 t17.A, .int .i64 t17.B, .int .i64 t17.C, .int .i64 t17.D]) (cs' := [.int .i64 t17.Kind, .int .i64 t17.A, .int .i64 t17.B, .int .i64 t17.C, .int .i64 t17.D]) Tryd.sizeOf35 rfl rfl rfl rfl rfl rfl rfl rfl rfl ?_
        refine l_nil ?_
        refine c_region ?_
        refine l_loadN (i := 1) (vs := [.int .i64 t17.Kind, .int .i64 t17.A, .int .i64 t17.B, .int .i64 t17.C, .int .i64 t17.D]) Tryd.isAgg35 Tryd.sizeOf35 rfl rfl rfl rfl rfl ?_
        obtain ⟨t20, h_t20, H20⟩ := bnd_some H19; clear H19
        refine l_call (k61 h_t20) Tryd.call61 rfl rfl rfl ?_
        obtain ⟨t21, h_t21, H21⟩ := bnd_some H20; clear H20
        refine l_val rfl rfl rfl (r_concatG rfl rfl h_t21) ?_
        obtain ⟨t22, h_t22, H22⟩ := bnd_some H21; clear H21
        refine l_turn (turns_callB (i := 0) (rds := []) (G := fun _ : Unit => .tuple #[.int .i64 (t21.length : Int), .nilIface]) (C := fun _ => bldC b2 148 5 t22) rfl (fun w L' S hF hS hi hp hlt ho hA => k111 hp hlt (know_but w S) h_t22) Tryd.call111 rfl) rfl rfl rfl (fun _ => ?_)
        refine l_nil ?_
        refine c_region ?_
        obtain ⟨t23, h_t23, H23⟩ := bnd_some H22; clear H22
        refine l_val rfl rfl rfl (r_addG rfl rfl h_t23) ?_
        refine l_val rfl rfl rfl (r_move (v := .int .i64 t23) rfl) ?_
        refine l_nil ?_
        refine c_close (t23, t22) () m2 [0] (by exact ⟨rfl, rfl, rfl, rfl, trivial⟩) (by decide) rfl (by exact ⟨(by subst hn2; exact H23), trivial⟩) (Nat.lt_succ_self _)
      · have H24 := cnd_f hb H17; clear H17
        refine c_exit ?_
        refine c_close m_3 () 0 [0] (by exact ⟨rfl, trivial⟩) (by decide) rfl (by exact ⟨H24, trivial⟩) (Nat.lt_succ_self _)
    · rintro m _ gg H16 _
      replace H16 : edit_Text_j1 m = some r := H16
      refine c_tidyF [(5, .pointer (some ⟨b2, 0, none⟩))] [bldC b2 148 5 m] rfl rfl ?_
      refine c_seq ?_
      refine c_region ?_
      refine l_turn (turns_callB (i := 0) (rds := []) (G := fun _ : Unit => str m) (C := fun _ => empC) rfl (fun w L' S hF hS hi hp hlt ho hA => k112 hp hlt (know_but w S)) Tryd.call112 rfl) rfl rfl rfl (fun _ => ?_)
      refine l_val rfl rfl rfl (r_assign (v := str m) rfl) ?_
      refine l_val rfl rfl rfl (r_assign (v := .int .i64 0) rfl) ?_
      refine l_nil ?_
      refine c_ret ?_
      obtain rfl := Option.some.inj H16
      refine ret2 (v1 := str m) (v2 := .int .i64 0) rfl rfl rfl (fin rfl)
theorem k25 {r : Bool} (H : Keep_awakeEdit = some r) : Ret Tryd.prog 25 [] (.bool r) := by
  refine enterRet (n := 15) Tryd.func25 rfl rfl rfl (fun wd => ?_)
  refine c_seq ?_
  refine c_region ?_
  refine l_val rfl rfl rfl (r_assign (v := .bool false) rfl) ?_
  refine l_nil ?_
  refine c_seq ?_
  refine c_region ?_
  refine l_val rfl rfl rfl (r_build (pl := #[(0, 1), (1, 1), (2, 1), (3, 1), (4, 1)]) (ps := [(0, .int .i64 9)]) (cells := #[.int .i64 9, .int .i64 0, .int .i64 0, .int .i64 0, .int .i64 0]) Tryd.zeroValue35 Tryd.runUnderlying35 (fun w => by kernel_rfl) rfl rfl) ?_
  refine l_buildSlice (vs := [.agg #[.int .i64 9, .int .i64 0, .int .i64 0, .int .i64 0, .int .i64 0]]) (cs := [.int .i64 9, .int .i64 0, .int .i64 0, .int .i64 0, .int .i64 0]) Tryd.underlying22 Tryd.sizeOf35 Tryd.zeroValue35 rfl rfl rfl rfl rfl rfl rfl (fun b1 => ?_)
  obtain ⟨t6, h_t6, H4⟩ := bnd_some H; clear H
  refine l_callG (fun w hF hS => k71 (know_all w) (frs_box (i := 0) (xs := ([(⟨9, 0, 0, 0, 0⟩ : T_edit_Step)] : List T_edit_Step)) (f := e_edit_Step) hS rfl rfl rfl rfl rfl) h_t6) Tryd.call71 rfl rfl rfl ?_
  refine l_val rfl rfl rfl (r_move (v := .tuple #[str t6.1, .int .i64 t6.2]) rfl) ?_
  refine l_val rfl rfl rfl (r_extract (v := str t6.1) rfl rfl) ?_
  refine l_val rfl rfl rfl (r_extract (v := .int .i64 t6.2) rfl rfl) ?_
  refine l_val rfl rfl rfl (r_assign (v := str t6.1) rfl) ?_
  refine l_val rfl rfl rfl (r_assign (v := .int .i64 t6.2) rfl) ?_
  refine l_nil ?_
  refine c_seq ?_
  refine c_region ?_
  refine l_val rfl rfl rfl (r_move (v := .int .i64 t6.2) rfl) ?_
  refine l_val rfl rfl rfl (r_eql rfl rfl) ?_
  refine l_val rfl rfl rfl (r_move (v := .bool (decide (t6.2 = 0))) rfl) ?_
  refine split (fun hb => ?_) (fun hb => ?_)
  · have H5 := cnd_t hb H4; clear H4
    refine l_val rfl rfl rfl (r_move (v := str t6.1) rfl) ?_
    refine l_val rfl rfl rfl (r_eqlT rfl rfl) ?_
    refine l_val rfl rfl rfl (r_pickT (v := .bool (decide (t6.1 = [105, 110, 118, 101, 114, 116, 10]))) rfl rfl) ?_
    refine l_val rfl rfl rfl (r_assign (v := .bool (decide (t6.1 = [105, 110, 118, 101, 114, 116, 10]))) rfl) ?_
    refine l_nil ?_
    refine c_ret ?_
    obtain rfl := Option.some.inj H5
    refine ret1 (v := .bool (decide (t6.1 = [105, 110, 118, 101, 114, 116, 10]))) rfl rfl (fin rfl)
  · have H6 := cnd_f hb H4; clear H4
    refine l_passed rfl rfl rfl ?_
    refine l_passed rfl rfl rfl ?_
    refine l_val rfl rfl rfl (r_pickF (v := .bool false) rfl rfl) ?_
    refine l_val rfl rfl rfl (r_assign (v := .bool false) rfl) ?_
    refine l_nil ?_
    refine c_ret ?_
    obtain rfl := Option.some.inj H6
    refine ret1 (v := .bool false) rfl rfl (fin rfl)
theorem k79 {a0 : Int} {a1 : Int} {a2 : Int} {r : Bool} (H : pix_outside a0 a1 a2 = some r) : Ret Tryd.prog 79 [.int .i64 a0, .int .i64 a1, .int .i64 a2] (.bool r) := by
  refine enterRet (n := 15) Tryd.func79 rfl rfl rfl (fun wd => ?_)
  refine c_seq ?_
  refine c_region ?_
  refine l_val rfl rfl rfl (r_assign (v := .bool false) rfl) ?_
  refine l_nil ?_
  refine c_seq ?_
  refine c_region ?_
  refine l_val rfl rfl rfl (r_move (v := .int .i64 a0) rfl) ?_
  refine l_val rfl rfl rfl (r_move (v := .int .i64 a1) rfl) ?_
  refine l_val rfl rfl rfl (r_lss rfl rfl) ?_
  refine l_val rfl rfl rfl (r_move (v := .bool (decide (a0 < a1))) rfl) ?_
  refine split (fun hb => ?_) (fun hb => ?_)
  · have H3 := cnd_t hb H; clear H
    refine l_passed rfl rfl rfl ?_
    refine l_passed rfl rfl rfl ?_
    refine l_passed rfl rfl rfl ?_
    refine l_val rfl rfl rfl (r_pickT (v := .bool true) rfl rfl) ?_
    refine l_val rfl rfl rfl (r_assign (v := .bool true) rfl) ?_
    refine l_nil ?_
    refine c_ret ?_
    obtain rfl := Option.some.inj H3
    refine ret1 (v := .bool true) rfl rfl (fin rfl)
  · have H4 := cnd_f hb H; clear H
    refine l_val rfl rfl rfl (r_move (v := .int .i64 a0) rfl) ?_
    refine l_val rfl rfl rfl (r_move (v := .int .i64 a2) rfl) ?_
    refine l_val rfl rfl rfl (r_gtr rfl rfl) ?_
    refine l_val rfl rfl rfl (r_pickF (v := .bool (decide (a2 < a0))) rfl rfl) ?_
    refine l_val rfl rfl rfl (r_assign (v := .bool (decide (a2 < a0))) rfl) ?_
    refine l_nil ?_
    refine c_ret ?_
    obtain rfl := Option.some.inj H4
    refine ret1 (v := .bool (decide (a2 < a0))) rfl rfl (fin rfl)
theorem k74 {a0 : T_api_Image} {v0_2 : Value} {r : Int} {w : World} {h : Heap} (hw : Know h w noS) (f0_2 : FrS h 1 v0_2 (a0.Pixels.map e_u8)) (H : pix_Check a0 = some r) : Does Tryd.prog 74 (List.toArray [.agg #[.int .i64 a0.W, .int .i64 a0.H, v0_2]]) w (fun v w' => v = (.int .i64 r) ∧ Grow w w') := by
  refine enter (n := 21) Tryd.func74 rfl rfl rfl noS [] (Sat.nil _ _) ?_
  refine c_seq ?_
  refine c_region ?_
  refine l_box (cs := [.int .i64 a0.W, .int .i64 a0.H, v0_2]) rfl rfl rfl rfl (fun b1 => ?_)
  refine l_val rfl rfl rfl (r_assign (v := .int .i64 0) rfl) ?_
  refine l_nil ?_
  refine c_seq ?_
  refine c_seq ?_
  refine c_region ?_
  refine l_val rfl rfl rfl (r_field Tryd.runUnderlying52 rfl Tryd.sizeOf3 rfl rfl) ?_
  refine l_load1 (i := 0) (v := .int .i64 a0.W) Tryd.isAgg3 rfl rfl rfl rfl rfl ?_
  obtain ⟨t5, h_t5, H11⟩ := bnd_some H; clear H
  refine l_call (k79 h_t5) Tryd.call79 rfl rfl rfl ?_
  refine l_val rfl rfl rfl (r_move (v := .bool t5) rfl) ?_
  refine split (fun hb => ?_) (fun hb => ?_)
  · have H12 := cnd_t hb H11; clear H11
    refine l_passed rfl rfl rfl ?_
    refine l_passed rfl rfl rfl ?_
    refine l_passed rfl rfl rfl ?_
    refine l_val rfl rfl rfl (r_pickT (v := .bool true) rfl rfl) ?_
    refine l_nil ?_
    refine c_true rfl ?_
    refine c_seq ?_
    refine c_region ?_
    refine l_val rfl rfl rfl (r_assign (v := .int .i64 2) rfl) ?_
    refine l_nil ?_
    refine c_ret ?_
    obtain rfl := Option.some.inj H12
    refine ret1 (v := .int .i64 2) rfl rfl (fin rfl)
  · have H13 := cnd_f hb H11; clear H11
    refine l_val rfl rfl rfl (r_field Tryd.runUnderlying52 rfl Tryd.sizeOf3 rfl rfl) ?_
    refine l_load1 (i := 0) (v := .int .i64 a0.H) Tryd.isAgg3 rfl rfl rfl rfl rfl ?_
    obtain ⟨t9, h_t9, H14⟩ := bnd_some H13; clear H13
    refine l_call (k79 h_t9) Tryd.call79 rfl rfl rfl ?_
    refine l_val rfl rfl rfl (r_pickF (v := .bool t9) rfl rfl) ?_
    refine l_nil ?_
    refine c_if (b := t9) rfl (fun hb => ?_) (fun hb => ?_)
    · have H15 := cnd_t hb H14; clear H14
      refine c_seq ?_
      refine c_region ?_
      refine l_val rfl rfl rfl (r_assign (v := .int .i64 2) rfl) ?_
      refine l_nil ?_
      refine c_ret ?_
      obtain rfl := Option.some.inj H15
      refine ret1 (v := .int .i64 2) rfl rfl (fin rfl)
    · have H16 := cnd_f hb H14; clear H14
      refine c_skip ?_
      refine c_seq ?_
      refine c_seq ?_
      refine c_region ?_
      refine l_val rfl rfl rfl (r_field Tryd.runUnderlying52 rfl Tryd.sizeOf50 rfl rfl) ?_
      refine l_load1 (i := 0) (v := v0_2) Tryd.isAgg50 rfl rfl rfl rfl rfl ?_
      refine l_val rfl rfl rfl (r_lenF Tryd.underlying50 rfl f0_2 rfl) ?_
      refine l_val rfl rfl rfl (r_field Tryd.runUnderlying52 rfl Tryd.sizeOf3 rfl rfl) ?_
      refine l_load1 (i := 0) (v := .int .i64 a0.W) Tryd.isAgg3 rfl rfl rfl rfl rfl ?_
      obtain ⟨t16, h_t16, H17⟩ := bnd_some H16; clear H16
      refine l_val rfl rfl rfl (r_mulG rfl rfl h_t16) ?_
      refine l_val rfl rfl rfl (r_field Tryd.runUnderlying52 rfl Tryd.sizeOf3 rfl rfl) ?_
      refine l_load1 (i := 0) (v := .int .i64 a0.H) Tryd.isAgg3 rfl rfl rfl rfl rfl ?_
      obtain ⟨t19, h_t19, H18⟩ := bnd_some H17; clear H17
      refine l_val rfl rfl rfl (r_mulG rfl rfl h_t19) ?_
      refine l_val rfl rfl rfl (r_neq rfl rfl) ?_
      refine l_nil ?_
      refine c_if (b := (decide ((a0.Pixels.length : Int) ≠ t19))) rfl (fun hb => ?_) (fun hb => ?_)
      · have H19 := cnd_t hb H18; clear H18
        refine c_seq ?_
        refine c_region ?_
        refine l_val rfl rfl rfl (r_assign (v := .int .i64 1) rfl) ?_
        refine l_nil ?_
        refine c_ret ?_
        obtain rfl := Option.some.inj H19
        refine ret1 (v := .int .i64 1) rfl rfl (fin rfl)
      · have H20 := cnd_f hb H18; clear H18
        refine c_skip ?_
        refine c_seq ?_
        refine c_region ?_
        refine l_val rfl rfl rfl (r_assign (v := .int .i64 0) rfl) ?_
        refine l_nil ?_
        refine c_ret ?_
        obtain rfl := Option.some.inj H20
        refine ret1 (v := .int .i64 0) rfl rfl (fin rfl)
theorem k114 {a0 : T_edit_Step} {a1 : Int} {a2 : Int} {r : Int × Int × Bool} (H : edit_Step_size a0 a1 a2 = some r) : Ret Tryd.prog 114 [.agg #[.int .i64 a0.Kind, .int .i64 a0.A, .int .i64 a0.B, .int .i64 a0.C, .int .i64 a0.D], .int .i64 a1, .int .i64 a2] (.tuple #[.int .i64 r.1, .int .i64 r.2.1, .bool r.2.2]) := by
  refine enterRet (n := 48) Tryd.func114 rfl rfl rfl (fun wd => ?_)
  refine c_seq ?_
  refine c_region ?_
  refine l_box (cs := [.int .i64 a0.Kind, .int .i64 a0.A, .int .i64 a0.B, .int .i64 a0.C, .int .i64 a0.D]) rfl rfl rfl rfl (fun b1 => ?_)
  refine l_val rfl rfl rfl (r_assign (v := .int .i64 0) rfl) ?_
  refine l_val rfl rfl rfl (r_assign (v := .int .i64 0) rfl) ?_
  refine l_val rfl rfl rfl (r_assign (v := .bool false) rfl) ?_
  refine l_nil ?_
  refine c_meet (r := r) (σ := Unit) (τ := Unit) (fun s => edit_Step_size_j1 a1 a2) (fun s t => [(1, .int .i64 a1), (2, .int .i64 a2)]) (fun s t => []) (fun s t => True) ?_ ?_
  · refine c_seq ?_
    refine c_region ?_
    refine l_val rfl rfl rfl (r_field Tryd.runUnderlying35 rfl Tryd.sizeOf3 rfl rfl) ?_
    refine l_load1 (i := 0) (v := .int .i64 a0.Kind) Tryd.isAgg3 rfl rfl rfl rfl rfl ?_
    refine l_nil ?_
    refine c_block ?_
    refine c_seq ?_
    refine c_region ?_
    refine l_val rfl rfl rfl (r_eql rfl rfl) ?_
    refine l_val rfl rfl rfl (r_assign (v := .bool (decide (a0.Kind = 1))) rfl) ?_
    refine l_nil ?_
    refine c_if (b := (decide (a0.Kind = 1))) rfl (fun hb => ?_) (fun hb => ?_)
    · have H15 := cnd_t hb H; clear H
      refine c_seq ?_
      refine c_region ?_
      refine l_val rfl rfl rfl (r_field Tryd.runUnderlying35 rfl Tryd.sizeOf3 rfl rfl) ?_
      refine l_load1 (i := 0) (v := .int .i64 a0.A) Tryd.isAgg3 rfl rfl rfl rfl rfl ?_
      refine l_val rfl rfl rfl (r_geq rfl rfl) ?_
      refine l_nil ?_
      refine c_if (b := (decide (5 ≤ a0.A))) rfl (fun hb => ?_) (fun hb => ?_)
      · have H16 := cnd_t hb H15; clear H15
        refine c_seq ?_
        refine c_region ?_
        refine l_val rfl rfl rfl (r_move (v := .int .i64 a2) rfl) ?_
        refine l_val rfl rfl rfl (r_move (v := .int .i64 a1) rfl) ?_
        refine l_val rfl rfl rfl (r_assign (v := .int .i64 a2) rfl) ?_
        refine l_val rfl rfl rfl (r_assign (v := .int .i64 a1) rfl) ?_
        refine l_val rfl rfl rfl (r_assign (v := .bool true) rfl) ?_
        refine l_nil ?_
        refine c_ret ?_
        obtain rfl := Option.some.inj H16
        refine ret3 (v1 := .int .i64 a2) (v2 := .int .i64 a1) (v3 := .bool true) rfl rfl rfl rfl (fin rfl)
      · have H17 := cnd_f hb H15; clear H15
        refine c_skip ?_
        refine c_close () () 0 [] (by exact ⟨rfl, rfl, trivial⟩) (by decide) rfl (by exact ⟨H17, trivial⟩) (Nat.lt_succ_self _)
    · have H18 := cnd_f hb H; clear H
      refine c_seq ?_
      refine c_region ?_
      refine l_val rfl rfl rfl (r_eql rfl rfl) ?_
      refine l_val rfl rfl rfl (r_assign (v := .bool (decide (a0.Kind = 2))) rfl) ?_
      refine l_nil ?_
      refine c_if (b := (decide (a0.Kind = 2))) rfl (fun hb => ?_) (fun hb => ?_)
      · have H19 := cnd_t hb H18; clear H18
        refine c_seq ?_
        exact c_regionD (Kd.p :: Kd.d [0] _ :: Kd.p :: Kd.d [0] _ :: Kd.p :: Kd.d [0] _ :: Kd.p :: Kd.d [0] _ :: Kd.p :: Kd.p :: Kd.p :: Kd.p :: Kd.p :: Kd.d [0] _ :: Kd.p :: Kd.d [0] _ :: Kd.p :: Kd.p :: Kd.p :: Kd.p :: Kd.p :: Kd.p :: Kd.p :: []) 0 mixed (by
          refine d_val rfl rfl (r_field Tryd.runUnderlying35 rfl Tryd.sizeOf3 rfl rfl) ?_
          refine d_load1 (i := 0) (v := .int .i64 a0.C) Tryd.isAgg3 rfl rfl rfl rfl ?_
          refine d_val rfl rfl (r_field Tryd.runUnderlying35 rfl Tryd.sizeOf3 rfl rfl) ?_
          refine d_load1 (i := 0) (v := .int .i64 a0.D) Tryd.isAgg3 rfl rfl rfl rfl ?_
          refine d_val rfl rfl (r_field Tryd.runUnderlying35 rfl Tryd.sizeOf3 rfl rfl) ?_
          refine d_load1 (i := 0) (v := .int .i64 a0.A) Tryd.isAgg3 rfl rfl rfl rfl ?_
          refine d_val rfl rfl (r_field Tryd.runUnderlying35 rfl Tryd.sizeOf3 rfl rfl) ?_
          refine d_load1 (i := 0) (v := .int .i64 a0.C) Tryd.isAgg3 rfl rfl rfl rfl ?_
          have h_t28 := bnd_val H19
          have H20 := bnd_rest H19
          refine d_val rfl rfl (r_addG rfl rfl h_t28) ?_
          refine d_val rfl rfl (r_move (v := .int .i64 a1) rfl) ?_
          refine d_val rfl rfl (r_leq rfl rfl) ?_
          refine d_val rfl rfl (r_move (v := .bool (decide ((val (gI (a0.A + a0.C))) ≤ a1))) rfl) ?_
          refine splitS (fun hb => ?_) (fun hb => ?_)
          · have H21 := cnd_t hb H20
            refine d_val rfl rfl (r_field Tryd.runUnderlying35 rfl Tryd.sizeOf3 rfl rfl) ?_
            refine d_load1 (i := 0) (v := .int .i64 a0.B) Tryd.isAgg3 rfl rfl rfl rfl ?_
            refine d_val rfl rfl (r_field Tryd.runUnderlying35 rfl Tryd.sizeOf3 rfl rfl) ?_
            refine d_load1 (i := 0) (v := .int .i64 a0.D) Tryd.isAgg3 rfl rfl rfl rfl ?_
            have h_t36 := bnd_val H21
            have H22 := bnd_rest H21
            refine d_val rfl rfl (r_addG rfl rfl h_t36) ?_
            refine d_val rfl rfl (r_move (v := .int .i64 a2) rfl) ?_
            refine d_val rfl rfl (r_leq rfl rfl) ?_
            refine d_val rfl rfl (r_pickT (v := .bool (decide ((val (gI (a0.B + a0.D))) ≤ a2))) rfl rfl) ?_
            refine d_val rfl rfl (r_assign (v := .int .i64 a0.C) rfl) ?_
            refine d_val rfl rfl (r_assign (v := .int .i64 a0.D) rfl) ?_
            refine d_val rfl rfl (r_assign (v := .bool (decide ((val (gI (a0.B + a0.D))) ≤ a2))) rfl) ?_
            refine d_nil ?_
            refine c_ret ?_
            obtain rfl := Option.some.inj H22
            refine ret3 (v1 := .int .i64 a0.C) (v2 := .int .i64 a0.D) (v3 := .bool (decide ((val (gI (a0.B + a0.D))) ≤ a2))) rfl rfl rfl rfl (fin rfl)
          · have H23 := cnd_f hb H20
            refine d_pass rfl rfl ?_
            refine d_pass rfl rfl ?_
            refine d_pass rfl rfl ?_
            refine d_pass rfl rfl ?_
            refine d_pass rfl rfl ?_
            refine d_pass rfl rfl ?_
            refine d_pass rfl rfl ?_
            refine d_val rfl rfl (r_pickF (v := .bool false) rfl rfl) ?_
            refine d_val rfl rfl (r_assign (v := .int .i64 a0.C) rfl) ?_
            refine d_val rfl rfl (r_assign (v := .int .i64 a0.D) rfl) ?_
            refine d_val rfl rfl (r_assign (v := .bool false) rfl) ?_
            refine d_nil ?_
            refine c_ret ?_
            obtain rfl := Option.some.inj H23
            refine ret3 (v1 := .int .i64 a0.C) (v2 := .int .i64 a0.D) (v3 := .bool false) rfl rfl rfl rfl (fin rfl)
          ) (by kernel_rfl)
      · have H24 := cnd_f hb H18; clear H18
        refine c_seq ?_
        refine c_region ?_
        refine l_val rfl rfl rfl (r_eql rfl rfl) ?_
        refine l_val rfl rfl rfl (r_assign (v := .bool (decide (a0.Kind = 3))) rfl) ?_
        refine l_nil ?_
        refine c_if (b := (decide (a0.Kind = 3))) rfl (fun hb => ?_) (fun hb => ?_)
        · have H25 := cnd_t hb H24; clear H24
          refine c_seq ?_
          exact c_regionD (Kd.p :: Kd.d [0] _ :: Kd.p :: Kd.d [0] _ :: Kd.p :: Kd.p :: Kd.p :: []) 0 mixed (by
            refine d_val rfl rfl (r_field Tryd.runUnderlying35 rfl Tryd.sizeOf3 rfl rfl) ?_
            refine d_load1 (i := 0) (v := .int .i64 a0.A) Tryd.isAgg3 rfl rfl rfl rfl ?_
            refine d_val rfl rfl (r_field Tryd.runUnderlying35 rfl Tryd.sizeOf3 rfl rfl) ?_
            refine d_load1 (i := 0) (v := .int .i64 a0.B) Tryd.isAgg3 rfl rfl rfl rfl ?_
            refine d_val rfl rfl (r_assign (v := .int .i64 a0.A) rfl) ?_
            refine d_val rfl rfl (r_assign (v := .int .i64 a0.B) rfl) ?_
            refine d_val rfl rfl (r_assign (v := .bool true) rfl) ?_
            refine d_nil ?_
            refine c_ret ?_
            obtain rfl := Option.some.inj H25
            refine ret3 (v1 := .int .i64 a0.A) (v2 := .int .i64 a0.B) (v3 := .bool true) rfl rfl rfl rfl (fin rfl)
            ) (by kernel_rfl)
        · have H26 := cnd_f hb H24; clear H24
          refine c_skip ?_
          refine c_close () () 0 [] (by exact ⟨rfl, rfl, trivial⟩) (by decide) rfl (by exact ⟨H26, trivial⟩) (Nat.lt_succ_self _)
  · rintro _ _ gg H14 _
    replace H14 : edit_Step_size_j1 a1 a2 = some r := H14
    refine c_tidyF [(1, .int .i64 a1), (2, .int .i64 a2)] [] rfl rfl ?_
    refine c_seq ?_
    refine c_region ?_
    refine l_val rfl rfl rfl (r_move (v := .int .i64 a1) rfl) ?_
    refine l_val rfl rfl rfl (r_move (v := .int .i64 a2) rfl) ?_
    refine l_val rfl rfl rfl (r_assign (v := .int .i64 a1) rfl) ?_
    refine l_val rfl rfl rfl (r_assign (v := .int .i64 a2) rfl) ?_
    refine l_val rfl rfl rfl (r_assign (v := .bool true) rfl) ?_
    refine l_nil ?_
    refine c_ret ?_
    obtain rfl := Option.some.inj H14
    refine ret3 (v1 := .int .i64 a1) (v2 := .int .i64 a2) (v3 := .bool true) rfl rfl rfl rfl (fin rfl)
theorem k75 {a0 : (List T_edit_Step)} {v0 : Value} {a1 : Int} {a2 : Int} {r : Int × Int × Int} {w : World} {h : Heap} (hw : Know h w noS) (f0 : FrS h 5 v0 (a0.map e_edit_Step)) (H : edit_size a0 a1 a2 = some r) : Does Tryd.prog 75 (List.toArray [v0, .int .i64 a1, .int .i64 a2]) w (fun v w' => v = (.tuple #[.int .i64 r.1, .int .i64 r.2.1, .int .i64 r.2.2]) ∧ Grow w w') := by
  refine enter (n := 37) Tryd.func75 rfl rfl rfl noS [] (Sat.nil _ _) ?_
  refine c_seq ?_
  refine c_region ?_
  refine l_val rfl rfl rfl (r_assign (v := .int .i64 0) rfl) ?_
  refine l_val rfl rfl rfl (r_assign (v := .int .i64 0) rfl) ?_
  refine l_val rfl rfl rfl (r_assign (v := .int .i64 0) rfl) ?_
  refine l_nil ?_
  refine c_seq ?_
  refine c_seq ?_
  refine c_region ?_
  refine l_val rfl rfl rfl (r_move (v := .int .i64 a1) rfl) ?_
  obtain ⟨t13, h_t13, H16⟩ := bnd_some H; clear H
  refine l_call (k81 h_t13) Tryd.call81 rfl rfl rfl ?_
  refine l_val rfl rfl rfl (r_move (v := .bool t13) rfl) ?_
  refine split (fun hb => ?_) (fun hb => ?_)
  · have H17 := cnd_t hb H16; clear H16
    refine l_passed rfl rfl rfl ?_
    refine l_passed rfl rfl rfl ?_
    refine l_val rfl rfl rfl (r_pickT (v := .bool true) rfl rfl) ?_
    refine l_nil ?_
    refine c_true rfl ?_
    refine c_seq ?_
    refine c_region ?_
    refine l_val rfl rfl rfl (r_assign (v := .int .i64 0) rfl) ?_
    refine l_val rfl rfl rfl (r_assign (v := .int .i64 0) rfl) ?_
    refine l_val rfl rfl rfl (r_assign (v := .int .i64 2) rfl) ?_
    refine l_nil ?_
    refine c_ret ?_
    obtain rfl := Option.some.inj H17
    refine ret3 (v1 := .int .i64 0) (v2 := .int .i64 0) (v3 := .int .i64 2) rfl rfl rfl rfl (fin rfl)
  · have H18 := cnd_f hb H16; clear H16
    refine l_val rfl rfl rfl (r_move (v := .int .i64 a2) rfl) ?_
    obtain ⟨t16, h_t16, H19⟩ := bnd_some H18; clear H18
    refine l_call (k81 h_t16) Tryd.call81 rfl rfl rfl ?_
    refine l_val rfl rfl rfl (r_pickF (v := .bool t16) rfl rfl) ?_
    refine l_nil ?_
    refine c_if (b := t16) rfl (fun hb => ?_) (fun hb => ?_)
    · have H20 := cnd_t hb H19; clear H19
      refine c_seq ?_
      refine c_region ?_
      refine l_val rfl rfl rfl (r_assign (v := .int .i64 0) rfl) ?_
      refine l_val rfl rfl rfl (r_assign (v := .int .i64 0) rfl) ?_
      refine l_val rfl rfl rfl (r_assign (v := .int .i64 2) rfl) ?_
      refine l_nil ?_
      refine c_ret ?_
      obtain rfl := Option.some.inj H20
      refine ret3 (v1 := .int .i64 0) (v2 := .int .i64 0) (v3 := .int .i64 2) rfl rfl rfl rfl (fin rfl)
    · have H21 := cnd_f hb H19; clear H19
      refine c_skip ?_
      refine c_meet (r := r) (σ := Int × Int) (τ := Unit) (fun s => edit_size_j1 s.1 s.2) (fun s t => [(1, .int .i64 s.1), (2, .int .i64 s.2)]) (fun s t => []) (fun s t => True) ?_ ?_
      · refine c_seq ?_
        refine c_region ?_
        refine l_val rfl rfl rfl (r_move (v := v0) rfl) ?_
        refine l_val rfl rfl rfl (r_lenF Tryd.underlying22 rfl f0 rfl) ?_
        refine l_val rfl rfl rfl (r_move (v := .int .i64 0) rfl) ?_
        refine l_nil ?_
        refine c_block ?_
        refine c_fix (σ := Int × Int × Int) (τ := Unit) (fun next2 s => edit_size_l2 a0 next2 s.1 s.2.1 s.2.2) (fun s t => [(1, .int .i64 s.1), (2, .int .i64 s.2.1), (18, v0), (19, .int .i64 (a0.length : Int)), (20, .int .i64 s.2.2)]) (fun s t => []) (fun s t => True) (a1, a2, 0) () [] H21 (by exact trivial) (by exact ⟨rfl, rfl, rfl, rfl, rfl, trivial⟩) (by decide) rfl ?_
        rintro ⟨x1_3, x2_3, x20_2⟩ _ m2 gg H23 _
        clear H21
        replace H23 : edit_size_l2 a0 (it (fun next2 s => edit_size_l2 a0 next2 s.1 s.2.1 s.2.2) m2) x1_3 x2_3 x20_2 = some r := H23
        generalize hn2 : it (fun next2 s => edit_size_l2 a0 next2 s.1 s.2.1 s.2.2) m2 = next2 at H23
        refine c_tidyF [(1, .int .i64 x1_3), (2, .int .i64 x2_3), (18, v0), (19, .int .i64 (a0.length : Int)), (20, .int .i64 x20_2)] [] rfl rfl ?_
        refine c_seq ?_
        refine c_region ?_
        refine l_val rfl rfl rfl (r_lss rfl rfl) ?_
        refine l_nil ?_
        refine c_seq ?_
        refine c_if (b := (decide (x20_2 < (a0.length : Int)))) rfl (fun hb => ?_) (fun hb => ?_)
        · have H24 := cnd_t hb H23; clear H23
          refine c_skip ?_
          refine c_seq ?_
          refine c_block ?_
          refine c_seq ?_
          refine c_region ?_
          obtain ⟨t22, h_t22, H25⟩ := bnd_some H24; clear H24
          refine l_val rfl rfl rfl (r_indexF Tryd.underlying22 Tryd.sizeOf35 rfl rfl f0 h_t22) ?_
          refine l_read (fun w hF hS => run_loadGN (f := e_edit_Step) (i := x20_2) (sz := 5) (j := 0) (vs := [.int .i64 t22.Kind, .int .i64 t22.A, .int .i64 t22.B, .int .i64 t22.C, .int .i64 t22.D]) Tryd.isAgg35 Tryd.sizeOf35 rfl rfl (f0.row (hw.now hF)) h_t22 rfl) rfl rfl rfl ?_
          refine l_alloc (cs := [.int .i64 0, .int .i64 0, .int .i64 0, .int .i64 0, .int .i64 0]) Tryd.zeroValue35 rfl rfl rfl (fun b1 => ?_)
          refine l_store (i := 0) (vs := [.int .i64 t22.Kind, .int .i64 t22.A, .int .i64 t22.B, .int .i64 t22.C, .int .i64 t22.D]) (cs' := [.int .i64 t22.Kind, .int .i64 t22.A, .int .i64 t22.B, .int .i64 t22.C, .int .i64 t22.D]) Tryd.sizeOf35 rfl rfl rfl rfl rfl rfl rfl rfl rfl ?_
          refine l_nil ?_
          refine c_seq ?_
          refine c_region ?_
          refine l_val rfl rfl rfl (r_assign (v := .bool false) rfl) ?_
          refine l_nil ?_
          refine c_seq ?_
          refine c_region ?_
          refine l_loadN (i := 0) (vs := [.int .i64 t22.Kind, .int .i64 t22.A, .int .i64 t22.B, .int .i64 t22.C, .int .i64 t22.D]) Tryd.isAgg35 Tryd.sizeOf35 rfl rfl rfl rfl rfl ?_
          refine l_val rfl rfl rfl (r_move (v := .int .i64 x1_3) rfl) ?_
          refine l_val rfl rfl rfl (r_move (v := .int .i64 x2_3) rfl) ?_
          obtain ⟨t28, h_t28, H26⟩ := bnd_some H25; clear H25
          refine l_call (k114 h_t28) Tryd.call114 rfl rfl rfl ?_
          refine l_val rfl rfl rfl (r_move (v := .tuple #[.int .i64 t28.1, .int .i64 t28.2.1, .bool t28.2.2]) rfl) ?_
          refine l_val rfl rfl rfl (r_extract (v := .int .i64 t28.1) rfl rfl) ?_
          refine l_val rfl rfl rfl (r_extract (v := .int .i64 t28.2.1) rfl rfl) ?_
          refine l_val rfl rfl rfl (r_extract (v := .bool t28.2.2) rfl rfl) ?_
          refine l_val rfl rfl rfl (r_assign (v := .int .i64 t28.1) rfl) ?_
          refine l_val rfl rfl rfl (r_assign (v := .int .i64 t28.2.1) rfl) ?_
          refine l_val rfl rfl rfl (r_assign (v := .bool t28.2.2) rfl) ?_
          refine l_nil ?_
          refine c_seq ?_
          refine c_region ?_
          refine l_val rfl rfl rfl (r_move (v := .bool t28.2.2) rfl) ?_
          refine l_val rfl rfl rfl (r_not rfl) ?_
          refine l_nil ?_
          refine c_if (b := (!t28.2.2)) rfl (fun hb => ?_) (fun hb => ?_)
          · have H27 := cnd_t hb H26; clear H26
            refine c_seq ?_
            refine c_region ?_
            refine l_val rfl rfl rfl (r_assign (v := .int .i64 0) rfl) ?_
            refine l_val rfl rfl rfl (r_assign (v := .int .i64 0) rfl) ?_
            refine l_val rfl rfl rfl (r_assign (v := .int .i64 7) rfl) ?_
            refine l_nil ?_
            refine c_ret ?_
            obtain rfl := Option.some.inj H27
            refine ret3 (v1 := .int .i64 0) (v2 := .int .i64 0) (v3 := .int .i64 7) rfl rfl rfl rfl (fin rfl)
          · have H28 := cnd_f hb H26; clear H26
            refine c_skip ?_
            refine c_region ?_
            obtain ⟨t34, h_t34, H29⟩ := bnd_some H28; clear H28
            refine l_val rfl rfl rfl (r_addG rfl rfl h_t34) ?_
            refine l_val rfl rfl rfl (r_move (v := .int .i64 t34) rfl) ?_
            refine l_nil ?_
            refine c_close (t28.1, t28.2.1, t34) () m2 [] (by exact ⟨rfl, rfl, rfl, rfl, rfl, trivial⟩) (by decide) rfl (by exact ⟨(by subst hn2; exact H29), trivial⟩) (Nat.lt_succ_self _)
        · have H30 := cnd_f hb H23; clear H23
          refine c_exit ?_
          refine c_close (x1_3, x2_3) () 0 [] (by exact ⟨rfl, rfl, trivial⟩) (by decide) rfl (by exact ⟨H30, trivial⟩) (Nat.lt_succ_self _)
      · rintro ⟨x1, x2⟩ _ gg H22 _
        replace H22 : edit_size_j1 x1 x2 = some r := H22
        refine c_tidyF [(1, .int .i64 x1), (2, .int .i64 x2)] [] rfl rfl ?_
        refine c_seq ?_
        refine c_region ?_
        refine l_val rfl rfl rfl (r_move (v := .int .i64 x1) rfl) ?_
        refine l_val rfl rfl rfl (r_move (v := .int .i64 x2) rfl) ?_
        refine l_val rfl rfl rfl (r_assign (v := .int .i64 x1) rfl) ?_
        refine l_val rfl rfl rfl (r_assign (v := .int .i64 x2) rfl) ?_
        refine l_val rfl rfl rfl (r_assign (v := .int .i64 0) rfl) ?_
        refine l_nil ?_
        refine c_ret ?_
        obtain rfl := Option.some.inj H22
        refine ret3 (v1 := .int .i64 x1) (v2 := .int .i64 x2) (v3 := .int .i64 0) rfl rfl rfl rfl (fin rfl)
theorem k35 {a0 : (List T_edit_Step)} {v0 : Value} {a1 : Int} {a2 : Int} {r : Int × Int × Int} {w : World} {h : Heap} (hw : Know h w noS) (f0 : FrS h 5 v0 (a0.map e_edit_Step)) (H : edit_Size a0 a1 a2 = some r) : Does Tryd.prog 35 (List.toArray [v0, .int .i64 a1, .int .i64 a2]) w (fun v w' => v = (.tuple #[.int .i64 r.1, .int .i64 r.2.1, .int .i64 r.2.2]) ∧ Grow w w') := by
  refine enter (n := 22) Tryd.func35 rfl rfl rfl noS [] (Sat.nil _ _) ?_
  refine c_seq ?_
  refine c_region ?_
  refine l_val rfl rfl rfl (r_assign (v := .int .i64 0) rfl) ?_
  refine l_val rfl rfl rfl (r_assign (v := .int .i64 0) rfl) ?_
  refine l_val rfl rfl rfl (r_assign (v := .int .i64 0) rfl) ?_
  refine l_nil ?_
  refine c_seq ?_
  refine c_seq ?_
  refine c_region ?_
  refine l_val rfl rfl rfl (r_move (v := v0) rfl) ?_
  obtain ⟨t11, h_t11, H5⟩ := bnd_some H; clear H
  refine l_callG (fun w hF hS => k73 (know_all w) (f0.mono (hw.now hF)) h_t11) Tryd.call73 rfl rfl rfl ?_
  refine l_val rfl rfl rfl (r_assign (v := .int .i64 t11) rfl) ?_
  refine l_nil ?_
  refine c_seq ?_
  refine c_region ?_
  refine l_val rfl rfl rfl (r_move (v := .int .i64 t11) rfl) ?_
  refine l_val rfl rfl rfl (r_neq rfl rfl) ?_
  refine l_nil ?_
  refine c_if (b := (decide (t11 ≠ 0))) rfl (fun hb => ?_) (fun hb => ?_)
  · have H6 := cnd_t hb H5; clear H5
    refine c_seq ?_
    refine c_region ?_
    refine l_val rfl rfl rfl (r_move (v := .int .i64 t11) rfl) ?_
    refine l_val rfl rfl rfl (r_assign (v := .int .i64 0) rfl) ?_
    refine l_val rfl rfl rfl (r_assign (v := .int .i64 0) rfl) ?_
    refine l_val rfl rfl rfl (r_assign (v := .int .i64 t11) rfl) ?_
    refine l_nil ?_
    refine c_ret ?_
    obtain rfl := Option.some.inj H6
    refine ret3 (v1 := .int .i64 0) (v2 := .int .i64 0) (v3 := .int .i64 t11) rfl rfl rfl rfl (fin rfl)
  · have H7 := cnd_f hb H5; clear H5
    refine c_skip ?_
    refine c_seq ?_
    refine c_region ?_
    refine l_val rfl rfl rfl (r_move (v := v0) rfl) ?_
    refine l_val rfl rfl rfl (r_move (v := .int .i64 a1) rfl) ?_
    refine l_val rfl rfl rfl (r_move (v := .int .i64 a2) rfl) ?_
    obtain ⟨t18, h_t18, H8⟩ := bnd_some H7; clear H7
    refine l_callG (fun w hF hS => k75 (know_all w) (f0.mono (hw.now hF)) h_t18) Tryd.call75 rfl rfl rfl ?_
    refine l_val rfl rfl rfl (r_extract (v := .int .i64 t18.1) rfl rfl) ?_
    refine l_val rfl rfl rfl (r_extract (v := .int .i64 t18.2.1) rfl rfl) ?_
    refine l_val rfl rfl rfl (r_extract (v := .int .i64 t18.2.2) rfl rfl) ?_
    refine l_val rfl rfl rfl (r_assign (v := .int .i64 t18.1) rfl) ?_
    refine l_val rfl rfl rfl (r_assign (v := .int .i64 t18.2.1) rfl) ?_
    refine l_val rfl rfl rfl (r_assign (v := .int .i64 t18.2.2) rfl) ?_
    refine l_nil ?_
    refine c_ret ?_
    obtain rfl := Option.some.inj H8
    refine ret3 (v1 := .int .i64 t18.1) (v2 := .int .i64 t18.2.1) (v3 := .int .i64 t18.2.2) rfl rfl rfl rfl (fin rfl)
end Go.Proofs.YtinpjnlocahjjaaDoor
